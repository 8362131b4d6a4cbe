/- The net with bytes: hang. -/
/- The net with bytes: an end of a connection is hung up. -/
/- The net with bytes: Close. -/
/- The net with bytes: waits and Hang. -/
import Derived.Test.YtmdhlodafjpnmaaGreatN8
import Derived.Test.YtmdhlodafjpnmaaGreatPairW
import Derived.Test.YtmdhlodafjpnmaaGreatLn1
namespace Go.Proofs.YtmdhlodafjpnmaaGreat
open Go.RowKit
open Go.Maps (Keyed)
set_option linter.unusedVariables false
set_option maxRecDepth 100000
set_option maxHeartbeats 4000000

section
variable {own : Nat → Nat} {x : CC} {n cm d c D N K : Nat} {conn : Int} {f1 f2 : List (Value × Value)} (w : World)

/-- What is deferred: where not both ends are closed, nothing. -/
theorem hangEndG_no (u : FrameMode) (h : DupB w own c d x) (ha : (x.a0 && x.a1) = false) (hD : w.cell? ⟨D, 0, none⟩ = some (.pointer (some ⟨d, 0, none⟩))) :
    CallsD Tryz.prog 102 #[.pointer (some ⟨D, 0, none⟩), .pointer (some ⟨N, 0, none⟩), .pointer (some ⟨K, 0, none⟩)] u w fun e u' w' => u' = u ∧ (e = .returned (.tuple #[]) ∧ w = w') := by
  have H0 := Lib.hid (dupClosedB_0 h)
  have H1 := Lib.hid (dupClosedB_1 h)
  clear h
  obtain ⟨xs0, xs1, a0, a1⟩ := x
  simp only at ha H0 H1
  cases a0
  · go_enter_d Tryz.func102, Tryz.ntmps102
    go_wp2_with (first
      | (refine H0.out.mono ?_; rintro e w' ⟨rfl, rfl⟩)
      | (refine H1.out.mono ?_; rintro e w' ⟨rfl, rfl⟩))
    go_end0
    exact ⟨rfl, rfl⟩
  · cases a1
    · go_enter_d Tryz.func102, Tryz.ntmps102
      go_wp2_with fail
      refine H0.out.mono ?_
      rintro e w' ⟨rfl, rfl⟩
      go_wp2_with fail
      refine H1.out.mono ?_
      rintro e w' ⟨rfl, rfl⟩
      go_wp2
      go_end0
      exact ⟨rfl, rfl⟩
    · cases ha
theorem hangEndG_yes (u : FrameMode) (h : DupB w own c d x) (ha : (x.a0 && x.a1) = true) (hD : w.cell? ⟨D, 0, none⟩ = some (.pointer (some ⟨d, 0, none⟩))) (hN : w.cell? ⟨N, 0, none⟩ = some (.pointer (some ⟨n, 0, none⟩))) (hK : w.cell? ⟨K, 0, none⟩ = some (.int .i64 conn))
    (hn : w.cell? ⟨n, 2, none⟩ = some (.map (some cm))) (hm : MapIs Tryz.prog 3 w cm (f1 ++ (.int .i64 conn, .pointer (some ⟨d, 0, none⟩)) :: f2)) :
    CallsD Tryz.prog 102 #[.pointer (some ⟨D, 0, none⟩), .pointer (some ⟨N, 0, none⟩), .pointer (some ⟨K, 0, none⟩)] u w fun e u' w' => u' = u ∧ (e = .returned (.tuple #[]) ∧ MapIs Tryz.prog 3 w' cm (f1 ++ f2) ∧ Fr [cm] w w') := by
  have H0 := Lib.hid (dupClosedB_0 h)
  have H1 := Lib.hid (dupClosedB_1 h)
  clear h
  obtain ⟨xs0, xs1, a0, a1⟩ := x
  simp only [Bool.and_eq_true] at ha H0 H1
  obtain ⟨rfl, rfl⟩ := ha
  obtain ⟨w2, hrun, hm2, g2⟩ := (show MapIs Tryz.prog 3 w.drew cm _ from hm).del (T := 0) keyInt (t := 51) (e := 55) Tryz.underlying51
  clear hm
  go_enter_d Tryz.func102, Tryz.ntmps102
  go_wp2_with fail
  refine H0.out.mono ?_
  rintro e w' ⟨rfl, rfl⟩
  go_wp2_with fail
  refine H1.out.mono ?_
  rintro e w' ⟨rfl, rfl⟩
  go_wp2
  go_region
  go_wp2
  go_end0
  exact ⟨rfl, hm2, (((Fr.refl [] w).drew).mono (fun x hx => by cases hx)).trans g2 (fun x hx _ => hx)⟩
end
/-- What Close does to a connection's end. -/
def endI (e : Bool) : Int := if e then 1 else 0
theorem dupClose_any (e : Bool) {w : World} {own : Nat → Nat} {c d : Nat} {x : CC} (h : DupB w own c d x) (hc : c % 4 = 1) :
    Calls Tryz.prog 103 #[.pointer (some ⟨d, 0, none⟩), .int .i64 (endI e)] w fun r w' => r = .returned (.int .i64 (x.close e).2) ∧ DupOut own c d (x.close e).1 w w' := by
  cases e
  · exact dupCloseB_0 h hc
  · exact dupCloseB_1 h hc
/-- What hang leaves. -/
def HangG (own : Nat → Nat) (c cm d : Nat) (conn v : Int) (f1 f2 : List (Value × Value)) (y : CC) (w : World) (e : Ending) (w' : World) : Prop :=
  e = .returned (.int .i64 v) ∧ MapIs Tryz.prog 3 w' cm (if y.a0 && y.a1 then f1 ++ f2 else f1 ++ (.int .i64 conn, .pointer (some ⟨d, 0, none⟩)) :: f2) ∧ ∃ own', Ext w own own' ∧ ((y.a0 && y.a1) = false → DupB w' own' c d y) ∧ ∃ S, Fr S w w' ∧ ∀ z ∈ S, z < w.heap.size → own z = c ∨ own z = c + 4 ∨ own z = c + 8 ∨ z = cm
section
variable {own : Nat → Nat} {x : CC} {n cm d c : Nat} {conn : Int} {f1 f2 : List (Value × Value)} (w : World)

theorem hang_genG (en : Bool) (hc4 : c % 4 = 1) (h2 : w.cell? ⟨n, 2, none⟩ = some (.map (some cm))) (hm : MapIs Tryz.prog 3 w cm (f1 ++ (.int .i64 conn, .pointer (some ⟨d, 0, none⟩)) :: f2)) (hd : DupB w own c d x) (hn : own n = 0) (hcm : own cm = 0) :
    Calls Tryz.prog 57 #[.pointer (some ⟨n, 0, none⟩), .int .i64 conn, .int .i64 (endI en)] w (HangG own c cm d conn (x.close en).2 f1 f2 (x.close en).1 w) := by
  obtain ⟨y, hy⟩ : ∃ y, (x.close en).1 = y := ⟨_, rfl⟩
  obtain ⟨v, hv⟩ : ∃ y, (x.close en).2 = y := ⟨_, rfl⟩
  rw [hy, hv]
  obtain ⟨I, hI⟩ : ∃ y, endI en = y := ⟨_, rfl⟩
  have hx4 : Ext w own (ownNew w own 4) := Ext.new w own 4
  have h4 : ∀ z, w.heap.size ≤ z → ownNew w own 4 z = 4 := fun z hz => ownNew_ge hz
  obtain ⟨ow, how⟩ : ∃ o, ownNew w own 4 = o := ⟨_, rfl⟩
  rw [how] at hx4 h4
  have hc := fun (W : World) (h : DupB W ow c d x) => dupClose_any en h hc4
  rw [hy, hv, hI] at hc
  rw [hI]
  clear hy hv hI how
  have hmf : ∀ (fn : Fn) (first cap : Array Value) (w : World), (Instr.makeFunc fn first cap).run Tryz.prog w = .ok (.func fn first cap) w := fun _ _ _ _ => rfl
  have nl := cell_lt h2
  have cl := hm.lt
  have gB : Fr [] w ((w.alloc (.cells #[.pointer (some ⟨n, 0, none⟩)] 24)).alloc (.cells #[.int .i64 conn] 3)) := ((Fr.refl [] w).alloc _).alloc _
  have k2 := gB.keep h2 (by simp)
  have hlk : ∀ W, MapIs Tryz.prog 3 W cm (f1 ++ (.int .i64 conn, .pointer (some ⟨d, 0, none⟩)) :: f2) → (Instr.lookup 51 (.map (some cm)) (.int .i64 conn) false).run Tryz.prog W = .ok (.pointer (some ⟨d, 0, none⟩)) W := fun W hW => hW.hit keyInt (t := 51) (e := 55) Tryz.underlying51 (by simp) false
  have mB := hm.keep gB (by simp)
  have l0 := hlk _ mB
  have l1 := hlk _ (show MapIs Tryz.prog 3 (((w.alloc (.cells #[.pointer (some ⟨n, 0, none⟩)] 24)).alloc (.cells #[.int .i64 conn] 3)).drew) cm _ from mB)
  have gC : Fr [] w ((((w.alloc (.cells #[.pointer (some ⟨n, 0, none⟩)] 24)).alloc (.cells #[.int .i64 conn] 3)).alloc (.cells #[.pointer none] 55)).drew) := (gB.alloc _).drew
  have k3 := gC.keep h2 (by simp)
  have l2 := hlk _ (hm.keep gC (by simp))
  have HD := Lib.hid (hd.ext hx4)
  have HX4 := Lib.hid (And.intro hx4 h4)
  have HNC := Lib.hid (show ow n = 0 ∧ ow cm = 0 from ⟨(hx4 n nl).trans hn, (hx4 cm cl).trans hcm⟩)
  have HM := Lib.hid hm
  clear hlk hm hd mB
  go_enter_defers Tryz.func57, Tryz.ntmps57
  go_wp2
  go_cut [7] from 8 to 13 (fun s7 wc => ∃ D, s7 = .pointer (some ⟨D, 0, none⟩) ∧ w.heap.size ≤ D ∧ wc.cell? ⟨D, 0, none⟩ = some (.pointer (some ⟨d, 0, none⟩)) ∧ Fr [] ((w.alloc (.cells #[.pointer (some ⟨n, 0, none⟩)] 24)).alloc (.cells #[.int .i64 conn] 3)) wc)
  case first =>
    go_region
    all_goals go_wp2
    all_goals go_meet
    case' rel => skip
    all_goals exact ⟨_, rfl, by first | omega | (simp; omega), by first | exact netCell _ _ _ 0 rfl (by simp) rfl | exact (World.cell?_drew _ _).trans (netCell _ _ _ 0 rfl (by simp) rfl), by first | exact ((Fr.refl [] _).alloc _).drew | exact (((Fr.refl [] _).alloc _).setCell (by simp) _).drew⟩
  case rest =>
    obtain ⟨D, rfl, dD, kD, gC⟩ := hcut
    have hD := HD.out.new (gB.step gC)
    have HCl := Lib.hid (hc wc hD)
    have kN : wc.cell? ⟨w.heap.size, 0, none⟩ = some (.pointer (some ⟨n, 0, none⟩)) := gC.keep (by simp) (by simp)
    have kK : wc.cell? ⟨w.heap.size + 1, 0, none⟩ = some (.int .i64 conn) := gC.keep (by simp) (by simp)
    have kn := (gB.step gC).keep h2 (by simp)
    have mC := HM.out.keep (gB.step gC) (by simp)
    clear hD l0 l1 l2
    go_wp2_with (go_at_call 103; refine HCl.out.mono ?_; rintro e w1 ⟨rfl, own', hx1, d1, S, g1, p1⟩)
    have gA := gB.step gC
    have z1 := gA.size
    have zB : w.heap.size + 2 ≤ wc.heap.size := by simpa using gC.size
    have hS : ∀ z, z < wc.heap.size → (w.heap.size ≤ z ∨ ow z = 0) → z ∉ S := fun z hz hor hm => by
      have h5 := p1 z hm hz
      rcases hor with h6 | h6
      · rw [HX4.out.2 z h6] at h5
        omega
      · rw [h6] at h5
        omega
    have gT : Fr S w w1 := (gA.mono (fun x hx => by cases hx)).trans g1 (fun x hx _ => hx)
    have kD1 := g1.keep kD (hS _ (cell_lt kD) (.inl dD))
    have kN1 := g1.keep kN (hS _ (cell_lt kN) (.inl (Nat.le_refl _)))
    have kK1 := g1.keep kK (hS _ (cell_lt kK) (.inl (by omega)))
    have kn1 := g1.keep kn (hS n (by omega) (.inr HNC.out.1))
    have mC1 := mC.keep g1 (hS cm (by omega) (.inr HNC.out.2))
    have d2 := d1
    have hE : Ext w own own' := fun z hz => (hx1 z (by omega)).trans (HX4.out.1 z hz)
    have pS : ∀ z ∈ S, z < w.heap.size → own z = c ∨ own z = c + 4 ∨ own z = c + 8 := fun z hz hl => by
      have h5 := p1 z hz (by omega)
      rwa [HX4.out.1 z hl] at h5
    by_cases hb : (y.a0 && y.a1) = true
    · skip
      refine leaves_cons (f := 102) (args := #[.pointer (some ⟨D, 0, none⟩), .pointer (some ⟨w.heap.size, 0, none⟩), .pointer (some ⟨w.heap.size + 1, 0, none⟩)]) (by simp) (by simp [go_sem]) ?_
      refine (hangEndG_yes w1 .returning d2 hb kD1 kN1 kK1 kn1 mC1).mono ?_
      rintro e u' w'' ⟨rfl, rfl, m2, f2⟩
      exact ⟨_, results_tmp rfl _ _ _, rfl, by rw [if_pos hb]; exact m2, own', hE, (fun h => by rw [hb] at h; cases h), S ++ [cm], (gT.mono (fun x hx _ => List.mem_append_left _ hx)).trans f2 (fun x hx _ => List.mem_append_right _ hx), fun z hz hl => by
        rcases List.mem_append.1 hz with hz | hz
        · have := pS z hz hl; omega
        · rw [List.mem_singleton] at hz; exact .inr (.inr (.inr hz))⟩
    · rw [Bool.not_eq_true] at hb
      refine leaves_cons (f := 102) (args := #[.pointer (some ⟨D, 0, none⟩), .pointer (some ⟨w.heap.size, 0, none⟩), .pointer (some ⟨w.heap.size + 1, 0, none⟩)]) (by simp) (by simp [go_sem]) ?_
      refine (hangEndG_no w1 .returning d2 hb kD1).mono ?_
      rintro e u' w'' ⟨rfl, rfl, rfl⟩
      exact ⟨_, results_tmp rfl _ _ _, rfl, by rw [if_neg (by rw [hb]; simp)]; exact mC1, own', hE, fun _ => d2, S, gT, fun z hz hl => by have := pS z hz hl; omega⟩
end
end Go.Proofs.YtmdhlodafjpnmaaGreat
namespace Go.Proofs.YtmdhlodafjpnmaaGreat
open Go.RowKit
open Go.Maps (Keyed)
set_option linter.unusedVariables false
set_option maxRecDepth 100000
set_option maxHeartbeats 4000000

/-- What hanging an end makes of a list of connections, at one place. -/
def hangToG (C1 C2 : List CG) (y : CG) (x : CC) : List CG := if x.a0 && x.a1 then C1 ++ C2 else C1 ++ { y with x := x } :: C2
theorem hangToG_mem {C1 C2 : List CG} {y z : CG} {x : CC} (h : z ∈ hangToG C1 C2 y x) : z ∈ C1 ∨ z ∈ C2 ∨ (z = { y with x := x } ∧ (x.a0 && x.a1) = false) := by
  unfold hangToG at h
  split at h
  · rcases List.mem_append.1 h with h | h
    · exact .inl h
    · exact .inr (.inl h)
  · rename_i hb
    rw [Bool.not_eq_true] at hb
    simp only [List.mem_append, List.mem_cons] at h
    rcases h with h | h | h
    · exact .inl h
    · exact .inr (.inr ⟨h, hb⟩)
    · exact .inr (.inl h)
theorem cmap_oneG {C1 C2 : List CG} {y : CG} (h : ((C1 ++ y :: C2).map (·.ref)).Nodup) : (∀ z ∈ C1, z.ref ≠ y.ref) ∧ (∀ z ∈ C2, z.ref ≠ y.ref) := by
  simp only [List.map_append, List.map_cons, List.nodup_append, List.nodup_cons] at h
  obtain ⟨_, ⟨h2, _⟩, h3⟩ := h
  refine ⟨fun z hz he => ?_, fun z hz he => h2 (by rw [← he]; exact List.mem_map.2 ⟨z, hz, rfl⟩)⟩
  exact h3 _ (List.mem_map.2 ⟨z, hz, rfl⟩) _ List.mem_cons_self he
theorem hang_g {own : Nat → Nat} {B : NB} {L : List LB} {C1 C2 : List CG} {y : CG} {G : Nat} (en : Bool) (w : World) (h : NetG w own B L (C1 ++ y :: C2) G) (hq : (y.ref : Int) ∈ qs L → (y.x.close en).1.a1 = false) :
    Calls Tryz.prog 57 #[.pointer (some ⟨B.n, 0, none⟩), .int .i64 y.ref, .int .i64 (endI en)] w fun e w' => e = .returned (.int .i64 (y.x.close en).2) ∧ ∃ own', NetG w' own' B L (hangToG C1 C2 y (y.x.close en).1) G ∧ Ext w own own' ∧ FrO own netO w w' := by
  have hc := h.cs y (by simp)
  obtain ⟨o1, o2, o3, o4, o5⟩ := h.on
  have hm := h.net.cs
  rw [List.map_append, List.map_cons] at hm
  refine (hang_genG w en (by omega) h.net.c2 hm hc.dup o1 o5).mono ?_
  rintro e w' ⟨rfl, m', own', hE, d', S0, hf0, hS0⟩
  obtain ⟨S, hS'⟩ : ∃ S, S0.filter (fun z => decide (z < w.heap.size)) = S := ⟨_, rfl⟩
  have hf : Fr S w w' := hf0.mono (fun z hz hl => by rw [← hS']; exact List.mem_filter.2 ⟨hz, by simpa using hl⟩)
  have hS : ∀ z ∈ S, z < w.heap.size ∧ (own z = 16 * y.ref + 1 ∨ own z = 16 * y.ref + 1 + 4 ∨ own z = 16 * y.ref + 1 + 8 ∨ z = B.cm) := fun z hz => by
    rw [← hS'] at hz
    obtain ⟨h1, h2⟩ := List.mem_filter.1 hz
    have h3 := of_decide_eq_true h2
    exact ⟨h3, hS0 z h1 h3⟩
  clear hf0 hS0 hS'
  have hSo : ∀ z ∈ S, own z = 0 ∨ own z = 16 * y.ref + 1 ∨ own z = 16 * y.ref + 5 ∨ own z = 16 * y.ref + 9 := fun z hz => by
    rcases (hS z hz).2 with h | h | h | h
    · omega
    · omega
    · omega
    · left; rw [h]; exact o5
  obtain ⟨g1, g2⟩ := cmap_oneG h.crefs
  have hN : NetIs w B.n B.r B.m B.lm B.cm (L.map LB.nm) (L.map LB.ent) ((C1 ++ y :: C2).map CG.ent) := h.net
  have nS : ∀ z, own z = 0 → z ≠ B.cm → z ∉ S := fun z hz hne hm => by
    rcases (hS z hm).2 with h | h | h | h
    · omega
    · omega
    · omega
    · exact hne h
  obtain ⟨e1, e2, e3, e4, e5, e6, e7, e8, e9⟩ := hN.ne
  obtain ⟨x', hx'⟩ : ∃ x', (y.x.close en).1 = x' := ⟨_, rfl⟩
  have hok : CcOk x' := by rw [← hx']; exact hc.ok.close en
  rw [hx'] at m' d' hq ⊢
  have keepC : ∀ z, z ∈ C1 ∨ z ∈ C2 → ConnG w' own' z := fun z hz => by
    have hne : z.ref ≠ y.ref := by rcases hz with hz | hz; exact g1 z hz; exact g2 z hz
    refine ((h.cs z (by rcases hz with hz | hz <;> simp [hz])).ext hE).keep hf (fun x hx _ => ?_)
    rw [hE x (hS x hx).1]
    rcases hSo x hx with h0 | h0 | h0 | h0 <;> omega
  have hsub : List.Sublist ((hangToG C1 C2 y x').map (·.ref)) ((C1 ++ y :: C2).map (·.ref)) := by
    unfold hangToG
    split
    · simp only [List.map_append, List.map_cons]
      exact List.Sublist.append (List.Sublist.refl _) (List.sublist_cons_self _ _)
    · simp only [List.map_append, List.map_cons]
      exact List.Sublist.refl _
  refine ⟨rfl, own', ⟨?_, ⟨(hE _ (cell_lt h.net.c0)).trans o1, (hE _ (cell_lt h.net.reg.c0)).trans o2, (hE _ h.net.reg.map.lt).trans o3, (hE _ h.net.ls.lt).trans o4, (hE _ h.net.cs.lt).trans o5⟩, ?_, ?_, h.refs, h.crefs.sublist hsub, h.adrs, ?_, h.vals, h.nl, ?_⟩, hE, FrO.of hf (fun z hz => ?_)⟩
  · refine ⟨hf.keep hN.c0 (nS _ o1 (by omega)), hf.keep hN.c1 (nS _ o1 (by omega)), hf.keep hN.c2 (nS _ o1 (by omega)), hN.reg.keep hf (nS _ o2 (by omega)) (nS _ o3 (by omega)), hN.ls.keep hf (nS _ o4 (by omega)), ?_, hN.ne⟩
    have : (hangToG C1 C2 y x').map CG.ent = if (x'.a0 && x'.a1) then C1.map CG.ent ++ C2.map CG.ent else C1.map CG.ent ++ (.int .i64 (y.ref : Int), .pointer (some ⟨y.d, 0, none⟩)) :: C2.map CG.ent := by
      unfold hangToG
      split <;> simp [CG.ent]
    rw [this]
    exact m'
  · intro x hx
    refine ((h.ls x hx).ext hE).keep hf (fun z hz he => ?_)
    rw [hE z (hS z hz).1] at he
    rcases hSo z hz with h0 | h0 | h0 | h0 <;> omega
  · intro z hz
    rcases hangToG_mem hz with hz | hz | ⟨rfl, hb⟩
    · exact keepC z (.inl hz)
    · exact keepC z (.inr hz)
    · exact ⟨d' hb, hok, hb⟩
  · intro k hk
    obtain ⟨z, hz, h1, h2⟩ := h.queue k hk
    simp only [List.mem_append, List.mem_cons] at hz
    have hin : ∀ u, u ∈ C1 ∨ u ∈ C2 → u ∈ hangToG C1 C2 y x' := fun u hu => by
      unfold hangToG
      split <;> rcases hu with hu | hu <;> simp [hu]
    rcases hz with hz | rfl | hz
    · exact ⟨z, hin z (.inl hz), h1, h2⟩
    · have hb := hq (h1 ▸ hk)
      exact ⟨{ z with x := x' }, by unfold hangToG; simp [hb], h1, hb⟩
    · exact ⟨z, hin z (.inr hz), h1, h2⟩
  · have := hsub.length_le
    have hnc := h.nc
    simp only [List.length_map] at this
    omega
  · unfold netO
    rcases hSo z hz with h0 | h0 | h0 | h0 <;> omega
end Go.Proofs.YtmdhlodafjpnmaaGreat
namespace Go.Proofs.YtmdhlodafjpnmaaGreat
open Go.RowKit
open Go.Maps (Keyed)
set_option linter.unusedVariables false
set_option maxRecDepth 100000
set_option maxHeartbeats 8000000

/-- What hanging an end makes of a list of connections. -/
def hangL (C : List PG) (k : Int) (e : Bool) : List PG := (C.map fun z => if (z.ref : Int) = k then { z with c := (z.c.close e).1 } else z).filter fun z => !(z.c.a0 && z.c.a1)
def hangsL (C : List PG) : List Int → List PG
  | [] => C
  | k :: r => hangsL (hangL C k true) r
def NG.close (N : NG) (r : Int) : NG × List Int × Int :=
  match PN.byRef N.L r with
  | none => (N, [], 9)
  | some x => ({ L := PN.dropL N.L x.ref, C := hangsL N.C x.l }, x.l, 0)
theorem hang_plainG {C1 C2 : List CG} {y : CG} (e : Bool) (h : ((C1 ++ y :: C2).map (·.ref)).Nodup) (ho : ∀ z ∈ C1 ++ y :: C2, (z.x.a0 && z.x.a1) = false) :
    hangL ((C1 ++ y :: C2).map CG.pg) y.ref e = (hangToG C1 C2 y (y.x.close e).1).map CG.pg := by
  obtain ⟨h1, h2⟩ := cmap_oneG h
  have same : ∀ D : List CG, (∀ z ∈ D, z.ref ≠ y.ref) → (∀ z ∈ D, (z.x.a0 && z.x.a1) = false) → (((D.map CG.pg).map fun z => if (z.ref : Int) = y.ref then { z with c := (z.c.close e).1 } else z).filter fun z => !(z.c.a0 && z.c.a1)) = D.map CG.pg := fun D hd hod => by
    rw [show ((D.map CG.pg).map fun z => if (z.ref : Int) = y.ref then { z with c := (z.c.close e).1 } else z) = D.map CG.pg by
      rw [List.map_map]
      refine List.map_congr_left fun z hz => ?_
      have := hd z hz
      exact if_neg (fun he => this (by have e : z.pg.ref = z.ref := rfl; omega))]
    refine List.filter_eq_self.2 fun z hz => ?_
    obtain ⟨z', hz', rfl⟩ := List.mem_map.1 hz
    simp [CG.pg, hod z' hz']
  unfold hangL hangToG
  rw [List.map_append, List.map_append, List.filter_append, same C1 h1 (fun z hz => ho z (by simp [hz]))]
  rw [List.map_cons, List.map_cons, List.filter_cons, same C2 h2 (fun z hz => ho z (by simp [hz]))]
  obtain ⟨x', hx'⟩ : ∃ x', (y.x.close e).1 = x' := ⟨_, rfl⟩
  have e1 : (if ((y.pg).ref : Int) = (y.ref : Int) then { y.pg with c := ((y.pg).c.close e).1 } else y.pg) = ⟨y.ref, x'⟩ := (if_pos (show ((y.pg).ref : Int) = (y.ref : Int) from rfl)).trans (by rw [← hx']; rfl)
  rw [e1, hx']
  cases hb : (x'.a0 && x'.a1) <;> simp [CG.pg]
theorem qs_neG {L : List LB} {C1 C2 : List CG} {y : CG} {x : CC} {k : Int} (hk : ∃ z ∈ C1 ++ y :: C2, (z.ref : Int) = k ∧ z.x.a1 = false) (hne : k ≠ y.ref) : ∃ z ∈ hangToG C1 C2 y x, (z.ref : Int) = k ∧ z.x.a1 = false := by
  obtain ⟨z, hz, h1, h2⟩ := hk
  refine ⟨z, ?_, h1, h2⟩
  simp only [List.mem_append, List.mem_cons] at hz
  unfold hangToG
  split
  · rcases hz with hz | rfl | hz
    · simp [hz]
    · exact absurd h1.symm hne
    · simp [hz]
  · rcases hz with hz | rfl | hz
    · simp [hz]
    · exact absurd h1.symm hne
    · simp [hz]
theorem hangsL_snoc : ∀ (l : List Int) (C : List PG) (k : Int), hangsL C (l ++ [k]) = hangL (hangsL C l) k true
  | [], C, k => rfl
  | a :: l, C, k => by simp only [List.cons_append, hangsL]; exact hangsL_snoc l _ k
/-- Between two hangs of Close: those of xs that are still to come, from j on, wait nowhere and are open at the end 1. -/
structure CloseG (w : World) (own : Nat → Nat) (B : NB) (L : List LB) (C0 C : List CG) (G : Nat) (xs : List Int) (j : Nat) : Prop where
  net : NetG w own B L C G
  hangs : C.map CG.pg = hangsL (C0.map CG.pg) (xs.take j)
  open_ : ∀ k ∈ xs.drop j, ∃ y ∈ C, (y.ref : Int) = k ∧ y.x.a1 = false
  sep : (xs.drop j).Nodup ∧ ∀ k ∈ xs.drop j, k ∉ qs L

theorem CloseG.next {w : World} {own : Nat → Nat} {B : NB} {L : List LB} {C0 C : List CG} {G : Nat} {xs : List Int} {j : Nat} (h : CloseG w own B L C0 C G xs j) (hj : j < xs.length) :
    ∃ C1 y C2, C = C1 ++ y :: C2 ∧ y.x.a1 = false ∧ (y.ref : Int) = xs[j] ∧ (y.ref : Int) ∉ qs L ∧
      ∀ w' own', NetG w' own' B L (hangToG C1 C2 y (y.x.close true).1) G → CloseG w' own' B L C0 (hangToG C1 C2 y (y.x.close true).1) G xs (j + 1) := by
  have hd : xs.drop j = xs[j] :: xs.drop (j + 1) := List.drop_eq_getElem_cons hj
  obtain ⟨y, hy, h1, h2⟩ := h.open_ xs[j] (by rw [hd]; exact List.mem_cons_self)
  obtain ⟨C1, C2, rfl⟩ := List.append_of_mem hy
  have hsep := h.sep
  rw [hd, List.nodup_cons] at hsep
  refine ⟨C1, y, C2, rfl, h2, h1, fun hm => hsep.2 xs[j] List.mem_cons_self (h1 ▸ hm), fun w' own' hn => ⟨hn, ?_, fun k hk => ?_, hsep.1.2, fun k hk => hsep.2 k (List.mem_cons_of_mem _ hk)⟩⟩
  · rw [List.take_succ_eq_append_getElem hj, hangsL_snoc, ← h.hangs, ← h1]
    exact (hang_plainG true h.net.crefs (fun z hz => (h.net.cs z hz).op)).symm
  · refine qs_neG (L := L) (h.open_ k (by rw [hd]; exact List.mem_cons_of_mem _ hk)) (fun he => hsep.1.1 ?_)
    rw [← h1, ← he]
    exact hk

theorem NetG.drop {w w' : World} {own own' : Nat → Nat} {B : NB} {L1 L2 : List LB} {x : LB} {C : List CG} {G : Nat} (h : NetG w own B (L1 ++ x :: L2) C G)
    (hn : NetIs w' B.n B.r B.m B.lm B.cm ((L1 ++ L2).map LB.nm) ((L1 ++ L2).map LB.ent) (C.map CG.ent)) {S : List Nat} (hf : Fr S w w') (hE : Ext w own own') (hS : ∀ z ∈ S, z < w.heap.size ∧ (own z = 0 ∨ own z = 4 * x.ref + 2)) : NetG w' own' B (L1 ++ L2) C G := by
  obtain ⟨o1, o2, o3, o4, o5⟩ := h.on
  obtain ⟨g1, g2⟩ := map_one h.refs
  have hsub : List.Sublist (L1 ++ L2) (L1 ++ x :: L2) := List.Sublist.append (List.Sublist.refl _) (List.sublist_cons_self _ _)
  have hmem : ∀ y ∈ L1 ++ L2, y ∈ L1 ++ x :: L2 := fun y hy => hsub.subset hy
  have hqs : List.Sublist (qs (L1 ++ L2)) (qs (L1 ++ x :: L2)) := by
    rw [qs_mid, show qs (L1 ++ L2) = qs L1 ++ qs L2 by simp [qs]]
    exact List.Sublist.append (List.Sublist.refl _) (List.sublist_append_right _ _)
  refine ⟨hn, ⟨(hE _ (cell_lt h.net.c0)).trans o1, (hE _ (cell_lt h.net.reg.c0)).trans o2, (hE _ h.net.reg.map.lt).trans o3, (hE _ h.net.ls.lt).trans o4, (hE _ h.net.cs.lt).trans o5⟩, ?_, ?_, h.refs.sublist (hsub.map _), h.crefs, h.adrs.sublist hsub, fun k hk => h.queue k (hqs.subset hk), h.vals.sublist hqs, by have := hsub.length_le; have := h.nl; omega, h.nc⟩
  · intro y hy
    have hne : y.ref ≠ x.ref := by rcases List.mem_append.1 hy with hy | hy; exact g1 y hy; exact g2 y hy
    refine ((h.ls y (hmem y hy)).ext hE).keep hf (fun z hz he => ?_)
    obtain ⟨hl, h0⟩ := hS z hz
    rw [hE z hl] at he
    rcases h0 with h0 | h0 <;> omega
  · intro y hy
    refine ((h.cs y hy).ext hE).keep hf (fun z hz _ => ?_)
    obtain ⟨hl, h0⟩ := hS z hz
    rw [hE z hl]
    rcases h0 with h0 | h0 <;> omega
theorem netClose_hitG {own : Nat → Nat} {B : NB} {L1 L2 : List LB} {x : LB} {C : List CG} {G : Nat} (w : World) (h : NetG w own B (L1 ++ x :: L2) C G) (hG : G < 4611686018427387904) (hr' : (x.ref : Int) ≤ 9223372036854775807) :
    Calls Tryz.prog 35 #[.pointer (some ⟨B.n, 0, none⟩), .int .i64 x.ref] w fun e w' => ∃ v own' C', e = .returned (.tuple #[v, .int .i64 0]) ∧ RowOf w' w.heap.size v (x.l.map connV64) ∧ CloseG w' own' B (L1 ++ L2) C C' G (x.l.map (·.2)) x.l.length ∧ Ext w own own' ∧ FrO own netO w w' ∧ ∀ g, v.ownBlock = some g → own' g = 4 := by
  have hx := h.ls x (by simp)
  obtain ⟨o1, o2, o3, o4, o5⟩ := h.on
  obtain ⟨x1, x2, x3, x4⟩ := hx.own
  have hn := h.net
  rw [List.map_append, List.map_cons, List.map_append, List.map_cons] at hn
  have hne := hn.ne
  have HN := Lib.hid (netNone_any _ h.net)
  have c0 := hn.c0
  have c1 := hn.c1
  have bl := cell_lt hx.back.c0
  have hlk := hn.ls.hit keyInt (t := 49) (e := 120) Tryz.underlying49 (x := .int .i64 (x.ref : Int)) (v := .agg #[.pointer (some ⟨x.b, 0, none⟩), .string x.s, .int .i64 x.p]) (by simp [LB.ent, qV]) true
  simp only [if_true] at hlk
  have fA : Fr [] w (w.alloc (.cells #[.pointer (some ⟨x.b, 0, none⟩), .string x.s, .int .i64 x.p] 120)) := (Fr.refl [] w).alloc _
  have k0 : (w.alloc (.cells #[.pointer (some ⟨x.b, 0, none⟩), .string x.s, .int .i64 x.p] 120)).cell? ⟨w.heap.size, 0, none⟩ = some (.pointer (some ⟨x.b, 0, none⟩)) := by simp
  have k1 : (w.alloc (.cells #[.pointer (some ⟨x.b, 0, none⟩), .string x.s, .int .i64 x.p] 120)).cell? ⟨w.heap.size, 1, none⟩ = some (.string x.s) := by simp
  have k2 : (w.alloc (.cells #[.pointer (some ⟨x.b, 0, none⟩), .string x.s, .int .i64 x.p] 120)).cell? ⟨w.heap.size, 2, none⟩ = some (.int .i64 x.p) := by simp
  have sA : (w.alloc (.cells #[.pointer (some ⟨x.b, 0, none⟩), .string x.s, .int .i64 x.p] 120)).heap.size = w.heap.size + 1 := by simp
  obtain ⟨wB, hrun, mB, fB⟩ := (hn.ls.keep fA (by simp)).del (T := 0) keyInt (t := 49) (e := 120) Tryz.underlying49
  have zl := hn.ls.lt
  have zm := hn.reg.map.lt
  have j0 := fB.keep k0 (by simp; omega)
  have j1 := fB.keep k1 (by simp; omega)
  have j2 := fB.keep k2 (by simp; omega)
  have fAB : Fr [B.lm] w wB := (fA.mono (fun x hx => by cases hx)).trans fB (fun x hx _ => hx)
  have q0 := fAB.keep c0 (by simp; omega)
  have q1 := fA.keep c1 (by simp)
  have rB := hn.reg.keep fAB (by simp; omega) (by simp; omega)
  have H := Lib.hid h
  have HX := Lib.hid hx
  have HNN := Lib.hid hn
  have HM := Lib.hid mB
  have HV := Lib.hid hx.adr
  have HZ := Lib.hid hx.sz
  have HL := Lib.hid hx.len
  have HMO := Lib.hid hx.most
  have HG := Lib.hid hx.g
  clear h hx hn mB
  go_enter Tryz.func35, Tryz.ntmps35
  go_wp2_with (go_at_call 55; refine HN.out.mono ?_; rintro e w' ⟨rfl, rfl⟩)
  go_cut [] from 30 to 36 (fun wc => RegIs wc B.r B.m (L1.map LB.nm ++ L2.map LB.nm) ∧ Fr [B.m] wB wc)
  case first =>
    go_region_with (go_at_call 79; refine (regRelease_hit B.r B.m (L1.map LB.nm) (L2.map LB.nm) x.s x.p x.ref _ (rB.drewN 1) HZ.out HV.out).mono ?_; rintro e w5 ⟨rfl, rg5, f5⟩)
    all_goals go_wp2
    all_goals go_meet
    case' rel => skip
    all_goals exact ⟨rg5, f5.behind⟩
  case rest =>
    obtain ⟨rC, fC⟩ := hcut
    have dif : ∀ a b, own a = 4 * x.ref + 2 → own b = 0 → a ≠ b := fun a b ha hb e => by rw [e] at ha; omega
    obtain ⟨e1, e2, e3, e4, e5, e6, e7, e8, e9⟩ := hne
    have DIF := Lib.hid dif
    have HE := Lib.hid (show B.n ≠ B.r ∧ B.n ≠ B.m ∧ B.n ≠ B.lm ∧ B.n ≠ B.cm ∧ B.r ≠ B.lm ∧ B.r ≠ B.cm ∧ B.m ≠ B.lm ∧ B.m ≠ B.cm ∧ B.lm ≠ B.cm from ⟨e1, e2, e3, e4, e5, e6, e7, e8, e9⟩)
    have rm : B.r ≠ B.m := HNN.out.reg.ne
    have fw : Fr [B.lm, B.m] w wc := (fAB.mono (fun x hx _ => by simp at hx; simp [hx])).trans fC (fun x hx _ => by simp at hx; simp [hx])
    have i0 := fC.keep j0 (by simp [Nat.ne_of_gt zm])
    have HBk := Lib.hid (HX.out.back.keep fw (by simp [dif _ _ x1 o4, dif _ _ x1 o3]) (by simp [dif _ _ x2 o4, dif _ _ x2 o3]) (by simp [dif _ _ x3 o4, dif _ _ x3 o3]) (by simp [dif _ _ x4 o4, dif _ _ x4 o3]))
    have hlen : x.l.length ≤ 100000 := by have := HL.out; have := HMO.out.2; omega
    have hgG : x.g < 4611686018427387904 := by have := HG.out; omega
    clear j0 j1 j2 k0 k1 k2 q0 q1 hlk rB dif e1 e2 e3 e4 e5 e6 e7 e8 e9
    go_wp2_with (go_at_call 85; refine (backClose_any x.b x.q x.m x.t x.most x.l x.g hgG _ HBk.out hlen).mono ?_; rintro e wD ⟨v, rfl, hrow, fD⟩; have hlv := fun W : World => hrow.len (W := W); rw [List.length_map] at hlv)
    have fwD : Fr [B.lm, B.m, x.b] w wD := (fw.mono (fun y hy _ => by simp at hy; rcases hy with rfl | rfl <;> simp)).trans fD (fun y hy _ => by simp at hy; simp [hy])
    have zr := cell_lt HNN.out.reg.c0
    have zc := HNN.out.cs.lt
    have zn := cell_lt c0
    have hnD : NetIs wD B.n B.r B.m B.lm B.cm ((L1 ++ L2).map LB.nm) ((L1 ++ L2).map LB.ent) (C.map CG.ent) := by
      rw [List.map_append, List.map_append]
      obtain ⟨e1, e2, e3, e4, e5, e6, e7, e8, e9⟩ := HE.out
      have n1 : B.n ∉ [B.lm, B.m, x.b] := by simp [e3, e2, Ne.symm (DIF.out _ _ x1 o1)]
      have n2 : B.r ∉ [x.b] := by simp [Ne.symm (DIF.out _ _ x1 o2)]
      have n3 : B.m ∉ [x.b] := by simp [Ne.symm (DIF.out _ _ x1 o3)]
      have n4 : B.lm ∉ [B.m] := by simp [Ne.symm e7]
      have n5 : B.lm ∉ [x.b] := by simp [Ne.symm (DIF.out _ _ x1 o4)]
      have n6 : B.cm ∉ [B.lm, B.m, x.b] := by simp [Ne.symm e9, Ne.symm e8, Ne.symm (DIF.out _ _ x1 o5)]
      exact ⟨fwD.keep HNN.out.c0 n1, fwD.keep HNN.out.c1 n1, fwD.keep HNN.out.c2 n1, rC.keep fD n2 n3, (HM.out.keep fC n4).keep fD n5, HNN.out.cs.keep fwD n6, HE.out⟩
    have hE := Ext.new w own 4
    have hW := NetG.drop H.out hnD fwD hE (fun z hz => by
      simp only [List.mem_cons, List.not_mem_nil, or_false] at hz
      rcases hz with rfl | rfl | rfl
      · exact ⟨zl, .inl o4⟩
      · exact ⟨zm, .inl o3⟩
      · exact ⟨bl, .inr x1⟩)
    have hCR : CloseG wD (ownNew w own 4) B (L1 ++ L2) C C G (x.l.map (·.2)) 0 := by
      have hv := H.out.vals
      rw [qs_mid] at hv
      have hq12 : qs (L1 ++ L2) = qs L1 ++ qs L2 := by simp [qs]
      refine ⟨hW, rfl, fun k hk => H.out.queue k (by rw [qs_mid]; exact List.mem_append_right _ (List.mem_append_left _ hk)), (List.nodup_append.1 (List.nodup_append.1 hv).2.1).1, fun k hk hm => ?_⟩
      rw [hq12] at hm
      rcases List.mem_append.1 hm with hm | hm
      · exact (List.nodup_append.1 hv).2.2 k hm k (List.mem_append_left _ hk) rfl
      · exact (List.nodup_append.1 (List.nodup_append.1 hv).2.1).2.2 k hk k hm rfl
    have hFO : FrO own netO w wD := FrO.of fwD (fun z hz => by
      simp only [List.mem_cons, List.not_mem_nil, or_false] at hz
      rcases hz with rfl | rfl | rfl
      · exact .inl o4
      · exact .inl o3
      · exact .inr (.inr (by rw [x1]; omega)))
    have HW := Lib.hid hCR
    have hzD : w.heap.size ≤ wD.heap.size := fwD.size
    have hzC : w.heap.size ≤ wc.heap.size := fw.size
    clear hW hCR hnD fwD hlv
    rcases hrow with ⟨hnil, rfl⟩ | ⟨g, cap, rfl, lg, lgs, hcells⟩
    · have hl0 : x.l = [] := by simpa using hnil
      have hz0 : x.l.length = 0 := by rw [hl0]; rfl
      rw [hz0]
      go_loopw [45] (fun i wr => i = .int .i64 0 ∧ wr = wD) (fun _ _ => 0)
      case atStart => exact ⟨rfl, rfl⟩
      case round =>
        obtain ⟨rfl, rfl⟩ := hrel
        go_wp2
        go_ret2
        have hz : x.l.length = 0 := by rw [hl0]; rfl
        exact ⟨_, ownNew w own 4, C, rfl, .inl ⟨by rw [hl0]; rfl, rfl⟩, hz ▸ HW.out, hE, hFO, fun g hg => by cases hg⟩
    · have hlen2 : (x.l.map connV64).length = x.l.length := by simp
      rw [hlen2]
      have og : ownNew w own 4 g = 4 := ownNew_ge (by omega)
      have HC := Lib.hid hcells
      clear hcells
      go_loopw [45] (fun i wr => ∃ (j : Nat) (own' : Nat → Nat) (C' : List CG), i = .int .i64 j ∧ j ≤ x.l.length ∧ CloseG wr own' B (L1 ++ L2) C C' G (x.l.map (·.2)) j ∧ Ext wD (ownNew w own 4) own' ∧ FrO (ownNew w own 4) netO wD wr ∧ (∀ j u, (x.l.map connV64)[j]? = some u → wr.cell? ⟨g, j, none⟩ = some u)) (fun i _ => x.l.length - (intOf i).toNat)
      case atStart => exact ⟨0, _, C, rfl, by omega, HW.out, Ext.refl _ _, FrO.new (Fr.refl _ _), HC.out⟩
      case round =>
        obtain ⟨j, own', C', rfl, hj, hR, hE2, hF2, hc2⟩ := hrel
        by_cases hlt : j < x.l.length
        · obtain ⟨C1, y, C2, rfl, hy1, hy2, hy3, hnext⟩ := hR.next (by simpa using hlt)
          have hcj : wr.cell? ⟨g, j, none⟩ = some (.int .i64 y.ref) := by
            refine hc2 j _ ?_
            rw [List.getElem?_map, List.getElem?_eq_getElem hlt]
            simp only [List.getElem_map] at hy2
            simp [connV64, hy2]
          have HH := Lib.hid (hang_g true wr hR.net (fun hq => absurd hq hy3))
          have HNx := Lib.hid hnext
          have HC2 := Lib.hid hc2
          have HE2 := Lib.hid hE2
          have HF2 := Lib.hid hF2
          have HGO := Lib.hid (show own' g = 4 from (hE2 g lgs).trans og)
          have HR := Lib.hid hR
          clear hnext hc2 hE2 hF2 hR hy1 hy2 hy3 og
          go_wp2_with (go_at_call 57; refine HH.out.mono ?_; rintro e w2 ⟨rfl, own2, hN2, hX2, hF3⟩)
          go_roundw
          case rel =>
            have hF3' := hF3
            obtain ⟨S, f3, s3⟩ := hF3.list
            have gS : g ∉ S := fun hm => by
              have := (s3 g hm).2
              rw [HGO.out] at this
              unfold netO at this
              omega
            exact ⟨j + 1, _, _, by go_num, by omega, HNx.out _ _ hN2, HE2.out.step hX2 HF2.out.size, HF2.out.trans hF3' HE2.out, fun j' u hu => f3.keep (HC2.out j' u hu) gS⟩
          case measure => simp [intOf]; omega
        · obtain rfl : j = x.l.length := by omega
          have HR := Lib.hid hR
          have HC2 := Lib.hid hc2
          have HE2 := Lib.hid hE2
          have HF2 := Lib.hid hF2
          clear hR hc2 hE2 hF2
          go_wp2
          go_ret2
          refine ⟨.slice (some ⟨g, 0, none⟩) x.l.length cap, own', C', rfl, .inr ⟨g, cap, by rw [hlen2], Nat.le_trans hzC lg, Nat.lt_of_lt_of_le lgs HF2.out.size, HC2.out⟩, HR.out, hE.step HE2.out hzD, hFO.trans HF2.out hE, fun g' hg' => by
            simp only [Value.ownBlock, Option.some.injEq] at hg'
            rw [← hg']
            exact (HE2.out g lgs).trans og⟩

theorem netClose_g {own : Nat → Nat} {B : NB} {L : List LB} {C : List CG} {G : Nat} (ref : Int) (w : World) (h : NetG w own B L C G) (hr : -9223372036854775808 ≤ ref) (hr' : ref ≤ 9223372036854775807) (hG : G < 4611686018427387904) :
    Calls Tryz.prog 35 #[.pointer (some ⟨B.n, 0, none⟩), .int .i64 ref] w fun e w' => ∃ v own' L' C',
      e = .returned (.tuple #[v, .int .i64 ((plainG L C).close ref).2.2]) ∧ RowOf w' w.heap.size v (((plainG L C).close ref).2.1.map (Value.int .i64)) ∧ plainG L' C' = ((plainG L C).close ref).1 ∧ NetG w' own' B L' C' G ∧ Ext w own own' ∧ FrO own netO w w' ∧ ∀ g, v.ownBlock = some g → own' g = 4 := by
  unfold NG.close
  rcases hat : PN.byRef (plainG L C).L ref with _ | z
  · refine (netClose_none ref w h.net hr hr' (by_none hat)).mono ?_
    rintro e w' ⟨rfl, hf⟩
    exact ⟨_, own, L, C, rfl, .inl ⟨rfl, rfl⟩, rfl, h.new hf, Ext.refl _ _, FrO.new hf, fun g hg => by cases hg⟩
  · obtain ⟨L1, x, L2, rfl, rfl, rfl⟩ := by_some hat
    refine (netClose_hitG w h hG hr').mono ?_
    rintro e w' ⟨v, own', C', rfl, hrow, hR, hE, hF, hO⟩
    refine ⟨v, own', L1 ++ L2, C', rfl, ?_, ?_, hR.net, hE, hF, hO⟩
    · have : x.pl.l.map (Value.int .i64) = x.l.map connV64 := by simp [LB.pl, connV64, Function.comp_def]
      rw [this]
      exact hrow
    · have h1 := hR.hangs
      rw [List.take_of_length_le (by simp)] at h1
      show (⟨(L1 ++ L2).map LB.pl, C'.map CG.pg⟩ : NG) = ⟨PN.dropL ((L1 ++ x :: L2).map LB.pl) x.ref, hangsL (C.map CG.pg) (x.l.map (·.2))⟩
      rw [dropL_one h.refs, h1]
end Go.Proofs.YtmdhlodafjpnmaaGreat
namespace Go.Proofs.YtmdhlodafjpnmaaGreat
open Go.RowKit
open Go.Maps (Keyed)
set_option linter.unusedVariables false
set_option maxRecDepth 100000
set_option maxHeartbeats 8000000

def byG (C : List PG) (k : Int) : Option PG := C.find? (fun y => decide ((y.ref : Int) = k))
theorem close_other0 (x : CC) : (x.close false).1.a1 = x.a1 := by unfold CC.close; split <;> rfl
def NG.hang (N : NG) (k en : Int) : NG × Int :=
  if en ≠ 0 ∧ en ≠ 1 then (N, 2)
  else match byG N.C k with
    | none => (N, 9)
    | some y =>
      if en = 1 ∧ k ∈ PN.waitsOf N.L then (N, 8)
      else ({ N with C := hangL N.C k (decide (en = 1)) }, (y.c.close (decide (en = 1))).2)
theorem netWaits_g {own : Nat → Nat} {B : NB} {L : List LB} {C : List CG} {G : Nat} (k : Int) (w : World) (h : NetG w own B L C G) (hG : G < 4611686018427387904) :
    Calls Tryz.prog 56 #[.pointer (some ⟨B.n, 0, none⟩), .int .i64 k] w fun e w' => e = .returned (.bool (decide (k ∈ qs L))) ∧ Fr [] w w' := by
  have c1 := h.net.c1
  have hM := h.net.ls
  have HH := Lib.hid h
  clear h
  obtain ⟨f, hf⟩ : ∃ f, L.map LB.ent = f := ⟨_, rfl⟩
  rw [hf] at hM
  have HF := Lib.hid hf
  clear hf
  go_enter Tryz.func56, Tryz.ntmps56
  go_wp2_with (first
    | (at_range; refine wpList_range_l _ rfl _ 49 rfl 120 Tryz.underlying49 rfl hM ?_; intro w0 hrg0 hg0 hs0)
    | go_in)
  go_frame
  have HRG0 := Lib.hid hrg0
  clear hrg0 hM
  go_loopw [6] (fun _ wr => ∃ done, RangeL Tryz.prog 3 wr B.lm w.heap.size f done ∧ NoK L done k ∧ Fr [] w wr) (fun _ wr => wr.rangeLeft B.lm w.heap.size)
  case atStart => exact ⟨[], HRG0.out, (fun x _ hx => absurd hx List.not_mem_nil), hg0⟩
  case round =>
    obtain ⟨done, hrg, hno, fr⟩ := hrel
    have HNO := Lib.hid hno
    have FR := Lib.hid fr
    clear hno fr
    go_wp2_with (first
      | (at_next; refine wpList_next_l _ rfl _ rfl rfl hrg ?_ ?_)
      | go_in)
    · intro hall
      have HA := Lib.hid hall
      clear hall
      go_wp2
      go_ret
      refine ⟨?_, FR.out⟩
      have : k ∉ qs L := fun hk => by
        obtain ⟨x, hx, hkx⟩ := List.mem_flatMap.1 hk
        exact HNO.out x hx (HA.out _ _ (by rw [← HF.out]; exact List.mem_map.2 ⟨x, hx, rfl⟩)) hkx
      simp [this]
    · intro kk vv w1 hin hnd hrg1 hf1 hs1 hlt hen
      rw [← HF.out] at hin
      obtain ⟨x, hx, he⟩ := List.mem_map.1 hin
      have he' := he
      simp only [LB.ent, Prod.mk.injEq] at he
      obtain ⟨rfl, rfl⟩ := he
      have F1 : Fr [] w w1 := FR.out.trans hf1 (fun z hz hl => by simp at hz; omega)
      have hq := (HH.out.ls x hx).back.keep (F1.alloc (.cells #[.pointer (some ⟨x.b, 0, none⟩), .string x.s, .int .i64 x.p] 120)) (by simp) (by simp) (by simp) (by simp)
      have HQ := Lib.hid hq
      have HEN := Lib.hid (And.intro hin (And.intro hnd (And.intro hx he')))
      have HL := Lib.hid (HH.out.ls x hx)
      have xg := (HH.out.ls x hx).g
      have xl : x.l.length ≤ 128 := by have := (HH.out.ls x hx).len; have := (HH.out.ls x hx).most; omega
      clear hq hin hnd hx he'
      unfold qV at hrg1 hen ⊢
      go_wp2_with (first
        | (go_at_call 60; refine (waiting_any x.b x.q x.m x.t x.most false x.l x.g (by omega) _ HQ.out (by omega)).mono ?_; rintro e w2 ⟨v, rfl, hv, f2⟩)
        | (go_at_call 101; refine (sliceContains_any k v _ _ (IntRow.of hv (by unfold maxLen; omega))).mono ?_; rintro e w' ⟨rfl, rfl⟩)
        | go_in)
      · go_ret
        obtain ⟨_, _, hx, he'⟩ := HEN.out
        refine ⟨?_, (F1.alloc _).step f2⟩
        have hk : k ∈ x.l.map (·.2) := by first | assumption | exact of_decide_eq_true (by assumption) | simpa using ‹∃ _, _›
        have : k ∈ qs L := List.mem_flatMap.2 ⟨x, hx, hk⟩
        simp [this]
      · obtain ⟨_, _, hx, he'⟩ := HEN.out
        have hk : k ∉ x.l.map (·.2) := by first | assumption | exact of_decide_eq_false (by assumption)
        have hno' : NoK L (x.ent :: done) k := fun y hy hm => by
          rcases List.mem_cons.1 hm with hm | hm
          · rw [ent_inj HH.out.refs hy hx hm]
            exact hk
          · exact HNO.out y hy hm
        have F2 : Fr [] w w2 := (F1.alloc _).step f2
        have hg2 : Fr [] w1 w2 := ((Fr.refl [] w1).alloc _).step f2
        have hrg2 := hrg1.keep hg2 (by simp) (by simp)
        have hle : w2.rangeLeft B.lm w.heap.size < wr.rangeLeft B.lm w.heap.size := by
          have e : w2.rangeLeft B.lm w.heap.size = w1.rangeLeft B.lm w.heap.size := by
            unfold World.rangeLeft
            rw [hg2.block _ hrg1.map.lt (by simp), hg2.block _ hrg1.lt (by simp)]
          omega
        go_roundw
        case rel => exact ⟨_, hrg2, hno', F2⟩
        case measure => exact hle
theorem byG_none {C : List CG} {r : Int} (h : byG (C.map CG.pg) r = none) : ∀ x ∈ C.map CG.ent, x.1 ≠ .int .i64 r := by
  intro x hx he
  obtain ⟨y, hy, rfl⟩ := List.mem_map.1 hx
  have := List.find?_eq_none.1 h y.pg (List.mem_map.2 ⟨y, hy, rfl⟩)
  simp only [CG.ent, Value.int.injEq, true_and] at he
  simp [CG.pg, he] at this
theorem byG_some {C : List CG} {r : Int} {z : PG} (h : byG (C.map CG.pg) r = some z) : ∃ C1 y C2, C = C1 ++ y :: C2 ∧ z = y.pg ∧ (y.ref : Int) = r := by
  unfold byG at h
  rw [List.find?_map, Option.map_eq_some_iff] at h
  obtain ⟨x, hx, rfl⟩ := h
  obtain ⟨h1, L1, L2, h2, _⟩ := List.find?_eq_some_iff_append.1 hx
  simp only [Function.comp, decide_eq_true_eq] at h1
  exact ⟨L1, x, L2, h2, rfl, h1⟩

section
variable {own : Nat → Nat} {B : NB} {L : List LB} {C : List CG} {G : Nat} (w : World)
/-- Hang up to its last call, whatever that answers. -/
theorem netHangG_at {C1 C2 : List CG} {y : CG} {en v : Int} {R : World → Prop} (h : NetG w own B L (C1 ++ y :: C2) G) (hG : G < 4611686018427387904) (he : en = 0 ∨ en = 1 ∧ (y.ref : Int) ∉ qs L)
    (hH : ∀ W, Fr [] w W → Calls Tryz.prog 57 #[.pointer (some ⟨B.n, 0, none⟩), .int .i64 y.ref, .int .i64 en] W fun e w' => e = .returned (.int .i64 v) ∧ R w') :
    Calls Tryz.prog 18 #[.pointer (some ⟨B.n, 0, none⟩), .int .i64 y.ref, .int .i64 en] w fun e w' => e = .returned (.int .i64 v) ∧ R w' := by
  have c2 := h.net.c2
  have HN := Lib.hid (netNone_any _ h.net)
  have hlk := h.net.cs.hit keyInt (t := 51) (e := 55) Tryz.underlying51 (x := .int .i64 y.ref) (v := .pointer (some ⟨y.d, 0, none⟩)) (List.mem_map.2 ⟨y, by simp, rfl⟩) true
  simp only [if_true] at hlk
  have HW := Lib.hid (fun W (hf : Fr [] w W) => netWaits_g (y.ref : Int) W (h.new hf) hG)
  have HH := Lib.hid hH
  clear h hH
  rcases he with rfl | ⟨rfl, hq⟩
  · go_enter Tryz.func18, Tryz.ntmps18
    go_wp2_with (first
      | (go_at_call 55; refine HN.out.mono ?_; rintro e w' ⟨rfl, rfl⟩)
      | (go_at_call 57; refine (HH.out _ (by first | exact Fr.refl _ _ | exact (Fr.refl [] _).alloc _)).mono ?_; rintro e w1 ⟨rfl, r1⟩))
    go_ret
    exact ⟨rfl, r1⟩
  · have hd : decide ((y.ref : Int) ∈ qs L) = false := decide_eq_false hq
    have HD := Lib.hid hd
    clear hd hq
    go_enter Tryz.func18, Tryz.ntmps18
    go_wp2_with (first
      | (go_at_call 55; refine HN.out.mono ?_; rintro e w' ⟨rfl, rfl⟩)
      | (go_at_call 56; refine (HW.out _ (by first | exact Fr.refl _ _ | exact (Fr.refl [] _).alloc _)).mono ?_; rintro e w2 ⟨rfl, f2⟩; rw [HD.out])
      | (go_at_call 57; refine (HH.out _ (by first | exact f2 | exact ((Fr.refl [] _).alloc _).step f2)).mono ?_; rintro e w1 ⟨rfl, r1⟩))
    go_ret
    exact ⟨rfl, r1⟩
theorem netHangG_busy {C1 C2 : List CG} {y : CG} (h : NetG w own B L (C1 ++ y :: C2) G) (hG : G < 4611686018427387904) (hq : (y.ref : Int) ∈ qs L) :
    Calls Tryz.prog 18 #[.pointer (some ⟨B.n, 0, none⟩), .int .i64 y.ref, .int .i64 1] w fun e w' => e = .returned (.int .i64 8) ∧ Fr [] w w' := by
  have c2 := h.net.c2
  have HN := Lib.hid (netNone_any _ h.net)
  have hlk := h.net.cs.hit keyInt (t := 51) (e := 55) Tryz.underlying51 (x := .int .i64 y.ref) (v := .pointer (some ⟨y.d, 0, none⟩)) (List.mem_map.2 ⟨y, by simp, rfl⟩) true
  simp only [if_true] at hlk
  have HW := Lib.hid (fun W (hf : Fr [] w W) => netWaits_g (y.ref : Int) W (h.new hf) hG)
  have HD := Lib.hid (decide_eq_true hq)
  clear h hq
  go_enter Tryz.func18, Tryz.ntmps18
  go_wp2_with (first
    | (go_at_call 55; refine HN.out.mono ?_; rintro e w' ⟨rfl, rfl⟩)
    | (go_at_call 56; refine (HW.out _ (by first | exact Fr.refl _ _ | exact (Fr.refl [] _).alloc _)).mono ?_; rintro e w2 ⟨rfl, f2⟩; rw [HD.out]))
  go_ret
  exact ⟨rfl, by first | exact f2 | exact ((Fr.refl [] _).alloc _).step f2⟩
theorem netHangG_miss (k en : Int) (h : NetG w own B L C G) (he : en = 0 ∨ en = 1) (hk : -9223372036854775808 ≤ k) (hk' : k ≤ 9223372036854775807) (hx : ∀ x ∈ C.map CG.ent, x.1 ≠ .int .i64 k) :
    Calls Tryz.prog 18 #[.pointer (some ⟨B.n, 0, none⟩), .int .i64 k, .int .i64 en] w fun e w' => e = .returned (.int .i64 9) ∧ Fr [] w w' := by
  have c2 := h.net.c2
  have HN := Lib.hid (netNone_any _ h.net)
  have hlk := h.net.cs.miss keyInt (t := 51) (e := 55) Tryz.underlying51 (keyInt_of k hk hk') hx (zeroD _) true
  simp only [if_true] at hlk
  clear h hx
  rcases he with rfl | rfl
  all_goals
    go_enter Tryz.func18, Tryz.ntmps18
    go_wp2_with (go_at_call 55; refine HN.out.mono ?_; rintro e w' ⟨rfl, rfl⟩)
    go_ret
    exact ⟨rfl, by first | exact Fr.refl _ _ | exact (Fr.refl [] _).alloc _⟩
theorem netHangG_bad (k en : Int) (h : NetG w own B L C G) (h0 : en ≠ 0) (h1 : en ≠ 1) (hk : -9223372036854775808 ≤ k) (hk' : k ≤ 9223372036854775807) :
    Calls Tryz.prog 18 #[.pointer (some ⟨B.n, 0, none⟩), .int .i64 k, .int .i64 en] w fun e w' => e = .returned (.int .i64 2) ∧ Fr [] w w' := by
  have c2 := h.net.c2
  have HN := Lib.hid (netNone_any _ h.net)
  have e0 : (en == 0) = false := by simpa using h0
  have e1 : (en == 1) = false := by simpa using h1
  have e0' : (en != 0) = true := by simpa using h0
  have e1' : (en != 1) = true := by simpa using h1
  have hlk : ∃ d b, (Instr.lookup 51 (.map (some B.cm)) (.int .i64 k) true).run Tryz.prog w = .ok (.tuple #[.pointer d, .bool b]) w := by
    rcases hat : byG (C.map CG.pg) k with _ | z
    · have := h.net.cs.miss keyInt (t := 51) (e := 55) Tryz.underlying51 (keyInt_of k hk hk') (byG_none hat) (zeroD _) true
      simp only [if_true] at this
      exact ⟨_, _, this⟩
    · obtain ⟨C1, y, C2, rfl, rfl, rfl⟩ := byG_some hat
      have := h.net.cs.hit keyInt (t := 51) (e := 55) Tryz.underlying51 (x := .int .i64 y.ref) (v := .pointer (some ⟨y.d, 0, none⟩)) (List.mem_map.2 ⟨y, by simp, rfl⟩) true
      simp only [if_true] at this
      exact ⟨_, _, this⟩
  obtain ⟨d, b, hlk⟩ := hlk
  clear h h0 h1
  go_enter Tryz.func18, Tryz.ntmps18
  go_wp2_with (go_at_call 55; refine HN.out.mono ?_; rintro e w' ⟨rfl, rfl⟩)
  go_ret
  exact ⟨rfl, by first | exact Fr.refl _ _ | exact (Fr.refl [] _).alloc _⟩
end
theorem netHang_g {own : Nat → Nat} {B : NB} {L : List LB} {C : List CG} {G : Nat} (w : World) (k en : Int) (h : NetG w own B L C G) (hG : G < 4611686018427387904) (hk : -9223372036854775808 ≤ k) (hk' : k ≤ 9223372036854775807) :
    Calls Tryz.prog 18 #[.pointer (some ⟨B.n, 0, none⟩), .int .i64 k, .int .i64 en] w fun e w' => ∃ own' C', e = .returned (.int .i64 ((plainG L C).hang k en).2) ∧ plainG L C' = ((plainG L C).hang k en).1 ∧ NetG w' own' B L C' G ∧ Ext w own own' ∧ FrO own netO w w' := by
  unfold NG.hang
  by_cases hb : en ≠ 0 ∧ en ≠ 1
  · rw [if_pos hb]
    refine (netHangG_bad w k en h hb.1 hb.2 hk hk').mono ?_
    rintro e w' ⟨rfl, hf⟩
    exact ⟨own, C, rfl, rfl, h.new hf, Ext.refl _ _, FrO.new hf⟩
  rw [if_neg hb]
  have he : en = 0 ∨ en = 1 := by omega
  rcases hat : byG (plainG L C).C k with _ | z
  · refine (netHangG_miss w k en h he hk hk' (byG_none hat)).mono ?_
    rintro e w' ⟨rfl, hf⟩
    exact ⟨own, C, rfl, rfl, h.new hf, Ext.refl _ _, FrO.new hf⟩
  obtain ⟨C1, y, C2, rfl, rfl, rfl⟩ := byG_some hat
  simp only [show (plainG L (C1 ++ y :: C2)).L = L.map LB.pl from rfl, waitsOf_qs]
  by_cases hw : en = 1 ∧ (y.ref : Int) ∈ qs L
  · rw [if_pos hw]
    obtain ⟨rfl, hq⟩ := hw
    refine (netHangG_busy w h hG hq).mono ?_
    rintro e w' ⟨rfl, hf⟩
    exact ⟨own, _, rfl, rfl, h.new hf, Ext.refl _ _, FrO.new hf⟩
  rw [if_neg hw]
  have he' : en = 0 ∨ en = 1 ∧ (y.ref : Int) ∉ qs L := by
    rcases he with h | h
    · exact .inl h
    · exact .inr ⟨h, fun hm => hw ⟨h, hm⟩⟩
  have ho : ∀ z ∈ C1 ++ y :: C2, (z.x.a0 && z.x.a1) = false := fun z hz => (h.cs z hz).op
  have qopen : (y.ref : Int) ∈ qs L → y.x.a1 = false := fun hq => by
    obtain ⟨z, hz, hz1, hz2⟩ := h.queue _ hq
    have : z.ref = y.ref := by omega
    obtain ⟨g1, g2⟩ := cmap_oneG h.crefs
    rcases List.mem_append.1 hz with hz | hz
    · exact absurd this (g1 z hz)
    · rcases List.mem_cons.1 hz with rfl | hz
      · exact hz2
      · exact absurd this (g2 z hz)
  have hI : ∃ b, en = endI b ∧ decide (en = 1) = b := by
    rcases he with rfl | rfl
    · exact ⟨false, rfl, rfl⟩
    · exact ⟨true, rfl, rfl⟩
  obtain ⟨b, hI, hd⟩ := hI
  rw [hd]
  have hq : (y.ref : Int) ∈ qs L → (y.x.close b).1.a1 = false := fun hm => by
    have h1 := qopen hm
    rcases he' with h0 | ⟨_, h0⟩
    · have : b = false := by rw [← hd, h0]; rfl
      subst this
      rw [close_other0]
      exact h1
    · exact absurd hm h0
  have hN : ∀ W, Fr [] w W → Calls Tryz.prog 57 #[.pointer (some ⟨B.n, 0, none⟩), .int .i64 y.ref, .int .i64 en] W fun e w' => e = .returned (.int .i64 (y.x.close b).2) ∧ (∃ own', NetG w' own' B L (hangToG C1 C2 y (y.x.close b).1) G ∧ Ext w own own' ∧ FrO own netO w w') := fun W hf => by
    rw [hI]
    refine (hang_g b W (h.new hf) hq).mono ?_
    rintro e w' ⟨rfl, own', hn, hE, hF⟩
    exact ⟨rfl, own', hn, fun x hx => hE x (Nat.lt_of_lt_of_le hx hf.size), (FrO.new hf).trans hF (Ext.refl _ _)⟩
  refine (netHangG_at w h hG he' hN).mono ?_
  rintro e w' ⟨rfl, own', hn, hE, hF⟩
  refine ⟨own', _, rfl, ?_, hn, hE, hF⟩
  show (⟨L.map LB.pl, _⟩ : NG) = ⟨L.map LB.pl, hangL ((C1 ++ y :: C2).map CG.pg) y.ref b⟩
  rw [hang_plainG b h.crefs ho]
end Go.Proofs.YtmdhlodafjpnmaaGreat
