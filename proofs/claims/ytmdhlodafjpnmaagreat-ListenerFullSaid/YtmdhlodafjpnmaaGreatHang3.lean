/- Contract of listener's hang: an end of a connection is closed, and the connection is forgotten if both are. -/
/- Contract of listener's hang at the end 1: it is closed, and the connection is forgotten if both ends are. -/
/- Hang of a connection's end 1 over a net in memory. -/
/- Contract of listener's hang at either end, open or closed, and of listener's Hang over a net in memory. -/
import Derived.Test.YtmdhlodafjpnmaaGreatDup2
import Derived.Defers
import Derived.BigRegion
import Derived.Recover
import Derived.Deep.CutRange
import Derived.Test.YtmdhlodafjpnmaaGreatAccept
namespace Go.Proofs.YtmdhlodafjpnmaaGreat
open Go.RowKit
open Go.Maps (Keyed)
set_option linter.unusedVariables false
set_option maxRecDepth 100000
set_option maxHeartbeats 4000000

section
variable {P : Nat → Prop} {n cm d c D N K : Nat} {conn : Int} {f1 f2 : List (Value × Value)} (w : World)

/-- What is deferred: where not both ends are closed, nothing. -/
theorem hangEnd_no {a0 a1 : Bool} (u : FrameMode) (h : DupS w P d c a0 a1) (ha : (a0 && a1) = false) (hD : w.cell? ⟨D, 0, none⟩ = some (.pointer (some ⟨d, 0, none⟩))) :
    CallsD Tryz.prog 102 #[.pointer (some ⟨D, 0, none⟩), .pointer (some ⟨N, 0, none⟩), .pointer (some ⟨K, 0, none⟩)] u w fun e u' w' => u' = u ∧ (e = .returned (.tuple #[]) ∧ w = w') := by
  have H0 := Lib.hid (dupClosed_0 w h)
  have H1 := Lib.hid (dupClosed_1 w h)
  clear h
  cases a0
  · go_enter_d Tryz.func102, Tryz.ntmps102
    go_wp2_with (first
      | (refine H0.out.mono ?_; rintro e w' ⟨rfl, rfl⟩)
      | (refine H1.out.mono ?_; rintro e w' ⟨rfl, rfl⟩))
    go_end0
    exact ⟨rfl, rfl⟩
  · cases a1
    · go_enter_d Tryz.func102, Tryz.ntmps102
      go_wp2_with fail
      refine H0.out.mono ?_
      rintro e w' ⟨rfl, rfl⟩
      go_wp2_with fail
      refine H1.out.mono ?_
      rintro e w' ⟨rfl, rfl⟩
      go_wp2
      go_end0
      exact ⟨rfl, rfl⟩
    · cases ha
theorem hangEnd_yes (u : FrameMode) (h : DupS w P d c true true) (hD : w.cell? ⟨D, 0, none⟩ = some (.pointer (some ⟨d, 0, none⟩))) (hN : w.cell? ⟨N, 0, none⟩ = some (.pointer (some ⟨n, 0, none⟩))) (hK : w.cell? ⟨K, 0, none⟩ = some (.int .i64 conn))
    (hn : w.cell? ⟨n, 2, none⟩ = some (.map (some cm))) (hm : MapIs Tryz.prog 3 w cm (f1 ++ (.int .i64 conn, .pointer (some ⟨d, 0, none⟩)) :: f2)) :
    CallsD Tryz.prog 102 #[.pointer (some ⟨D, 0, none⟩), .pointer (some ⟨N, 0, none⟩), .pointer (some ⟨K, 0, none⟩)] u w fun e u' w' => u' = u ∧ (e = .returned (.tuple #[]) ∧ MapIs Tryz.prog 3 w' cm (f1 ++ f2) ∧ Fr [cm] w w') := by
  have H0 := Lib.hid (dupClosed_0 w h)
  have H1 := Lib.hid (dupClosed_1 w h)
  clear h
  obtain ⟨w2, hrun, hm2, g2⟩ := (show MapIs Tryz.prog 3 w.drew cm _ from hm).del (T := 0) keyInt (t := 51) (e := 55) Tryz.underlying51
  clear hm
  go_enter_d Tryz.func102, Tryz.ntmps102
  go_wp2_with fail
  refine H0.out.mono ?_
  rintro e w' ⟨rfl, rfl⟩
  go_wp2_with fail
  refine H1.out.mono ?_
  rintro e w' ⟨rfl, rfl⟩
  go_wp2
  go_region
  go_wp2
  go_end0
  exact ⟨rfl, hm2, (((Fr.refl [] w).drew).mono (fun x hx => by cases hx)).trans g2 (fun x hx _ => hx)⟩
end
end Go.Proofs.YtmdhlodafjpnmaaGreat
namespace Go.Proofs.YtmdhlodafjpnmaaGreat
open Go.RowKit
open Go.Maps (Keyed)
set_option linter.unusedVariables false
set_option maxRecDepth 100000
set_option maxHeartbeats 4000000

/-- What hang leaves: the ends that are closed; the connection is forgotten if both are. -/
def HangPost (P : Nat → Prop) (cm d c : Nat) (conn : Int) (f1 f2 : List (Value × Value)) (b0 b1 : Bool) (w : World) (e : Ending) (w' : World) : Prop :=
  e = .returned (.int .i64 0) ∧ MapIs Tryz.prog 3 w' cm (if b0 && b1 then f1 ++ f2 else f1 ++ (.int .i64 conn, .pointer (some ⟨d, 0, none⟩)) :: f2) ∧ ((b0 && b1) = false → DupS w' (fun x => P x ∨ w.heap.size ≤ x) d c b0 b1) ∧ ∃ S, Fr S w w' ∧ ∀ x ∈ S, P x ∨ x = cm

section
variable {P : Nat → Prop} {n cm d c : Nat} {conn : Int} {f1 f2 : List (Value × Value)} (w : World)

theorem hang_open1 {a0 : Bool} (h2 : w.cell? ⟨n, 2, none⟩ = some (.map (some cm))) (hm : MapIs Tryz.prog 3 w cm (f1 ++ (.int .i64 conn, .pointer (some ⟨d, 0, none⟩)) :: f2)) (hd : DupS w P d c a0 false) (hn : ¬ P n) (hcm : ¬ P cm) :
    Calls Tryz.prog 57 #[.pointer (some ⟨n, 0, none⟩), .int .i64 conn, .int .i64 1] w (HangPost P cm d c conn f1 f2 a0 true w) := by
  have hmf : ∀ (fn : Fn) (first cap : Array Value) (w : World), (Instr.makeFunc fn first cap).run Tryz.prog w = .ok (.func fn first cap) w := fun _ _ _ _ => rfl
  have nl := cell_lt h2
  have cl := hm.lt
  have gB : Fr [] w ((w.alloc (.cells #[.pointer (some ⟨n, 0, none⟩)] 24)).alloc (.cells #[.int .i64 conn] 3)) := ((Fr.refl [] w).alloc _).alloc _
  have k2 := gB.keep h2 (by simp)
  have hlk : ∀ W, MapIs Tryz.prog 3 W cm (f1 ++ (.int .i64 conn, .pointer (some ⟨d, 0, none⟩)) :: f2) → (Instr.lookup 51 (.map (some cm)) (.int .i64 conn) false).run Tryz.prog W = .ok (.pointer (some ⟨d, 0, none⟩)) W := fun W hW => hW.hit keyInt (t := 51) (e := 55) Tryz.underlying51 (by simp) false
  have mB := hm.keep gB (by simp)
  have l0 := hlk _ mB
  have l1 := hlk _ (show MapIs Tryz.prog 3 (((w.alloc (.cells #[.pointer (some ⟨n, 0, none⟩)] 24)).alloc (.cells #[.int .i64 conn] 3)).drew) cm _ from mB)
  have gC : Fr [] w ((((w.alloc (.cells #[.pointer (some ⟨n, 0, none⟩)] 24)).alloc (.cells #[.int .i64 conn] 3)).alloc (.cells #[.pointer none] 55)).drew) := (gB.alloc _).drew
  have k3 := gC.keep h2 (by simp)
  have l2 := hlk _ (hm.keep gC (by simp))
  have HD := Lib.hid (hd.ext (Q := fun x => P x ∧ x < w.heap.size) (fun x hx hp => ⟨hp, hx⟩))
  have HM := Lib.hid hm
  clear hlk hm hd mB
  go_enter_defers Tryz.func57, Tryz.ntmps57
  go_wp2
  go_cut [7] from 8 to 13 (fun s7 wc => ∃ D, s7 = .pointer (some ⟨D, 0, none⟩) ∧ w.heap.size ≤ D ∧ wc.cell? ⟨D, 0, none⟩ = some (.pointer (some ⟨d, 0, none⟩)) ∧ Fr [] ((w.alloc (.cells #[.pointer (some ⟨n, 0, none⟩)] 24)).alloc (.cells #[.int .i64 conn] 3)) wc)
  case first =>
    go_region
    all_goals go_wp2
    all_goals go_meet
    case' rel => skip
    all_goals exact ⟨_, rfl, by first | omega | (simp; omega), by first | exact netCell _ _ _ 0 rfl (by simp) rfl | exact (World.cell?_drew _ _).trans (netCell _ _ _ 0 rfl (by simp) rfl), by first | exact ((Fr.refl [] _).alloc _).drew | exact (((Fr.refl [] _).alloc _).setCell (by simp) _).drew⟩
  case rest =>
    obtain ⟨D, rfl, dD, kD, gC⟩ := hcut
    have hD := HD.out.new (gB.step gC)
    have HCl := Lib.hid (dupClose_1 wc hD)
    have kN : wc.cell? ⟨w.heap.size, 0, none⟩ = some (.pointer (some ⟨n, 0, none⟩)) := gC.keep (by simp) (by simp)
    have kK : wc.cell? ⟨w.heap.size + 1, 0, none⟩ = some (.int .i64 conn) := gC.keep (by simp) (by simp)
    have kn := (gB.step gC).keep h2 (by simp)
    have mC := HM.out.keep (gB.step gC) (by simp)
    clear hD l0 l1 l2
    go_wp2_with (go_at_call 103; refine HCl.out.mono ?_; rintro e w1 ⟨rfl, d1, S, g1, p1⟩)
    have gA := gB.step gC
    have z1 := gA.size
    have zB : w.heap.size + 2 ≤ wc.heap.size := by simpa using gC.size
    have hS : ∀ x, w.heap.size ≤ x → x ∉ S := fun x hx hm => by have := (p1 x hm).2; omega
    have gT : Fr S w w1 := (gA.mono (fun x hx => by cases hx)).trans g1 (fun x hx _ => hx)
    have kD1 := g1.keep kD (hS _ dD)
    have kN1 := g1.keep kN (hS _ (Nat.le_refl _))
    have kK1 := g1.keep kK (hS _ (by omega))
    have nS : n ∉ S := fun hx => hn (p1 _ hx).1
    have cS : cm ∉ S := fun hx => hcm (p1 _ hx).1
    have kn1 := g1.keep kn nS
    have mC1 := mC.keep g1 cS
    have d2 : DupS w1 (fun x => P x ∨ w.heap.size ≤ x) d c a0 true := d1.wide (fun x hx => hx.imp (fun h => h.1) (fun h => by omega))
    cases a0
    · refine leaves_cons (f := 102) (args := #[.pointer (some ⟨D, 0, none⟩), .pointer (some ⟨w.heap.size, 0, none⟩), .pointer (some ⟨w.heap.size + 1, 0, none⟩)]) (by simp) (by simp [go_sem]) ?_
      refine (hangEnd_no w1 .returning d2 rfl kD1).mono ?_
      rintro e u' w'' ⟨rfl, rfl, rfl⟩
      exact ⟨_, results_tmp rfl _ _ _, rfl, mC1, fun _ => d2, S, gT, fun x hx => .inl (p1 x hx).1⟩
    · refine leaves_cons (f := 102) (args := #[.pointer (some ⟨D, 0, none⟩), .pointer (some ⟨w.heap.size, 0, none⟩), .pointer (some ⟨w.heap.size + 1, 0, none⟩)]) (by simp) (by simp [go_sem]) ?_
      refine (hangEnd_yes w1 .returning d2 kD1 kN1 kK1 kn1 mC1).mono ?_
      rintro e u' w'' ⟨rfl, rfl, m2, f2⟩
      exact ⟨_, results_tmp rfl _ _ _, rfl, m2, (fun h => by cases h), S ++ [cm], (gT.mono (fun x hx _ => List.mem_append_left _ hx)).trans f2 (fun x hx _ => List.mem_append_right _ hx), fun x hx => by
        rcases List.mem_append.1 hx with hx | hx
        · exact .inl (p1 x hx).1
        · simp at hx; exact .inr hx⟩
end
end Go.Proofs.YtmdhlodafjpnmaaGreat
namespace Go.Proofs.YtmdhlodafjpnmaaGreat
open Go.RowKit
open Go.Maps (Keyed)
set_option linter.unusedVariables false
set_option maxRecDepth 100000
set_option maxHeartbeats 4000000

/-- What hanging the end 1 makes of a list of connections, at one place. -/
def hangAt (C1 C2 : List CB) (y : CB) : List CB := if y.a0 then C1 ++ C2 else C1 ++ { y with a1 := true } :: C2
theorem cmap_one {C1 C2 : List CB} {y : CB} (h : ((C1 ++ y :: C2).map (·.ref)).Nodup) : (∀ z ∈ C1, z.ref ≠ y.ref) ∧ (∀ z ∈ C2, z.ref ≠ y.ref) := by
  simp only [List.map_append, List.map_cons, List.nodup_append, List.nodup_cons] at h
  obtain ⟨_, ⟨h2, _⟩, h3⟩ := h
  refine ⟨fun z hz he => ?_, fun z hz he => h2 (by rw [← he]; exact List.mem_map.2 ⟨z, hz, rfl⟩)⟩
  exact h3 _ (List.mem_map.2 ⟨z, hz, rfl⟩) _ List.mem_cons_self he
theorem hang_plain {C1 C2 : List CB} {y : CB} (h : ((C1 ++ y :: C2).map (·.ref)).Nodup) (ho : ∀ z ∈ C1 ++ y :: C2, (z.a0 && z.a1) = false) :
    PN.hang ((C1 ++ y :: C2).map CB.pc) y.ref true = (hangAt C1 C2 y).map CB.pc := by
  obtain ⟨h1, h2⟩ := cmap_one h
  have same : ∀ D : List CB, (∀ z ∈ D, z.ref ≠ y.ref) → (∀ z ∈ D, (z.a0 && z.a1) = false) → (((D.map CB.pc).map fun z => if (z.ref : Int) = y.ref then PN.shutC z true else z).filter fun z => !(z.a0 && z.a1)) = D.map CB.pc := fun D hd hod => by
    rw [show ((D.map CB.pc).map fun z => if (z.ref : Int) = y.ref then PN.shutC z true else z) = D.map CB.pc by
      rw [List.map_map]
      refine List.map_congr_left fun z hz => ?_
      have := hd z hz
      show (if ((z.pc).ref : Int) = y.ref then PN.shutC z.pc true else z.pc) = z.pc
      exact if_neg (fun he => this (by have e : z.pc.ref = z.ref := rfl; omega))]
    refine List.filter_eq_self.2 fun z hz => ?_
    obtain ⟨z', hz', rfl⟩ := List.mem_map.1 hz
    simp [CB.pc, hod z' hz']
  unfold PN.hang hangAt
  rw [List.map_append, List.map_append, List.filter_append, same C1 h1 (fun z hz => ho z (by simp [hz]))]
  rw [List.map_cons, List.map_cons, List.filter_cons, same C2 h2 (fun z hz => ho z (by simp [hz]))]
  cases hy : y.a0 <;> simp [CB.pc, PN.shutC, hy]

theorem qs_ne {L : List LB} {C1 C2 : List CB} {y : CB} {k : Int} (hk : ∃ z ∈ C1 ++ y :: C2, (z.ref : Int) = k ∧ z.a1 = false) (hne : k ≠ y.ref) : ∃ z ∈ hangAt C1 C2 y, (z.ref : Int) = k ∧ z.a1 = false := by
  obtain ⟨z, hz, h1, h2⟩ := hk
  refine ⟨z, ?_, h1, h2⟩
  simp only [List.mem_append, List.mem_cons] at hz
  unfold hangAt
  split
  · rcases hz with hz | rfl | hz
    · simp [hz]
    · exact absurd h1.symm hne
    · simp [hz]
  · rcases hz with hz | rfl | hz
    · simp [hz]
    · exact absurd h1.symm hne
    · simp [hz]

theorem hang_w {own : Nat → Nat} {B : NB} {L : List LB} {C1 C2 : List CB} {y : CB} {G : Nat} (w : World) (h : NetW w own B L (C1 ++ y :: C2) G) (hy : y.a1 = false) (hq : (y.ref : Int) ∉ qs L) :
    Calls Tryz.prog 57 #[.pointer (some ⟨B.n, 0, none⟩), .int .i64 y.ref, .int .i64 1] w fun e w' => e = .returned (.int .i64 0) ∧ NetW w' (ownNew w own (4 * y.ref + 1)) B L (hangAt C1 C2 y) G ∧ FrO own (fun c => c = 0 ∨ c = 4 * y.ref + 1) w w' := by
  have hc := h.cs y (by simp)
  obtain ⟨o1, o2, o3, o4, o5⟩ := h.on
  have hm := h.net.cs
  rw [List.map_append, List.map_cons] at hm
  have hd := hc.dup
  rw [hy] at hd
  refine (hang_open1 w h.net.c2 hm hd (by simp only [o1]; omega) (by simp only [o5]; omega)).mono ?_
  rintro e w' ⟨rfl, m', d', S, hf, hS⟩
  have hE := Ext.new w own (4 * y.ref + 1)
  have hSo : ∀ z ∈ S, own z = 0 ∨ own z = 4 * y.ref + 1 := fun z hz => (hS z hz).elim .inr (fun hz => .inl (by rw [hz]; exact o5))
  obtain ⟨g1, g2⟩ := cmap_one h.crefs
  have hN : NetIs w B.n B.r B.m B.lm B.cm (L.map LB.nm) (L.map LB.ent) ((C1 ++ y :: C2).map CB.ent) := h.net
  have nS : ∀ x, own x = 0 → x ≠ B.cm → x ∉ S := fun x hx hne hm => (hS x hm).elim (fun h => by rw [h] at hx; omega) (fun h => hne h)
  obtain ⟨e1, e2, e3, e4, e5, e6, e7, e8, e9⟩ := hN.ne
  have keepC : ∀ z, z ∈ C1 ∨ z ∈ C2 → ConnW w' (ownNew w own (4 * y.ref + 1)) z := fun z hz => by
    have hne : z.ref ≠ y.ref := by rcases hz with hz | hz; exact g1 z hz; exact g2 z hz
    refine ((h.cs z (by rcases hz with hz | hz <;> simp [hz])).ext hE).keep hf (fun x hx he => ?_)
    by_cases hlx : x < w.heap.size
    · rw [hE x hlx] at he
      rcases hSo x hx with h0 | h0 <;> omega
    · rw [ownNew_ge (by omega)] at he
      omega
  refine ⟨rfl, ?_, FrO.of hf hSo⟩
  have hsub : List.Sublist ((hangAt C1 C2 y).map (·.ref)) ((C1 ++ y :: C2).map (·.ref)) := by
    unfold hangAt
    split
    · simp only [List.map_append, List.map_cons]
      exact List.Sublist.append (List.Sublist.refl _) (List.sublist_cons_self _ _)
    · simp only [List.map_append, List.map_cons]
      exact List.Sublist.refl _
  refine ⟨?_, ⟨(hE _ (cell_lt h.net.c0)).trans o1, (hE _ (cell_lt h.net.reg.c0)).trans o2, (hE _ h.net.reg.map.lt).trans o3, (hE _ h.net.ls.lt).trans o4, (hE _ h.net.cs.lt).trans o5⟩, ?_, ?_, h.refs, h.crefs.sublist hsub, h.adrs, fun k hk => qs_ne (L := L) (h.queue k hk) (fun he => hq (he ▸ hk)), h.vals, h.nl, ?_⟩
  · refine ⟨hf.keep hN.c0 (nS _ o1 (by omega)), hf.keep hN.c1 (nS _ o1 (by omega)), hf.keep hN.c2 (nS _ o1 (by omega)), hN.reg.keep hf (nS _ o2 (by omega)) (nS _ o3 (by omega)), hN.ls.keep hf (nS _ o4 (by omega)), ?_, hN.ne⟩
    have : (hangAt C1 C2 y).map CB.ent = if (y.a0 && true) then C1.map CB.ent ++ C2.map CB.ent else C1.map CB.ent ++ (.int .i64 (y.ref : Int), .pointer (some ⟨y.d, 0, none⟩)) :: C2.map CB.ent := by
      unfold hangAt
      cases y.a0 <;> simp [CB.ent]
    rw [this]
    exact m'
  · intro x hx
    refine ((h.ls x hx).ext hE).keep hf (fun z hz he => ?_)
    by_cases hlz : z < w.heap.size
    · rw [hE z hlz] at he
      rcases hSo z hz with h0 | h0 <;> omega
    · rw [ownNew_ge (by omega)] at he
      omega
  · intro z hz
    unfold hangAt at hz
    cases ha : y.a0
    · rw [ha] at hz d'
      simp only [Bool.false_eq_true, if_false, List.mem_append, List.mem_cons] at hz
      rcases hz with hz | rfl | hz
      · exact keepC z (.inl hz)
      · have d2 := d' rfl
        refine ⟨?_, hc.cap, by simp⟩
        have : DupS w' (fun x => ownNew w own (4 * y.ref + 1) x = 4 * y.ref + 1) y.d y.cap false true := d2.wide (fun x hx => by
          rcases hx with hx | hx
          · by_cases hl : x < w.heap.size
            · exact (hE x hl).trans hx
            · exact ownNew_ge (by omega)
          · exact ownNew_ge hx)
        simpa [ha] using this
      · exact keepC z (.inr hz)
    · rw [ha] at hz
      simp only [if_true, List.mem_append] at hz
      exact keepC z hz
  · have := hsub.length_le
    have hnc := h.nc
    simp only [List.length_map] at this
    omega
end Go.Proofs.YtmdhlodafjpnmaaGreat
namespace Go.Proofs.YtmdhlodafjpnmaaGreat
open Go.RowKit
open Go.Maps (Keyed)
set_option linter.unusedVariables false
set_option maxRecDepth 100000
set_option maxHeartbeats 4000000

/-- What hang leaves, whatever the end's Close answers. -/
def HangPostV (v : Int) (P : Nat → Prop) (cm d c : Nat) (conn : Int) (f1 f2 : List (Value × Value)) (b0 b1 : Bool) (w : World) (e : Ending) (w' : World) : Prop :=
  e = .returned (.int .i64 v) ∧ MapIs Tryz.prog 3 w' cm (if b0 && b1 then f1 ++ f2 else f1 ++ (.int .i64 conn, .pointer (some ⟨d, 0, none⟩)) :: f2) ∧ ((b0 && b1) = false → DupS w' (fun x => P x ∨ w.heap.size ≤ x) d c b0 b1) ∧ ∃ S, Fr S w w' ∧ ∀ x ∈ S, P x ∨ x = cm
/-- What Close does to a connection's end. -/
def ShutsTo (en v : Int) (d c : Nat) (a0 a1 b0 b1 : Bool) : Prop :=
  ∀ (P : Nat → Prop) (W : World), DupS W P d c a0 a1 → Calls Tryz.prog 103 #[.pointer (some ⟨d, 0, none⟩), .int .i64 en] W fun e W' => e = .returned (.int .i64 v) ∧ DupS W' (fun x => P x ∨ W.heap.size ≤ x) d c b0 b1 ∧ ∃ S, Fr S W W' ∧ ∀ x ∈ S, P x
theorem shuts_00 (d c : Nat) (a1 : Bool) : ShutsTo 0 0 d c false a1 true a1 := fun P W h => dupClose_0 W h
theorem shuts_10 (d c : Nat) (a0 : Bool) : ShutsTo 1 0 d c a0 false a0 true := fun P W h => dupClose_1 W h
theorem shuts_01 (d c : Nat) (a1 : Bool) : ShutsTo 0 14 d c true a1 true a1 := fun P W h => by
  refine (dupClose_shut0 W h).mono ?_
  rintro e W' ⟨rfl, rfl⟩
  exact ⟨rfl, h.wide (fun x hx => .inl hx), [], Fr.refl _ _, fun x hx => by cases hx⟩
theorem shuts_11 (d c : Nat) (a0 : Bool) : ShutsTo 1 14 d c a0 true a0 true := fun P W h => by
  refine (dupClose_shut1 W h).mono ?_
  rintro e W' ⟨rfl, rfl⟩
  exact ⟨rfl, h.wide (fun x hx => .inl hx), [], Fr.refl _ _, fun x hx => by cases hx⟩

section
variable {P : Nat → Prop} {n cm d c : Nat} {conn : Int} {f1 f2 : List (Value × Value)} (w : World)

theorem hang_gen {en v : Int} {a0 a1 b0 b1 : Bool} (hc : ShutsTo en v d c a0 a1 b0 b1) (h2 : w.cell? ⟨n, 2, none⟩ = some (.map (some cm))) (hm : MapIs Tryz.prog 3 w cm (f1 ++ (.int .i64 conn, .pointer (some ⟨d, 0, none⟩)) :: f2)) (hd : DupS w P d c a0 a1) (hn : ¬ P n) (hcm : ¬ P cm) :
    Calls Tryz.prog 57 #[.pointer (some ⟨n, 0, none⟩), .int .i64 conn, .int .i64 en] w (HangPostV v P cm d c conn f1 f2 b0 b1 w) := by
  have hmf : ∀ (fn : Fn) (first cap : Array Value) (w : World), (Instr.makeFunc fn first cap).run Tryz.prog w = .ok (.func fn first cap) w := fun _ _ _ _ => rfl
  have nl := cell_lt h2
  have cl := hm.lt
  have gB : Fr [] w ((w.alloc (.cells #[.pointer (some ⟨n, 0, none⟩)] 24)).alloc (.cells #[.int .i64 conn] 3)) := ((Fr.refl [] w).alloc _).alloc _
  have k2 := gB.keep h2 (by simp)
  have hlk : ∀ W, MapIs Tryz.prog 3 W cm (f1 ++ (.int .i64 conn, .pointer (some ⟨d, 0, none⟩)) :: f2) → (Instr.lookup 51 (.map (some cm)) (.int .i64 conn) false).run Tryz.prog W = .ok (.pointer (some ⟨d, 0, none⟩)) W := fun W hW => hW.hit keyInt (t := 51) (e := 55) Tryz.underlying51 (by simp) false
  have mB := hm.keep gB (by simp)
  have l0 := hlk _ mB
  have l1 := hlk _ (show MapIs Tryz.prog 3 (((w.alloc (.cells #[.pointer (some ⟨n, 0, none⟩)] 24)).alloc (.cells #[.int .i64 conn] 3)).drew) cm _ from mB)
  have gC : Fr [] w ((((w.alloc (.cells #[.pointer (some ⟨n, 0, none⟩)] 24)).alloc (.cells #[.int .i64 conn] 3)).alloc (.cells #[.pointer none] 55)).drew) := (gB.alloc _).drew
  have k3 := gC.keep h2 (by simp)
  have l2 := hlk _ (hm.keep gC (by simp))
  have HD := Lib.hid (hd.ext (Q := fun x => P x ∧ x < w.heap.size) (fun x hx hp => ⟨hp, hx⟩))
  have HM := Lib.hid hm
  clear hlk hm hd mB
  go_enter_defers Tryz.func57, Tryz.ntmps57
  go_wp2
  go_cut [7] from 8 to 13 (fun s7 wc => ∃ D, s7 = .pointer (some ⟨D, 0, none⟩) ∧ w.heap.size ≤ D ∧ wc.cell? ⟨D, 0, none⟩ = some (.pointer (some ⟨d, 0, none⟩)) ∧ Fr [] ((w.alloc (.cells #[.pointer (some ⟨n, 0, none⟩)] 24)).alloc (.cells #[.int .i64 conn] 3)) wc)
  case first =>
    go_region
    all_goals go_wp2
    all_goals go_meet
    case' rel => skip
    all_goals exact ⟨_, rfl, by first | omega | (simp; omega), by first | exact netCell _ _ _ 0 rfl (by simp) rfl | exact (World.cell?_drew _ _).trans (netCell _ _ _ 0 rfl (by simp) rfl), by first | exact ((Fr.refl [] _).alloc _).drew | exact (((Fr.refl [] _).alloc _).setCell (by simp) _).drew⟩
  case rest =>
    obtain ⟨D, rfl, dD, kD, gC⟩ := hcut
    have hD := HD.out.new (gB.step gC)
    have HCl := Lib.hid (hc _ wc hD)
    have kN : wc.cell? ⟨w.heap.size, 0, none⟩ = some (.pointer (some ⟨n, 0, none⟩)) := gC.keep (by simp) (by simp)
    have kK : wc.cell? ⟨w.heap.size + 1, 0, none⟩ = some (.int .i64 conn) := gC.keep (by simp) (by simp)
    have kn := (gB.step gC).keep h2 (by simp)
    have mC := HM.out.keep (gB.step gC) (by simp)
    clear hD l0 l1 l2
    go_wp2_with (go_at_call 103; refine HCl.out.mono ?_; rintro e w1 ⟨rfl, d1, S, g1, p1⟩)
    have gA := gB.step gC
    have z1 := gA.size
    have zB : w.heap.size + 2 ≤ wc.heap.size := by simpa using gC.size
    have hS : ∀ x, w.heap.size ≤ x → x ∉ S := fun x hx hm => by have := (p1 x hm).2; omega
    have gT : Fr S w w1 := (gA.mono (fun x hx => by cases hx)).trans g1 (fun x hx _ => hx)
    have kD1 := g1.keep kD (hS _ dD)
    have kN1 := g1.keep kN (hS _ (Nat.le_refl _))
    have kK1 := g1.keep kK (hS _ (by omega))
    have nS : n ∉ S := fun hx => hn (p1 _ hx).1
    have cS : cm ∉ S := fun hx => hcm (p1 _ hx).1
    have kn1 := g1.keep kn nS
    have mC1 := mC.keep g1 cS
    have d2 : DupS w1 (fun x => P x ∨ w.heap.size ≤ x) d c b0 b1 := d1.wide (fun x hx => hx.imp (fun h => h.1) (fun h => by omega))
    by_cases hb : (b0 && b1) = true
    · simp only [Bool.and_eq_true] at hb
      obtain ⟨rfl, rfl⟩ := hb
      refine leaves_cons (f := 102) (args := #[.pointer (some ⟨D, 0, none⟩), .pointer (some ⟨w.heap.size, 0, none⟩), .pointer (some ⟨w.heap.size + 1, 0, none⟩)]) (by simp) (by simp [go_sem]) ?_
      refine (hangEnd_yes w1 .returning d2 kD1 kN1 kK1 kn1 mC1).mono ?_
      rintro e u' w'' ⟨rfl, rfl, m2, f2⟩
      exact ⟨_, results_tmp rfl _ _ _, rfl, m2, (fun h => by cases h), S ++ [cm], (gT.mono (fun x hx _ => List.mem_append_left _ hx)).trans f2 (fun x hx _ => List.mem_append_right _ hx), fun x hx => by
        rcases List.mem_append.1 hx with hx | hx
        · exact .inl (p1 x hx).1
        · simp at hx; exact .inr hx⟩
    · rw [Bool.not_eq_true] at hb
      refine leaves_cons (f := 102) (args := #[.pointer (some ⟨D, 0, none⟩), .pointer (some ⟨w.heap.size, 0, none⟩), .pointer (some ⟨w.heap.size + 1, 0, none⟩)]) (by simp) (by simp [go_sem]) ?_
      refine (hangEnd_no w1 .returning d2 hb kD1).mono ?_
      rintro e u' w'' ⟨rfl, rfl, rfl⟩
      exact ⟨_, results_tmp rfl _ _ _, rfl, by rw [hb]; exact mC1, fun _ => d2, S, gT, fun x hx => .inl (p1 x hx).1⟩
end

/-- What hanging an end makes of a list of connections, at one place. -/
def hangTo (C1 C2 : List CB) (y : CB) (b0 b1 : Bool) : List CB := if b0 && b1 then C1 ++ C2 else C1 ++ { y with a0 := b0, a1 := b1 } :: C2
theorem hang_plain2 {C1 C2 : List CB} {y : CB} (e : Bool) (h : ((C1 ++ y :: C2).map (·.ref)).Nodup) (ho : ∀ z ∈ C1 ++ y :: C2, (z.a0 && z.a1) = false) :
    PN.hang ((C1 ++ y :: C2).map CB.pc) y.ref e = (hangTo C1 C2 y (y.a0 || !e) (y.a1 || e)).map CB.pc := by
  obtain ⟨h1, h2⟩ := cmap_one h
  have same : ∀ D : List CB, (∀ z ∈ D, z.ref ≠ y.ref) → (∀ z ∈ D, (z.a0 && z.a1) = false) → (((D.map CB.pc).map fun z => if (z.ref : Int) = y.ref then PN.shutC z e else z).filter fun z => !(z.a0 && z.a1)) = D.map CB.pc := fun D hd hod => by
    rw [show ((D.map CB.pc).map fun z => if (z.ref : Int) = y.ref then PN.shutC z e else z) = D.map CB.pc by
      rw [List.map_map]
      refine List.map_congr_left fun z hz => ?_
      have := hd z hz
      show (if ((z.pc).ref : Int) = y.ref then PN.shutC z.pc e else z.pc) = z.pc
      exact if_neg (fun he => this (by have e : z.pc.ref = z.ref := rfl; omega))]
    refine List.filter_eq_self.2 fun z hz => ?_
    obtain ⟨z', hz', rfl⟩ := List.mem_map.1 hz
    simp [CB.pc, hod z' hz']
  unfold PN.hang hangTo
  rw [List.map_append, List.map_append, List.filter_append, same C1 h1 (fun z hz => ho z (by simp [hz]))]
  rw [List.map_cons, List.map_cons, List.filter_cons, same C2 h2 (fun z hz => ho z (by simp [hz]))]
  cases h0 : y.a0 <;> cases h1 : y.a1 <;> cases e <;> simp [CB.pc, PN.shutC, h0, h1]

theorem hangTo_mem {C1 C2 : List CB} {y z : CB} {b0 b1 : Bool} (h : z ∈ hangTo C1 C2 y b0 b1) : z ∈ C1 ∨ z ∈ C2 ∨ (z = { y with a0 := b0, a1 := b1 } ∧ (b0 && b1) = false) := by
  unfold hangTo at h
  split at h
  · rcases List.mem_append.1 h with h | h
    · exact .inl h
    · exact .inr (.inl h)
  · rename_i hb
    rw [Bool.not_eq_true] at hb
    simp only [List.mem_append, List.mem_cons] at h
    rcases h with h | h | h
    · exact .inl h
    · exact .inr (.inr ⟨h, hb⟩)
    · exact .inr (.inl h)

theorem hang_w2 {own : Nat → Nat} {B : NB} {L : List LB} {C1 C2 : List CB} {y : CB} {G : Nat} {en v : Int} {b0 b1 : Bool} (w : World) (h : NetW w own B L (C1 ++ y :: C2) G) (hs : ShutsTo en v y.d y.cap y.a0 y.a1 b0 b1) (hq : (y.ref : Int) ∈ qs L → b1 = false) :
    Calls Tryz.prog 57 #[.pointer (some ⟨B.n, 0, none⟩), .int .i64 y.ref, .int .i64 en] w fun e w' => e = .returned (.int .i64 v) ∧ NetW w' (ownNew w own (4 * y.ref + 1)) B L (hangTo C1 C2 y b0 b1) G ∧ FrO own (fun c => c = 0 ∨ c = 4 * y.ref + 1) w w' := by
  have hc := h.cs y (by simp)
  obtain ⟨o1, o2, o3, o4, o5⟩ := h.on
  have hm := h.net.cs
  rw [List.map_append, List.map_cons] at hm
  refine (hang_gen w hs h.net.c2 hm hc.dup (by simp only [o1]; omega) (by simp only [o5]; omega)).mono ?_
  rintro e w' ⟨rfl, m', d', S, hf, hS⟩
  have hE := Ext.new w own (4 * y.ref + 1)
  have hSo : ∀ z ∈ S, own z = 0 ∨ own z = 4 * y.ref + 1 := fun z hz => (hS z hz).elim .inr (fun hz => .inl (by rw [hz]; exact o5))
  obtain ⟨g1, g2⟩ := cmap_one h.crefs
  have hN : NetIs w B.n B.r B.m B.lm B.cm (L.map LB.nm) (L.map LB.ent) ((C1 ++ y :: C2).map CB.ent) := h.net
  have nS : ∀ x, own x = 0 → x ≠ B.cm → x ∉ S := fun x hx hne hm => (hS x hm).elim (fun h => by rw [h] at hx; omega) (fun h => hne h)
  obtain ⟨e1, e2, e3, e4, e5, e6, e7, e8, e9⟩ := hN.ne
  have keepC : ∀ z, z ∈ C1 ∨ z ∈ C2 → ConnW w' (ownNew w own (4 * y.ref + 1)) z := fun z hz => by
    have hne : z.ref ≠ y.ref := by rcases hz with hz | hz; exact g1 z hz; exact g2 z hz
    refine ((h.cs z (by rcases hz with hz | hz <;> simp [hz])).ext hE).keep hf (fun x hx he => ?_)
    by_cases hlx : x < w.heap.size
    · rw [hE x hlx] at he
      rcases hSo x hx with h0 | h0 <;> omega
    · rw [ownNew_ge (by omega)] at he
      omega
  refine ⟨rfl, ?_, FrO.of hf hSo⟩
  have hsub : List.Sublist ((hangTo C1 C2 y b0 b1).map (·.ref)) ((C1 ++ y :: C2).map (·.ref)) := by
    unfold hangTo
    split
    · simp only [List.map_append, List.map_cons]
      exact List.Sublist.append (List.Sublist.refl _) (List.sublist_cons_self _ _)
    · simp only [List.map_append, List.map_cons]
      exact List.Sublist.refl _
  refine ⟨?_, ⟨(hE _ (cell_lt h.net.c0)).trans o1, (hE _ (cell_lt h.net.reg.c0)).trans o2, (hE _ h.net.reg.map.lt).trans o3, (hE _ h.net.ls.lt).trans o4, (hE _ h.net.cs.lt).trans o5⟩, ?_, ?_, h.refs, h.crefs.sublist hsub, h.adrs, ?_, h.vals, h.nl, ?_⟩
  · refine ⟨hf.keep hN.c0 (nS _ o1 (by omega)), hf.keep hN.c1 (nS _ o1 (by omega)), hf.keep hN.c2 (nS _ o1 (by omega)), hN.reg.keep hf (nS _ o2 (by omega)) (nS _ o3 (by omega)), hN.ls.keep hf (nS _ o4 (by omega)), ?_, hN.ne⟩
    have : (hangTo C1 C2 y b0 b1).map CB.ent = if (b0 && b1) then C1.map CB.ent ++ C2.map CB.ent else C1.map CB.ent ++ (.int .i64 (y.ref : Int), .pointer (some ⟨y.d, 0, none⟩)) :: C2.map CB.ent := by
      unfold hangTo
      cases b0 <;> cases b1 <;> simp [CB.ent]
    rw [this]
    exact m'
  · intro x hx
    refine ((h.ls x hx).ext hE).keep hf (fun z hz he => ?_)
    by_cases hlz : z < w.heap.size
    · rw [hE z hlz] at he
      rcases hSo z hz with h0 | h0 <;> omega
    · rw [ownNew_ge (by omega)] at he
      omega
  · intro z hz
    rcases hangTo_mem hz with hz | hz | ⟨rfl, hb⟩
    · exact keepC z (.inl hz)
    · exact keepC z (.inr hz)
    · refine ⟨(d' hb).wide (fun x hx => ?_), hc.cap, hb⟩
      rcases hx with hx | hx
      · by_cases hl : x < w.heap.size
        · exact (hE x hl).trans hx
        · exact ownNew_ge (by omega)
      · exact ownNew_ge hx
  · intro k hk
    obtain ⟨z, hz, h1, h2⟩ := h.queue k hk
    simp only [List.mem_append, List.mem_cons] at hz
    have hin : ∀ u, u ∈ C1 ∨ u ∈ C2 → u ∈ hangTo C1 C2 y b0 b1 := fun u hu => by
      unfold hangTo
      split <;> rcases hu with hu | hu <;> simp [hu]
    rcases hz with hz | rfl | hz
    · exact ⟨z, hin z (.inl hz), h1, h2⟩
    · have hb := hq (h1 ▸ hk)
      subst hb
      exact ⟨{ z with a0 := b0, a1 := false }, by unfold hangTo; simp, h1, rfl⟩
    · exact ⟨z, hin z (.inr hz), h1, h2⟩
  · have := hsub.length_le
    have hnc := h.nc
    simp only [List.length_map] at this
    omega
end Go.Proofs.YtmdhlodafjpnmaaGreat
