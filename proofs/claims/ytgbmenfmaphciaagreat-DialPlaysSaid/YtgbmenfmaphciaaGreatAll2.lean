/- Contracts of listener's Listen, Find's three ends, Pair and Connect. -/
/- Contracts of listener's Pair and Connect. -/
/- Contracts of listener's Pair where there is no room, and of Connect in general. -/
/- Contract of listener's hang at the end 1: it is closed, and the connection is forgotten if both ends are. -/
/- Contracts of listener's Listen in general. -/
/- Contracts of listener's Listen where it refuses. -/
/- Contracts of dial's New, none, fail, State, Tries, Until, Give. -/
/- Contracts of dial's New, dead and Try. -/
/- Contracts of dial's dead and Try. -/
/- The contract of dial's Try where it connects. -/
/- Contracts of the law's own to, tries, stands. -/
/- The law's examples: 'known' returns true in every world. -/
/- The law's examples: 'known' returns true in every world. -/
/- Contracts of the reference's Valid of dialings, of the law's few (one dialing) and is. -/
/- Contract of the reference's New of connections where it fails. -/
/- Contracts of the reference's Valid of dialings, and of the law's few (one dialing) and is. -/
/- Contracts of what dial.All calls: slices.IndexFunc and ContainsFunc with none, states, slices.Equal of states. -/
/- Contracts of dial's states, and of Try where no listener has the address. -/
/- Contracts of dial.All: refused nets, a dialing that is none, too many, copies of one that is refused, none at all. -/
import Derived.Test.YtgbmenfmaphciaaGreatHang
import Derived.Test.YtgbmenfmaphciaaGreatBind0
import Derived.Deep.RegionWith
import Derived.Deep.CutRange
import Derived.Test.YtgbmenfmaphciaaGreatBacklog2
import Derived.Recover
import Derived.WalkMore
namespace Go.Proofs.YtgbmenfmaphciaaGreat
set_option linter.unusedVariables false
set_option linter.unusedSimpArgs false
set_option linter.unusedSectionVars false
open Go.RowKit
open Go.Maps (Keyed)
set_option linter.unusedVariables false
section
variable {n r m lm cm : Nat} {names ls cs : List (Value × Value)}
theorem netFind_hit (s : ByteArray) (p v : Int) (w : World) (h : NetIs w n r m lm cm names ls cs) (hs : s.size ≤ 1000000) (hv : addrB s.data.toList p = true) (hx : (addrV s p, .int .i64 v) ∈ names) :
  Calls Tryz.prog 99 #[.pointer (some ⟨n, 0, none⟩), .agg #[.string s, .int .i64 p]] w fun e w' => e = .returned (.tuple #[.int .i64 v, .int .i64 0]) ∧ Fr [] w w' :=
 netFind_core s p v 0 w h (fun W hW => regLookup_hit r m names s p W hW hs hv v hx)
theorem netFind_miss (s : ByteArray) (p : Int) (w : World) (h : NetIs w n r m lm cm names ls cs) (hs : s.size ≤ 1000000) (hv : addrB s.data.toList p = true) (hx : ∀ x ∈ names, x.1 ≠ addrV s p) :
  Calls Tryz.prog 99 #[.pointer (some ⟨n, 0, none⟩), .agg #[.string s, .int .i64 p]] w fun e w' => e = .returned (.tuple #[.int .i64 0, .int .i64 9]) ∧ Fr [] w w' :=
 netFind_core s p 0 9 w h (fun W hW => regLookup_miss r m names s p W hW hs hv hx)
theorem netFind_bad (s : ByteArray) (p : Int) (w : World) (h : NetIs w n r m lm cm names ls cs) (hs : s.size ≤ 1000000) (hv : addrB s.data.toList p = false) :
  Calls Tryz.prog 99 #[.pointer (some ⟨n, 0, none⟩), .agg #[.string s, .int .i64 p]] w fun e w' => e = .returned (.tuple #[.int .i64 0, .int .i64 2]) ∧ Fr [] w w' :=
 netFind_core s p 0 2 w h (fun W hW => regLookup_bad r m names s p W hW hs hv)
end
theorem Fr.behind {S : List Nat} {a b : World} {n : Nat} (h : Fr S (a.drewN n) b) : Fr S a b := ⟨h.os, h.tape, h.output, h.size, h.block⟩
set_option maxRecDepth 100000 in
set_option maxHeartbeats 4000000 in
theorem netListen_ok (n r m lm cm : Nat) (names ls cs : List (Value × Value)) (s : ByteArray) (p most : Int) (k : Nat) (w : World) (h : NetIs w n r m lm cm names ls cs) (hs : s.size ≤ 1000000) (hv : addrB s.data.toList p = true) (hp : (p == 0) = false)
  (h1 : ¬ most < 1) (h2 : ¬ 128 < most) (hxn : ∀ x ∈ names, x.1 ≠ addrV s p) (hln : ¬ (128 ≤ (names.length : Int))) (hk : ∀ j : Nat, j < k → ∃ b' s' p', (.int .i64 j, qV b' s' p') ∈ ls) (hxl : ∀ x ∈ ls, x.1 ≠ .int .i64 k) (hk' : k ≤ 100000) :
  Calls Tryz.prog 15 #[.pointer (some ⟨n, 0, none⟩), .agg #[.string s, .int .i64 p], .int .i64 most] w fun e w' => ∃ b q mm t, e = .returned (.tuple #[.int .i64 k, .agg #[.string s, .int .i64 p], .int .i64 0]) ∧ NetIs w' n r m lm cm (names ++ [(addrV s p, .int .i64 k)]) (ls ++ [(.int .i64 k, qV b s p)]) cs ∧ BackIs w' b q mm t most false [] 0 ∧ Fr [m, lm] w w' ∧ w.heap.size ≤ b ∧ w.heap.size ≤ q ∧ w.heap.size ≤ mm ∧ w.heap.size ≤ t := by
 have f0 : Fr [] w ((w.alloc (.cells #[.string s, .int .i64 p] 36)).alloc (.cells #[.string ⟨#[]⟩, .int .i64 0] 36)) := ((Fr.refl [] w).alloc _).alloc _
 have h0 := h.new f0
 have HV := Lib.hid hv
 have HXN := Lib.hid hxn
 have HXL := Lib.hid hxl
 have HK := Lib.hid hk
 have hne := h.ne
 have hnlt := cell_lt h.c0
 have hrlt := cell_lt h.reg.c0
 have hmlt := h.reg.map.lt
 have hllt := h.ls.lt
 have hclt := h.cs.lt
 clear hv hxn hxl hk
 go_enter Tryz.func15, Tryz.ntmps15
 go_wp2_with (first
  | (go_at_call 49; refine (netNone_any _ h0).mono ?_; rintro e w' ⟨rfl, rfl⟩)
  | (go_at_call 50; refine (backNew_ok most _ (by omega) (by omega)).mono ?_; rintro e w1 ⟨b, q, mm, t, rfl, hb1, f1, l1, l2, l3, l4⟩; simp only [World.size_alloc] at l1 l2 l3 l4; have k0 : w1.cell? ⟨w.heap.size, 0, none⟩ = some (.string s) := f1.keep (by simp) (by simp); have k1 : w1.cell? ⟨w.heap.size, 1, none⟩ = some (.int .i64 p) := f1.keep (by simp) (by simp))
  | (go_at_call 37; refine (valid_any s p hs _).mono ?_; rintro e w2 ⟨rfl, f2⟩; rw [HV.out]; have k0 := f2.keep k0 (by simp); have k1 := f2.keep k1 (by simp); have j0 : w2.cell? ⟨n, 0, none⟩ = some (.pointer (some ⟨r, 0, none⟩)) := ((h0.new f1).new f2).c0))
 have n2 := (h0.new f1).new f2
 have b2 := hb1.keep f2 (by simp) (by simp) (by simp) (by simp)
 clear k0 k1
 have k0 : w2.cell? ⟨w.heap.size, 0, none⟩ = some (.string s) := (f1.step f2).keep (by simp) (by simp)
 have k1 : w2.cell? ⟨w.heap.size, 1, none⟩ = some (.int .i64 p) := (f1.step f2).keep (by simp) (by simp)
 have n3 := n2.new ((Fr.refl [] w2).alloc (.cells #[.string ⟨#[]⟩, .int .i64 0] 36))
 have c3 := n3.c0
 have k3 : (w2.alloc (.cells #[.string ⟨#[]⟩, .int .i64 0] 36)).cell? ⟨w.heap.size, 0, none⟩ = some (.string s) := ((Fr.refl [] w2).alloc _).keep k0 (by simp)
 have k4 : (w2.alloc (.cells #[.string ⟨#[]⟩, .int .i64 0] 36)).cell? ⟨w.heap.size, 1, none⟩ = some (.int .i64 p) := ((Fr.refl [] w2).alloc _).keep k1 (by simp)
 have z2 : w.heap.size + 2 ≤ w2.heap.size := by simpa using (f1.step f2).size
 go_cut [10, 11] from 29 to 37 (fun s10 s11 wc => ∃ c, s10 = .int .i64 0 ∧ s11 = .pointer (some ⟨c, 0, none⟩) ∧ wc.cell? ⟨c, 0, none⟩ = some (.string s) ∧ wc.cell? ⟨c, 1, none⟩ = some (.int .i64 p) ∧ RegIs wc r m (names ++ [(addrV s p, .int .i64 0)]) ∧ Fr [m] w2 wc ∧ w2.heap.size ≤ c)
 case first => --D
  go_region_with (go_at_call 51; first
   | (refine (regBind_ok r m names s p 0 _ (n2.reg.drewN 1) hs HV.out hp (by omega) HXN.out (by omega)).mono ?_; rintro e w3 ⟨rfl, rg3, f3⟩; have g3 : Fr [m] w2 w3 := (((Fr.refl [] w2).drewN _).mono (fun x hx => by cases hx)).trans f3 (fun x hx _ => hx); clear f3)
   | (refine (regBind_ok r m names s p 0 _ (n3.reg.drewN 1) hs HV.out hp (by omega) HXN.out (by omega)).mono ?_; rintro e w3 ⟨rfl, rg3, f3⟩; have g3 : Fr [m] w2 w3 := ((((Fr.refl [] w2).alloc _).drewN _).mono (fun x hx => by cases hx)).trans f3 (fun x hx _ => hx); have i0 : w3.cell? ⟨w2.heap.size, 0, none⟩ = some (.string ⟨#[]⟩) := f3.keep (by simp) (by simp; omega); have i1 : w3.cell? ⟨w2.heap.size, 1, none⟩ = some (.int .i64 0) := f3.keep (by simp) (by simp; omega); have ifz : ∀ o, w3.frozen? ⟨w2.heap.size, o, none⟩ = false := (fun o => by rw [f3.frozen (by simp) (by simp; omega)]; simp); clear f3))
  all_goals go_wp2
  all_goals go_meet
  case' rel => skip
  all_goals first
   | exact ⟨_, rfl, rfl, by simp, by simp, rg3.keep ((Fr.refl [] w3).alloc _) (by simp) (by simp), g3.alloc _, g3.size⟩
   | exact ⟨_, rfl, rfl, (World.cell?_setCell_other _ _ _ _ (by simp)).trans (World.cell?_setCell_same _ _ _ i0), World.cell?_setCell_same _ _ _ ((World.cell?_setCell_other _ _ _ _ (by simp)).trans i1), rg3.keep (S := [w2.heap.size]) (((Fr.refl _ _).setCell (fun _ => by simp) _).setCell (fun _ => by simp) _) (by simp; omega) (by simp; omega), (g3.setCell (by simp) _).setCell (by simp) _, Nat.le_refl _⟩
 case rest =>
  obtain ⟨c, rfl, rfl, q0, q1, rg3, g3, hc⟩ := hcut
  have x0 := g3.keep n2.c0 (by simp; omega)
  have x1 := g3.keep n2.c1 (by simp; omega)
  have b3 := b2.keep g3 (by simp; omega) (by simp; omega) (by simp; omega) (by simp; omega)
  have ml3 := n2.ls.keep g3 (by simp; omega)
  go_wp2
  go_cut [12] from 42 to 49 (fun s12 wd => s12 = .int .i64 k ∧ MapIs Tryz.prog 3 wd lm (ls ++ [(.int .i64 k, qV b s p)]) ∧ Fr [lm] wc wd)
  case first => --D
   go_region_with (go_at_call 52; refine (addQ lm ls k b s p _ (ml3.drewN 1) HK.out HXL.out hk').mono ?_; rintro e w4 ⟨rfl, ml4, f4⟩)
   all_goals go_wp2
   all_goals go_meet
   case' rel => skip
   all_goals exact ⟨rfl, ml4, f4.behind⟩
  case rest =>
   obtain ⟨rfl, ml4, g4⟩ := hcut
   have y0 := g4.keep x0 (by simp; omega)
   have p0 := g4.keep q0 (by simp; omega)
   have p1 := g4.keep q1 (by simp; omega)
   have rg4 := rg3.keep g4 (by simp; omega) (by simp; omega)
   have b4 := b3.keep g4 (by simp; omega) (by simp; omega) (by simp; omega) (by simp; omega)
   clear q0 q1 x0
   go_wp2
   go_cut [] from 50 to 55 (fun wd => RegIs wd r m (names ++ []) ∧ Fr [m] wc wd)
   case first => --D
    go_region_with (go_at_call 53; refine (regRelease_hit r m names [] s p 0 _ (rg4.drewN 1) hs HV.out).mono ?_; rintro e w5 ⟨rfl, rg5, f5⟩)
    all_goals go_wp2
    all_goals go_meet
    case' rel => skip
    all_goals exact ⟨rg5, f5.behind⟩
   case rest =>
    obtain ⟨rg5, g5⟩ := hcut
    rw [List.append_nil] at rg5
    have v0 := g5.keep y0 (by simp; omega)
    have r0 := g5.keep p0 (by simp; omega)
    have r1 := g5.keep p1 (by simp; omega)
    have ml5 := ml4.keep g5 (by simp; omega)
    have b5 := b4.keep g5 (by simp; omega) (by simp; omega) (by simp; omega) (by simp; omega)
    clear y0 p0 p1
    go_wp2
    go_cut [] from 56 to 62 (fun wd => RegIs wd r m (names ++ [(addrV s p, .int .i64 k)]) ∧ Fr [m] wc wd)
    case first => --D
     go_region_with (go_at_call 51; refine (regBind_ok r m names s p k _ (rg5.drewN 1) hs HV.out hp (by omega) HXN.out (by omega)).mono ?_; rintro e w6 ⟨rfl, rg6, f6⟩)
     all_goals go_wp2
     all_goals go_meet
     case' rel => skip
     all_goals exact ⟨rg6, f6.behind⟩
    case rest =>
     obtain ⟨rg6, g6⟩ := hcut
     have s0 := g6.keep r0 (by simp; omega)
     have s1 := g6.keep r1 (by simp; omega)
     have ml6 := ml5.keep g6 (by simp; omega)
     have b6 := b5.keep g6 (by simp; omega) (by simp; omega) (by simp; omega) (by simp; omega)
     have fB := ((((f1.step f2).mono (T := [m, lm]) (fun x hx => by cases hx)).trans g3 (fun x hx _ => by simp at hx; simp [hx])).trans g4 (fun x hx _ => by simp at hx; simp [hx])).trans (g5.trans g6 (fun x hx _ => hx)) (fun x hx _ => by simp at hx; simp [hx])
     have fA : Fr [m, lm] w wc := (f0.mono (T := [m, lm]) (fun x hx => by cases hx)).trans fB (fun x hx _ => hx)
     have t0 : wc.cell? ⟨w.heap.size + 1, 0, none⟩ = some (.string ⟨#[]⟩) := fB.keep (by simp) (by simp; omega)
     have t1 : wc.cell? ⟨w.heap.size + 1, 1, none⟩ = some (.int .i64 0) := fB.keep (by simp) (by simp; omega)
     have tf : ∀ o, wc.frozen? ⟨w.heap.size + 1, o, none⟩ = false := fun o => by rw [fB.frozen (by simp) (by simp; omega)]; simp
     have n6 : NetIs wc n r m lm cm (names ++ [(addrV s p, .int .i64 k)]) (ls ++ [(.int .i64 k, qV b s p)]) cs :=
      ⟨fA.keep h.c0 (by simp; omega), fA.keep h.c1 (by simp; omega), fA.keep h.c2 (by simp; omega), rg6, ml6, h.cs.keep fA (by simp; omega), hne⟩
     clear fB
     go_wp2
     go_region
     go_wp2
     have fE : Fr [w.heap.size + 1] wc ((wc.setCell ⟨w.heap.size + 1, 0, none⟩ (.string s)).setCell ⟨w.heap.size + 1, 1, none⟩ (.int .i64 p)).drew := (((Fr.refl _ wc).setCell (fun _ => by simp) _).setCell (fun _ => by simp) _).drew
     refine bodyPost_ret (v := .tuple #[.int .i64 k, .agg #[.string s, .int .i64 p], .int .i64 0]) (by simp [results, Tryz.results15, go_sem, t0, t1]) rfl ⟨b, q, mm, t, rfl, ?_, ?_, ?_, by omega, by omega, by omega, by omega⟩
     ·exact n6.keep fE (by simp; omega) (by simp; omega) (by simp; omega) (by simp; omega) (by simp; omega)
     ·exact b6.keep fE (by simp; omega) (by simp; omega) (by simp; omega) (by simp; omega)
     ·exact fA.trans fE (fun x hx hl => by simp at hx; omega)
set_option maxRecDepth 100000 in
set_option maxHeartbeats 4000000 in
theorem netPair_ok (n r m lm cm : Nat) (names ls cs : List (Value × Value)) (c k : Nat) (w : World) (h : NetIs w n r m lm cm names ls cs) (hc : c ≤ 4096) (hk : ∀ j : Nat, j < k → ∃ d', (.int .i64 j, .pointer (some ⟨d', 0, none⟩)) ∈ cs) (hx : ∀ x ∈ cs, x.1 ≠ .int .i64 k) (hk' : k ≤ 100000) (hn : ¬ (128 ≤ (cs.length : Int))) :
  Calls Tryz.prog 112 #[.pointer (some ⟨n, 0, none⟩), .int .i64 c] w fun e w' => ∃ d, e = .returned (.tuple #[.int .i64 k, .int .i64 0]) ∧ NetIs w' n r m lm cm names ls (cs ++ [(.int .i64 k, .pointer (some ⟨d, 0, none⟩))]) ∧ Dup0 w' w.heap.size d c ∧ Fr [cm] w w' := by
 have c2 := h.c2
 have HK := Lib.hid hk
 have HX := Lib.hid hx
 have hne := h.ne
 have hclt := h.cs.lt
 clear hk hx
 go_enter Tryz.func112, Tryz.ntmps112
 go_wp2_with (first
  | (go_at_call 49; refine (netNone_any _ h).mono ?_; rintro e w' ⟨rfl, rfl⟩)
  | (go_at_call 36; refine (dupNew_ok c hc _).mono ?_; rintro e w1 ⟨d, rfl, hd, f1⟩; have j2 := f1.keep c2 (by simp); have hlen := (h.cs.keep f1 (by simp)).len (t := 90) (e := 103) Tryz.underlying90)
  | (go_at_call 133; refine (addD cm cs k d _ (h.cs.keep f1 (by simp)) HK.out HX.out hk').mono ?_; rintro e w2 ⟨rfl, hm2, f2⟩))
 go_ret2
 have g2 : Fr [cm] w w2 := (f1.mono (fun x hx => by cases hx)).trans f2 (fun x hx _ => hx)
 exact ⟨d, rfl, ⟨g2.keep h.c0 (by simp; omega), g2.keep h.c1 (by simp; omega), g2.keep h.c2 (by simp; omega), h.reg.keep g2 (by simp; omega) (by simp; omega), h.ls.keep g2 (by simp; omega), hm2, hne⟩, hd.keep f2 (fun x hx => by simp at hx; omega), g2⟩
section
variable (n r m lm cm : Nat) (names ls cs : List (Value × Value)) (s : ByteArray) (p : Int) (c : Nat) (w : World)
set_option maxRecDepth 100000 in
set_option maxHeartbeats 4000000 in
theorem netConnect_refused (h : NetIs w n r m lm cm names ls cs) (hs : s.size ≤ 1000000) (hv : addrB s.data.toList p = true) (hx : ∀ x ∈ names, x.1 ≠ addrV s p) (hc : c ≤ 4096) :
  Calls Tryz.prog 81 #[.pointer (some ⟨n, 0, none⟩), .agg #[.string s, .int .i64 p], .int .i64 c] w fun e w' => e = .returned (.tuple #[.int .i64 0, .int .i64 15]) ∧ Fr [] w w' := by
 have f0 : Fr [] w (w.alloc (.cells #[.string s, .int .i64 p] 36)) := (Fr.refl [] w).alloc _
 have h0 := h.new f0
 have HX := Lib.hid hx
 have HV := Lib.hid hv
 clear hx hv
 go_enter Tryz.func81, Tryz.ntmps81
 go_wp2_with (first
  | (go_at_call 99; refine (netFind_miss s p _ h0 hs HV.out HX.out).mono ?_; rintro e w1 ⟨rfl, f1⟩)
  | (go_at_call 36; refine (dupNew_ok c hc _).mono ?_; rintro e w2 ⟨d, rfl, hd, f2⟩))
 go_ret2
 exact ⟨rfl, (f0.step f1).step f2⟩
set_option maxRecDepth 100000 in
set_option maxHeartbeats 4000000 in
theorem netConnect_block (h : NetIs w n r m lm cm names ls cs) (hs : s.size ≤ 1000000) (hv : addrB s.data.toList p = true) (hc : c ≤ 4096) (v : Int) (b q mm t : Nat) (most : Int) (l : List (Nat × Int)) (g : Nat) (s' : ByteArray) (p' : Int)
  (hx : (addrV s p, .int .i64 v) ∈ names) (hl : (.int .i64 v, qV b s' p') ∈ ls) (hb : BackIs w b q mm t most false l g) (hm : 1 ≤ most) (hm' : most ≤ 128) (hfull : most = l.length) :
  Calls Tryz.prog 81 #[.pointer (some ⟨n, 0, none⟩), .agg #[.string s, .int .i64 p], .int .i64 c] w fun e w' => e = .returned (.tuple #[.int .i64 0, .int .i64 16]) ∧ Fr [] w w' := by
 have f0 : Fr [] w (w.alloc (.cells #[.string s, .int .i64 p] 36)) := (Fr.refl [] w).alloc _
 have h0 := h.new f0
 have HX := Lib.hid hx
 have HV := Lib.hid hv
 have HL := Lib.hid hl
 have HF := Lib.hid hfull
 have HB := Lib.hid hb
 clear hx hv hl hfull hb
 have hfd : ∀ W : World, (Instr.field 130 (.agg #[.pointer (some ⟨b, 0, none⟩), .string s', .int .i64 p']) 0).run Tryz.prog W = .ok (.pointer (some ⟨b, 0, none⟩)) W := fun W => by kernel_rfl
 go_enter Tryz.func81, Tryz.ntmps81
 go_wp2_with (first
  | (go_at_call 99; refine (netFind_hit s p v _ h0 hs HV.out HX.out).mono ?_; rintro e w1 ⟨rfl, f1⟩)
  | (go_at_call 36; refine (dupNew_ok c hc _).mono ?_; rintro e w2 ⟨d, rfl, hd, f2⟩; have j1 : w2.cell? ⟨n, 1, none⟩ = some (.map (some lm)) := ((h0.new f1).new f2).c1; have hlk : (Instr.lookup 88 (.map (some lm)) (.int .i64 v) false).run Tryz.prog w2 = .ok (.agg #[.pointer (some ⟨b, 0, none⟩), .string s', .int .i64 p']) w2 := ((h0.new f1).new f2).ls.hit keyInt (t := 88) (e := 130) Tryz.underlying88 HL.out false)
  | (go_at_call 111; refine (backRoom_any b q mm t most l g _ (((HB.out.keep f0 (by simp) (by simp) (by simp) (by simp)).keep f1 (by simp) (by simp) (by simp) (by simp)).keep f2 (by simp) (by simp) (by simp) (by simp)) (by omega) hm' (by have := HF.out; omega)).mono ?_; rintro e w3 ⟨rfl, nn, rfl⟩; rw [show most - (l.length : Int) = 0 by have := HF.out; omega]))
 go_ret2
 exact ⟨rfl, ((f0.step f1).step f2).drewN _⟩
set_option maxRecDepth 100000 in
set_option maxHeartbeats 4000000 in
theorem netConnect_first (h : NetIs w n r m lm cm names ls cs) (hs : s.size ≤ 1000000) (hv : addrB s.data.toList p = true) (hc : c ≤ 4096) (v : Int) (b q mm t : Nat) (most : Int) (g k : Nat) (s' : ByteArray) (p' : Int)
  (hx : (addrV s p, .int .i64 v) ∈ names) (hl : (.int .i64 v, qV b s' p') ∈ ls) (hb : BackIs w b q mm t most false [] g) (hm : 1 ≤ most) (hm' : most ≤ 128) (hg : g < 4611686018427387904)
  (hk : ∀ j : Nat, j < k → ∃ d', (.int .i64 j, .pointer (some ⟨d', 0, none⟩)) ∈ cs) (hxk : ∀ x ∈ cs, x.1 ≠ .int .i64 k) (hk' : k ≤ 100000) (hn : ¬ (128 ≤ (cs.length : Int)))
  (hsep : ∀ x ∈ [b, q, mm, t], x ∉ [n, r, m, lm, cm]) :
  Calls Tryz.prog 81 #[.pointer (some ⟨n, 0, none⟩), .agg #[.string s, .int .i64 p], .int .i64 c] w fun e w' => ∃ d, e = .returned (.tuple #[.int .i64 k, .int .i64 0]) ∧ NetIs w' n r m lm cm names ls (cs ++ [(.int .i64 k, .pointer (some ⟨d, 0, none⟩))]) ∧ BackIs w' b q mm t most false [(g + 1, (k : Int))] (g + 1) ∧ Dup0 w' w.heap.size d c ∧ Fr [cm, q, mm, t] w w' := by
 have f0 : Fr [] w (w.alloc (.cells #[.string s, .int .i64 p] 36)) := (Fr.refl [] w).alloc _
 have h0 := h.new f0
 simp only [List.mem_cons, List.not_mem_nil, or_false, forall_eq_or_imp, forall_eq, not_or] at hsep
 obtain ⟨⟨b1, b2, b3, b4, b5⟩, ⟨q1, q2, q3, q4, q5⟩, ⟨m1, m2, m3, m4, m5⟩, ⟨t1, t2, t3, t4, t5⟩⟩ := hsep
 have z1 := cell_lt hb.c0
 have z2 := cell_lt hb.queue.c0
 obtain ⟨f', hbm, _⟩ := hb.queue.nodes
 obtain ⟨ff, hmt, _⟩ := hb.tickets
 have z3 := hmt.lt
 have z4 := hbm.lt
 clear hmt hbm
 have HX := Lib.hid hx
 have HV := Lib.hid hv
 have HL := Lib.hid hl
 have HB := Lib.hid hb
 have HK := Lib.hid hk
 have HXK := Lib.hid hxk
 clear hx hv hl hb hk hxk
 have hr0 : (most == 0) = false := by rw [beq_eq_false_iff_ne]; omega
 have hfd : ∀ W : World, (Instr.field 130 (.agg #[.pointer (some ⟨b, 0, none⟩), .string s', .int .i64 p']) 0).run Tryz.prog W = .ok (.pointer (some ⟨b, 0, none⟩)) W := fun W => by kernel_rfl
 go_enter Tryz.func81, Tryz.ntmps81
 go_wp2_with (first
  | (go_at_call 99; refine (netFind_hit s p v _ h0 hs HV.out HX.out).mono ?_; rintro e w1 ⟨rfl, f1⟩)
  | (go_at_call 36; refine (dupNew_ok c hc _).mono ?_; rintro e w2 ⟨d, rfl, hd, f2⟩; have j1 : w2.cell? ⟨n, 1, none⟩ = some (.map (some lm)) := ((h0.new f1).new f2).c1; have hlk : (Instr.lookup 88 (.map (some lm)) (.int .i64 v) false).run Tryz.prog w2 = .ok (.agg #[.pointer (some ⟨b, 0, none⟩), .string s', .int .i64 p']) w2 := ((h0.new f1).new f2).ls.hit keyInt (t := 88) (e := 130) Tryz.underlying88 HL.out false)
  | (go_at_call 111; refine (backRoom_any b q mm t most [] g _ (((HB.out.keep f0 (by simp) (by simp) (by simp) (by simp)).keep f1 (by simp) (by simp) (by simp) (by simp)).keep f2 (by simp) (by simp) (by simp) (by simp)) (by omega) hm' (by simp)).mono ?_; rintro e w3 ⟨rfl, nn, rfl⟩; rw [show most - (([] : List (Nat × Int)).length : Int) = most by simp])
  | (go_at_call 112; refine (netPair_ok n r m lm cm names ls cs c k _ (((h0.new f1).new f2).new ((Fr.refl [] w2).drewN nn)) hc HK.out HXK.out hk' (by omega)).mono ?_; rintro e w4 ⟨d4, rfl, n4, hd4, f4⟩; have j4 : w4.cell? ⟨n, 1, none⟩ = some (.map (some lm)) := n4.c1; have hlk4 : (Instr.lookup 88 (.map (some lm)) (.int .i64 v) false).run Tryz.prog w4 = .ok (.agg #[.pointer (some ⟨b, 0, none⟩), .string s', .int .i64 p']) w4 := n4.ls.hit keyInt (t := 88) (e := 130) Tryz.underlying88 HL.out false)
  | (go_at_call 113; refine (backPush_empty b q mm t most g k _ ((((HB.out.keep f0 (by simp) (by simp) (by simp) (by simp)).keep f1 (by simp) (by simp) (by simp) (by simp)).keep f2 (by simp) (by simp) (by simp) (by simp)).drewN nn |>.keep f4 (by simp; omega) (by simp; omega) (by simp; omega) (by simp; omega)) hm hm' hg (by omega) (by omega)).mono ?_; rintro e w5 ⟨rfl, hb5, f5⟩))
 go_ret2
 have e1 := f0.size
 have e2 := f1.size
 have e3 := f2.size
 have gA : Fr [] w (w2.drewN nn) := ((f0.step f1).step f2).drewN nn
 have g4 : Fr [cm, q, mm, t] w w4 := (gA.mono (T := [cm, q, mm, t]) (fun x hx => by cases hx)).trans f4 (fun x hx _ => by simp at hx; simp [hx])
 have g5 := g4.trans f5 (fun x hx _ => by simp at hx; simp; omega)
 refine ⟨d4, rfl, n4.keep f5 (by simp; omega) (by simp; omega) (by simp; omega) (by simp; omega) (by simp; omega), hb5, (hd4.less ?_).keep f5 (fun x hx => by simp at hx; omega), g5⟩
 exact gA.size
end
set_option maxRecDepth 100000 in
set_option maxHeartbeats 4000000 in
theorem netPair_full (n r m lm cm : Nat) (names ls cs : List (Value × Value)) (c : Nat) (w : World) (h : NetIs w n r m lm cm names ls cs) (hc : c ≤ 4096) (hn : 128 ≤ (cs.length : Int)) :
  Calls Tryz.prog 112 #[.pointer (some ⟨n, 0, none⟩), .int .i64 c] w fun e w' => e = .returned (.tuple #[.int .i64 0, .int .i64 7]) ∧ Fr [] w w' := by
 have c2 := h.c2
 go_enter Tryz.func112, Tryz.ntmps112
 go_wp2_with (first
  | (go_at_call 49; refine (netNone_any _ h).mono ?_; rintro e w' ⟨rfl, rfl⟩)
  | (go_at_call 36; refine (dupNew_ok c hc _).mono ?_; rintro e w1 ⟨d, rfl, hd, f1⟩; have j2 := f1.keep c2 (by simp); have hlen := (h.cs.keep f1 (by simp)).len (t := 90) (e := 103) Tryz.underlying90))
 go_ret2
 exact ⟨rfl, f1⟩
section
variable (n r m lm cm : Nat) (names ls cs : List (Value × Value)) (s : ByteArray) (p : Int) (c : Nat) (w : World)
set_option maxRecDepth 100000 in
set_option maxHeartbeats 4000000 in
theorem netConnect_push (h : NetIs w n r m lm cm names ls cs) (hs : s.size ≤ 1000000) (hv : addrB s.data.toList p = true) (hc : c ≤ 4096) (v : Int) (b q mm t : Nat) (most : Int) (l : List (Nat × Int)) (g k : Nat) (s' : ByteArray) (p' : Int)
  (hx : (addrV s p, .int .i64 v) ∈ names) (hl : (.int .i64 v, qV b s' p') ∈ ls) (hb : BackIs w b q mm t most false l g) (hlen : (l.length : Int) < most) (hnew : ∀ x ∈ l, x.2 ≠ (k : Int)) (hm' : most ≤ 128) (hg : g < 4611686018427387904)
  (hk : ∀ j : Nat, j < k → ∃ d', (.int .i64 j, .pointer (some ⟨d', 0, none⟩)) ∈ cs) (hxk : ∀ x ∈ cs, x.1 ≠ .int .i64 k) (hk' : k ≤ 100000) (hn : ¬ (128 ≤ (cs.length : Int)))
  (hsep : ∀ x ∈ [b, q, mm, t], x ∉ [n, r, m, lm, cm]) :
  Calls Tryz.prog 81 #[.pointer (some ⟨n, 0, none⟩), .agg #[.string s, .int .i64 p], .int .i64 c] w fun e w' => ∃ d, e = .returned (.tuple #[.int .i64 k, .int .i64 0]) ∧ NetIs w' n r m lm cm names ls (cs ++ [(.int .i64 k, .pointer (some ⟨d, 0, none⟩))]) ∧ BackIs w' b q mm t most false (l ++ [(g + 1, (k : Int))]) (g + 1) ∧ Dup0 w' w.heap.size d c ∧ Fr [cm, q, mm, t] w w' := by
 have f0 : Fr [] w (w.alloc (.cells #[.string s, .int .i64 p] 36)) := (Fr.refl [] w).alloc _
 have h0 := h.new f0
 simp only [List.mem_cons, List.not_mem_nil, or_false, forall_eq_or_imp, forall_eq, not_or] at hsep
 obtain ⟨⟨b1, b2, b3, b4, b5⟩, ⟨q1, q2, q3, q4, q5⟩, ⟨m1, m2, m3, m4, m5⟩, ⟨t1, t2, t3, t4, t5⟩⟩ := hsep
 have z1 := cell_lt hb.c0
 have z2 := cell_lt hb.queue.c0
 obtain ⟨f', hbm, _⟩ := hb.queue.nodes
 obtain ⟨ff, hmt, _⟩ := hb.tickets
 have z3 := hmt.lt
 have z4 := hbm.lt
 clear hmt hbm
 have HX := Lib.hid hx
 have HV := Lib.hid hv
 have HL := Lib.hid hl
 have HB := Lib.hid hb
 have HK := Lib.hid hk
 have HXK := Lib.hid hxk
 clear hx hv hl hb hk hxk
 have hr0 : (most - (l.length : Int) == 0) = false := by rw [beq_eq_false_iff_ne]; omega
 have HN := Lib.hid hnew
 clear hnew
 have hfd : ∀ W : World, (Instr.field 130 (.agg #[.pointer (some ⟨b, 0, none⟩), .string s', .int .i64 p']) 0).run Tryz.prog W = .ok (.pointer (some ⟨b, 0, none⟩)) W := fun W => by kernel_rfl
 go_enter Tryz.func81, Tryz.ntmps81
 go_wp2_with (first
  | (go_at_call 99; refine (netFind_hit s p v _ h0 hs HV.out HX.out).mono ?_; rintro e w1 ⟨rfl, f1⟩)
  | (go_at_call 36; refine (dupNew_ok c hc _).mono ?_; rintro e w2 ⟨d, rfl, hd, f2⟩; have j1 : w2.cell? ⟨n, 1, none⟩ = some (.map (some lm)) := ((h0.new f1).new f2).c1; have hlk : (Instr.lookup 88 (.map (some lm)) (.int .i64 v) false).run Tryz.prog w2 = .ok (.agg #[.pointer (some ⟨b, 0, none⟩), .string s', .int .i64 p']) w2 := ((h0.new f1).new f2).ls.hit keyInt (t := 88) (e := 130) Tryz.underlying88 HL.out false)
  | (go_at_call 111; refine (backRoom_any b q mm t most l g _ (((HB.out.keep f0 (by simp) (by simp) (by simp) (by simp)).keep f1 (by simp) (by simp) (by simp) (by simp)).keep f2 (by simp) (by simp) (by simp) (by simp)) (by omega) hm' (by omega)).mono ?_; rintro e w3 ⟨rfl, nn, rfl⟩)
  | (go_at_call 112; refine (netPair_ok n r m lm cm names ls cs c k _ (((h0.new f1).new f2).new ((Fr.refl [] w2).drewN nn)) hc HK.out HXK.out hk' (by omega)).mono ?_; rintro e w4 ⟨d4, rfl, n4, hd4, f4⟩; have j4 : w4.cell? ⟨n, 1, none⟩ = some (.map (some lm)) := n4.c1; have hlk4 : (Instr.lookup 88 (.map (some lm)) (.int .i64 v) false).run Tryz.prog w4 = .ok (.agg #[.pointer (some ⟨b, 0, none⟩), .string s', .int .i64 p']) w4 := n4.ls.hit keyInt (t := 88) (e := 130) Tryz.underlying88 HL.out false)
  | (go_at_call 113; refine (backPush_any b q mm t most l g k _ ((((HB.out.keep f0 (by simp) (by simp) (by simp) (by simp)).keep f1 (by simp) (by simp) (by simp) (by simp)).keep f2 (by simp) (by simp) (by simp) (by simp)).drewN nn |>.keep f4 (by simp; omega) (by simp; omega) (by simp; omega) (by simp; omega)) hlen hm' hg (by omega) (by omega) HN.out).mono ?_; rintro e w5 ⟨rfl, hb5, f5⟩))
 go_ret2
 have e1 := f0.size
 have e2 := f1.size
 have e3 := f2.size
 have gA : Fr [] w (w2.drewN nn) := ((f0.step f1).step f2).drewN nn
 have g4 : Fr [cm, q, mm, t] w w4 := (gA.mono (T := [cm, q, mm, t]) (fun x hx => by cases hx)).trans f4 (fun x hx _ => by simp at hx; simp [hx])
 have g5 := g4.trans f5 (fun x hx _ => by simp at hx; simp; omega)
 refine ⟨d4, rfl, n4.keep f5 (by simp; omega) (by simp; omega) (by simp; omega) (by simp; omega) (by simp; omega), hb5, (hd4.less ?_).keep f5 (fun x hx => by simp at hx; omega), g5⟩
 exact gA.size
set_option maxRecDepth 100000 in
set_option maxHeartbeats 4000000 in
theorem netConnect_full (h : NetIs w n r m lm cm names ls cs) (hs : s.size ≤ 1000000) (hv : addrB s.data.toList p = true) (hc : c ≤ 4096) (v : Int) (b q mm t : Nat) (most : Int) (l : List (Nat × Int)) (g : Nat) (s' : ByteArray) (p' : Int)
  (hx : (addrV s p, .int .i64 v) ∈ names) (hl : (.int .i64 v, qV b s' p') ∈ ls) (hb : BackIs w b q mm t most false l g) (hlen : (l.length : Int) < most) (hm' : most ≤ 128) (hg : g < 4611686018427387904)
  (hn : 128 ≤ (cs.length : Int)) :
  Calls Tryz.prog 81 #[.pointer (some ⟨n, 0, none⟩), .agg #[.string s, .int .i64 p], .int .i64 c] w fun e w' => e = .returned (.tuple #[.int .i64 0, .int .i64 7]) ∧ Fr [] w w' := by
 have f0 : Fr [] w (w.alloc (.cells #[.string s, .int .i64 p] 36)) := (Fr.refl [] w).alloc _
 have h0 := h.new f0
 have HX := Lib.hid hx
 have HV := Lib.hid hv
 have HL := Lib.hid hl
 have HB := Lib.hid hb
 clear hx hv hl hb
 have hr0 : (most - (l.length : Int) == 0) = false := by rw [beq_eq_false_iff_ne]; omega
 have hfd : ∀ W : World, (Instr.field 130 (.agg #[.pointer (some ⟨b, 0, none⟩), .string s', .int .i64 p']) 0).run Tryz.prog W = .ok (.pointer (some ⟨b, 0, none⟩)) W := fun W => by kernel_rfl
 go_enter Tryz.func81, Tryz.ntmps81
 go_wp2_with (first
  | (go_at_call 99; refine (netFind_hit s p v _ h0 hs HV.out HX.out).mono ?_; rintro e w1 ⟨rfl, f1⟩)
  | (go_at_call 36; refine (dupNew_ok c hc _).mono ?_; rintro e w2 ⟨d, rfl, hd, f2⟩; have j1 : w2.cell? ⟨n, 1, none⟩ = some (.map (some lm)) := ((h0.new f1).new f2).c1; have hlk : (Instr.lookup 88 (.map (some lm)) (.int .i64 v) false).run Tryz.prog w2 = .ok (.agg #[.pointer (some ⟨b, 0, none⟩), .string s', .int .i64 p']) w2 := ((h0.new f1).new f2).ls.hit keyInt (t := 88) (e := 130) Tryz.underlying88 HL.out false)
  | (go_at_call 111; refine (backRoom_any b q mm t most l g _ (((HB.out.keep f0 (by simp) (by simp) (by simp) (by simp)).keep f1 (by simp) (by simp) (by simp) (by simp)).keep f2 (by simp) (by simp) (by simp) (by simp)) (by omega) hm' (by omega)).mono ?_; rintro e w3 ⟨rfl, nn, rfl⟩)
  | (go_at_call 112; refine (netPair_full n r m lm cm names ls cs c _ (((h0.new f1).new f2).new ((Fr.refl [] w2).drewN nn)) hc hn).mono ?_; rintro e w4 ⟨rfl, f4⟩))
 go_ret2
 exact ⟨rfl, (((f0.step f1).step f2).drewN nn).step f4⟩
end
set_option maxRecDepth 100000
set_option maxHeartbeats 4000000
def HangPost (P : Nat → Prop) (cm d c : Nat) (conn : Int) (f1 f2 : List (Value × Value)) (b0 b1 : Bool) (w : World) (e : Ending) (w' : World) : Prop :=
 e = .returned (.int .i64 0) ∧ MapIs Tryz.prog 3 w' cm (if b0 && b1 then f1 ++ f2 else f1 ++ (.int .i64 conn, .pointer (some ⟨d, 0, none⟩)) :: f2) ∧ ((b0 && b1) = false → DupS w' (fun x => P x ∨ w.heap.size ≤ x) d c b0 b1) ∧ ∃ S, Fr S w w' ∧ ∀ x ∈ S, P x ∨ x = cm
section
variable {P : Nat → Prop} {n cm d c : Nat} {conn : Int} {f1 f2 : List (Value × Value)} (w : World)
theorem hang_open1 {a0 : Bool} (h2 : w.cell? ⟨n, 2, none⟩ = some (.map (some cm))) (hm : MapIs Tryz.prog 3 w cm (f1 ++ (.int .i64 conn, .pointer (some ⟨d, 0, none⟩)) :: f2)) (hd : DupS w P d c a0 false) (hn : ¬ P n) (hcm : ¬ P cm) :
  Calls Tryz.prog 56 #[.pointer (some ⟨n, 0, none⟩), .int .i64 conn, .int .i64 1] w (HangPost P cm d c conn f1 f2 a0 true w) := by
 have hmf : ∀ (fn : Fn) (first cap : Array Value) (w : World), (Instr.makeFunc fn first cap).run Tryz.prog w = .ok (.func fn first cap) w := fun _ _ _ _ => rfl
 have nl := cell_lt h2
 have cl := hm.lt
 have gB : Fr [] w ((w.alloc (.cells #[.pointer (some ⟨n, 0, none⟩)] 26)).alloc (.cells #[.int .i64 conn] 3)) := ((Fr.refl [] w).alloc _).alloc _
 have k2 := gB.keep h2 (by simp)
 have hlk : ∀ W, MapIs Tryz.prog 3 W cm (f1 ++ (.int .i64 conn, .pointer (some ⟨d, 0, none⟩)) :: f2) → (Instr.lookup 90 (.map (some cm)) (.int .i64 conn) false).run Tryz.prog W = .ok (.pointer (some ⟨d, 0, none⟩)) W := fun W hW => hW.hit keyInt (t := 90) (e := 103) Tryz.underlying90 (by simp) false
 have mB := hm.keep gB (by simp)
 have l0 := hlk _ mB
 have l1 := hlk _ (show MapIs Tryz.prog 3 (((w.alloc (.cells #[.pointer (some ⟨n, 0, none⟩)] 26)).alloc (.cells #[.int .i64 conn] 3)).drew) cm _ from mB)
 have gC : Fr [] w ((((w.alloc (.cells #[.pointer (some ⟨n, 0, none⟩)] 26)).alloc (.cells #[.int .i64 conn] 3)).alloc (.cells #[.pointer none] 103)).drew) := (gB.alloc _).drew
 have k3 := gC.keep h2 (by simp)
 have l2 := hlk _ (hm.keep gC (by simp))
 have HD := Lib.hid (hd.ext (Q := fun x => P x ∧ x < w.heap.size) (fun x hx hp => ⟨hp, hx⟩))
 have HM := Lib.hid hm
 clear hlk hm hd mB
 go_enter_defers Tryz.func56, Tryz.ntmps56
 go_wp2
 go_cut [7] from 8 to 13 (fun s7 wc => ∃ D, s7 = .pointer (some ⟨D, 0, none⟩) ∧ w.heap.size ≤ D ∧ wc.cell? ⟨D, 0, none⟩ = some (.pointer (some ⟨d, 0, none⟩)) ∧ Fr [] ((w.alloc (.cells #[.pointer (some ⟨n, 0, none⟩)] 26)).alloc (.cells #[.int .i64 conn] 3)) wc)
 case first =>
  go_region
  all_goals go_wp2
  all_goals go_meet
  case' rel => skip
  all_goals exact ⟨_, rfl, by first | omega | (simp; omega), by first | exact netCell _ _ _ 0 rfl (by simp) rfl | exact (World.cell?_drew _ _).trans (netCell _ _ _ 0 rfl (by simp) rfl), by first | exact ((Fr.refl [] _).alloc _).drew | exact (((Fr.refl [] _).alloc _).setCell (by simp) _).drew⟩
 case rest =>
  obtain ⟨D, rfl, dD, kD, gC⟩ := hcut
  have hD := HD.out.new (gB.step gC)
  have HCl := Lib.hid (dupClose_1 wc hD)
  have kN : wc.cell? ⟨w.heap.size, 0, none⟩ = some (.pointer (some ⟨n, 0, none⟩)) := gC.keep (by simp) (by simp)
  have kK : wc.cell? ⟨w.heap.size + 1, 0, none⟩ = some (.int .i64 conn) := gC.keep (by simp) (by simp)
  have kn := (gB.step gC).keep h2 (by simp)
  have mC := HM.out.keep (gB.step gC) (by simp)
  clear hD l0 l1 l2
  go_wp2_with (go_at_call 94; refine HCl.out.mono ?_; rintro e w1 ⟨rfl, d1, S, g1, p1⟩)
  have gA := gB.step gC
  have z1 := gA.size
  have zB : w.heap.size + 2 ≤ wc.heap.size := by simpa using gC.size
  have hS : ∀ x, w.heap.size ≤ x → x ∉ S := fun x hx hm => by have := (p1 x hm).2; omega
  have gT : Fr S w w1 := (gA.mono (fun x hx => by cases hx)).trans g1 (fun x hx _ => hx)
  have kD1 := g1.keep kD (hS _ dD)
  have kN1 := g1.keep kN (hS _ (Nat.le_refl _))
  have kK1 := g1.keep kK (hS _ (by omega))
  have nS : n ∉ S := fun hx => hn (p1 _ hx).1
  have cS : cm ∉ S := fun hx => hcm (p1 _ hx).1
  have kn1 := g1.keep kn nS
  have mC1 := mC.keep g1 cS
  have d2 : DupS w1 (fun x => P x ∨ w.heap.size ≤ x) d c a0 true := d1.wide (fun x hx => hx.imp (fun h => h.1) (fun h => by omega))
  cases a0
  ·refine leaves_cons (f := 92) (args := #[.pointer (some ⟨D, 0, none⟩), .pointer (some ⟨w.heap.size, 0, none⟩), .pointer (some ⟨w.heap.size + 1, 0, none⟩)]) (by simp) (by simp [go_sem]) ?_
   refine (hangEnd_no w1 .returning d2 rfl kD1).mono ?_
   rintro e u' w'' ⟨rfl, rfl, rfl⟩
   exact ⟨_, results_tmp rfl _ _ _, rfl, mC1, fun _ => d2, S, gT, fun x hx => .inl (p1 x hx).1⟩
  ·refine leaves_cons (f := 92) (args := #[.pointer (some ⟨D, 0, none⟩), .pointer (some ⟨w.heap.size, 0, none⟩), .pointer (some ⟨w.heap.size + 1, 0, none⟩)]) (by simp) (by simp [go_sem]) ?_
   refine (hangEnd_yes w1 .returning d2 kD1 kN1 kK1 kn1 mC1).mono ?_
   rintro e u' w'' ⟨rfl, rfl, m2, f2⟩
   exact ⟨_, results_tmp rfl _ _ _, rfl, m2, (fun h => by cases h), S ++ [cm], (gT.mono (fun x hx _ => List.mem_append_left _ hx)).trans f2 (fun x hx _ => List.mem_append_right _ hx), fun x hx => by
    rcases List.mem_append.1 hx with hx | hx
    ·exact .inl (p1 x hx).1
    ·simp at hx; exact .inr hx⟩
end
set_option maxHeartbeats 8000000
set_option maxRecDepth 100000 in
set_option maxHeartbeats 4000000 in
theorem netListen_gen (n r m lm cm : Nat) (names ls cs : List (Value × Value)) (s : ByteArray) (p pp most : Int) (k : Nat) (w : World) (h : NetIs w n r m lm cm names ls cs) (hs : s.size ≤ 1000000) (hv0 : addrB s.data.toList p = true) (hv : addrB s.data.toList pp = true) (hp : (pp == 0) = false)
  (hB : ∀ W, RegIs W r m names → Calls Tryz.prog 51 #[.pointer (some ⟨r, 0, none⟩), .agg #[.string s, .int .i64 p], .int .i64 0] W fun e w' => e = .returned (.tuple #[.agg #[.string s, .int .i64 pp], .int .i64 0]) ∧ RegIs w' r m (names ++ [(addrV s pp, .int .i64 0)]) ∧ Fr [m] W w')
  (h1 : ¬ most < 1) (h2 : ¬ 128 < most) (hxn : ∀ x ∈ names, x.1 ≠ addrV s pp) (hln : ¬ (128 ≤ (names.length : Int))) (hk : ∀ j : Nat, j < k → ∃ b' s' p', (.int .i64 j, qV b' s' p') ∈ ls) (hxl : ∀ x ∈ ls, x.1 ≠ .int .i64 k) (hk' : k ≤ 100000) :
  Calls Tryz.prog 15 #[.pointer (some ⟨n, 0, none⟩), .agg #[.string s, .int .i64 p], .int .i64 most] w fun e w' => ∃ b q mm t, e = .returned (.tuple #[.int .i64 k, .agg #[.string s, .int .i64 pp], .int .i64 0]) ∧ NetIs w' n r m lm cm (names ++ [(addrV s pp, .int .i64 k)]) (ls ++ [(.int .i64 k, qV b s pp)]) cs ∧ BackIs w' b q mm t most false [] 0 ∧ Fr [m, lm] w w' ∧ w.heap.size ≤ b ∧ w.heap.size ≤ q ∧ w.heap.size ≤ mm ∧ w.heap.size ≤ t := by
 have f0 : Fr [] w ((w.alloc (.cells #[.string s, .int .i64 p] 36)).alloc (.cells #[.string ⟨#[]⟩, .int .i64 0] 36)) := ((Fr.refl [] w).alloc _).alloc _
 have h0 := h.new f0
 have HV := Lib.hid hv
 have HV0 := Lib.hid hv0
 have HB := Lib.hid hB
 have HXN := Lib.hid hxn
 have HXL := Lib.hid hxl
 have HK := Lib.hid hk
 have hne := h.ne
 have hnlt := cell_lt h.c0
 have hrlt := cell_lt h.reg.c0
 have hmlt := h.reg.map.lt
 have hllt := h.ls.lt
 have hclt := h.cs.lt
 clear hv hv0 hB hxn hxl hk
 go_enter Tryz.func15, Tryz.ntmps15
 go_wp2_with (first
  | (go_at_call 49; refine (netNone_any _ h0).mono ?_; rintro e w' ⟨rfl, rfl⟩)
  | (go_at_call 50; refine (backNew_ok most _ (by omega) (by omega)).mono ?_; rintro e w1 ⟨b, q, mm, t, rfl, hb1, f1, l1, l2, l3, l4⟩; simp only [World.size_alloc] at l1 l2 l3 l4; have k0 : w1.cell? ⟨w.heap.size, 0, none⟩ = some (.string s) := f1.keep (by simp) (by simp); have k1 : w1.cell? ⟨w.heap.size, 1, none⟩ = some (.int .i64 p) := f1.keep (by simp) (by simp))
  | (go_at_call 37; refine (valid_any s p hs _).mono ?_; rintro e w2 ⟨rfl, f2⟩; rw [HV0.out]; have k0 := f2.keep k0 (by simp); have k1 := f2.keep k1 (by simp); have j0 : w2.cell? ⟨n, 0, none⟩ = some (.pointer (some ⟨r, 0, none⟩)) := ((h0.new f1).new f2).c0))
 have n2 := (h0.new f1).new f2
 have b2 := hb1.keep f2 (by simp) (by simp) (by simp) (by simp)
 clear k0 k1
 have k0 : w2.cell? ⟨w.heap.size, 0, none⟩ = some (.string s) := (f1.step f2).keep (by simp) (by simp)
 have k1 : w2.cell? ⟨w.heap.size, 1, none⟩ = some (.int .i64 p) := (f1.step f2).keep (by simp) (by simp)
 have n3 := n2.new ((Fr.refl [] w2).alloc (.cells #[.string ⟨#[]⟩, .int .i64 0] 36))
 have c3 := n3.c0
 have k3 : (w2.alloc (.cells #[.string ⟨#[]⟩, .int .i64 0] 36)).cell? ⟨w.heap.size, 0, none⟩ = some (.string s) := ((Fr.refl [] w2).alloc _).keep k0 (by simp)
 have k4 : (w2.alloc (.cells #[.string ⟨#[]⟩, .int .i64 0] 36)).cell? ⟨w.heap.size, 1, none⟩ = some (.int .i64 p) := ((Fr.refl [] w2).alloc _).keep k1 (by simp)
 have z2 : w.heap.size + 2 ≤ w2.heap.size := by simpa using (f1.step f2).size
 go_cut [10, 11] from 29 to 37 (fun s10 s11 wc => ∃ c, s10 = .int .i64 0 ∧ s11 = .pointer (some ⟨c, 0, none⟩) ∧ wc.cell? ⟨c, 0, none⟩ = some (.string s) ∧ wc.cell? ⟨c, 1, none⟩ = some (.int .i64 pp) ∧ RegIs wc r m (names ++ [(addrV s pp, .int .i64 0)]) ∧ Fr [m] w2 wc ∧ w2.heap.size ≤ c)
 case first =>
  go_region_with (go_at_call 51; first
   | (refine (HB.out _ (n2.reg.drewN 1)).mono ?_; rintro e w3 ⟨rfl, rg3, f3⟩; have g3 : Fr [m] w2 w3 := (((Fr.refl [] w2).drewN _).mono (fun x hx => by cases hx)).trans f3 (fun x hx _ => hx); clear f3)
   | (refine (HB.out _ (n3.reg.drewN 1)).mono ?_; rintro e w3 ⟨rfl, rg3, f3⟩; have g3 : Fr [m] w2 w3 := ((((Fr.refl [] w2).alloc _).drewN _).mono (fun x hx => by cases hx)).trans f3 (fun x hx _ => hx); have i0 : w3.cell? ⟨w2.heap.size, 0, none⟩ = some (.string ⟨#[]⟩) := f3.keep (by simp) (by simp; omega); have i1 : w3.cell? ⟨w2.heap.size, 1, none⟩ = some (.int .i64 0) := f3.keep (by simp) (by simp; omega); have ifz : ∀ o, w3.frozen? ⟨w2.heap.size, o, none⟩ = false := (fun o => by rw [f3.frozen (by simp) (by simp; omega)]; simp); clear f3))
  all_goals go_wp2
  all_goals go_meet
  case' rel => skip
  all_goals first
   | exact ⟨_, rfl, rfl, by simp, by simp, rg3.keep ((Fr.refl [] w3).alloc _) (by simp) (by simp), g3.alloc _, g3.size⟩
   | exact ⟨_, rfl, rfl, (World.cell?_setCell_other _ _ _ _ (by simp)).trans (World.cell?_setCell_same _ _ _ i0), World.cell?_setCell_same _ _ _ ((World.cell?_setCell_other _ _ _ _ (by simp)).trans i1), rg3.keep (S := [w2.heap.size]) (((Fr.refl _ _).setCell (fun _ => by simp) _).setCell (fun _ => by simp) _) (by simp; omega) (by simp; omega), (g3.setCell (by simp) _).setCell (by simp) _, Nat.le_refl _⟩
 case rest =>
  obtain ⟨c, rfl, rfl, q0, q1, rg3, g3, hc⟩ := hcut
  have x0 := g3.keep n2.c0 (by simp; omega)
  have x1 := g3.keep n2.c1 (by simp; omega)
  have b3 := b2.keep g3 (by simp; omega) (by simp; omega) (by simp; omega) (by simp; omega)
  have ml3 := n2.ls.keep g3 (by simp; omega)
  go_wp2
  go_cut [12] from 42 to 49 (fun s12 wd => s12 = .int .i64 k ∧ MapIs Tryz.prog 3 wd lm (ls ++ [(.int .i64 k, qV b s pp)]) ∧ Fr [lm] wc wd)
  case first =>
   go_region_with (go_at_call 52; refine (addQ lm ls k b s pp _ (ml3.drewN 1) HK.out HXL.out hk').mono ?_; rintro e w4 ⟨rfl, ml4, f4⟩)
   all_goals go_wp2
   all_goals go_meet
   case' rel => skip
   all_goals exact ⟨rfl, ml4, f4.behind⟩
  case rest =>
   obtain ⟨rfl, ml4, g4⟩ := hcut
   have y0 := g4.keep x0 (by simp; omega)
   have p0 := g4.keep q0 (by simp; omega)
   have p1 := g4.keep q1 (by simp; omega)
   have rg4 := rg3.keep g4 (by simp; omega) (by simp; omega)
   have b4 := b3.keep g4 (by simp; omega) (by simp; omega) (by simp; omega) (by simp; omega)
   clear q0 q1 x0
   go_wp2
   go_cut [] from 50 to 55 (fun wd => RegIs wd r m (names ++ []) ∧ Fr [m] wc wd)
   case first =>
    go_region_with (go_at_call 53; refine (regRelease_hit r m names [] s pp 0 _ (rg4.drewN 1) hs HV.out).mono ?_; rintro e w5 ⟨rfl, rg5, f5⟩)
    all_goals go_wp2
    all_goals go_meet
    case' rel => skip
    all_goals exact ⟨rg5, f5.behind⟩
   case rest =>
    obtain ⟨rg5, g5⟩ := hcut
    rw [List.append_nil] at rg5
    have v0 := g5.keep y0 (by simp; omega)
    have r0 := g5.keep p0 (by simp; omega)
    have r1 := g5.keep p1 (by simp; omega)
    have ml5 := ml4.keep g5 (by simp; omega)
    have b5 := b4.keep g5 (by simp; omega) (by simp; omega) (by simp; omega) (by simp; omega)
    clear y0 p0 p1
    go_wp2
    go_cut [] from 56 to 62 (fun wd => RegIs wd r m (names ++ [(addrV s pp, .int .i64 k)]) ∧ Fr [m] wc wd)
    case first =>
     go_region_with (go_at_call 51; refine (regBind_ok r m names s pp k _ (rg5.drewN 1) hs HV.out hp (by omega) HXN.out (by omega)).mono ?_; rintro e w6 ⟨rfl, rg6, f6⟩)
     all_goals go_wp2
     all_goals go_meet
     case' rel => skip
     all_goals exact ⟨rg6, f6.behind⟩
    case rest =>
     obtain ⟨rg6, g6⟩ := hcut
     have s0 := g6.keep r0 (by simp; omega)
     have s1 := g6.keep r1 (by simp; omega)
     have ml6 := ml5.keep g6 (by simp; omega)
     have b6 := b5.keep g6 (by simp; omega) (by simp; omega) (by simp; omega) (by simp; omega)
     have fB := ((((f1.step f2).mono (T := [m, lm]) (fun x hx => by cases hx)).trans g3 (fun x hx _ => by simp at hx; simp [hx])).trans g4 (fun x hx _ => by simp at hx; simp [hx])).trans (g5.trans g6 (fun x hx _ => hx)) (fun x hx _ => by simp at hx; simp [hx])
     have fA : Fr [m, lm] w wc := (f0.mono (T := [m, lm]) (fun x hx => by cases hx)).trans fB (fun x hx _ => hx)
     have t0 : wc.cell? ⟨w.heap.size + 1, 0, none⟩ = some (.string ⟨#[]⟩) := fB.keep (by simp) (by simp; omega)
     have t1 : wc.cell? ⟨w.heap.size + 1, 1, none⟩ = some (.int .i64 0) := fB.keep (by simp) (by simp; omega)
     have tf : ∀ o, wc.frozen? ⟨w.heap.size + 1, o, none⟩ = false := fun o => by rw [fB.frozen (by simp) (by simp; omega)]; simp
     have n6 : NetIs wc n r m lm cm (names ++ [(addrV s pp, .int .i64 k)]) (ls ++ [(.int .i64 k, qV b s pp)]) cs :=
      ⟨fA.keep h.c0 (by simp; omega), fA.keep h.c1 (by simp; omega), fA.keep h.c2 (by simp; omega), rg6, ml6, h.cs.keep fA (by simp; omega), hne⟩
     clear fB
     go_wp2
     go_region
     go_wp2
     have fE : Fr [w.heap.size + 1] wc ((wc.setCell ⟨w.heap.size + 1, 0, none⟩ (.string s)).setCell ⟨w.heap.size + 1, 1, none⟩ (.int .i64 pp)).drew := (((Fr.refl _ wc).setCell (fun _ => by simp) _).setCell (fun _ => by simp) _).drew
     refine bodyPost_ret (v := .tuple #[.int .i64 k, .agg #[.string s, .int .i64 pp], .int .i64 0]) (by simp [results, Tryz.results15, go_sem, t0, t1]) rfl ⟨b, q, mm, t, rfl, ?_, ?_, ?_, by omega, by omega, by omega, by omega⟩
     ·exact n6.keep fE (by simp; omega) (by simp; omega) (by simp; omega) (by simp; omega) (by simp; omega)
     ·exact b6.keep fE (by simp; omega) (by simp; omega) (by simp; omega) (by simp; omega)
     ·exact fA.trans fE (fun x hx hl => by simp at hx; omega)
theorem netListen_bad (n r m lm cm : Nat) (names ls cs : List (Value × Value)) (s : ByteArray) (p most : Int) (w : World) (h : NetIs w n r m lm cm names ls cs) (hs : s.size ≤ 1000000) (hb : most < 1 ∨ 128 < most ∨ addrB s.data.toList p = false) :
  Calls Tryz.prog 15 #[.pointer (some ⟨n, 0, none⟩), .agg #[.string s, .int .i64 p], .int .i64 most] w fun e w' => e = .returned (.tuple #[.int .i64 0, .agg #[.string ⟨#[]⟩, .int .i64 0], .int .i64 2]) ∧ Fr [] w w' := by
 have f0 : Fr [] w ((w.alloc (.cells #[.string s, .int .i64 p] 36)).alloc (.cells #[.string ⟨#[]⟩, .int .i64 0] 36)) := ((Fr.refl [] w).alloc _).alloc _
 have h0 := h.new f0
 have key : ∀ (c : Int) (v : Value), (c = 2 ∨ addrB s.data.toList p = false) → (∀ W, Calls Tryz.prog 50 #[.int .i64 most] W fun e w' => (∃ v, e = .returned (.tuple #[v, .int .i64 c])) ∧ Fr [] W w') →
   Calls Tryz.prog 15 #[.pointer (some ⟨n, 0, none⟩), .agg #[.string s, .int .i64 p], .int .i64 most] w fun e w' => e = .returned (.tuple #[.int .i64 0, .agg #[.string ⟨#[]⟩, .int .i64 0], .int .i64 2]) ∧ Fr [] w w' := by
  intro c v hc hN
  have HNB := Lib.hid hN
  have HNN := Lib.hid (netNone_any _ h0)
  clear hN hb
  obtain ⟨ab, hab⟩ : ∃ ab, addrB s.data.toList p = ab := ⟨_, rfl⟩
  have HV := Lib.hid hab
  rw [hab] at hc
  clear hab
  have fin : ∀ W, Fr [] w W → Fr [] w ((W.setCell ⟨w.heap.size + 1, 0, none⟩ (.string ⟨#[]⟩)).setCell ⟨w.heap.size + 1, 1, none⟩ (.int .i64 0)) := fun W hW => (hW.setCell (p := ⟨w.heap.size + 1, 0, none⟩) (fun h => by simp only at h; omega) _).setCell (p := ⟨w.heap.size + 1, 1, none⟩) (fun h => by simp only at h; omega) _
  have FIN := Lib.hid fin
  clear fin
  cases ab
  ·go_enter Tryz.func15, Tryz.ntmps15
   go_wp2_with (first
    | (go_at_call 49; refine HNN.out.mono ?_; rintro e w' ⟨rfl, rfl⟩)
    | (go_at_call 50; refine (HNB.out _).mono ?_; rintro e w1 ⟨⟨v1, rfl⟩, f1⟩; have k0 : w1.cell? ⟨w.heap.size, 0, none⟩ = some (.string s) := f1.keep (by simp) (by simp); have k1 : w1.cell? ⟨w.heap.size, 1, none⟩ = some (.int .i64 p) := f1.keep (by simp) (by simp))
    | (go_at_call 37; refine (valid_any s p hs _).mono ?_; rintro e w2 ⟨rfl, f2⟩; rw [HV.out]; have j0 : w2.cell? ⟨w.heap.size + 1, 0, none⟩ = some (.string ⟨#[]⟩) := (f1.step f2).keep (by simp) (by simp); have j1 : w2.cell? ⟨w.heap.size + 1, 1, none⟩ = some (.int .i64 0) := (f1.step f2).keep (by simp) (by simp); have jf : ∀ o, w2.frozen? ⟨w.heap.size + 1, o, none⟩ = false := (fun o => by rw [(f1.step f2).frozen (by simp) (by simp)]; simp)))
   refine bodyPost_ret (v := .tuple #[.int .i64 0, .agg #[.string ⟨#[]⟩, .int .i64 0], .int .i64 2]) (by simp [results, Tryz.results15, go_sem, j0, j1]) rfl ⟨rfl, FIN.out _ ((f0.step f1).step f2)⟩
  ·obtain rfl : c = 2 := hc.elim id (fun h => by cases h)
   go_enter Tryz.func15, Tryz.ntmps15
   go_wp2_with (first
    | (go_at_call 49; refine HNN.out.mono ?_; rintro e w' ⟨rfl, rfl⟩)
    | (go_at_call 50; refine (HNB.out _).mono ?_; rintro e w1 ⟨⟨v1, rfl⟩, f1⟩; have k0 : w1.cell? ⟨w.heap.size, 0, none⟩ = some (.string s) := f1.keep (by simp) (by simp); have k1 : w1.cell? ⟨w.heap.size, 1, none⟩ = some (.int .i64 p) := f1.keep (by simp) (by simp))
    | (go_at_call 37; refine (valid_any s p hs _).mono ?_; rintro e w2 ⟨rfl, f2⟩; rw [HV.out]; have j0 : w2.cell? ⟨w.heap.size + 1, 0, none⟩ = some (.string ⟨#[]⟩) := (f1.step f2).keep (by simp) (by simp); have j1 : w2.cell? ⟨w.heap.size + 1, 1, none⟩ = some (.int .i64 0) := (f1.step f2).keep (by simp) (by simp); have jf : ∀ o, w2.frozen? ⟨w.heap.size + 1, o, none⟩ = false := (fun o => by rw [(f1.step f2).frozen (by simp) (by simp)]; simp)))
   refine bodyPost_ret (v := .tuple #[.int .i64 0, .agg #[.string ⟨#[]⟩, .int .i64 0], .int .i64 2]) (by simp [results, Tryz.results15, go_sem, j0, j1]) rfl ⟨rfl, FIN.out _ ((f0.step f1).step f2)⟩
 by_cases hm : most < 1 ∨ 128 < most
 ·exact key 2 (.pointer none) (.inl rfl) (fun W => (backNew_bad most W hm).mono fun e w' ⟨he, hw⟩ => ⟨⟨_, he⟩, hw ▸ Fr.refl [] W⟩)
 ·exact key 0 (.pointer none) (.inr (by rcases hb with h | h | h; exact absurd (.inl h) hm; exact absurd (.inr h) hm; exact h)) (fun W => (backNew_ok most W (by omega) (by omega)).mono fun e w' ⟨b, q, m, t, he, _, hf, _⟩ => ⟨⟨_, he⟩, hf⟩)
theorem netListen_err (n r m lm cm : Nat) (names ls cs : List (Value × Value)) (s : ByteArray) (p most ce : Int) (w : World) (h : NetIs w n r m lm cm names ls cs) (hs : s.size ≤ 1000000) (hv0 : addrB s.data.toList p = true) (hce : (ce != 0) = true)
  (hB : ∀ W, RegIs W r m names → Calls Tryz.prog 51 #[.pointer (some ⟨r, 0, none⟩), .agg #[.string s, .int .i64 p], .int .i64 0] W fun e w' => e = .returned (.tuple #[.agg #[.string ⟨#[]⟩, .int .i64 0], .int .i64 ce]) ∧ Fr [] W w')
  (h1 : ¬ most < 1) (h2 : ¬ 128 < most) :
  Calls Tryz.prog 15 #[.pointer (some ⟨n, 0, none⟩), .agg #[.string s, .int .i64 p], .int .i64 most] w fun e w' => e = .returned (.tuple #[.int .i64 0, .agg #[.string ⟨#[]⟩, .int .i64 0], .int .i64 ce]) ∧ Fr [] w w' := by
 have f0 : Fr [] w ((w.alloc (.cells #[.string s, .int .i64 p] 36)).alloc (.cells #[.string ⟨#[]⟩, .int .i64 0] 36)) := ((Fr.refl [] w).alloc _).alloc _
 have h0 := h.new f0
 have HV0 := Lib.hid hv0
 have HB := Lib.hid hB
 have hne := h.ne
 have hnlt := cell_lt h.c0
 have hrlt := cell_lt h.reg.c0
 have hmlt := h.reg.map.lt
 have hllt := h.ls.lt
 have hclt := h.cs.lt
 clear hv0 hB
 go_enter Tryz.func15, Tryz.ntmps15
 go_wp2_with (first
  | (go_at_call 49; refine (netNone_any _ h0).mono ?_; rintro e w' ⟨rfl, rfl⟩)
  | (go_at_call 50; refine (backNew_ok most _ (by omega) (by omega)).mono ?_; rintro e w1 ⟨b, q, mm, t, rfl, hb1, f1, l1, l2, l3, l4⟩; simp only [World.size_alloc] at l1 l2 l3 l4; have k0 : w1.cell? ⟨w.heap.size, 0, none⟩ = some (.string s) := f1.keep (by simp) (by simp); have k1 : w1.cell? ⟨w.heap.size, 1, none⟩ = some (.int .i64 p) := f1.keep (by simp) (by simp))
  | (go_at_call 37; refine (valid_any s p hs _).mono ?_; rintro e w2 ⟨rfl, f2⟩; rw [HV0.out]; have k0 := f2.keep k0 (by simp); have k1 := f2.keep k1 (by simp); have j0 : w2.cell? ⟨n, 0, none⟩ = some (.pointer (some ⟨r, 0, none⟩)) := ((h0.new f1).new f2).c0))
 have n2 := (h0.new f1).new f2
 have b2 := hb1.keep f2 (by simp) (by simp) (by simp) (by simp)
 clear k0 k1
 have k0 : w2.cell? ⟨w.heap.size, 0, none⟩ = some (.string s) := (f1.step f2).keep (by simp) (by simp)
 have k1 : w2.cell? ⟨w.heap.size, 1, none⟩ = some (.int .i64 p) := (f1.step f2).keep (by simp) (by simp)
 have n3 := n2.new ((Fr.refl [] w2).alloc (.cells #[.string ⟨#[]⟩, .int .i64 0] 36))
 have c3 := n3.c0
 have k3 : (w2.alloc (.cells #[.string ⟨#[]⟩, .int .i64 0] 36)).cell? ⟨w.heap.size, 0, none⟩ = some (.string s) := ((Fr.refl [] w2).alloc _).keep k0 (by simp)
 have k4 : (w2.alloc (.cells #[.string ⟨#[]⟩, .int .i64 0] 36)).cell? ⟨w.heap.size, 1, none⟩ = some (.int .i64 p) := ((Fr.refl [] w2).alloc _).keep k1 (by simp)
 have z2 : w.heap.size + 2 ≤ w2.heap.size := by simpa using (f1.step f2).size
 go_cut [10, 11] from 29 to 37 (fun s10 s11 wc => ∃ c, s10 = .int .i64 ce ∧ s11 = .pointer (some ⟨c, 0, none⟩) ∧ Fr [] w2 wc)
 case first =>
  go_region_with (go_at_call 51; first
   | (refine (HB.out _ (n2.reg.drewN 1)).mono ?_; rintro e w3 ⟨rfl, f3⟩; have g3 : Fr [] w2 w3 := f3.behind; clear f3)
   | (refine (HB.out _ (n3.reg.drewN 1)).mono ?_; rintro e w3 ⟨rfl, f3⟩; have g3 : Fr [] w2 w3 := ((Fr.refl [] w2).alloc _).step f3.behind; have i0 : w3.cell? ⟨w2.heap.size, 0, none⟩ = some (.string ⟨#[]⟩) := f3.keep (by simp) (by simp); have i1 : w3.cell? ⟨w2.heap.size, 1, none⟩ = some (.int .i64 0) := f3.keep (by simp) (by simp); have ifz : ∀ o, w3.frozen? ⟨w2.heap.size, o, none⟩ = false := (fun o => by rw [f3.frozen (by simp) (by simp)]; simp); clear f3))
  all_goals go_wp2
  all_goals go_meet
  case' rel => skip
  all_goals first
   | exact ⟨_, rfl, rfl, g3.alloc _⟩
   | exact ⟨_, rfl, rfl, (g3.setCell (fun h => by simp only at h; omega) _).setCell (fun h => by simp only at h; omega) _⟩
 case rest =>
  obtain ⟨c, rfl, rfl, g3⟩ := hcut
  have fA : Fr [] w wc := (f0.step (f1.step f2)).step g3
  have fB := (f1.step f2).step g3
  have t0 : wc.cell? ⟨w.heap.size + 1, 0, none⟩ = some (.string ⟨#[]⟩) := fB.keep (by simp) (by simp)
  have t1 : wc.cell? ⟨w.heap.size + 1, 1, none⟩ = some (.int .i64 0) := fB.keep (by simp) (by simp)
  have tf : ∀ o, wc.frozen? ⟨w.heap.size + 1, o, none⟩ = false := fun o => by rw [fB.frozen (by simp) (by simp)]; simp
  clear k0 k1
  go_wp2
  refine bodyPost_ret (v := .tuple #[.int .i64 0, .agg #[.string ⟨#[]⟩, .int .i64 0], .int .i64 ce]) (by simp [results, Tryz.results15, go_sem, t0, t1]) rfl ⟨rfl, ?_⟩
  exact (fA.setCell (p := ⟨w.heap.size + 1, 0, none⟩) (fun h => by simp only at h; omega) _).setCell (p := ⟨w.heap.size + 1, 1, none⟩) (fun h => by simp only at h; omega) _
def passB (a b : Int) : Bool := (b != 18446744073709551615) && decide (a ≤ b)
structure DialIs (w : World) (d u : Nat) (s : ByteArray) (p c un st conn er tr : Int) : Prop where
 c0 : w.cell? ⟨d, 0, none⟩ = some (.string s)
 c1 : w.cell? ⟨d, 1, none⟩ = some (.int .i64 p)
 c2 : w.cell? ⟨d, 2, none⟩ = some (.int .i64 c)
 c3 : w.cell? ⟨d, 3, none⟩ = some (.int .u64 un)
 c4 : w.cell? ⟨d, 4, none⟩ = some (.func (.func 38) #[] #[.pointer (some ⟨u, 0, none⟩)])
 c5 : w.cell? ⟨d, 5, none⟩ = some (.int .i64 st)
 c6 : w.cell? ⟨d, 6, none⟩ = some (.int .i64 conn)
 c7 : w.cell? ⟨d, 7, none⟩ = some (.int .i64 er)
 c8 : w.cell? ⟨d, 8, none⟩ = some (.int .i64 tr)
 free : ∀ o, w.frozen? ⟨d, o, none⟩ = false
 cu : w.cell? ⟨u, 0, none⟩ = some (.int .u64 un)
 ne : d ≠ u
theorem DialIs.keep {S : List Nat} {w w' : World} {d u : Nat} {s : ByteArray} {p c un st conn er tr : Int} (h : DialIs w d u s p c un st conn er tr) (hf : Fr S w w') (h1 : d ∉ S) (h2 : u ∉ S) : DialIs w' d u s p c un st conn er tr :=
 ⟨hf.keep h.c0 h1, hf.keep h.c1 h1, hf.keep h.c2 h1, hf.keep h.c3 h1, hf.keep h.c4 h1, hf.keep h.c5 h1, hf.keep h.c6 h1, hf.keep h.c7 h1, hf.keep h.c8 h1, fun o => by rw [hf.frozen (cell_lt h.c0) h1]; exact h.free o, hf.keep h.cu h2, h.ne⟩
theorem DialIs.new {w w' : World} {d u : Nat} {s : ByteArray} {p c un st conn er tr : Int} (h : DialIs w d u s p c un st conn er tr) (hf : Fr [] w w') : DialIs w' d u s p c un st conn er tr := h.keep hf (by simp) (by simp)
set_option maxRecDepth 100000 in
set_option maxHeartbeats 1000000 in
theorem passed_any (a b : Int) (w : World) :
  Calls Tryz.prog 39 #[.int .u64 a, .int .u64 b] w fun e w' => e = .returned (.bool (passB a b)) ∧ w = w' := by
 unfold passB
 by_cases hb : b = 18446744073709551615
 ·subst hb
  go_enter Tryz.func39, Tryz.ntmps39
  go_wp2
  go_ret
  exact ⟨by simp, rfl⟩
 ·have h0 : (b != 18446744073709551615) = true := by simp [hb]
  by_cases hl : a ≤ b
  ·go_enter Tryz.func39, Tryz.ntmps39
   go_wp2
   go_ret
   exact ⟨by simp [hb, hl], rfl⟩
  ·go_enter Tryz.func39, Tryz.ntmps39
   go_wp2
   go_ret
   exact ⟨by simp; omega, rfl⟩
set_option maxRecDepth 100000 in
set_option maxHeartbeats 1000000 in
theorem over_any (u : Nat) (un now : Int) (w : World) (h : w.cell? ⟨u, 0, none⟩ = some (.int .u64 un)) :
  Calls Tryz.prog 38 #[.int .u64 now, .pointer (some ⟨u, 0, none⟩)] w fun e w' => e = .returned (.bool (passB un now)) ∧ w = w' := by
 go_enter Tryz.func38, Tryz.ntmps38
 go_wp2_with (go_at_call 39; refine (passed_any un now _).mono ?_; rintro e w' ⟨rfl, rfl⟩)
 go_ret
 exact ⟨rfl, rfl⟩
section
variable (d u : Nat) (s : ByteArray) (p c un st conn er tr : Int) (w : World)
set_option maxRecDepth 100000
set_option maxHeartbeats 1000000
theorem dialNone_any (h : DialIs w d u s p c un st conn er tr) :
  Calls Tryz.prog 43 #[.pointer (some ⟨d, 0, none⟩)] w fun e w' => e = .returned (.bool false) ∧ w = w' := by
 have c4 := h.c4
 have heq : ∀ W : World, (binOp BinOp.eql 107 (.func (.func 38) #[] #[.pointer (some ⟨u, 0, none⟩)]) .nilFunc).run Tryz.prog W = .ok (.bool false) W := fun W => by kernel_rfl
 go_enter Tryz.func43, Tryz.ntmps43
 go_wp2
 go_ret
 exact ⟨rfl, rfl⟩
def NoDial (w : World) (v : Value) : Prop := v = .pointer none ∨ ∃ d, v = .pointer (some ⟨d, 0, none⟩) ∧ w.cell? ⟨d, 4, none⟩ = some .nilFunc
theorem dialState_any (h : DialIs w d u s p c un st conn er tr) :
  Calls Tryz.prog 73 #[.pointer (some ⟨d, 0, none⟩)] w fun e w' => e = .returned (.tuple #[.int .i64 st, .int .i64 conn, .int .i64 er]) ∧ Fr [] w w' := by
 have c5 := h.c5
 have c6 := h.c6
 have c7 := h.c7
 go_enter Tryz.func73, Tryz.ntmps73
 go_wp2_with (go_at_call 43; refine (dialNone_any d u s p c un st conn er tr _ h).mono ?_; rintro e w' ⟨rfl, rfl⟩)
 go_quiet (fail)
 go_wp2
 go_ret3
 exact ⟨rfl, (Fr.refl [] w).drewN _⟩
theorem dialTries_any (h : DialIs w d u s p c un st conn er tr) :
  Calls Tryz.prog 32 #[.pointer (some ⟨d, 0, none⟩)] w fun e w' => e = .returned (.int .i64 tr) ∧ w = w' := by
 have c8 := h.c8
 go_enter Tryz.func32, Tryz.ntmps32
 go_wp2_with (go_at_call 43; refine (dialNone_any d u s p c un st conn er tr _ h).mono ?_; rintro e w' ⟨rfl, rfl⟩)
 go_ret
 exact ⟨rfl, rfl⟩
theorem dialUntil_any (h : DialIs w d u s p c un st conn er tr) :
  Calls Tryz.prog 72 #[.pointer (some ⟨d, 0, none⟩)] w fun e w' => e = .returned (.int .u64 un) ∧ w = w' := by
 have c3 := h.c3
 go_enter Tryz.func72, Tryz.ntmps72
 go_wp2_with (go_at_call 43; refine (dialNone_any d u s p c un st conn er tr _ h).mono ?_; rintro e w' ⟨rfl, rfl⟩)
 go_ret
 exact ⟨rfl, rfl⟩
theorem dialGive_state (h : DialIs w d u s p c un st conn er tr) (hst : st ≠ 0) :
  Calls Tryz.prog 12 #[.pointer (some ⟨d, 0, none⟩)] w fun e w' => e = .returned (.int .i64 8) ∧ w = w' := by
 have c5 := h.c5
 have hs0 : (st != 0) = true := by simp [hst]
 go_enter Tryz.func12, Tryz.ntmps12
 go_wp2_with (go_at_call 43; refine (dialNone_any d u s p c un st conn er tr _ h).mono ?_; rintro e w' ⟨rfl, rfl⟩)
 go_ret
 exact ⟨rfl, rfl⟩
theorem setTwo {a : Nat} {o o1 o2 : Nat} {v v1 v2 : Value} {w : World} (h : w.cell? ⟨a, o, none⟩ = some v) (h1 : o1 ≠ o := by decide) (h2 : o2 ≠ o := by decide) : ((w.setCell ⟨a, o1, none⟩ v1).setCell ⟨a, o2, none⟩ v2).cell? ⟨a, o, none⟩ = some v :=
 (World.cell?_setCell_other _ _ _ _ (by simp [h2])).trans ((World.cell?_setCell_other _ _ _ _ (by simp [h1])).trans h)
theorem dialFail_any (x : Int) (h : DialIs w d u s p c un st conn er tr) :
  Calls Tryz.prog 44 #[.pointer (some ⟨d, 0, none⟩), .int .i64 x] w fun e w' => e = .returned (.int .i64 x) ∧ DialIs w' d u s p c un 2 conn x tr ∧ Fr [d] w w' := by
 have c5 := h.c5
 have c7 := h.c7
 have hf := h.free
 go_enter Tryz.func44, Tryz.ntmps44
 go_wp2
 go_ret
 have fE : Fr [d] w ((w.setCell ⟨d, 5, none⟩ (.int .i64 2)).setCell ⟨d, 7, none⟩ (.int .i64 x)) := ((Fr.refl _ w).setCell (fun _ => by simp) _).setCell (fun _ => by simp) _
 have hne := h.ne
 exact ⟨rfl, ⟨setTwo h.c0, setTwo h.c1, setTwo h.c2, setTwo h.c3, setTwo h.c4, (World.cell?_setCell_other _ _ _ _ (by simp)).trans (World.cell?_setCell_same _ _ _ h.c5), setTwo h.c6, World.cell?_setCell_same _ _ _ ((World.cell?_setCell_other _ _ _ _ (by simp)).trans h.c7), setTwo h.c8, fun o => by simpa using h.free o, fE.keep h.cu (by simp; omega), h.ne⟩, fE⟩
end
set_option maxHeartbeats 2000000
theorem dialNew_ok (s : ByteArray) (p un : Int) (c : Nat) (w : World) (hs : s.size ≤ 1000000) (hv : addrB s.data.toList p = true) (hp : (p == 0) = false) (hc : c ≤ 4096) :
  Calls Tryz.prog 8 #[.agg #[.string s, .int .i64 p], .int .i64 c, .int .u64 un] w fun e w' => ∃ d u, e = .returned (.tuple #[.pointer (some ⟨d, 0, none⟩), .int .i64 0]) ∧ DialIs w' d u s p c un 0 0 0 0 ∧ w.heap.size ≤ d ∧ w.heap.size ≤ u ∧ Fr [] w w' := by
 have HV := Lib.hid hv
 clear hv
 have f0 : Fr [] w ((w.alloc (.cells #[.string s, .int .i64 p] 36)).alloc (.cells #[.int .u64 un] 38)) := ((Fr.refl [] w).alloc _).alloc _
 go_enter Tryz.func8, Tryz.ntmps8
 go_wp2_with (first
  | (go_at_call 36; refine (dupNew_ok c hc _).mono ?_; rintro e w1 ⟨dd, rfl, hd, f1⟩; have k0 : w1.cell? ⟨w.heap.size, 0, none⟩ = some (.string s) := f1.keep (by simp) (by simp); have k1 : w1.cell? ⟨w.heap.size, 1, none⟩ = some (.int .i64 p) := f1.keep (by simp) (by simp); have k2 : w1.cell? ⟨w.heap.size + 1, 0, none⟩ = some (.int .u64 un) := f1.keep (by simp) (by simp))
  | (go_at_call 37; refine (valid_any s p hs _).mono ?_; rintro e w2 ⟨rfl, f2⟩; rw [HV.out]; have j0 := f2.keep k0 (by simp); have j1 := f2.keep k1 (by simp); have j2 := f2.keep k2 (by simp)))
 go_ret2
 have z := (f1.step f2).size
 have z0 : w.heap.size + 2 ≤ w2.heap.size := by simpa using z
 refine ⟨w2.heap.size, w.heap.size + 1, rfl, ⟨by simp, by simp, by simp, by simp, by simp, by simp, by simp, by simp, by simp, fun o => by simp, ?_, by omega⟩, by omega, by omega, ((f0.step f1).step f2).alloc _⟩
 exact ((Fr.refl [] w2).alloc _).keep j2 (by simp)
theorem dialNew_bad (s : ByteArray) (p c un : Int) (w : World) (hs : s.size ≤ 1000000) (h : addrB s.data.toList p = false ∨ p = 0 ∨ c < 0 ∨ 4096 < c) :
  Calls Tryz.prog 8 #[.agg #[.string s, .int .i64 p], .int .i64 c, .int .u64 un] w fun e w' => e = .returned (.tuple #[.pointer none, .int .i64 2]) ∧ Fr [] w w' := by
 have f0 : Fr [] w ((w.alloc (.cells #[.string s, .int .i64 p] 36)).alloc (.cells #[.int .u64 un] 38)) := ((Fr.refl [] w).alloc _).alloc _
 have hdup : ∀ W : World, Calls Tryz.prog 36 #[.int .i64 c, .int .i64 c] W fun e w' => ∃ v er, e = .returned (.tuple #[.pointer v, .int .i64 er]) ∧ (er = 0 ∨ er = 2) ∧ (er = 0 → ¬ (c < 0 ∨ 4096 < c)) ∧ Fr [] W w' := by
  intro W
  by_cases hc : c < 0 ∨ 4096 < c
  ·refine (dupNew_bad c hc W).mono ?_
   rintro e w' ⟨rfl, hf⟩
   exact ⟨_, _, rfl, .inr rfl, by omega, hf⟩
  ·obtain ⟨k, rfl⟩ : ∃ k : Nat, c = k := ⟨c.toNat, by omega⟩
   refine (dupNew_ok k (by omega) W).mono ?_
   rintro e w' ⟨d, rfl, _, hf⟩
   exact ⟨_, _, rfl, .inl rfl, fun _ => hc, hf⟩
 have H := Lib.hid h
 have HD := Lib.hid hdup
 clear h hdup
 go_enter Tryz.func8, Tryz.ntmps8
 go_wp2_with fail
 refine (HD.out _).mono ?_
 rintro e w1 ⟨dv, er, rfl, her, hce, f1⟩
 have k0 : w1.cell? ⟨w.heap.size, 0, none⟩ = some (.string s) := f1.keep (by simp) (by simp)
 have k1 : w1.cell? ⟨w.heap.size, 1, none⟩ = some (.int .i64 p) := f1.keep (by simp) (by simp)
 have HCE := Lib.hid hce
 clear hce
 have HV : Hid (addrB s.data.toList p = addrB s.data.toList p) := Lib.hid rfl
 rcases her with rfl | rfl
 ·cases hb : addrB s.data.toList p
  ·have HB := Lib.hid hb
   clear hb
   go_wp2_with (go_at_call 37; refine (valid_any s p hs _).mono ?_; rintro e w2 ⟨rfl, f2⟩; rw [HB.out])
   go_ret2
   exact ⟨rfl, (f0.step f1).step f2⟩
  ·have hp : p = 0 := by
    rcases H.out with h | h | h
    ·rw [hb] at h; cases h
    ·exact h
    ·exact absurd h (HCE.out rfl)
   subst hp
   have HB := Lib.hid hb
   clear hb
   go_wp2_with (go_at_call 37; refine (valid_any s 0 hs _).mono ?_; rintro e w2 ⟨rfl, f2⟩; rw [HB.out]; have j1 := f2.keep k1 (by simp))
   go_ret2
   exact ⟨rfl, (f0.step f1).step f2⟩
 ·cases hb : addrB s.data.toList p
  ·have HB := Lib.hid hb
   clear hb
   go_wp2_with (go_at_call 37; refine (valid_any s p hs _).mono ?_; rintro e w2 ⟨rfl, f2⟩; rw [HB.out])
   go_ret2
   exact ⟨rfl, (f0.step f1).step f2⟩
  ·have HB := Lib.hid hb
   clear hb
   by_cases hp : p = 0
   ·subst hp
    go_wp2_with (go_at_call 37; refine (valid_any s 0 hs _).mono ?_; rintro e w2 ⟨rfl, f2⟩; rw [HB.out]; have j1 := f2.keep k1 (by simp))
    go_ret2
    exact ⟨rfl, (f0.step f1).step f2⟩
   ·have hp0 : (p == 0) = false := by simp [hp]
    go_wp2_with (go_at_call 37; refine (valid_any s p hs _).mono ?_; rintro e w2 ⟨rfl, f2⟩; rw [HB.out]; have j1 := f2.keep k1 (by simp))
    go_ret2
    exact ⟨rfl, (f0.step f1).step f2⟩
def NoNet (w : World) (v : Value) : Prop := v = .pointer none ∨ ∃ n, v = .pointer (some ⟨n, 0, none⟩) ∧ w.cell? ⟨n, 0, none⟩ = some (.pointer none)
theorem NoNet.new {w w' : World} {v : Value} (h : NoNet w v) (hf : Fr [] w w') : NoNet w' v := by
 rcases h with h | ⟨n, h, h1⟩
 ·exact .inl h
 ·exact .inr ⟨n, h, hf.keep h1 (by simp)⟩
theorem NoDial.new {w w' : World} {v : Value} (h : NoDial w v) (hf : Fr [] w w') : NoDial w' v := by
 rcases h with h | ⟨n, h, h1⟩
 ·exact .inl h
 ·exact .inr ⟨n, h, hf.keep h1 (by simp)⟩
section
variable {n r m lm cm : Nat} {names ls cs : List (Value × Value)}
theorem dead_ok (w : World) (h : NetIs w n r m lm cm names ls cs) :
  Calls Tryz.prog 62 #[.pointer (some ⟨n, 0, none⟩)] w fun e w' => e = .returned (.bool false) ∧ Fr [] w w' := by
 go_enter Tryz.func62, Tryz.ntmps62
 go_wp2_with (go_at_call 99; refine (netFind_bad ⟨#[]⟩ 0 _ h (by decide) (by decide)).mono ?_; rintro e w' ⟨rfl, f1⟩)
 go_ret
 exact ⟨rfl, f1⟩
variable (d u : Nat) (s : ByteArray) (p un st conn er tr : Int) (c : Nat)
theorem dialTry_state (now : Int) (w : World) (h : DialIs w d u s p c un st conn er tr) (hn : NetIs w n r m lm cm names ls cs) (hst : st ≠ 0) :
  Calls Tryz.prog 42 #[.pointer (some ⟨d, 0, none⟩), .pointer (some ⟨n, 0, none⟩), .int .u64 now] w fun e w' => e = .returned (.tuple #[.int .i64 0, .int .i64 8]) ∧ Fr [] w w' := by
 have hs0 : (st != 0) = true := by simp [hst]
 go_enter Tryz.func42, Tryz.ntmps42
 go_wp2_with (first
  | (go_at_call 43; refine (dialNone_any d u s p c un st conn er tr _ h).mono ?_; rintro e w' ⟨rfl, rfl⟩)
  | (go_at_call 62; refine (dead_ok _ hn).mono ?_; rintro e w1 ⟨rfl, f1⟩; have c5 := (h.new f1).c5))
 go_ret2
 exact ⟨rfl, f1⟩
theorem dialTry_over (now : Int) (w : World) (h : DialIs w d u s p c un 0 conn er tr) (hn : NetIs w n r m lm cm names ls cs) (ho : passB un now = true) :
  Calls Tryz.prog 42 #[.pointer (some ⟨d, 0, none⟩), .pointer (some ⟨n, 0, none⟩), .int .u64 now] w fun e w' => e = .returned (.tuple #[.int .i64 0, .int .i64 12]) ∧ DialIs w' d u s p c un 2 conn 12 tr ∧ Fr [d] w w' := by
 have HO := Lib.hid ho
 clear ho
 go_enter Tryz.func42, Tryz.ntmps42
 go_wp2_with (first
  | (go_at_call 43; refine (dialNone_any d u s p c un 0 conn er tr _ h).mono ?_; rintro e w' ⟨rfl, rfl⟩)
  | (go_at_call 62; refine (dead_ok _ hn).mono ?_; rintro e w1 ⟨rfl, f1⟩; have c5 := (h.new f1).c5; have c4 := (h.new f1).c4)
  | (go_at_call 38; refine (over_any u un now _ (h.new f1).cu).mono ?_; rintro e w' ⟨rfl, rfl⟩; rw [HO.out])
  | (go_at_call 44; refine (dialFail_any d u s p c un 0 conn er tr _ 12 (h.new f1)).mono ?_; rintro e w2 ⟨rfl, h2, f2⟩))
 go_ret2
 exact ⟨rfl, h2, (f1.mono (fun x hx => by cases hx)).trans f2 (fun x hx _ => hx)⟩
end
set_option maxHeartbeats 4000000
theorem setOne {a : Nat} {o o1 : Nat} {v v1 : Value} {w : World} (h : w.cell? ⟨a, o, none⟩ = some v) (h1 : o1 ≠ o := by decide) : (w.setCell ⟨a, o1, none⟩ v1).cell? ⟨a, o, none⟩ = some v :=
 (World.cell?_setCell_other _ _ _ _ (fun e => h1 (by injection e))).trans h
section
variable {n r m lm cm : Nat} {names ls cs : List (Value × Value)}
variable (d u : Nat) (s : ByteArray) (p un conn er tr : Int) (c : Nat)
theorem dialTry_go (now k fe : Int) (S : List Nat) (R : World → Prop) (hR : ∀ a b : World, R a → Fr [d] a b → R b) (w : World) (h : DialIs w d u s p c un 0 conn er tr) (hn : NetIs w n r m lm cm names ls cs) (ho : passB un now = false)
  (htr : 0 ≤ tr) (htr' : tr ≤ 1000000000) (hdn : d ∉ [n, r, m, lm, cm]) (hdS : d ∉ S) (huS : u ∉ S)
  (hC : ∀ W, Fr [d] w W → Calls Tryz.prog 81 #[.pointer (some ⟨n, 0, none⟩), .agg #[.string s, .int .i64 p], .int .i64 c] W fun e w' => e = .returned (.tuple #[.int .i64 k, .int .i64 fe]) ∧ R w' ∧ Fr S W w') :
  Calls Tryz.prog 42 #[.pointer (some ⟨d, 0, none⟩), .pointer (some ⟨n, 0, none⟩), .int .u64 now] w fun e w' => e = .returned (.tuple #[.int .i64 (if fe = 0 ∨ fe = 16 then k else 0), .int .i64 fe]) ∧ DialIs w' d u s p c un (if fe = 0 then 1 else if fe = 16 then 0 else 2) (if fe = 0 then k else conn) (if fe = 0 ∨ fe = 16 then er else fe) (tr + 1) ∧ R w' ∧ Fr (d :: S) w w' := by
 have hdlt := cell_lt h.c0
 have hult := cell_lt h.cu
 have hne := h.ne
 have HO := Lib.hid ho
 have HC := Lib.hid hC
 have HR := Lib.hid hR
 clear ho hC hR
 go_enter Tryz.func42, Tryz.ntmps42
 go_wp2_with (first
  | (go_at_call 43; refine (dialNone_any d u s p c un 0 conn er tr _ h).mono ?_; rintro e w' ⟨rfl, rfl⟩)
  | (go_at_call 62; refine (dead_ok _ hn).mono ?_; rintro e w1 ⟨rfl, f1⟩; have c5 := (h.new f1).c5; have c4 := (h.new f1).c4; have c8 := (h.new f1).c8; have hfz := (h.new f1).free)
  | (go_at_call 38; refine (over_any u un now _ (h.new f1).cu).mono ?_; rintro e w' ⟨rfl, rfl⟩; rw [HO.out]))
 have f2 : Fr [d] w1 (w1.setCell ⟨d, 8, none⟩ (.int .i64 (tr + 1))) := (Fr.refl _ w1).setCell (fun _ => by simp) _
 have h1 := h.new f1
 have h2 : DialIs (w1.setCell ⟨d, 8, none⟩ (.int .i64 (tr + 1))) d u s p c un 0 conn er (tr + 1) :=
  ⟨setOne h1.c0, setOne h1.c1, setOne h1.c2, setOne h1.c3, setOne h1.c4, setOne h1.c5, setOne h1.c6, setOne h1.c7, World.cell?_setCell_same _ _ _ h1.c8, fun o => by simpa using h1.free o, f2.keep h1.cu (by simp; omega), h.ne⟩
 have g2 : Fr [d] w (w1.setCell ⟨d, 8, none⟩ (.int .i64 (tr + 1))) := (f1.mono (fun x hx => by cases hx)).trans f2 (fun x hx _ => hx)
 clear c4 c5 c8 hfz f2 h1
 generalize w1.setCell ⟨d, 8, none⟩ (.int .i64 (tr + 1)) = w2 at h2 g2 ⊢
 have c0 := h2.c0
 have c1 := h2.c1
 have c2 := h2.c2
 go_cut [8, 9] from 39 to 51 (fun s8 s9 wc => s8 = .int .i64 k ∧ s9 = .int .i64 fe ∧ R wc ∧ Fr S w2 wc)
 case first => --D
  go_region_with (go_at_call 81; refine (HC.out _ (g2.drewN 1)).mono ?_; rintro e w3 ⟨rfl, hr3, f3⟩)
  all_goals go_wp2
  all_goals go_meet
  case' rel => skip
  all_goals exact ⟨rfl, rfl, hr3, f3.behind⟩
 case rest =>
  obtain ⟨rfl, rfl, hr3, f3⟩ := hcut
  have h3 := h2.keep f3 hdS huS
  have g3 : Fr (d :: S) w wc := (g2.mono (T := d :: S) (fun x hx _ => by simp at hx; simp [hx])).trans f3 (fun x hx _ => by simp [hx])
  clear c0 c1 c2 h2 g2 f3
  by_cases hz : fe = 0
  ·subst hz
   have c5 := h3.c5
   have c6 := h3.c6
   have hfz := h3.free
   go_wp2
   go_ret2
   have fE : Fr [d] wc ((wc.setCell ⟨d, 5, none⟩ (.int .i64 1)).setCell ⟨d, 6, none⟩ (.int .i64 k)) := ((Fr.refl _ wc).setCell (fun _ => by simp) _).setCell (fun _ => by simp) _
   refine ⟨rfl, ⟨setTwo h3.c0, setTwo h3.c1, setTwo h3.c2, setTwo h3.c3, setTwo h3.c4, (World.cell?_setCell_other _ _ _ _ (by simp)).trans (World.cell?_setCell_same _ _ _ h3.c5), World.cell?_setCell_same _ _ _ ((World.cell?_setCell_other _ _ _ _ (by simp)).trans h3.c6), setTwo h3.c7, setTwo h3.c8, fun o => by simpa using h3.free o, fE.keep h3.cu (by simp; omega), h.ne⟩, HR.out _ _ hr3 fE, g3.trans fE (fun x hx _ => by simp at hx; simp [hx])⟩
  ·have hz0 : (fe == 0) = false := by simp [hz]
   by_cases hb : fe = 16
   ·subst hb
    go_wp2
    go_ret2
    exact ⟨rfl, h3, hr3, g3⟩
   ·have hb0 : (fe != 16) = true := by simp [hb]
    have HZ := Lib.hid hz
    have HB := Lib.hid hb
    clear hz hb
    go_wp2_with (go_at_call 44; refine (dialFail_any d u s p c un 0 conn er (tr + 1) _ fe h3).mono ?_; rintro e w4 ⟨rfl, h4, f4⟩)
    go_ret2
    exact ⟨rfl, h4, HR.out _ _ hr3 f4, g3.trans f4 (fun x hx _ => by simp at hx; simp [hx])⟩
end
theorem to_any (s : ByteArray) (p : Int) (w : World) :
  Calls Tryz.prog 30 #[.string s, .int .i64 p] w fun e w' => e = .returned (.agg #[.string s, .int .i64 p]) ∧ Fr [] w w' := by
 go_enter Tryz.func30, Tryz.ntmps30
 go_wp2
 refine bodyPost_ret (v := .agg #[.string s, .int .i64 p]) (by simp [results, Tryz.results30, go_sem]) rfl ⟨rfl, ?_⟩
 first | exact (Fr.refl [] w).alloc _ | exact (((Fr.refl [] w).alloc _).setCell (by simp) _).setCell (by simp) _
theorem tries_any {dv nv : Value} (now k f conn e0 : Int) (Q : World → Prop) (w : World)
  (hT : Calls Tryz.prog 42 #[dv, nv, .int .u64 now] w fun e w' => e = .returned (.tuple #[.int .i64 k, .int .i64 f]) ∧ Q w') :
  Calls Tryz.prog 10 #[dv, nv, .int .u64 now, .int .i64 conn, .int .i64 e0] w fun e w' => e = .returned (.bool ((k == conn) && (f == e0))) ∧ Q w' := by
 have HT := Lib.hid hT
 clear hT
 by_cases h1 : k = conn
 ·subst h1
  cases h2 : f == e0
  ·go_enter Tryz.func10, Tryz.ntmps10
   go_wp2_with (go_at_call 42; refine HT.out.mono ?_; rintro e w1 ⟨rfl, q1⟩)
   go_ret
   exact ⟨by simp, q1⟩
  ·go_enter Tryz.func10, Tryz.ntmps10
   go_wp2_with (go_at_call 42; refine HT.out.mono ?_; rintro e w1 ⟨rfl, q1⟩)
   go_ret
   exact ⟨by simp, q1⟩
 ·have h1' : (k == conn) = false := by simp [h1]
  go_enter Tryz.func10, Tryz.ntmps10
  go_wp2_with (go_at_call 42; refine HT.out.mono ?_; rintro e w1 ⟨rfl, q1⟩)
  go_ret
  exact ⟨by simp [h1], q1⟩
theorem stands_any {dv : Value} (a b c st conn e0 : Int) (Q : World → Prop) (w : World)
  (hT : Calls Tryz.prog 73 #[dv] w fun e w' => e = .returned (.tuple #[.int .i64 a, .int .i64 b, .int .i64 c]) ∧ Q w') :
  Calls Tryz.prog 31 #[dv, .int .i64 st, .int .i64 conn, .int .i64 e0] w fun e w' => e = .returned (.bool ((a == st) && (b == conn) && (c == e0))) ∧ Q w' := by
 have HT := Lib.hid hT
 clear hT
 cases h1 : a == st
 ·go_enter Tryz.func31, Tryz.ntmps31
  go_wp2_with (go_at_call 73; refine HT.out.mono ?_; rintro e w1 ⟨rfl, q1⟩)
  go_ret
  exact ⟨by simp, q1⟩
 ·cases h2 : b == conn
  ·go_enter Tryz.func31, Tryz.ntmps31
   go_wp2_with (go_at_call 73; refine HT.out.mono ?_; rintro e w1 ⟨rfl, q1⟩)
   go_ret
   exact ⟨by simp, q1⟩
  ·cases h3 : c == e0
   ·go_enter Tryz.func31, Tryz.ntmps31
    go_wp2_with (go_at_call 73; refine HT.out.mono ?_; rintro e w1 ⟨rfl, q1⟩)
    go_ret
    exact ⟨by simp, q1⟩
   ·go_enter Tryz.func31, Tryz.ntmps31
    go_wp2_with (go_at_call 73; refine HT.out.mono ?_; rintro e w1 ⟨rfl, q1⟩)
    go_ret
    exact ⟨by simp, q1⟩
set_option maxHeartbeats 8000000
def web : ByteArray := ⟨#[119, 101, 98]⟩
def db : ByteArray := ⟨#[100, 98]⟩
theorem web80 : addrB web.data.toList 80 = true := by decide
theorem db1 : addrB db.data.toList 1 = true := by decide
theorem webdb : addrV web 80 ≠ addrV db 1 := by
 intro h
 unfold addrV web db at h
 injection h with h
 simp at h
structure Ex (w : World) (n r m lm cm b q mm t : Nat) (l : List (Nat × Int)) (g : Nat) (cs : List (Value × Value)) : Prop where
 net : NetIs w n r m lm cm [(addrV web 80, .int .i64 0)] [(.int .i64 0, qV b web 80)] cs
 back : BackIs w b q mm t 1 false l g
theorem Ex.keep {S : List Nat} {w w' : World} {n r m lm cm b q mm t : Nat} {l : List (Nat × Int)} {g : Nat} {cs : List (Value × Value)} (h : Ex w n r m lm cm b q mm t l g cs) (hf : Fr S w w') (hS : ∀ x ∈ S, x ∉ [n, r, m, lm, cm, b, q, mm, t]) : Ex w' n r m lm cm b q mm t l g cs :=
 have k : ∀ x ∈ [n, r, m, lm, cm, b, q, mm, t], x ∉ S := fun x hx hs => hS x hs hx
 ⟨h.net.keep hf (k _ (by simp)) (k _ (by simp)) (k _ (by simp)) (k _ (by simp)) (k _ (by simp)), h.back.keep hf (k _ (by simp)) (k _ (by simp)) (k _ (by simp)) (k _ (by simp))⟩
theorem Ex.new {w w' : World} {n r m lm cm b q mm t : Nat} {l : List (Nat × Int)} {g : Nat} {cs : List (Value × Value)} (h : Ex w n r m lm cm b q mm t l g cs) (hf : Fr [] w w') : Ex w' n r m lm cm b q mm t l g cs := h.keep hf (by simp)
theorem Ex.lt {w : World} {n r m lm cm b q mm t : Nat} {l : List (Nat × Int)} {g : Nat} {cs : List (Value × Value)} (h : Ex w n r m lm cm b q mm t l g cs) : ∀ x ∈ [n, r, m, lm, cm, b, q, mm, t], x < w.heap.size := by
 obtain ⟨f', hbm, _⟩ := h.back.queue.nodes
 obtain ⟨ff, hmt, _⟩ := h.back.tickets
 intro x hx
 simp only [List.mem_cons, List.not_mem_nil, or_false] at hx
 rcases hx with rfl | rfl | rfl | rfl | rfl | rfl | rfl | rfl | rfl
 ·exact cell_lt h.net.c0
 ·exact cell_lt h.net.reg.c0
 ·exact h.net.reg.map.lt
 ·exact h.net.ls.lt
 ·exact h.net.cs.lt
 ·exact cell_lt h.back.c0
 ·exact cell_lt h.back.queue.c0
 ·exact hbm.lt
 ·exact hmt.lt
section
variable {n r m lm cm b q mm t : Nat} {dd : Nat} (d u : Nat) (w : World)
theorem try_a (now : Int) (hnow : passB 10 now = false) (h : DialIs w d u web 80 (4 : Nat) 10 0 0 0 0) (hx : Ex w n r m lm cm b q mm t [] 0 []) (hd : ∀ x ∈ [n, r, m, lm, cm, b, q, mm, t], x < d ∧ x < u)
  (hsep : ∀ x ∈ [b, q, mm, t], x ∉ [n, r, m, lm, cm]) :
  Calls Tryz.prog 42 #[.pointer (some ⟨d, 0, none⟩), .pointer (some ⟨n, 0, none⟩), .int .u64 now] w fun e w' => e = .returned (.tuple #[.int .i64 0, .int .i64 0]) ∧ (DialIs w' d u web 80 (4 : Nat) 10 1 0 0 1 ∧ (∃ dd, Ex w' n r m lm cm b q mm t [(1, 0)] 1 [(.int .i64 0, .pointer (some ⟨dd, 0, none⟩))]) ∧ Fr [d, cm, q, mm, t] w w') := by
 have hnd : d ∉ [n, r, m, lm, cm, b, q, mm, t] := fun hm => by have := hd d hm; omega
 have hnu : u ∉ [n, r, m, lm, cm, b, q, mm, t] := fun hm => by have := hd u hm; omega
 refine (dialTry_go (names := [(addrV web 80, .int .i64 0)]) (ls := [(.int .i64 0, qV b web 80)]) (cs := []) d u web 80 10 0 0 0 4 now 0 0 [cm, q, mm, t] (fun W => ∃ dd, Ex W n r m lm cm b q mm t [(1, 0)] 1 [(.int .i64 0, .pointer (some ⟨dd, 0, none⟩))]) ?_ w h hx.net hnow (by omega) (by omega) ?_ ?_ ?_ ?_).mono ?_
 ·rintro a b' ⟨dd, hdd⟩ hf
  exact ⟨dd, hdd.keep hf (fun x hx => by simp only [List.mem_singleton] at hx; subst hx; exact hnd)⟩
 ·intro hm; exact hnd (by simp at hm ⊢; omega)
 ·intro hm; exact hnd (by simp at hm ⊢; omega)
 ·intro hm; exact hnu (by simp at hm ⊢; omega)
 ·intro W hW
  have hE := hx.keep hW (fun x hx => by simp only [List.mem_singleton] at hx; subst hx; exact hnd)
  refine (netConnect_first n r m lm cm _ _ [] web 80 4 W hE.net (by decide) web80 (by omega) 0 b q mm t 1 0 0 web 80 (by simp) (by simp) hE.back (by omega) (by omega) (by omega) (fun j hj => by omega) (by simp) (by omega) (by simp) hsep).mono ?_
  rintro e w' ⟨dd, rfl, hN, hB, _, hf⟩
  exact ⟨rfl, ⟨dd, ⟨hN, hB⟩⟩, hf⟩
 ·rintro e w' ⟨rfl, hD, hE, hf⟩
  exact ⟨by simp, by simpa using hD, hE, hf⟩
theorem try_b (now : Int) (hnow : passB 10 now = false) (h : DialIs w d u web 80 (4 : Nat) 10 0 0 0 0) (hx : Ex w n r m lm cm b q mm t [(1, 0)] 1 [(.int .i64 0, .pointer (some ⟨dd, 0, none⟩))]) (hd : ∀ x ∈ [n, r, m, lm, cm, b, q, mm, t], x < d ∧ x < u) :
  Calls Tryz.prog 42 #[.pointer (some ⟨d, 0, none⟩), .pointer (some ⟨n, 0, none⟩), .int .u64 now] w fun e w' => e = .returned (.tuple #[.int .i64 0, .int .i64 16]) ∧ (DialIs w' d u web 80 (4 : Nat) 10 0 0 0 1 ∧ Ex w' n r m lm cm b q mm t [(1, 0)] 1 [(.int .i64 0, .pointer (some ⟨dd, 0, none⟩))] ∧ Fr [d] w w') := by
 have hnd : d ∉ [n, r, m, lm, cm, b, q, mm, t] := fun hm => by have := hd d hm; omega
 refine (dialTry_go (names := [(addrV web 80, .int .i64 0)]) (ls := [(.int .i64 0, qV b web 80)]) (cs := [(.int .i64 0, .pointer (some ⟨dd, 0, none⟩))]) d u web 80 10 0 0 0 4 now 0 16 [] (fun W => Ex W n r m lm cm b q mm t [(1, 0)] 1 [(.int .i64 0, .pointer (some ⟨dd, 0, none⟩))]) ?_ w h hx.net hnow (by omega) (by omega) ?_ (by simp) (by simp) ?_).mono ?_
 ·intro a b' hdd hf
  exact hdd.keep hf (fun x hx => by simp only [List.mem_singleton] at hx; subst hx; exact hnd)
 ·intro hm; exact hnd (by simp at hm ⊢; omega)
 ·intro W hW
  have hE := hx.keep hW (fun x hx => by simp only [List.mem_singleton] at hx; subst hx; exact hnd)
  refine (netConnect_block n r m lm cm _ _ _ web 80 4 W hE.net (by decide) web80 (by omega) 0 b q mm t 1 [(1, 0)] 1 web 80 (by simp) (by simp) hE.back (by omega) (by omega) (by simp)).mono ?_
  rintro e w' ⟨rfl, hf⟩
  exact ⟨rfl, hE.new hf, hf⟩
 ·rintro e w' ⟨rfl, hD, hE, hf⟩
  exact ⟨by simp, by simpa using hD, hE, hf⟩
theorem try_c (now : Int) (hnow : passB 18446744073709551615 now = false) (h : DialIs w d u db 1 (0 : Nat) 18446744073709551615 0 0 0 0) (hx : Ex w n r m lm cm b q mm t [(1, 0)] 1 [(.int .i64 0, .pointer (some ⟨dd, 0, none⟩))]) (hd : ∀ x ∈ [n, r, m, lm, cm, b, q, mm, t], x < d ∧ x < u) :
  Calls Tryz.prog 42 #[.pointer (some ⟨d, 0, none⟩), .pointer (some ⟨n, 0, none⟩), .int .u64 now] w fun e w' => e = .returned (.tuple #[.int .i64 0, .int .i64 15]) ∧ (DialIs w' d u db 1 (0 : Nat) 18446744073709551615 2 0 15 1 ∧ Ex w' n r m lm cm b q mm t [(1, 0)] 1 [(.int .i64 0, .pointer (some ⟨dd, 0, none⟩))] ∧ Fr [d] w w') := by
 have hnd : d ∉ [n, r, m, lm, cm, b, q, mm, t] := fun hm => by have := hd d hm; omega
 refine (dialTry_go (names := [(addrV web 80, .int .i64 0)]) (ls := [(.int .i64 0, qV b web 80)]) (cs := [(.int .i64 0, .pointer (some ⟨dd, 0, none⟩))]) d u db 1 18446744073709551615 0 0 0 0 now 0 15 [] (fun W => Ex W n r m lm cm b q mm t [(1, 0)] 1 [(.int .i64 0, .pointer (some ⟨dd, 0, none⟩))]) ?_ w h hx.net hnow (by omega) (by omega) ?_ (by simp) (by simp) ?_).mono ?_
 ·intro a b' hdd hf
  exact hdd.keep hf (fun x hx => by simp only [List.mem_singleton] at hx; subst hx; exact hnd)
 ·intro hm; exact hnd (by simp at hm ⊢; omega)
 ·intro W hW
  have hE := hx.keep hW (fun x hx => by simp only [List.mem_singleton] at hx; subst hx; exact hnd)
  refine (netConnect_refused n r m lm cm _ _ _ db 1 0 W hE.net (by decide) db1 (by simp only [List.mem_singleton, forall_eq]; exact webdb) (by omega)).mono ?_
  rintro e w' ⟨rfl, hf⟩
  exact ⟨rfl, hE.new hf, hf⟩
 ·rintro e w' ⟨rfl, hD, hE, hf⟩
  exact ⟨by simp, by simpa using hD, hE, hf⟩
end
set_option maxHeartbeats 16000000
theorem known_true (w : World) :
  Calls Tryz.prog 5 #[] w fun e w' => e = .returned (.bool true) ∧ Fr [] w w' := by
 go_enter Tryz.func5, Tryz.ntmps5
 go_wp2_with fail
 refine (netNew_any _).mono ?_
 rintro e w1 ⟨n, r, m, lm, cm, rfl, N, F, bn, br, bm, bl, bc⟩
 go_wp2_with fail
 refine (to_any _ _ _).mono ?_
 rintro e w2 ⟨rfl, f2⟩
 have F2 := F.step f2
 go_wp2_with fail
 refine (netListen_ok n r m lm cm [] [] [] web 80 1 0 _ (N.new f2) (by decide) web80 (by decide) (by omega) (by omega) (by simp) (by simp) (fun j hj => by omega) (by simp) (by omega)).mono ?_
 rintro e w3 ⟨b, q, mm, t, rfl, N3, B3, f3, lb, lq, lmm, lt⟩
 have X3 : Ex w3 n r m lm cm b q mm t [] 0 [] := ⟨N3, B3⟩
 have z2 := (Ex.lt X3)
 have zn := cell_lt (N.new f2).c0
 have zr := cell_lt (N.new f2).reg.c0
 have zm := (N.new f2).reg.map.lt
 have zl := (N.new f2).ls.lt
 have zc := (N.new f2).cs.lt
 have hsep : ∀ x ∈ [b, q, mm, t], x ∉ [n, r, m, lm, cm] := by
  intro x hx hm
  simp only [List.mem_cons, List.not_mem_nil, or_false] at hx hm
  omega
 have low : ∀ x ∈ [n, r, m, lm, cm, b, q, mm, t], w.heap.size ≤ x := by
  have := F2.size
  intro x hx
  simp only [List.mem_cons, List.not_mem_nil, or_false] at hx
  omega
 have F3 : Fr [] w w3 := F2.trans f3 (fun x hx hl => by simp at hx; omega)
 clear zn zr zm zl zc lb lq lmm lt N3 B3 f3 N F f2 bn br bm bl bc F2
 go_wp2_with fail
 have f4 : Fr [] w3 (w3.alloc (.cells #[.string web, .int .i64 80] 36)) := (Fr.refl [] _).alloc _
 refine (to_any _ _ _).mono ?_
 rintro e w5 ⟨rfl, f5⟩
 have X5 := (X3.new f4).new f5
 have F5 := (F3.step f4).step f5
 clear X3 F3 f4 f5 z2
 go_wp2_with fail
 refine (dialNew_ok web 80 10 4 _ (by decide) web80 (by decide) (by omega)).mono ?_
 rintro e w6 ⟨da, ua, rfl, A6, la, lua, f6⟩
 have X6 := X5.new f6
 have F6 := F5.step f6
 have za := cell_lt A6.c0
 have zua := cell_lt A6.cu
 go_wp2_with fail
 refine (to_any _ _ _).mono ?_
 rintro e w7 ⟨rfl, f7⟩
 have X7 := X6.new f7
 have F7 := F6.step f7
 have A7 := A6.new f7
 have z7 := f7.size
 clear f7 X6 F6 A6
 go_wp2_with fail
 refine (dialNew_ok web 80 10 4 _ (by decide) web80 (by decide) (by omega)).mono ?_
 rintro e w8 ⟨db', ub, rfl, B8, lb, lub, f8⟩
 have X8 := X7.new f8
 have F8 := F7.step f8
 have A8 := A7.new f8
 have zb := cell_lt B8.c0
 have zub := cell_lt B8.cu
 clear f8 X7 F7 A7
 go_wp2_with fail
 refine (to_any _ _ _).mono ?_
 rintro e w9 ⟨rfl, f9⟩
 have X9 := X8.new f9
 have F9 := F8.step f9
 have A9 := A8.new f9
 have B9 := B8.new f9
 have z9 := f9.size
 clear f9 X8 F8 A8 B8
 go_wp2_with fail
 refine (dialNew_ok db 1 18446744073709551615 0 _ (by decide) db1 (by decide) (by omega)).mono ?_
 rintro e w10 ⟨dc, uc, rfl, C10, lc, luc, f10⟩
 have X10 := X9.new f10
 have F10 := F9.step f10
 have A10 := A9.new f10
 have B10 := B9.new f10
 have L5 := X5.lt
 have z6 := f6.size
 have LA : ∀ x ∈ [n, r, m, lm, cm, b, q, mm, t], x < da ∧ x < ua := fun x hx => by have := L5 x hx; omega
 have LB : ∀ x ∈ [n, r, m, lm, cm, b, q, mm, t], x < db' ∧ x < ub := fun x hx => by have := L5 x hx; omega
 have LC : ∀ x ∈ [n, r, m, lm, cm, b, q, mm, t], x < dc ∧ x < uc := fun x hx => by have := L5 x hx; omega
 have y1 := L5 cm (by simp)
 have y2 := L5 q (by simp)
 have y3 := L5 mm (by simp)
 have y4 := L5 t (by simp)
 have y5 := F5.size
 have u1 := low cm (by simp)
 have u2 := low q (by simp)
 have u3 := low mm (by simp)
 have u4 := low t (by simp)
 have HL := Lib.hid (And.intro LA (And.intro LB (And.intro LC hsep)))
 clear f10 X9 F9 A9 B9 L5 f6 LA LB LC hsep low X5 F5
 go_wp2_with fail
 refine (tries_any 0 0 0 0 0 _ _ (try_a da ua _ 0 (by decide) A10 X10 HL.out.1 HL.out.2.2.2)).mono ?_
 rintro e w11 ⟨rfl, A11, ⟨dd, X11⟩, f11⟩
 have B11 := B10.keep f11 (by simp; omega) (by simp; omega)
 have C11 := C10.keep f11 (by simp; omega) (by simp; omega)
 have F11 : Fr [] w w11 := F10.trans f11 (fun x hx hl => by simp at hx; omega)
 clear f11 X10 F10 A10 B10 C10
 go_wp2_with fail
 refine (tries_any 5 0 16 0 16 _ _ (try_b db' ub _ 5 (by decide) B11 X11 HL.out.2.1)).mono ?_
 rintro e w12 ⟨rfl, B12, X12, f12⟩
 have A12 := A11.keep f12 (by simp; omega) (by simp; omega)
 have C12 := C11.keep f12 (by simp; omega) (by simp; omega)
 have F12 : Fr [] w w12 := F11.trans f12 (fun x hx hl => by simp at hx; omega)
 clear f12 X11 F11 A11 B11 C11
 go_wp2_with fail
 refine (tries_any 5 0 15 0 15 _ _ (try_c dc uc _ 5 (by decide) C12 X12 HL.out.2.2.1)).mono ?_
 rintro e w13 ⟨rfl, C13, X13, f13⟩
 have A13 := A12.keep f13 (by simp; omega) (by simp; omega)
 have B13 := B12.keep f13 (by simp; omega) (by simp; omega)
 have F13 : Fr [] w w13 := F12.trans f13 (fun x hx hl => by simp at hx; omega)
 clear f13 X12 F12 A12 B12 C12
 go_wp2_with fail
 refine (stands_any 1 0 0 1 0 0 _ _ (dialState_any da ua web 80 4 10 1 0 0 1 _ A13)).mono ?_
 rintro e w14 ⟨rfl, f14⟩
 go_wp2_with fail
 refine (stands_any 0 0 0 0 0 0 _ _ (dialState_any db' ub web 80 4 10 0 0 0 1 _ (B13.new f14))).mono ?_
 rintro e w15 ⟨rfl, f15⟩
 go_wp2_with fail
 refine (stands_any 2 0 15 2 0 15 _ _ (dialState_any dc uc db 1 0 18446744073709551615 2 0 15 1 _ ((C13.new f14).new f15))).mono ?_
 rintro e w16 ⟨rfl, f16⟩
 have f6' := (f14.step f15).step f16
 have X16 := X13.new f6'
 have A16 := A13.new f6'
 have B16 := B13.new f6'
 have F16 := F13.step f6'
 clear f14 f15 f16 f6' X13 A13 B13 C13 F13
 go_wp2_with fail
 refine (tries_any 5 0 8 0 8 _ _ (dialTry_state da ua web 80 10 1 0 0 1 4 5 _ A16 X16.net (by decide))).mono ?_
 rintro e w17 ⟨rfl, f17⟩
 have B17 := B16.new f17
 go_wp2_with fail
 refine (dialTries_any db' ub web 80 4 10 0 0 0 1 _ B17).mono ?_
 rintro e w' ⟨rfl, rfl⟩
 go_wp2_with fail
 refine (tries_any 10 0 12 0 12 _ _ (dialTry_over db' ub web 80 10 0 0 1 4 10 _ B17 (X16.new f17).net (by decide))).mono ?_
 rintro e w18 ⟨rfl, B18, f18⟩
 have F18 : Fr [] w w18 := (F16.step f17).trans f18 (fun x hx hl => by simp at hx; omega)
 clear B16 B17 A16 X16 f17 f18 F16
 go_wp2_with fail
 refine (stands_any 2 0 12 2 0 12 _ _ (dialState_any db' ub web 80 4 10 2 0 12 1 _ B18)).mono ?_
 rintro e w19 ⟨rfl, f19⟩
 have B19 := B18.new f19
 go_wp2_with fail
 refine (dialTries_any db' ub web 80 4 10 2 0 12 1 _ B19).mono ?_
 rintro e w' ⟨rfl, rfl⟩
 go_wp2_with fail
 refine (dialGive_state db' ub web 80 4 10 2 0 12 1 _ B19 (by decide)).mono ?_
 rintro e w' ⟨rfl, rfl⟩
 go_wp2_with fail
 refine (to_any _ _ _).mono ?_
 rintro e w20 ⟨rfl, f20⟩
 go_wp2_with fail
 refine (dialNew_bad web 0 4 10 _ (by decide) (.inr (.inl rfl))).mono ?_
 rintro e w21 ⟨rfl, f21⟩
 go_wp2_with fail
 refine (to_any _ _ _).mono ?_
 rintro e w22 ⟨rfl, f22⟩
 go_wp2_with fail
 refine (dialNew_bad web 80 (-1) 10 _ (by decide) (.inr (.inr (.inl (by decide))))).mono ?_
 rintro e w23 ⟨rfl, f23⟩
 go_wp2_with fail
 go_ret
 exact ⟨rfl, ((((F18.step f19).step f20).step f21).step f22).step f23⟩
set_option maxHeartbeats 4000000
def capB (c : Int) : Bool := decide (0 ≤ c) && decide (c ≤ 4096)
def stVn (c : Int) : Value := .agg #[.int .i64 c, .slice none 0 0, .bool false, .slice none 0 0, .int .i64 0, .int .i64 0, .int .i64 0]
theorem ref14New_ok (c : Int) (w : World) (h1 : ¬ c < 0) (h2 : ¬ 4096 < c) :
  Calls Tryz.prog 74 #[.int .i64 c] w fun e w' => e = .returned (.tuple #[stVn c, .int .i64 0]) ∧ Fr [] w w' := by
 go_enter Tryz.func74, Tryz.ntmps74
 go_wp2
 refine bodyPost_ret (v := .tuple #[stVn c, .int .i64 0]) (by simp [results, Tryz.results74, go_sem, stVn]) rfl ⟨rfl, ?_⟩
 exact (Fr.refl [] w).alloc _
theorem ref14New_bad (c : Int) (w : World) (h : c < 0 ∨ 4096 < c) :
  Calls Tryz.prog 74 #[.int .i64 c] w fun e w' => e = .returned (.tuple #[stVn 0, .int .i64 2]) ∧ Fr [] w w' := by
 rcases h with h | h
 ·go_enter Tryz.func74, Tryz.ntmps74
  go_wp2
  refine bodyPost_ret (v := .tuple #[stVn 0, .int .i64 2]) (by simp [results, Tryz.results74, go_sem, stVn]) rfl ⟨rfl, ?_⟩
  exact (Fr.refl [] w).alloc _
 ·have h0 : ¬ c < 0 := by omega
  go_enter Tryz.func74, Tryz.ntmps74
  go_wp2
  refine bodyPost_ret (v := .tuple #[stVn 0, .int .i64 2]) (by simp [results, Tryz.results74, go_sem, stVn]) rfl ⟨rfl, ?_⟩
  exact (Fr.refl [] w).alloc _
def connV (c : Int) : Value := .agg #[.int .i64 c, .slice none 0 0, .bool false, .slice none 0 0, .int .i64 0, .int .i64 0, .int .i64 0, .int .i64 c, .slice none 0 0, .bool false, .slice none 0 0, .int .i64 0, .int .i64 0, .int .i64 0, .bool false, .bool false]
theorem ref15New_ok (c : Int) (w : World) (h1 : ¬ c < 0) (h2 : ¬ 4096 < c) :
  Calls Tryz.prog 34 #[.int .i64 c, .int .i64 c] w fun e w' => e = .returned (.tuple #[connV c, .int .i64 0]) ∧ Fr [] w w' := by
 have f0 : Fr [] w (w.alloc (.cells #[.int .i64 0, .slice none 0 0, .bool false, .slice none 0 0, .int .i64 0, .int .i64 0, .int .i64 0, .int .i64 0, .slice none 0 0, .bool false, .slice none 0 0, .int .i64 0, .int .i64 0, .int .i64 0, .bool false, .bool false] 99)) := (Fr.refl [] w).alloc _
 go_enter Tryz.func34, Tryz.ntmps34
 go_wp2_with fail
 refine (ref14New_ok c _ (by omega) (by omega)).mono ?_
 unfold stVn
 rintro e w1 ⟨rfl, f1⟩
 go_wp2_with fail
 refine (ref14New_ok c _ (by omega) (by omega)).mono ?_
 unfold stVn
 rintro e w2 ⟨rfl, f2⟩
 have f3 : Fr [] w2 (w2.alloc (.cells #[.int .i64 c, .slice none 0 0, .bool false, .slice none 0 0, .int .i64 0, .int .i64 0, .int .i64 0] 95)) := (Fr.refl [] w2).alloc _
 have fz : ∀ o, (w2.alloc (.cells #[.int .i64 c, .slice none 0 0, .bool false, .slice none 0 0, .int .i64 0, .int .i64 0, .int .i64 0] 95)).frozen? ⟨w.heap.size, o, none⟩ = false := fun o => by rw [((f1.alloc _).step f2 |>.step f3).frozen (by simp) (by simp)]; simp
 have a0 : (w2.alloc (.cells #[.int .i64 c, .slice none 0 0, .bool false, .slice none 0 0, .int .i64 0, .int .i64 0, .int .i64 0] 95)).cell? ⟨w1.heap.size, 0, none⟩ = some (.int .i64 c) := (f2.step f3).keep (by simp) (by simp)
 have a1 : (w2.alloc (.cells #[.int .i64 c, .slice none 0 0, .bool false, .slice none 0 0, .int .i64 0, .int .i64 0, .int .i64 0] 95)).cell? ⟨w1.heap.size, 1, none⟩ = some (.slice none 0 0) := (f2.step f3).keep (by simp) (by simp)
 have a2 : (w2.alloc (.cells #[.int .i64 c, .slice none 0 0, .bool false, .slice none 0 0, .int .i64 0, .int .i64 0, .int .i64 0] 95)).cell? ⟨w1.heap.size, 2, none⟩ = some (.bool false) := (f2.step f3).keep (by simp) (by simp)
 have a3 : (w2.alloc (.cells #[.int .i64 c, .slice none 0 0, .bool false, .slice none 0 0, .int .i64 0, .int .i64 0, .int .i64 0] 95)).cell? ⟨w1.heap.size, 3, none⟩ = some (.slice none 0 0) := (f2.step f3).keep (by simp) (by simp)
 have a4 : (w2.alloc (.cells #[.int .i64 c, .slice none 0 0, .bool false, .slice none 0 0, .int .i64 0, .int .i64 0, .int .i64 0] 95)).cell? ⟨w1.heap.size, 4, none⟩ = some (.int .i64 0) := (f2.step f3).keep (by simp) (by simp)
 have a5 : (w2.alloc (.cells #[.int .i64 c, .slice none 0 0, .bool false, .slice none 0 0, .int .i64 0, .int .i64 0, .int .i64 0] 95)).cell? ⟨w1.heap.size, 5, none⟩ = some (.int .i64 0) := (f2.step f3).keep (by simp) (by simp)
 have a6 : (w2.alloc (.cells #[.int .i64 c, .slice none 0 0, .bool false, .slice none 0 0, .int .i64 0, .int .i64 0, .int .i64 0] 95)).cell? ⟨w1.heap.size, 6, none⟩ = some (.int .i64 0) := (f2.step f3).keep (by simp) (by simp)
 have b0 : (w2.alloc (.cells #[.int .i64 c, .slice none 0 0, .bool false, .slice none 0 0, .int .i64 0, .int .i64 0, .int .i64 0] 95)).cell? ⟨w.heap.size, 0, none⟩ = some (.int .i64 0) := ((f1.alloc _).step f2 |>.step f3).keep (by simp) (by simp)
 have b1 : (w2.alloc (.cells #[.int .i64 c, .slice none 0 0, .bool false, .slice none 0 0, .int .i64 0, .int .i64 0, .int .i64 0] 95)).cell? ⟨w.heap.size, 1, none⟩ = some (.slice none 0 0) := ((f1.alloc _).step f2 |>.step f3).keep (by simp) (by simp)
 have b2 : (w2.alloc (.cells #[.int .i64 c, .slice none 0 0, .bool false, .slice none 0 0, .int .i64 0, .int .i64 0, .int .i64 0] 95)).cell? ⟨w.heap.size, 2, none⟩ = some (.bool false) := ((f1.alloc _).step f2 |>.step f3).keep (by simp) (by simp)
 have b3 : (w2.alloc (.cells #[.int .i64 c, .slice none 0 0, .bool false, .slice none 0 0, .int .i64 0, .int .i64 0, .int .i64 0] 95)).cell? ⟨w.heap.size, 3, none⟩ = some (.slice none 0 0) := ((f1.alloc _).step f2 |>.step f3).keep (by simp) (by simp)
 have b4 : (w2.alloc (.cells #[.int .i64 c, .slice none 0 0, .bool false, .slice none 0 0, .int .i64 0, .int .i64 0, .int .i64 0] 95)).cell? ⟨w.heap.size, 4, none⟩ = some (.int .i64 0) := ((f1.alloc _).step f2 |>.step f3).keep (by simp) (by simp)
 have b5 : (w2.alloc (.cells #[.int .i64 c, .slice none 0 0, .bool false, .slice none 0 0, .int .i64 0, .int .i64 0, .int .i64 0] 95)).cell? ⟨w.heap.size, 5, none⟩ = some (.int .i64 0) := ((f1.alloc _).step f2 |>.step f3).keep (by simp) (by simp)
 have b6 : (w2.alloc (.cells #[.int .i64 c, .slice none 0 0, .bool false, .slice none 0 0, .int .i64 0, .int .i64 0, .int .i64 0] 95)).cell? ⟨w.heap.size, 6, none⟩ = some (.int .i64 0) := ((f1.alloc _).step f2 |>.step f3).keep (by simp) (by simp)
 have b7 : (w2.alloc (.cells #[.int .i64 c, .slice none 0 0, .bool false, .slice none 0 0, .int .i64 0, .int .i64 0, .int .i64 0] 95)).cell? ⟨w.heap.size, 7, none⟩ = some (.int .i64 0) := ((f1.alloc _).step f2 |>.step f3).keep (by simp) (by simp)
 have b8 : (w2.alloc (.cells #[.int .i64 c, .slice none 0 0, .bool false, .slice none 0 0, .int .i64 0, .int .i64 0, .int .i64 0] 95)).cell? ⟨w.heap.size, 8, none⟩ = some (.slice none 0 0) := ((f1.alloc _).step f2 |>.step f3).keep (by simp) (by simp)
 have b9 : (w2.alloc (.cells #[.int .i64 c, .slice none 0 0, .bool false, .slice none 0 0, .int .i64 0, .int .i64 0, .int .i64 0] 95)).cell? ⟨w.heap.size, 9, none⟩ = some (.bool false) := ((f1.alloc _).step f2 |>.step f3).keep (by simp) (by simp)
 have b10 : (w2.alloc (.cells #[.int .i64 c, .slice none 0 0, .bool false, .slice none 0 0, .int .i64 0, .int .i64 0, .int .i64 0] 95)).cell? ⟨w.heap.size, 10, none⟩ = some (.slice none 0 0) := ((f1.alloc _).step f2 |>.step f3).keep (by simp) (by simp)
 have b11 : (w2.alloc (.cells #[.int .i64 c, .slice none 0 0, .bool false, .slice none 0 0, .int .i64 0, .int .i64 0, .int .i64 0] 95)).cell? ⟨w.heap.size, 11, none⟩ = some (.int .i64 0) := ((f1.alloc _).step f2 |>.step f3).keep (by simp) (by simp)
 have b12 : (w2.alloc (.cells #[.int .i64 c, .slice none 0 0, .bool false, .slice none 0 0, .int .i64 0, .int .i64 0, .int .i64 0] 95)).cell? ⟨w.heap.size, 12, none⟩ = some (.int .i64 0) := ((f1.alloc _).step f2 |>.step f3).keep (by simp) (by simp)
 have b13 : (w2.alloc (.cells #[.int .i64 c, .slice none 0 0, .bool false, .slice none 0 0, .int .i64 0, .int .i64 0, .int .i64 0] 95)).cell? ⟨w.heap.size, 13, none⟩ = some (.int .i64 0) := ((f1.alloc _).step f2 |>.step f3).keep (by simp) (by simp)
 have b14 : (w2.alloc (.cells #[.int .i64 c, .slice none 0 0, .bool false, .slice none 0 0, .int .i64 0, .int .i64 0, .int .i64 0] 95)).cell? ⟨w.heap.size, 14, none⟩ = some (.bool false) := ((f1.alloc _).step f2 |>.step f3).keep (by simp) (by simp)
 have b15 : (w2.alloc (.cells #[.int .i64 c, .slice none 0 0, .bool false, .slice none 0 0, .int .i64 0, .int .i64 0, .int .i64 0] 95)).cell? ⟨w.heap.size, 15, none⟩ = some (.bool false) := ((f1.alloc _).step f2 |>.step f3).keep (by simp) (by simp)
 go_wp2_with fail
 refine bodyPost_ret (v := .tuple #[connV c, .int .i64 0]) (by simp [results, Tryz.results34, go_sem, connV, b0, b1, b2, b3, b4, b5, b6, b7, b8, b9, b10, b11, b12, b13, b14, b15]) rfl ⟨rfl, ?_⟩
 have g := ((f0.step f1).alloc (.cells #[.int .i64 c, .slice none 0 0, .bool false, .slice none 0 0, .int .i64 0, .int .i64 0, .int .i64 0] 95)).step f2 |>.step f3
 iterate 16 refine Fr.setCell ?_ (by simp) _
 exact g
theorem ref15New_bad (c : Int) (w : World) (h : c < 0 ∨ 4096 < c) :
  Calls Tryz.prog 34 #[.int .i64 c, .int .i64 c] w fun e w' => e = .returned (.tuple #[connV 0, .int .i64 2]) ∧ Fr [] w w' := by
 have H := Lib.hid h
 clear h
 have f0 : Fr [] w (w.alloc (.cells #[.int .i64 0, .slice none 0 0, .bool false, .slice none 0 0, .int .i64 0, .int .i64 0, .int .i64 0, .int .i64 0, .slice none 0 0, .bool false, .slice none 0 0, .int .i64 0, .int .i64 0, .int .i64 0, .bool false, .bool false] 99)) := (Fr.refl [] w).alloc _
 go_enter Tryz.func34, Tryz.ntmps34
 go_wp2_with fail
 refine (ref14New_bad c _ H.out).mono ?_
 unfold stVn
 rintro e w1 ⟨rfl, f1⟩
 go_wp2_with fail
 refine (ref14New_bad c _ H.out).mono ?_
 unfold stVn
 rintro e w2 ⟨rfl, f2⟩
 have f3 : Fr [] w2 (w2.alloc (.cells #[.int .i64 0, .slice none 0 0, .bool false, .slice none 0 0, .int .i64 0, .int .i64 0, .int .i64 0] 95)) := (Fr.refl [] w2).alloc _
 have fz : ∀ o, (w2.alloc (.cells #[.int .i64 0, .slice none 0 0, .bool false, .slice none 0 0, .int .i64 0, .int .i64 0, .int .i64 0] 95)).frozen? ⟨w.heap.size, o, none⟩ = false := fun o => by rw [((f1.alloc _).step f2 |>.step f3).frozen (by simp) (by simp)]; simp
 have b0 : (w2.alloc (.cells #[.int .i64 0, .slice none 0 0, .bool false, .slice none 0 0, .int .i64 0, .int .i64 0, .int .i64 0] 95)).cell? ⟨w.heap.size, 0, none⟩ = some (.int .i64 0) := ((f1.alloc _).step f2 |>.step f3).keep (by simp) (by simp)
 have b1 : (w2.alloc (.cells #[.int .i64 0, .slice none 0 0, .bool false, .slice none 0 0, .int .i64 0, .int .i64 0, .int .i64 0] 95)).cell? ⟨w.heap.size, 1, none⟩ = some (.slice none 0 0) := ((f1.alloc _).step f2 |>.step f3).keep (by simp) (by simp)
 have b2 : (w2.alloc (.cells #[.int .i64 0, .slice none 0 0, .bool false, .slice none 0 0, .int .i64 0, .int .i64 0, .int .i64 0] 95)).cell? ⟨w.heap.size, 2, none⟩ = some (.bool false) := ((f1.alloc _).step f2 |>.step f3).keep (by simp) (by simp)
 have b3 : (w2.alloc (.cells #[.int .i64 0, .slice none 0 0, .bool false, .slice none 0 0, .int .i64 0, .int .i64 0, .int .i64 0] 95)).cell? ⟨w.heap.size, 3, none⟩ = some (.slice none 0 0) := ((f1.alloc _).step f2 |>.step f3).keep (by simp) (by simp)
 have b4 : (w2.alloc (.cells #[.int .i64 0, .slice none 0 0, .bool false, .slice none 0 0, .int .i64 0, .int .i64 0, .int .i64 0] 95)).cell? ⟨w.heap.size, 4, none⟩ = some (.int .i64 0) := ((f1.alloc _).step f2 |>.step f3).keep (by simp) (by simp)
 have b5 : (w2.alloc (.cells #[.int .i64 0, .slice none 0 0, .bool false, .slice none 0 0, .int .i64 0, .int .i64 0, .int .i64 0] 95)).cell? ⟨w.heap.size, 5, none⟩ = some (.int .i64 0) := ((f1.alloc _).step f2 |>.step f3).keep (by simp) (by simp)
 have b6 : (w2.alloc (.cells #[.int .i64 0, .slice none 0 0, .bool false, .slice none 0 0, .int .i64 0, .int .i64 0, .int .i64 0] 95)).cell? ⟨w.heap.size, 6, none⟩ = some (.int .i64 0) := ((f1.alloc _).step f2 |>.step f3).keep (by simp) (by simp)
 have b7 : (w2.alloc (.cells #[.int .i64 0, .slice none 0 0, .bool false, .slice none 0 0, .int .i64 0, .int .i64 0, .int .i64 0] 95)).cell? ⟨w.heap.size, 7, none⟩ = some (.int .i64 0) := ((f1.alloc _).step f2 |>.step f3).keep (by simp) (by simp)
 have b8 : (w2.alloc (.cells #[.int .i64 0, .slice none 0 0, .bool false, .slice none 0 0, .int .i64 0, .int .i64 0, .int .i64 0] 95)).cell? ⟨w.heap.size, 8, none⟩ = some (.slice none 0 0) := ((f1.alloc _).step f2 |>.step f3).keep (by simp) (by simp)
 have b9 : (w2.alloc (.cells #[.int .i64 0, .slice none 0 0, .bool false, .slice none 0 0, .int .i64 0, .int .i64 0, .int .i64 0] 95)).cell? ⟨w.heap.size, 9, none⟩ = some (.bool false) := ((f1.alloc _).step f2 |>.step f3).keep (by simp) (by simp)
 have b10 : (w2.alloc (.cells #[.int .i64 0, .slice none 0 0, .bool false, .slice none 0 0, .int .i64 0, .int .i64 0, .int .i64 0] 95)).cell? ⟨w.heap.size, 10, none⟩ = some (.slice none 0 0) := ((f1.alloc _).step f2 |>.step f3).keep (by simp) (by simp)
 have b11 : (w2.alloc (.cells #[.int .i64 0, .slice none 0 0, .bool false, .slice none 0 0, .int .i64 0, .int .i64 0, .int .i64 0] 95)).cell? ⟨w.heap.size, 11, none⟩ = some (.int .i64 0) := ((f1.alloc _).step f2 |>.step f3).keep (by simp) (by simp)
 have b12 : (w2.alloc (.cells #[.int .i64 0, .slice none 0 0, .bool false, .slice none 0 0, .int .i64 0, .int .i64 0, .int .i64 0] 95)).cell? ⟨w.heap.size, 12, none⟩ = some (.int .i64 0) := ((f1.alloc _).step f2 |>.step f3).keep (by simp) (by simp)
 have b13 : (w2.alloc (.cells #[.int .i64 0, .slice none 0 0, .bool false, .slice none 0 0, .int .i64 0, .int .i64 0, .int .i64 0] 95)).cell? ⟨w.heap.size, 13, none⟩ = some (.int .i64 0) := ((f1.alloc _).step f2 |>.step f3).keep (by simp) (by simp)
 have b14 : (w2.alloc (.cells #[.int .i64 0, .slice none 0 0, .bool false, .slice none 0 0, .int .i64 0, .int .i64 0, .int .i64 0] 95)).cell? ⟨w.heap.size, 14, none⟩ = some (.bool false) := ((f1.alloc _).step f2 |>.step f3).keep (by simp) (by simp)
 have b15 : (w2.alloc (.cells #[.int .i64 0, .slice none 0 0, .bool false, .slice none 0 0, .int .i64 0, .int .i64 0, .int .i64 0] 95)).cell? ⟨w.heap.size, 15, none⟩ = some (.bool false) := ((f1.alloc _).step f2 |>.step f3).keep (by simp) (by simp)
 go_wp2_with fail
 refine bodyPost_ret (v := .tuple #[connV 0, .int .i64 2]) (by simp [results, Tryz.results34, go_sem, connV, b0, b1, b2, b3, b4, b5, b6, b7, b8, b9, b10, b11, b12, b13, b14, b15]) rfl ⟨rfl, ?_⟩
 have g := ((f0.step f1).alloc (.cells #[.int .i64 0, .slice none 0 0, .bool false, .slice none 0 0, .int .i64 0, .int .i64 0, .int .i64 0] 95)).step f2 |>.step f3
 iterate 16 refine Fr.setCell ?_ (by simp) _
 exact g
theorem ref15New_any (c : Int) (w : World) : ∃ k x : Int, (x == 0) = capB c ∧
  Calls Tryz.prog 34 #[.int .i64 c, .int .i64 c] w fun e w' => e = .returned (.tuple #[connV k, .int .i64 x]) ∧ Fr [] w w' := by
 by_cases h : 0 ≤ c ∧ c ≤ 4096
 ·exact ⟨c, 0, by simp [capB, h.1, h.2], ref15New_ok c w (by omega) (by omega)⟩
 ·refine ⟨0, 2, ?_, ref15New_bad c w (by omega)⟩
  have : capB c = false := by
   unfold capB
   by_cases h1 : 0 ≤ c
   ·simp [h1]; omega
   ·simp [h1]
  rw [this]
  rfl
theorem refDialValid_any (s : ByteArray) (p c : Int) (w : World) (hs : s.size ≤ 1000000) :
  Calls Tryz.prog 7 #[.agg #[.string s, .int .i64 p], .int .i64 c] w fun e w' => e = .returned (.bool (addrB s.data.toList p && decide (0 < p) && capB c)) ∧ Fr [] w w' := by
 have f0 : Fr [] w (w.alloc (.cells #[.string s, .int .i64 p] 36)) := (Fr.refl [] w).alloc _
 obtain ⟨k, x, hx, HN⟩ := ref15New_any c (w.alloc (.cells #[.string s, .int .i64 p] 36))
 have HN := Lib.hid HN
 have hA : ∀ W, Calls Tryz.prog 35 #[.agg #[.string s, .int .i64 p]] W fun e w' => e = .returned (.bool (addrB s.data.toList p)) ∧ Fr [] W w' := fun W => refValid_any s p hs W
 generalize addrB s.data.toList p = a at hA ⊢
 have HA := Lib.hid hA
 clear hA
 generalize capB c = q at hx ⊢
 go_enter Tryz.func7, Tryz.ntmps7
 go_wp2_with fail
 refine HN.out.mono ?_
 unfold connV
 rintro e w1 ⟨rfl, f1⟩
 have f2 := f0.step f1
 have f3 : Fr [] w1 (w1.alloc (.cells #[.int .i64 k, .slice none 0 0, .bool false, .slice none 0 0, .int .i64 0, .int .i64 0, .int .i64 0, .int .i64 k, .slice none 0 0, .bool false, .slice none 0 0, .int .i64 0, .int .i64 0, .int .i64 0, .bool false, .bool false] 99)) := (Fr.refl [] w1).alloc _
 have k0 : (w1.alloc (.cells #[.int .i64 k, .slice none 0 0, .bool false, .slice none 0 0, .int .i64 0, .int .i64 0, .int .i64 0, .int .i64 k, .slice none 0 0, .bool false, .slice none 0 0, .int .i64 0, .int .i64 0, .int .i64 0, .bool false, .bool false] 99)).cell? ⟨w.heap.size, 0, none⟩ = some (.string s) := (f1.step f3).keep (by simp) (by simp)
 have k1 : (w1.alloc (.cells #[.int .i64 k, .slice none 0 0, .bool false, .slice none 0 0, .int .i64 0, .int .i64 0, .int .i64 0, .int .i64 k, .slice none 0 0, .bool false, .slice none 0 0, .int .i64 0, .int .i64 0, .int .i64 0, .bool false, .bool false] 99)).cell? ⟨w.heap.size, 1, none⟩ = some (.int .i64 p) := (f1.step f3).keep (by simp) (by simp)
 go_wp2_with fail
 refine (HA.out _).mono ?_
 rintro e w2 ⟨rfl, f4⟩
 have k1' : w2.cell? ⟨w.heap.size, 1, none⟩ = some (.int .i64 p) := f4.keep k1 (by simp)
 have fE := (f2.step f3).step f4
 subst hx
 clear k0 k1 HA HN f0 f1 f2 f3 f4
 cases a
 ·go_wp2_with fail
  go_ret
  exact ⟨by simp, fE⟩
 ·by_cases hp : 0 < p
  ·cases hq : x == 0
   ·go_wp2_with fail
    go_ret
    have hq' : x ≠ 0 := by simpa using hq
    exact ⟨by simp [hq'], fE⟩
   ·go_wp2_with fail
    go_ret
    have hq' : x = 0 := by simpa using hq
    exact ⟨by simp [hp, hq'], fE⟩
  ·go_wp2_with fail
   go_ret
   exact ⟨by simp; omega, fE⟩
theorem dialState_quiet (d u : Nat) (s : ByteArray) (p c un st conn er tr : Int) (w : World) (h : DialIs w d u s p c un st conn er tr) :
  Calls Tryz.prog 73 #[.pointer (some ⟨d, 0, none⟩)] w fun e w' => e = .returned (.tuple #[.int .i64 st, .int .i64 conn, .int .i64 er]) ∧ ∃ m, w' = w.drewN m := by
 have c5 := h.c5
 have c6 := h.c6
 have c7 := h.c7
 go_enter Tryz.func73, Tryz.ntmps73
 go_wp2_with (go_at_call 43; refine (dialNone_any d u s p c un st conn er tr _ h).mono ?_; rintro e w' ⟨rfl, rfl⟩)
 go_quiet (fail)
 go_wp2
 go_ret3
 exact ⟨rfl, _, rfl⟩
theorem stands_quiet (r : Bool) (d u : Nat) (s : ByteArray) (p c un a b x tr st conn e0 : Int) (w : World) (h : DialIs w d u s p c un a b x tr) (hr : ((a == st) && (b == conn) && (x == e0)) = r) :
  Calls Tryz.prog 31 #[.pointer (some ⟨d, 0, none⟩), .int .i64 st, .int .i64 conn, .int .i64 e0] w fun e w' => e = .returned (.bool r) ∧ ∃ m, w' = w.drewN m := by
 rw [← hr]
 exact stands_any a b x st conn e0 (fun W => ∃ m, W = w.drewN m) w (dialState_quiet d u s p c un a b x tr w h)
theorem is_any (d u : Nat) (s s' : ByteArray) (p c un st conn er tr p' c' un' st' conn' er' tr' : Int) (w : World) (h : DialIs w d u s p c un st conn er tr) :
  Calls Tryz.prog 29 #[.pointer (some ⟨d, 0, none⟩), .agg #[.string s', .int .i64 p', .int .i64 c', .int .u64 un', .int .i64 st', .int .i64 conn', .int .i64 er', .int .i64 tr']] w fun e w' =>
   e = .returned (.bool (((st == st') && (conn == conn') && (er == er')) && (tr == tr') && (un == un'))) ∧ Fr [] w w' := by
 have f0 : Fr [] w (w.alloc (.cells #[.string s', .int .i64 p', .int .i64 c', .int .u64 un', .int .i64 st', .int .i64 conn', .int .i64 er', .int .i64 tr'] 46)) := (Fr.refl [] w).alloc _
 have hd := Lib.hid (h.new f0)
 obtain ⟨r, hr⟩ : ∃ r, ((st == st') && (conn == conn') && (er == er')) = r := ⟨_, rfl⟩
 rw [hr]
 have HR := Lib.hid hr
 clear hr
 cases r
 ·go_enter Tryz.func29, Tryz.ntmps29
  go_wp2_with fail
  go_quiet ((go_at_call 31; exact Calls.quiet_of (stands_quiet false d u s p c un st conn er tr _ _ _ _ (hd.out.new ((Fr.refl [] _).drewN _)) HR.out)))
  go_wp2
  go_ret
  exact ⟨by simp, f0.drewN _⟩
 ·cases h1 : tr == tr'
  ·go_enter Tryz.func29, Tryz.ntmps29
   go_wp2_with fail
   go_quiet (first
    | (go_at_call 31; exact Calls.quiet_of (stands_quiet true d u s p c un st conn er tr _ _ _ _ (hd.out.new ((Fr.refl [] _).drewN _)) HR.out))
    | (go_at_call 32; exact Calls.quiet_of_same ((dialTries_any d u s p c un st conn er tr _ (hd.out.new ((Fr.refl [] _).drewN _))).mono (fun _ _ h => ⟨h.1, h.2.symm⟩))))
   go_wp2
   go_ret
   exact ⟨by simp, f0.drewN _⟩
  ·cases h2 : un == un'
   ·go_enter Tryz.func29, Tryz.ntmps29
    go_wp2_with fail
    go_quiet (first
     | (go_at_call 31; exact Calls.quiet_of (stands_quiet true d u s p c un st conn er tr _ _ _ _ (hd.out.new ((Fr.refl [] _).drewN _)) HR.out))
     | (go_at_call 32; exact Calls.quiet_of_same ((dialTries_any d u s p c un st conn er tr _ (hd.out.new ((Fr.refl [] _).drewN _))).mono (fun _ _ h => ⟨h.1, h.2.symm⟩)))
     | (go_at_call 72; exact Calls.quiet_of_same ((dialUntil_any d u s p c un st conn er tr _ (hd.out.new ((Fr.refl [] _).drewN _))).mono (fun _ _ h => ⟨h.1, h.2.symm⟩))))
    go_wp2
    go_ret
    exact ⟨by simp, f0.drewN _⟩
   ·go_enter Tryz.func29, Tryz.ntmps29
    go_wp2_with fail
    go_quiet (first
     | (go_at_call 31; exact Calls.quiet_of (stands_quiet true d u s p c un st conn er tr _ _ _ _ (hd.out.new ((Fr.refl [] _).drewN _)) HR.out))
     | (go_at_call 32; exact Calls.quiet_of_same ((dialTries_any d u s p c un st conn er tr _ (hd.out.new ((Fr.refl [] _).drewN _))).mono (fun _ _ h => ⟨h.1, h.2.symm⟩)))
     | (go_at_call 72; exact Calls.quiet_of_same ((dialUntil_any d u s p c un st conn er tr _ (hd.out.new ((Fr.refl [] _).drewN _))).mono (fun _ _ h => ⟨h.1, h.2.symm⟩))))
    go_wp2
    go_ret
    exact ⟨by simp, f0.drewN _⟩
def aName : ByteArray := ⟨#[97]⟩
theorem a1 : addrB aName.data.toList 1 = true := by decide
def noneV : Value := .func (.func 43) #[] #[]
theorem indexNone (b off len cap k : Nat) (dv : Nat → Value) (w : World) (hk : k ≤ len) (hlen : len ≤ 100000)
  (hc : ∀ i, i < len → w.cell? ⟨b, off + i, none⟩ = some (dv i))
  (hlow : ∀ i, i < k → Calls Tryz.prog 43 #[dv i] w fun e w' => e = .returned (.bool false) ∧ w = w')
  (hat : k < len → Calls Tryz.prog 43 #[dv k] w fun e w' => e = .returned (.bool true) ∧ w = w') :
  Calls Tryz.prog 100 #[.slice (some ⟨b, off, none⟩) len cap, .func (.func 43) #[] #[]] w fun e w' => e = .returned (.int .i64 (if k < len then (k : Int) else -1)) ∧ w = w' := by
 have HC := Lib.hid hc
 have HL := Lib.hid hlow
 have HA := Lib.hid hat
 clear hc hlow hat
 go_enter Tryz.func100, Tryz.ntmps100
 go_wp2
 go_loop [8] (fun i => ∃ j : Nat, i = .int .i64 j ∧ j ≤ k) (fun i => k - (intOf i).toNat)
 case atStart => exact ⟨0, rfl, by omega⟩
 case round =>
  obtain ⟨j, rfl, hj⟩ := hrel
  by_cases hl : j < len
  ·have hcj := HC.out j hl
   have hl' : (j : Int) < (len : Int) := by omega
   by_cases hjk : j < k
   ·go_wp2_with (go_at_call 43; refine (HL.out j hjk).mono ?_; rintro e w' ⟨rfl, rfl⟩)
    go_round
    case rel => exact ⟨j + 1, by go_num, by omega⟩
    case measure => simp [intOf]; omega
   ·obtain rfl : j = k := by omega
    go_wp2_with (go_at_call 43; refine (HA.out hl).mono ?_; rintro e w' ⟨rfl, rfl⟩)
    go_ret
    exact ⟨by simp, rfl⟩
  ·have hl' : ¬ (j : Int) < (len : Int) := by omega
   go_wp2
   go_ret
   exact ⟨rfl, rfl⟩
theorem containsNone (b off len cap k : Nat) (dv : Nat → Value) (w : World) (hk : k ≤ len) (hlen : len ≤ 100000)
  (hc : ∀ i, i < len → w.cell? ⟨b, off + i, none⟩ = some (dv i))
  (hlow : ∀ i, i < k → Calls Tryz.prog 43 #[dv i] w fun e w' => e = .returned (.bool false) ∧ w = w')
  (hat : k < len → Calls Tryz.prog 43 #[dv k] w fun e w' => e = .returned (.bool true) ∧ w = w') :
  Calls Tryz.prog 63 #[.slice (some ⟨b, off, none⟩) len cap, .func (.func 43) #[] #[]] w fun e w' => e = .returned (.bool (decide (k < len))) ∧ w = w' := by
 have HI := Lib.hid (indexNone b off len cap k dv w hk hlen hc hlow hat)
 clear hc hlow hat
 by_cases h : k < len
 ·rw [if_pos h] at HI
  have h0 : (0 : Int) ≤ (k : Int) := by omega
  go_enter Tryz.func63, Tryz.ntmps63
  go_wp2_with (go_at_call 100; refine HI.out.mono ?_; rintro e w' ⟨rfl, rfl⟩)
  go_ret
  exact ⟨by simp [h], rfl⟩
 ·rw [if_neg h] at HI
  go_enter Tryz.func63, Tryz.ntmps63
  go_wp2_with (go_at_call 100; refine HI.out.mono ?_; rintro e w' ⟨rfl, rfl⟩)
  go_ret
  exact ⟨by simp [h], rfl⟩
theorem containsNone_nil (w : World) :
  Calls Tryz.prog 63 #[.slice none 0 0, .func (.func 43) #[] #[]] w fun e w' => e = .returned (.bool false) ∧ w = w' := by
 have HI : Calls Tryz.prog 100 #[.slice none 0 0, .func (.func 43) #[] #[]] w fun e w' => e = .returned (.int .i64 (-1)) ∧ w = w' := by
  go_enter Tryz.func100, Tryz.ntmps100
  go_wp2
  refine wp_loop_rounds 1 ?_
  rw [rounds_succ]
  go_wp2
  go_ret
  exact ⟨rfl, rfl⟩
 go_enter Tryz.func63, Tryz.ntmps63
 go_wp2_with (go_at_call 100; refine HI.mono ?_; rintro e w' ⟨rfl, rfl⟩)
 go_ret
 exact ⟨rfl, rfl⟩
theorem equalStates (b1 b2 len c1 c2 : Nat) (f g : Nat → Int) (k : Nat) (w : World) (hk : k ≤ len) (hlen : len ≤ 100000)
  (h1 : ∀ i, i < len → w.cell? ⟨b1, i, none⟩ = some (.int .i64 (f i))) (h2 : ∀ i, i < len → w.cell? ⟨b2, i, none⟩ = some (.int .i64 (g i)))
  (hlow : ∀ i, i < k → f i = g i) (hat : k < len → f k ≠ g k) :
  Calls Tryz.prog 65 #[.slice (some ⟨b1, 0, none⟩) len c1, .slice (some ⟨b2, 0, none⟩) len c2] w fun e w' => e = .returned (.bool (decide (k = len))) ∧ ∃ n, w' = w.drewN n := by
 have H1 := Lib.hid h1
 have H2 := Lib.hid h2
 have HL := Lib.hid hlow
 have HA := Lib.hid hat
 clear h1 h2 hlow hat
 go_enter Tryz.func65, Tryz.ntmps65
 go_wp2
 go_loopw [13] (fun i wr => ∃ j n : Nat, i = .int .i64 j ∧ j ≤ k ∧ wr = w.drewN n) (fun i _ => k - (intOf i).toNat)
 case atStart => exact ⟨0, 0, rfl, by omega, rfl⟩
 case round =>
  obtain ⟨j, n, rfl, hj, rfl⟩ := hrel
  by_cases hl : j < len
  ·have q1 : w.cell? ⟨b1, j, none⟩ = some (.int .i64 (f j)) := H1.out j hl
   have q2 : w.cell? ⟨b2, j, none⟩ = some (.int .i64 (g j)) := H2.out j hl
   have hl' : (j : Int) < (len : Int) := by omega
   by_cases hjk : j < k
   ·have e1 := HL.out j hjk
    rw [e1] at q1
    go_wp2_with fail
    go_quiet (fail)
    go_wp2
    go_roundw
    case rel => exact ⟨j + 1, _, by go_num, by omega, rfl⟩
    case measure => simp [intOf]; omega
   ·obtain rfl : j = k := by omega
    have e1 := HA.out hl
    have e2 : (f j != g j) = true := by simp [e1]
    go_wp2_with fail
    go_quiet (fail)
    go_wp2
    go_ret
    exact ⟨by simp; omega, _, World.drewN_drewN _ _ _⟩
  ·have hl' : ¬ (j : Int) < (len : Int) := by omega
   go_wp2
   go_ret
   exact ⟨by simp; omega, n, rfl⟩
theorem mkStates (n : Nat) (h : n ≤ 100000) (w : World) : (Instr.makeSlice 143 (.int .i64 (n : Int)) (.int .i64 (n : Int))).run Tryz.prog w = .ok (.slice (some ⟨w.heap.size, 0, none⟩) n n) (w.alloc (.cells (madeCells #[.int .i64 0] n) 83)) :=
 run_make_row' 143 83 (.int .i64 0) 8 Tryz.underlying143 (by kernel_rfl) rfl _ _ n (by omega) (by omega) w
theorem made_at (z : Value) (n i : Nat) (h : i < n) : (madeCells #[z] n)[i]? = some z := by
 rw [← Array.getElem?_toList, toList_madeCells_one]
 simp [h]
theorem states_any (b off len cap : Nat) (dv : Nat → Value) (st : Nat → Int) (w : World) (hlen : len ≤ 100000)
  (hc : ∀ i, i < len → w.cell? ⟨b, off + i, none⟩ = some (dv i))
  (hst : ∀ i, i < len → ∀ W, Fr [] w W → Calls Tryz.prog 73 #[dv i] W fun e w' => (∃ x y, e = .returned (.tuple #[.int .i64 (st i), x, y])) ∧ Fr [] W w') :
  Calls Tryz.prog 64 #[.slice (some ⟨b, off, none⟩) len cap] w fun e w' => ∃ b', e = .returned (.slice (some ⟨b', 0, none⟩) len len) ∧ w.heap.size ≤ b' ∧ (∀ i, i < len → w'.cell? ⟨b', i, none⟩ = some (.int .i64 (st i))) ∧ Fr [] w w' := by
 have HC := Lib.hid hc
 have HS := Lib.hid hst
 clear hc hst
 have hmk := mkStates len hlen w
 go_enter Tryz.func64, Tryz.ntmps64
 go_wp2
 go_loopw [11] (fun i wr => ∃ j : Nat, i = .int .i64 j ∧ j ≤ len ∧ (∀ q, q < len → wr.cell? ⟨w.heap.size, q, none⟩ = some (.int .i64 (if q < j then st q else 0))) ∧ (∀ o, wr.frozen? ⟨w.heap.size, o, none⟩ = false) ∧ Fr [] w wr) (fun i _ => len - (intOf i).toNat)
 case atStart =>
  refine ⟨0, rfl, by omega, fun q hq => ?_, fun o => by simp, (Fr.refl [] w).alloc _⟩
  rw [cell_new, made_at _ _ _ hq]
  simp
 case round =>
  obtain ⟨j, rfl, hj, hz, hfz, fr⟩ := hrel
  have HZ := Lib.hid hz
  have HF := Lib.hid hfz
  clear hz hfz
  by_cases hl : j < len
  ·have hl' : (j : Int) < (len : Int) := by omega
   have hcj : wr.cell? ⟨b, off + j, none⟩ = some (dv j) := fr.keep (HC.out j hl) (by simp)
   go_wp2_with fail
   refine (HS.out j hl _ fr).mono ?_
   rintro e w1 ⟨⟨x, y, rfl⟩, f1⟩
   have kj : w1.cell? ⟨w.heap.size, j, none⟩ = some (.int .i64 0) := by
    have := f1.keep (HZ.out j hl) (by simp)
    simpa using this
   have jf : ∀ o, w1.frozen? ⟨w.heap.size, o, none⟩ = false := fun o => by rw [f1.frozen (cell_lt (HZ.out j hl)) (by simp)]; exact HF.out o
   go_wp2
   go_roundw
   case rel =>
    refine ⟨j + 1, by go_num, by omega, fun q hq => ?_, fun o => by simpa using jf o, (fr.step f1).setCell (by simp) _⟩
    by_cases hqj : q = j
    ·subst hqj
     rw [World.cell?_setCell_same _ _ _ kj, if_pos (by omega)]
    ·rw [World.cell?_setCell_other _ _ _ _ (by first | (simp; done) | (simp; omega)), f1.keep (HZ.out q hq) (by simp)]
     by_cases h1 : q < j
     ·rw [if_pos h1, if_pos (by omega)]
     ·rw [if_neg h1, if_neg (by omega)]
   case measure => simp [intOf]; omega
  ·have hl' : ¬ (j : Int) < (len : Int) := by omega
   go_wp2
   go_ret
   refine ⟨_, rfl, Nat.le_refl _, fun q hq => ?_, fr⟩
   have := HZ.out q hq
   rw [if_pos (by omega)] at this
   exact this
theorem states_nil (w : World) :
  Calls Tryz.prog 64 #[.slice none 0 0] w fun e w' => ∃ b', e = .returned (.slice (some ⟨b', 0, none⟩) 0 0) ∧ Fr [] w w' := by
 have hmk : (Instr.makeSlice 143 (.int .i64 0) (.int .i64 0)).run Tryz.prog w = .ok (.slice (some ⟨w.heap.size, 0, none⟩) 0 0) (w.alloc (.cells (madeCells #[.int .i64 0] 0) 83)) := mkStates 0 (by omega) w
 go_enter Tryz.func64, Tryz.ntmps64
 go_wp2
 refine wp_loop_rounds 1 ?_
 rw [rounds_succ]
 go_wp2
 go_ret
 exact ⟨_, rfl, (Fr.refl [] w).alloc _⟩
section
variable {n r m lm cm : Nat} {names ls cs : List (Value × Value)}
theorem all_empty (now : Int) (w : World) (hn : NetIs w n r m lm cm names ls cs) :
  Calls Tryz.prog 24 #[.slice none 0 0, .pointer (some ⟨n, 0, none⟩), .int .u64 now] w fun e w' => e = .returned (.tuple #[.int .i64 0, .int .i64 0]) ∧ Fr [] w w' := by
 go_enter Tryz.func24, Tryz.ntmps24
 go_wp2_with fail
 go_step3
 go_wp2_with fail
 refine (dead_ok _ hn).mono ?_
 rintro e w1 ⟨rfl, f1⟩
 go_wp2_with fail
 refine (containsNone_nil _).mono ?_
 rintro e w' ⟨rfl, rfl⟩
 go_wp2_with fail
 go_step3
 go_wp2_with fail
 refine wp_loop_rounds 1 ?_
 rw [rounds_succ]
 go_wp2_with fail
 refine (states_nil _).mono ?_
 rintro e w2 ⟨b1, rfl, f2⟩
 go_wp2_with fail
 refine wp_loop_rounds 1 ?_
 rw [rounds_succ]
 go_wp2_with fail
 refine (states_nil _).mono ?_
 rintro e w3 ⟨b2, rfl, f3⟩
 go_wp2_with fail
 refine (equalStates b1 b2 0 0 0 (fun _ => 0) (fun _ => 0) 0 _ (by omega) (by omega) (fun i hi => absurd hi (by omega)) (fun i hi => absurd hi (by omega)) (fun i hi => absurd hi (by omega)) (fun h => absurd h (by omega))).mono ?_
 rintro e w4 ⟨rfl, nq, rfl⟩
 go_wp2_with fail
 rw [Exit.noGoto_ret]
 go_ret2
 exact ⟨rfl, ((f1.step f2).step f3).drewN _⟩
end
end Go.Proofs.YtgbmenfmaphciaaGreat
