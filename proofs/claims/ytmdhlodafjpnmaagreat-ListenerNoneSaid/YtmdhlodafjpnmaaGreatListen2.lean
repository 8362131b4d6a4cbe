/- Contracts of listener's Listen in general. -/
import Derived.Test.YtmdhlodafjpnmaaGreatListen
import Derived.Test.YtmdhlodafjpnmaaGreatBind0
namespace Go.Proofs.YtmdhlodafjpnmaaGreat
open Go.RowKit
open Go.Maps (Keyed)
set_option linter.unusedVariables false
set_option maxRecDepth 100000
set_option maxHeartbeats 8000000

set_option maxRecDepth 100000 in
set_option maxHeartbeats 4000000 in
theorem netListen_gen (n r m lm cm : Nat) (names ls cs : List (Value × Value)) (s : ByteArray) (p pp most : Int) (k : Nat) (w : World) (h : NetIs w n r m lm cm names ls cs) (hs : s.size ≤ 1000000) (hv0 : addrB s.data.toList p = true) (hv : addrB s.data.toList pp = true) (hp : (pp == 0) = false)
    (hB : ∀ W, RegIs W r m names → Calls Tryz.prog 75 #[.pointer (some ⟨r, 0, none⟩), .agg #[.string s, .int .i64 p], .int .i64 0] W fun e w' => e = .returned (.tuple #[.agg #[.string s, .int .i64 pp], .int .i64 0]) ∧ RegIs w' r m (names ++ [(addrV s pp, .int .i64 0)]) ∧ Fr [m] W w')
    (h1 : ¬ most < 1) (h2 : ¬ 128 < most) (hxn : ∀ x ∈ names, x.1 ≠ addrV s pp) (hln : ¬ (128 ≤ (names.length : Int))) (hk : ∀ j : Nat, j < k → ∃ b' s' p', (.int .i64 j, qV b' s' p') ∈ ls) (hxl : ∀ x ∈ ls, x.1 ≠ .int .i64 k) (hk' : k ≤ 100000) :
    Calls Tryz.prog 30 #[.pointer (some ⟨n, 0, none⟩), .agg #[.string s, .int .i64 p], .int .i64 most] w fun e w' => ∃ b q mm t, e = .returned (.tuple #[.int .i64 k, .agg #[.string s, .int .i64 pp], .int .i64 0]) ∧ NetIs w' n r m lm cm (names ++ [(addrV s pp, .int .i64 k)]) (ls ++ [(.int .i64 k, qV b s pp)]) cs ∧ BackIs w' b q mm t most false [] 0 ∧ Fr [m, lm] w w' ∧ w.heap.size ≤ b ∧ w.heap.size ≤ q ∧ w.heap.size ≤ mm ∧ w.heap.size ≤ t := by
  have f0 : Fr [] w ((w.alloc (.cells #[.string s, .int .i64 p] 28)).alloc (.cells #[.string ⟨#[]⟩, .int .i64 0] 28)) := ((Fr.refl [] w).alloc _).alloc _
  have h0 := h.new f0
  have HV := Lib.hid hv
  have HV0 := Lib.hid hv0
  have HB := Lib.hid hB
  have HXN := Lib.hid hxn
  have HXL := Lib.hid hxl
  have HK := Lib.hid hk
  have hne := h.ne
  have hnlt := cell_lt h.c0
  have hrlt := cell_lt h.reg.c0
  have hmlt := h.reg.map.lt
  have hllt := h.ls.lt
  have hclt := h.cs.lt
  clear hv hv0 hB hxn hxl hk
  go_enter Tryz.func30, Tryz.ntmps30
  go_wp2_with (first
    | (go_at_call 55; refine (netNone_any _ h0).mono ?_; rintro e w' ⟨rfl, rfl⟩)
    | (go_at_call 74; refine (backNew_ok most _ (by omega) (by omega)).mono ?_; rintro e w1 ⟨b, q, mm, t, rfl, hb1, f1, l1, l2, l3, l4⟩; simp only [World.size_alloc] at l1 l2 l3 l4; have k0 : w1.cell? ⟨w.heap.size, 0, none⟩ = some (.string s) := f1.keep (by simp) (by simp); have k1 : w1.cell? ⟨w.heap.size, 1, none⟩ = some (.int .i64 p) := f1.keep (by simp) (by simp))
    | (go_at_call 77; refine (valid_any s p hs _).mono ?_; rintro e w2 ⟨rfl, f2⟩; rw [HV0.out]; have k0 := f2.keep k0 (by simp); have k1 := f2.keep k1 (by simp); have j0 : w2.cell? ⟨n, 0, none⟩ = some (.pointer (some ⟨r, 0, none⟩)) := ((h0.new f1).new f2).c0))
  have n2 := (h0.new f1).new f2
  have b2 := hb1.keep f2 (by simp) (by simp) (by simp) (by simp)
  clear k0 k1
  have k0 : w2.cell? ⟨w.heap.size, 0, none⟩ = some (.string s) := (f1.step f2).keep (by simp) (by simp)
  have k1 : w2.cell? ⟨w.heap.size, 1, none⟩ = some (.int .i64 p) := (f1.step f2).keep (by simp) (by simp)
  have n3 := n2.new ((Fr.refl [] w2).alloc (.cells #[.string ⟨#[]⟩, .int .i64 0] 28))
  have c3 := n3.c0
  have k3 : (w2.alloc (.cells #[.string ⟨#[]⟩, .int .i64 0] 28)).cell? ⟨w.heap.size, 0, none⟩ = some (.string s) := ((Fr.refl [] w2).alloc _).keep k0 (by simp)
  have k4 : (w2.alloc (.cells #[.string ⟨#[]⟩, .int .i64 0] 28)).cell? ⟨w.heap.size, 1, none⟩ = some (.int .i64 p) := ((Fr.refl [] w2).alloc _).keep k1 (by simp)
  have z2 : w.heap.size + 2 ≤ w2.heap.size := by simpa using (f1.step f2).size
  go_cut [10, 11] from 29 to 37 (fun s10 s11 wc => ∃ c, s10 = .int .i64 0 ∧ s11 = .pointer (some ⟨c, 0, none⟩) ∧ wc.cell? ⟨c, 0, none⟩ = some (.string s) ∧ wc.cell? ⟨c, 1, none⟩ = some (.int .i64 pp) ∧ RegIs wc r m (names ++ [(addrV s pp, .int .i64 0)]) ∧ Fr [m] w2 wc ∧ w2.heap.size ≤ c)
  case first =>
    go_region_with (go_at_call 75; first
      | (refine (HB.out _ (n2.reg.drewN 1)).mono ?_; rintro e w3 ⟨rfl, rg3, f3⟩; have g3 : Fr [m] w2 w3 := (((Fr.refl [] w2).drewN _).mono (fun x hx => by cases hx)).trans f3 (fun x hx _ => hx); clear f3)
      | (refine (HB.out _ (n3.reg.drewN 1)).mono ?_; rintro e w3 ⟨rfl, rg3, f3⟩; have g3 : Fr [m] w2 w3 := ((((Fr.refl [] w2).alloc _).drewN _).mono (fun x hx => by cases hx)).trans f3 (fun x hx _ => hx); have i0 : w3.cell? ⟨w2.heap.size, 0, none⟩ = some (.string ⟨#[]⟩) := f3.keep (by simp) (by simp; omega); have i1 : w3.cell? ⟨w2.heap.size, 1, none⟩ = some (.int .i64 0) := f3.keep (by simp) (by simp; omega); have ifz : ∀ o, w3.frozen? ⟨w2.heap.size, o, none⟩ = false := (fun o => by rw [f3.frozen (by simp) (by simp; omega)]; simp); clear f3))
    all_goals go_wp2
    all_goals go_meet
    case' rel => skip
    all_goals first
      | exact ⟨_, rfl, rfl, by simp, by simp, rg3.keep ((Fr.refl [] w3).alloc _) (by simp) (by simp), g3.alloc _, g3.size⟩
      | exact ⟨_, rfl, rfl, (World.cell?_setCell_other _ _ _ _ (by simp)).trans (World.cell?_setCell_same _ _ _ i0), World.cell?_setCell_same _ _ _ ((World.cell?_setCell_other _ _ _ _ (by simp)).trans i1), rg3.keep (S := [w2.heap.size]) (((Fr.refl _ _).setCell (fun _ => by simp) _).setCell (fun _ => by simp) _) (by simp; omega) (by simp; omega), (g3.setCell (by simp) _).setCell (by simp) _, Nat.le_refl _⟩
  case rest =>
    obtain ⟨c, rfl, rfl, q0, q1, rg3, g3, hc⟩ := hcut
    have x0 := g3.keep n2.c0 (by simp; omega)
    have x1 := g3.keep n2.c1 (by simp; omega)
    have b3 := b2.keep g3 (by simp; omega) (by simp; omega) (by simp; omega) (by simp; omega)
    have ml3 := n2.ls.keep g3 (by simp; omega)
    go_wp2
    go_cut [12] from 42 to 49 (fun s12 wd => s12 = .int .i64 k ∧ MapIs Tryz.prog 3 wd lm (ls ++ [(.int .i64 k, qV b s pp)]) ∧ Fr [lm] wc wd)
    case first =>
      go_region_with (go_at_call 78; refine (addQ lm ls k b s pp _ (ml3.drewN 1) HK.out HXL.out hk').mono ?_; rintro e w4 ⟨rfl, ml4, f4⟩)
      all_goals go_wp2
      all_goals go_meet
      case' rel => skip
      all_goals exact ⟨rfl, ml4, f4.behind⟩
    case rest =>
      obtain ⟨rfl, ml4, g4⟩ := hcut
      have y0 := g4.keep x0 (by simp; omega)
      have p0 := g4.keep q0 (by simp; omega)
      have p1 := g4.keep q1 (by simp; omega)
      have rg4 := rg3.keep g4 (by simp; omega) (by simp; omega)
      have b4 := b3.keep g4 (by simp; omega) (by simp; omega) (by simp; omega) (by simp; omega)
      clear q0 q1 x0
      go_wp2
      go_cut [] from 50 to 55 (fun wd => RegIs wd r m (names ++ []) ∧ Fr [m] wc wd)
      case first =>
        go_region_with (go_at_call 79; refine (regRelease_hit r m names [] s pp 0 _ (rg4.drewN 1) hs HV.out).mono ?_; rintro e w5 ⟨rfl, rg5, f5⟩)
        all_goals go_wp2
        all_goals go_meet
        case' rel => skip
        all_goals exact ⟨rg5, f5.behind⟩
      case rest =>
        obtain ⟨rg5, g5⟩ := hcut
        rw [List.append_nil] at rg5
        have v0 := g5.keep y0 (by simp; omega)
        have r0 := g5.keep p0 (by simp; omega)
        have r1 := g5.keep p1 (by simp; omega)
        have ml5 := ml4.keep g5 (by simp; omega)
        have b5 := b4.keep g5 (by simp; omega) (by simp; omega) (by simp; omega) (by simp; omega)
        clear y0 p0 p1
        go_wp2
        go_cut [] from 56 to 62 (fun wd => RegIs wd r m (names ++ [(addrV s pp, .int .i64 k)]) ∧ Fr [m] wc wd)
        case first =>
          go_region_with (go_at_call 75; refine (regBind_ok r m names s pp k _ (rg5.drewN 1) hs HV.out hp (by omega) HXN.out (by omega)).mono ?_; rintro e w6 ⟨rfl, rg6, f6⟩)
          all_goals go_wp2
          all_goals go_meet
          case' rel => skip
          all_goals exact ⟨rg6, f6.behind⟩
        case rest =>
          obtain ⟨rg6, g6⟩ := hcut
          have s0 := g6.keep r0 (by simp; omega)
          have s1 := g6.keep r1 (by simp; omega)
          have ml6 := ml5.keep g6 (by simp; omega)
          have b6 := b5.keep g6 (by simp; omega) (by simp; omega) (by simp; omega) (by simp; omega)
          have fB := ((((f1.step f2).mono (T := [m, lm]) (fun x hx => by cases hx)).trans g3 (fun x hx _ => by simp at hx; simp [hx])).trans g4 (fun x hx _ => by simp at hx; simp [hx])).trans (g5.trans g6 (fun x hx _ => hx)) (fun x hx _ => by simp at hx; simp [hx])
          have fA : Fr [m, lm] w wc := (f0.mono (T := [m, lm]) (fun x hx => by cases hx)).trans fB (fun x hx _ => hx)
          have t0 : wc.cell? ⟨w.heap.size + 1, 0, none⟩ = some (.string ⟨#[]⟩) := fB.keep (by simp) (by simp; omega)
          have t1 : wc.cell? ⟨w.heap.size + 1, 1, none⟩ = some (.int .i64 0) := fB.keep (by simp) (by simp; omega)
          have tf : ∀ o, wc.frozen? ⟨w.heap.size + 1, o, none⟩ = false := fun o => by rw [fB.frozen (by simp) (by simp; omega)]; simp
          have n6 : NetIs wc n r m lm cm (names ++ [(addrV s pp, .int .i64 k)]) (ls ++ [(.int .i64 k, qV b s pp)]) cs :=
            ⟨fA.keep h.c0 (by simp; omega), fA.keep h.c1 (by simp; omega), fA.keep h.c2 (by simp; omega), rg6, ml6, h.cs.keep fA (by simp; omega), hne⟩
          clear fB
          go_wp2
          go_region
          go_wp2
          have fE : Fr [w.heap.size + 1] wc ((wc.setCell ⟨w.heap.size + 1, 0, none⟩ (.string s)).setCell ⟨w.heap.size + 1, 1, none⟩ (.int .i64 pp)).drew := (((Fr.refl _ wc).setCell (fun _ => by simp) _).setCell (fun _ => by simp) _).drew
          refine bodyPost_ret (v := .tuple #[.int .i64 k, .agg #[.string s, .int .i64 pp], .int .i64 0]) (by simp [results, Tryz.results30, go_sem, t0, t1]) rfl ⟨b, q, mm, t, rfl, ?_, ?_, ?_, by omega, by omega, by omega, by omega⟩
          · exact n6.keep fE (by simp; omega) (by simp; omega) (by simp; omega) (by simp; omega) (by simp; omega)
          · exact b6.keep fE (by simp; omega) (by simp; omega) (by simp; omega) (by simp; omega)
          · exact fA.trans fE (fun x hx hl => by simp at hx; omega)
end Go.Proofs.YtmdhlodafjpnmaaGreat
