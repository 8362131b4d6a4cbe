/- Contracts of listener's Listen in general. -/
/- Contracts of listener's Listen where it refuses. -/
/- Listen over a net in memory. -/
import Derived.Test.YtmdhlodafjpnmaaGreatPair2
import Derived.Test.YtmdhlodafjpnmaaGreatBind0
import Derived.Test.YtmdhlodafjpnmaaGreatAccept
namespace Go.Proofs.YtmdhlodafjpnmaaGreat
open Go.RowKit
open Go.Maps (Keyed)
set_option linter.unusedVariables false
set_option maxRecDepth 100000
set_option maxHeartbeats 8000000

set_option maxRecDepth 100000 in
set_option maxHeartbeats 4000000 in
theorem netListen_gen (n r m lm cm : Nat) (names ls cs : List (Value × Value)) (s : ByteArray) (p pp most : Int) (k : Nat) (w : World) (h : NetIs w n r m lm cm names ls cs) (hs : s.size ≤ 1000000) (hv0 : addrB s.data.toList p = true) (hv : addrB s.data.toList pp = true) (hp : (pp == 0) = false)
    (hB : ∀ W, RegIs W r m names → Calls Tryz.prog 75 #[.pointer (some ⟨r, 0, none⟩), .agg #[.string s, .int .i64 p], .int .i64 0] W fun e w' => e = .returned (.tuple #[.agg #[.string s, .int .i64 pp], .int .i64 0]) ∧ RegIs w' r m (names ++ [(addrV s pp, .int .i64 0)]) ∧ Fr [m] W w')
    (h1 : ¬ most < 1) (h2 : ¬ 128 < most) (hxn : ∀ x ∈ names, x.1 ≠ addrV s pp) (hln : ¬ (128 ≤ (names.length : Int))) (hk : ∀ j : Nat, j < k → ∃ b' s' p', (.int .i64 j, qV b' s' p') ∈ ls) (hxl : ∀ x ∈ ls, x.1 ≠ .int .i64 k) (hk' : k ≤ 100000) :
    Calls Tryz.prog 30 #[.pointer (some ⟨n, 0, none⟩), .agg #[.string s, .int .i64 p], .int .i64 most] w fun e w' => ∃ b q mm t, e = .returned (.tuple #[.int .i64 k, .agg #[.string s, .int .i64 pp], .int .i64 0]) ∧ NetIs w' n r m lm cm (names ++ [(addrV s pp, .int .i64 k)]) (ls ++ [(.int .i64 k, qV b s pp)]) cs ∧ BackIs w' b q mm t most false [] 0 ∧ Fr [m, lm] w w' ∧ w.heap.size ≤ b ∧ w.heap.size ≤ q ∧ w.heap.size ≤ mm ∧ w.heap.size ≤ t := by
  have f0 : Fr [] w ((w.alloc (.cells #[.string s, .int .i64 p] 28)).alloc (.cells #[.string ⟨#[]⟩, .int .i64 0] 28)) := ((Fr.refl [] w).alloc _).alloc _
  have h0 := h.new f0
  have HV := Lib.hid hv
  have HV0 := Lib.hid hv0
  have HB := Lib.hid hB
  have HXN := Lib.hid hxn
  have HXL := Lib.hid hxl
  have HK := Lib.hid hk
  have hne := h.ne
  have hnlt := cell_lt h.c0
  have hrlt := cell_lt h.reg.c0
  have hmlt := h.reg.map.lt
  have hllt := h.ls.lt
  have hclt := h.cs.lt
  clear hv hv0 hB hxn hxl hk
  go_enter Tryz.func30, Tryz.ntmps30
  go_wp2_with (first
    | (go_at_call 55; refine (netNone_any _ h0).mono ?_; rintro e w' ⟨rfl, rfl⟩)
    | (go_at_call 74; refine (backNew_ok most _ (by omega) (by omega)).mono ?_; rintro e w1 ⟨b, q, mm, t, rfl, hb1, f1, l1, l2, l3, l4⟩; simp only [World.size_alloc] at l1 l2 l3 l4; have k0 : w1.cell? ⟨w.heap.size, 0, none⟩ = some (.string s) := f1.keep (by simp) (by simp); have k1 : w1.cell? ⟨w.heap.size, 1, none⟩ = some (.int .i64 p) := f1.keep (by simp) (by simp))
    | (go_at_call 77; refine (valid_any s p hs _).mono ?_; rintro e w2 ⟨rfl, f2⟩; rw [HV0.out]; have k0 := f2.keep k0 (by simp); have k1 := f2.keep k1 (by simp); have j0 : w2.cell? ⟨n, 0, none⟩ = some (.pointer (some ⟨r, 0, none⟩)) := ((h0.new f1).new f2).c0))
  have n2 := (h0.new f1).new f2
  have b2 := hb1.keep f2 (by simp) (by simp) (by simp) (by simp)
  clear k0 k1
  have k0 : w2.cell? ⟨w.heap.size, 0, none⟩ = some (.string s) := (f1.step f2).keep (by simp) (by simp)
  have k1 : w2.cell? ⟨w.heap.size, 1, none⟩ = some (.int .i64 p) := (f1.step f2).keep (by simp) (by simp)
  have n3 := n2.new ((Fr.refl [] w2).alloc (.cells #[.string ⟨#[]⟩, .int .i64 0] 28))
  have c3 := n3.c0
  have k3 : (w2.alloc (.cells #[.string ⟨#[]⟩, .int .i64 0] 28)).cell? ⟨w.heap.size, 0, none⟩ = some (.string s) := ((Fr.refl [] w2).alloc _).keep k0 (by simp)
  have k4 : (w2.alloc (.cells #[.string ⟨#[]⟩, .int .i64 0] 28)).cell? ⟨w.heap.size, 1, none⟩ = some (.int .i64 p) := ((Fr.refl [] w2).alloc _).keep k1 (by simp)
  have z2 : w.heap.size + 2 ≤ w2.heap.size := by simpa using (f1.step f2).size
  go_cut [10, 11] from 29 to 37 (fun s10 s11 wc => ∃ c, s10 = .int .i64 0 ∧ s11 = .pointer (some ⟨c, 0, none⟩) ∧ wc.cell? ⟨c, 0, none⟩ = some (.string s) ∧ wc.cell? ⟨c, 1, none⟩ = some (.int .i64 pp) ∧ RegIs wc r m (names ++ [(addrV s pp, .int .i64 0)]) ∧ Fr [m] w2 wc ∧ w2.heap.size ≤ c)
  case first =>
    go_region_with (go_at_call 75; first
      | (refine (HB.out _ (n2.reg.drewN 1)).mono ?_; rintro e w3 ⟨rfl, rg3, f3⟩; have g3 : Fr [m] w2 w3 := (((Fr.refl [] w2).drewN _).mono (fun x hx => by cases hx)).trans f3 (fun x hx _ => hx); clear f3)
      | (refine (HB.out _ (n3.reg.drewN 1)).mono ?_; rintro e w3 ⟨rfl, rg3, f3⟩; have g3 : Fr [m] w2 w3 := ((((Fr.refl [] w2).alloc _).drewN _).mono (fun x hx => by cases hx)).trans f3 (fun x hx _ => hx); have i0 : w3.cell? ⟨w2.heap.size, 0, none⟩ = some (.string ⟨#[]⟩) := f3.keep (by simp) (by simp; omega); have i1 : w3.cell? ⟨w2.heap.size, 1, none⟩ = some (.int .i64 0) := f3.keep (by simp) (by simp; omega); have ifz : ∀ o, w3.frozen? ⟨w2.heap.size, o, none⟩ = false := (fun o => by rw [f3.frozen (by simp) (by simp; omega)]; simp); clear f3))
    all_goals go_wp2
    all_goals go_meet
    case' rel => skip
    all_goals first
      | exact ⟨_, rfl, rfl, by simp, by simp, rg3.keep ((Fr.refl [] w3).alloc _) (by simp) (by simp), g3.alloc _, g3.size⟩
      | exact ⟨_, rfl, rfl, (World.cell?_setCell_other _ _ _ _ (by simp)).trans (World.cell?_setCell_same _ _ _ i0), World.cell?_setCell_same _ _ _ ((World.cell?_setCell_other _ _ _ _ (by simp)).trans i1), rg3.keep (S := [w2.heap.size]) (((Fr.refl _ _).setCell (fun _ => by simp) _).setCell (fun _ => by simp) _) (by simp; omega) (by simp; omega), (g3.setCell (by simp) _).setCell (by simp) _, Nat.le_refl _⟩
  case rest =>
    obtain ⟨c, rfl, rfl, q0, q1, rg3, g3, hc⟩ := hcut
    have x0 := g3.keep n2.c0 (by simp; omega)
    have x1 := g3.keep n2.c1 (by simp; omega)
    have b3 := b2.keep g3 (by simp; omega) (by simp; omega) (by simp; omega) (by simp; omega)
    have ml3 := n2.ls.keep g3 (by simp; omega)
    go_wp2
    go_cut [12] from 42 to 49 (fun s12 wd => s12 = .int .i64 k ∧ MapIs Tryz.prog 3 wd lm (ls ++ [(.int .i64 k, qV b s pp)]) ∧ Fr [lm] wc wd)
    case first =>
      go_region_with (go_at_call 78; refine (addQ lm ls k b s pp _ (ml3.drewN 1) HK.out HXL.out hk').mono ?_; rintro e w4 ⟨rfl, ml4, f4⟩)
      all_goals go_wp2
      all_goals go_meet
      case' rel => skip
      all_goals exact ⟨rfl, ml4, f4.behind⟩
    case rest =>
      obtain ⟨rfl, ml4, g4⟩ := hcut
      have y0 := g4.keep x0 (by simp; omega)
      have p0 := g4.keep q0 (by simp; omega)
      have p1 := g4.keep q1 (by simp; omega)
      have rg4 := rg3.keep g4 (by simp; omega) (by simp; omega)
      have b4 := b3.keep g4 (by simp; omega) (by simp; omega) (by simp; omega) (by simp; omega)
      clear q0 q1 x0
      go_wp2
      go_cut [] from 50 to 55 (fun wd => RegIs wd r m (names ++ []) ∧ Fr [m] wc wd)
      case first =>
        go_region_with (go_at_call 79; refine (regRelease_hit r m names [] s pp 0 _ (rg4.drewN 1) hs HV.out).mono ?_; rintro e w5 ⟨rfl, rg5, f5⟩)
        all_goals go_wp2
        all_goals go_meet
        case' rel => skip
        all_goals exact ⟨rg5, f5.behind⟩
      case rest =>
        obtain ⟨rg5, g5⟩ := hcut
        rw [List.append_nil] at rg5
        have v0 := g5.keep y0 (by simp; omega)
        have r0 := g5.keep p0 (by simp; omega)
        have r1 := g5.keep p1 (by simp; omega)
        have ml5 := ml4.keep g5 (by simp; omega)
        have b5 := b4.keep g5 (by simp; omega) (by simp; omega) (by simp; omega) (by simp; omega)
        clear y0 p0 p1
        go_wp2
        go_cut [] from 56 to 62 (fun wd => RegIs wd r m (names ++ [(addrV s pp, .int .i64 k)]) ∧ Fr [m] wc wd)
        case first =>
          go_region_with (go_at_call 75; refine (regBind_ok r m names s pp k _ (rg5.drewN 1) hs HV.out hp (by omega) HXN.out (by omega)).mono ?_; rintro e w6 ⟨rfl, rg6, f6⟩)
          all_goals go_wp2
          all_goals go_meet
          case' rel => skip
          all_goals exact ⟨rg6, f6.behind⟩
        case rest =>
          obtain ⟨rg6, g6⟩ := hcut
          have s0 := g6.keep r0 (by simp; omega)
          have s1 := g6.keep r1 (by simp; omega)
          have ml6 := ml5.keep g6 (by simp; omega)
          have b6 := b5.keep g6 (by simp; omega) (by simp; omega) (by simp; omega) (by simp; omega)
          have fB := ((((f1.step f2).mono (T := [m, lm]) (fun x hx => by cases hx)).trans g3 (fun x hx _ => by simp at hx; simp [hx])).trans g4 (fun x hx _ => by simp at hx; simp [hx])).trans (g5.trans g6 (fun x hx _ => hx)) (fun x hx _ => by simp at hx; simp [hx])
          have fA : Fr [m, lm] w wc := (f0.mono (T := [m, lm]) (fun x hx => by cases hx)).trans fB (fun x hx _ => hx)
          have t0 : wc.cell? ⟨w.heap.size + 1, 0, none⟩ = some (.string ⟨#[]⟩) := fB.keep (by simp) (by simp; omega)
          have t1 : wc.cell? ⟨w.heap.size + 1, 1, none⟩ = some (.int .i64 0) := fB.keep (by simp) (by simp; omega)
          have tf : ∀ o, wc.frozen? ⟨w.heap.size + 1, o, none⟩ = false := fun o => by rw [fB.frozen (by simp) (by simp; omega)]; simp
          have n6 : NetIs wc n r m lm cm (names ++ [(addrV s pp, .int .i64 k)]) (ls ++ [(.int .i64 k, qV b s pp)]) cs :=
            ⟨fA.keep h.c0 (by simp; omega), fA.keep h.c1 (by simp; omega), fA.keep h.c2 (by simp; omega), rg6, ml6, h.cs.keep fA (by simp; omega), hne⟩
          clear fB
          go_wp2
          go_region
          go_wp2
          have fE : Fr [w.heap.size + 1] wc ((wc.setCell ⟨w.heap.size + 1, 0, none⟩ (.string s)).setCell ⟨w.heap.size + 1, 1, none⟩ (.int .i64 pp)).drew := (((Fr.refl _ wc).setCell (fun _ => by simp) _).setCell (fun _ => by simp) _).drew
          refine bodyPost_ret (v := .tuple #[.int .i64 k, .agg #[.string s, .int .i64 pp], .int .i64 0]) (by simp [results, Tryz.results30, go_sem, t0, t1]) rfl ⟨b, q, mm, t, rfl, ?_, ?_, ?_, by omega, by omega, by omega, by omega⟩
          · exact n6.keep fE (by simp; omega) (by simp; omega) (by simp; omega) (by simp; omega) (by simp; omega)
          · exact b6.keep fE (by simp; omega) (by simp; omega) (by simp; omega) (by simp; omega)
          · exact fA.trans fE (fun x hx hl => by simp at hx; omega)
end Go.Proofs.YtmdhlodafjpnmaaGreat
namespace Go.Proofs.YtmdhlodafjpnmaaGreat
open Go.RowKit
open Go.Maps (Keyed)
set_option linter.unusedVariables false
set_option maxRecDepth 100000
set_option maxHeartbeats 8000000


theorem netListen_bad (n r m lm cm : Nat) (names ls cs : List (Value × Value)) (s : ByteArray) (p most : Int) (w : World) (h : NetIs w n r m lm cm names ls cs) (hs : s.size ≤ 1000000) (hb : most < 1 ∨ 128 < most ∨ addrB s.data.toList p = false) :
    Calls Tryz.prog 30 #[.pointer (some ⟨n, 0, none⟩), .agg #[.string s, .int .i64 p], .int .i64 most] w fun e w' => e = .returned (.tuple #[.int .i64 0, .agg #[.string ⟨#[]⟩, .int .i64 0], .int .i64 2]) ∧ Fr [] w w' := by
  have f0 : Fr [] w ((w.alloc (.cells #[.string s, .int .i64 p] 28)).alloc (.cells #[.string ⟨#[]⟩, .int .i64 0] 28)) := ((Fr.refl [] w).alloc _).alloc _
  have h0 := h.new f0
  have key : ∀ (c : Int) (v : Value), (c = 2 ∨ addrB s.data.toList p = false) → (∀ W, Calls Tryz.prog 74 #[.int .i64 most] W fun e w' => (∃ v, e = .returned (.tuple #[v, .int .i64 c])) ∧ Fr [] W w') →
      Calls Tryz.prog 30 #[.pointer (some ⟨n, 0, none⟩), .agg #[.string s, .int .i64 p], .int .i64 most] w fun e w' => e = .returned (.tuple #[.int .i64 0, .agg #[.string ⟨#[]⟩, .int .i64 0], .int .i64 2]) ∧ Fr [] w w' := by
    intro c v hc hN
    have HNB := Lib.hid hN
    have HNN := Lib.hid (netNone_any _ h0)
    clear hN hb
    obtain ⟨ab, hab⟩ : ∃ ab, addrB s.data.toList p = ab := ⟨_, rfl⟩
    have HV := Lib.hid hab
    rw [hab] at hc
    clear hab
    have fin : ∀ W, Fr [] w W → Fr [] w ((W.setCell ⟨w.heap.size + 1, 0, none⟩ (.string ⟨#[]⟩)).setCell ⟨w.heap.size + 1, 1, none⟩ (.int .i64 0)) := fun W hW => (hW.setCell (p := ⟨w.heap.size + 1, 0, none⟩) (fun h => by simp only at h; omega) _).setCell (p := ⟨w.heap.size + 1, 1, none⟩) (fun h => by simp only at h; omega) _
    have FIN := Lib.hid fin
    clear fin
    cases ab
    · go_enter Tryz.func30, Tryz.ntmps30
      go_wp2_with (first
        | (go_at_call 55; refine HNN.out.mono ?_; rintro e w' ⟨rfl, rfl⟩)
        | (go_at_call 74; refine (HNB.out _).mono ?_; rintro e w1 ⟨⟨v1, rfl⟩, f1⟩; have k0 : w1.cell? ⟨w.heap.size, 0, none⟩ = some (.string s) := f1.keep (by simp) (by simp); have k1 : w1.cell? ⟨w.heap.size, 1, none⟩ = some (.int .i64 p) := f1.keep (by simp) (by simp))
        | (go_at_call 77; refine (valid_any s p hs _).mono ?_; rintro e w2 ⟨rfl, f2⟩; rw [HV.out]; have j0 : w2.cell? ⟨w.heap.size + 1, 0, none⟩ = some (.string ⟨#[]⟩) := (f1.step f2).keep (by simp) (by simp); have j1 : w2.cell? ⟨w.heap.size + 1, 1, none⟩ = some (.int .i64 0) := (f1.step f2).keep (by simp) (by simp); have jf : ∀ o, w2.frozen? ⟨w.heap.size + 1, o, none⟩ = false := (fun o => by rw [(f1.step f2).frozen (by simp) (by simp)]; simp)))
      refine bodyPost_ret (v := .tuple #[.int .i64 0, .agg #[.string ⟨#[]⟩, .int .i64 0], .int .i64 2]) (by simp [results, Tryz.results30, go_sem, j0, j1]) rfl ⟨rfl, FIN.out _ ((f0.step f1).step f2)⟩
    · obtain rfl : c = 2 := hc.elim id (fun h => by cases h)
      go_enter Tryz.func30, Tryz.ntmps30
      go_wp2_with (first
        | (go_at_call 55; refine HNN.out.mono ?_; rintro e w' ⟨rfl, rfl⟩)
        | (go_at_call 74; refine (HNB.out _).mono ?_; rintro e w1 ⟨⟨v1, rfl⟩, f1⟩; have k0 : w1.cell? ⟨w.heap.size, 0, none⟩ = some (.string s) := f1.keep (by simp) (by simp); have k1 : w1.cell? ⟨w.heap.size, 1, none⟩ = some (.int .i64 p) := f1.keep (by simp) (by simp))
        | (go_at_call 77; refine (valid_any s p hs _).mono ?_; rintro e w2 ⟨rfl, f2⟩; rw [HV.out]; have j0 : w2.cell? ⟨w.heap.size + 1, 0, none⟩ = some (.string ⟨#[]⟩) := (f1.step f2).keep (by simp) (by simp); have j1 : w2.cell? ⟨w.heap.size + 1, 1, none⟩ = some (.int .i64 0) := (f1.step f2).keep (by simp) (by simp); have jf : ∀ o, w2.frozen? ⟨w.heap.size + 1, o, none⟩ = false := (fun o => by rw [(f1.step f2).frozen (by simp) (by simp)]; simp)))
      refine bodyPost_ret (v := .tuple #[.int .i64 0, .agg #[.string ⟨#[]⟩, .int .i64 0], .int .i64 2]) (by simp [results, Tryz.results30, go_sem, j0, j1]) rfl ⟨rfl, FIN.out _ ((f0.step f1).step f2)⟩
  by_cases hm : most < 1 ∨ 128 < most
  · exact key 2 (.pointer none) (.inl rfl) (fun W => (backNew_bad most W hm).mono fun e w' ⟨he, hw⟩ => ⟨⟨_, he⟩, hw ▸ Fr.refl [] W⟩)
  · exact key 0 (.pointer none) (.inr (by rcases hb with h | h | h; exact absurd (.inl h) hm; exact absurd (.inr h) hm; exact h)) (fun W => (backNew_ok most W (by omega) (by omega)).mono fun e w' ⟨b, q, m, t, he, _, hf, _⟩ => ⟨⟨_, he⟩, hf⟩)
theorem netListen_err (n r m lm cm : Nat) (names ls cs : List (Value × Value)) (s : ByteArray) (p most ce : Int) (w : World) (h : NetIs w n r m lm cm names ls cs) (hs : s.size ≤ 1000000) (hv0 : addrB s.data.toList p = true) (hce : (ce != 0) = true)
    (hB : ∀ W, RegIs W r m names → Calls Tryz.prog 75 #[.pointer (some ⟨r, 0, none⟩), .agg #[.string s, .int .i64 p], .int .i64 0] W fun e w' => e = .returned (.tuple #[.agg #[.string ⟨#[]⟩, .int .i64 0], .int .i64 ce]) ∧ Fr [] W w')
    (h1 : ¬ most < 1) (h2 : ¬ 128 < most) :
    Calls Tryz.prog 30 #[.pointer (some ⟨n, 0, none⟩), .agg #[.string s, .int .i64 p], .int .i64 most] w fun e w' => e = .returned (.tuple #[.int .i64 0, .agg #[.string ⟨#[]⟩, .int .i64 0], .int .i64 ce]) ∧ Fr [] w w' := by
  have f0 : Fr [] w ((w.alloc (.cells #[.string s, .int .i64 p] 28)).alloc (.cells #[.string ⟨#[]⟩, .int .i64 0] 28)) := ((Fr.refl [] w).alloc _).alloc _
  have h0 := h.new f0
  have HV0 := Lib.hid hv0
  have HB := Lib.hid hB
  have hne := h.ne
  have hnlt := cell_lt h.c0
  have hrlt := cell_lt h.reg.c0
  have hmlt := h.reg.map.lt
  have hllt := h.ls.lt
  have hclt := h.cs.lt
  clear hv0 hB
  go_enter Tryz.func30, Tryz.ntmps30
  go_wp2_with (first
    | (go_at_call 55; refine (netNone_any _ h0).mono ?_; rintro e w' ⟨rfl, rfl⟩)
    | (go_at_call 74; refine (backNew_ok most _ (by omega) (by omega)).mono ?_; rintro e w1 ⟨b, q, mm, t, rfl, hb1, f1, l1, l2, l3, l4⟩; simp only [World.size_alloc] at l1 l2 l3 l4; have k0 : w1.cell? ⟨w.heap.size, 0, none⟩ = some (.string s) := f1.keep (by simp) (by simp); have k1 : w1.cell? ⟨w.heap.size, 1, none⟩ = some (.int .i64 p) := f1.keep (by simp) (by simp))
    | (go_at_call 77; refine (valid_any s p hs _).mono ?_; rintro e w2 ⟨rfl, f2⟩; rw [HV0.out]; have k0 := f2.keep k0 (by simp); have k1 := f2.keep k1 (by simp); have j0 : w2.cell? ⟨n, 0, none⟩ = some (.pointer (some ⟨r, 0, none⟩)) := ((h0.new f1).new f2).c0))
  have n2 := (h0.new f1).new f2
  have b2 := hb1.keep f2 (by simp) (by simp) (by simp) (by simp)
  clear k0 k1
  have k0 : w2.cell? ⟨w.heap.size, 0, none⟩ = some (.string s) := (f1.step f2).keep (by simp) (by simp)
  have k1 : w2.cell? ⟨w.heap.size, 1, none⟩ = some (.int .i64 p) := (f1.step f2).keep (by simp) (by simp)
  have n3 := n2.new ((Fr.refl [] w2).alloc (.cells #[.string ⟨#[]⟩, .int .i64 0] 28))
  have c3 := n3.c0
  have k3 : (w2.alloc (.cells #[.string ⟨#[]⟩, .int .i64 0] 28)).cell? ⟨w.heap.size, 0, none⟩ = some (.string s) := ((Fr.refl [] w2).alloc _).keep k0 (by simp)
  have k4 : (w2.alloc (.cells #[.string ⟨#[]⟩, .int .i64 0] 28)).cell? ⟨w.heap.size, 1, none⟩ = some (.int .i64 p) := ((Fr.refl [] w2).alloc _).keep k1 (by simp)
  have z2 : w.heap.size + 2 ≤ w2.heap.size := by simpa using (f1.step f2).size
  go_cut [10, 11] from 29 to 37 (fun s10 s11 wc => ∃ c, s10 = .int .i64 ce ∧ s11 = .pointer (some ⟨c, 0, none⟩) ∧ Fr [] w2 wc)
  case first =>
    go_region_with (go_at_call 75; first
      | (refine (HB.out _ (n2.reg.drewN 1)).mono ?_; rintro e w3 ⟨rfl, f3⟩; have g3 : Fr [] w2 w3 := f3.behind; clear f3)
      | (refine (HB.out _ (n3.reg.drewN 1)).mono ?_; rintro e w3 ⟨rfl, f3⟩; have g3 : Fr [] w2 w3 := ((Fr.refl [] w2).alloc _).step f3.behind; have i0 : w3.cell? ⟨w2.heap.size, 0, none⟩ = some (.string ⟨#[]⟩) := f3.keep (by simp) (by simp); have i1 : w3.cell? ⟨w2.heap.size, 1, none⟩ = some (.int .i64 0) := f3.keep (by simp) (by simp); have ifz : ∀ o, w3.frozen? ⟨w2.heap.size, o, none⟩ = false := (fun o => by rw [f3.frozen (by simp) (by simp)]; simp); clear f3))
    all_goals go_wp2
    all_goals go_meet
    case' rel => skip
    all_goals first
      | exact ⟨_, rfl, rfl, g3.alloc _⟩
      | exact ⟨_, rfl, rfl, (g3.setCell (fun h => by simp only at h; omega) _).setCell (fun h => by simp only at h; omega) _⟩
  case rest =>
    obtain ⟨c, rfl, rfl, g3⟩ := hcut
    have fA : Fr [] w wc := (f0.step (f1.step f2)).step g3
    have fB := (f1.step f2).step g3
    have t0 : wc.cell? ⟨w.heap.size + 1, 0, none⟩ = some (.string ⟨#[]⟩) := fB.keep (by simp) (by simp)
    have t1 : wc.cell? ⟨w.heap.size + 1, 1, none⟩ = some (.int .i64 0) := fB.keep (by simp) (by simp)
    have tf : ∀ o, wc.frozen? ⟨w.heap.size + 1, o, none⟩ = false := fun o => by rw [fB.frozen (by simp) (by simp)]; simp
    clear k0 k1
    go_wp2
    refine bodyPost_ret (v := .tuple #[.int .i64 0, .agg #[.string ⟨#[]⟩, .int .i64 0], .int .i64 ce]) (by simp [results, Tryz.results30, go_sem, t0, t1]) rfl ⟨rfl, ?_⟩
    exact (fA.setCell (p := ⟨w.heap.size + 1, 0, none⟩) (fun h => by simp only at h; omega) _).setCell (p := ⟨w.heap.size + 1, 1, none⟩) (fun h => by simp only at h; omega) _

end Go.Proofs.YtmdhlodafjpnmaaGreat
namespace Go.Proofs.YtmdhlodafjpnmaaGreat
open Go.RowKit
open Go.Maps (Keyed)
set_option linter.unusedVariables false
set_option maxRecDepth 100000
set_option maxHeartbeats 4000000

theorem mem_ports {L : List LB} {s : ByteArray} {j : Nat} : j ∈ PN.ports (L.map LB.pl) s ↔ ∃ x ∈ L, x.s = s ∧ x.p = 49152 + (j : Int) := by
  unfold PN.ports
  simp only [List.mem_map, List.mem_filter, decide_eq_true_eq]
  constructor
  · rintro ⟨y, ⟨⟨x, hx, rfl⟩, h1, h2⟩, h3⟩
    simp only [LB.pl] at h1 h2 h3
    exact ⟨x, hx, h1, by omega⟩
  · rintro ⟨x, hx, h1, h2⟩
    exact ⟨x.pl, ⟨⟨x, hx, rfl⟩, h1, by simp only [LB.pl]; omega⟩, by simp only [LB.pl]; omega⟩

theorem listFree (L : List LB) : (∀ j : Nat, j < PN.free (L.map (·.ref)) → ∃ b' s' p', (.int .i64 j, qV b' s' p') ∈ L.map LB.ent) ∧ (∀ x ∈ L.map LB.ent, x.1 ≠ .int .i64 (PN.free (L.map (·.ref)) : Nat)) ∧ PN.free (L.map (·.ref)) ≤ L.length := by
  obtain ⟨h1, h2, h3⟩ := PN.free_spec (L.map (·.ref))
  refine ⟨fun j hj => ?_, fun x hx he => ?_, by simpa using h3⟩
  · obtain ⟨y, hy, rfl⟩ := List.mem_map.1 (h2 j hj)
    exact ⟨y.b, y.s, y.p, List.mem_map.2 ⟨y, hy, rfl⟩⟩
  · obtain ⟨y, hy, rfl⟩ := List.mem_map.1 hx
    exact h1 (List.mem_map.2 ⟨y, hy, i64_inj he⟩)

theorem NetW.add {w w' : World} {own : Nat → Nat} {B : NB} {L : List LB} {C : List CB} {G k : Nat} {s : ByteArray} {pp most : Int} {b q mm t : Nat} (h : NetW w own B L C G) (hk : PN.free (L.map (·.ref)) = k) (hs : s.size ≤ 1000000) (hv : addrB s.data.toList pp = true) (hp : (pp == 0) = false) (hm : 1 ≤ most ∧ most ≤ 128) (hxn : ∀ x ∈ L.map LB.nm, x.1 ≠ addrV s pp) (hln : L.length < 128)
    (hn : NetIs w' B.n B.r B.m B.lm B.cm (L.map LB.nm ++ [(addrV s pp, .int .i64 k)]) (L.map LB.ent ++ [(.int .i64 k, qV b s pp)]) (C.map CB.ent)) (hb : BackIs w' b q mm t most false [] 0) (hf : Fr [B.m, B.lm] w w') (l1 : w.heap.size ≤ b) (l2 : w.heap.size ≤ q) (l3 : w.heap.size ≤ mm) (l4 : w.heap.size ≤ t) :
    NetW w' (ownNew w own (4 * k + 2)) B (L ++ [⟨k, s, pp, most, [], 0, b, q, mm, t⟩]) C G := by
  obtain ⟨o1, o2, o3, o4, o5⟩ := h.on
  have hE := Ext.new w own (4 * k + 2)
  obtain ⟨f1, f2, f3⟩ := PN.free_spec (L.map (·.ref))
  rw [hk] at f1 f2 f3
  have hS : ∀ z ∈ [B.m, B.lm], z < w.heap.size ∧ own z = 0 := fun z hz => by
    simp only [List.mem_cons, List.not_mem_nil, or_false] at hz
    rcases hz with rfl | rfl
    · exact ⟨h.net.reg.map.lt, o3⟩
    · exact ⟨h.net.ls.lt, o4⟩
  have keepS : ∀ c, c ≠ 0 → ∀ z ∈ [B.m, B.lm], ownNew w own (4 * k + 2) z ≠ c := fun c hc z hz he => by
    obtain ⟨h1, h2⟩ := hS z hz
    rw [hE z h1, h2] at he
    exact hc he.symm
  refine ⟨?_, ⟨(hE _ (cell_lt h.net.c0)).trans o1, (hE _ (cell_lt h.net.reg.c0)).trans o2, (hE _ h.net.reg.map.lt).trans o3, (hE _ h.net.ls.lt).trans o4, (hE _ h.net.cs.lt).trans o5⟩, ?_, ?_, ?_, h.crefs, ?_, ?_, ?_, by simp; omega, h.nc⟩
  · simpa [LB.nm, LB.ent] using hn
  · intro y hy
    rcases List.mem_append.1 hy with hy | hy
    · exact ((h.ls y hy).ext hE).keep hf (fun z hz => keepS _ (by omega) z hz)
    · simp only [List.mem_singleton] at hy
      subst hy
      exact ⟨hb, ⟨ownNew_ge l1, ownNew_ge l2, ownNew_ge l3, ownNew_ge l4⟩, hv, hs, hp, hm, by simp; omega, Nat.zero_le _⟩
  · intro y hy
    exact ((h.cs y hy).ext hE).keep hf (fun z hz => keepS _ (by omega) z hz)
  · rw [List.map_append, List.nodup_append]
    exact ⟨h.refs, by simp, fun a ha b' hb' he => f1 (by simp at hb'; subst hb'; subst he; exact ha)⟩
  · rw [List.pairwise_append]
    refine ⟨h.adrs, by simp, fun a ha b' hb' he => ?_⟩
    simp only [List.mem_singleton] at hb'
    subst hb'
    simp only at he
    exact hxn _ (List.mem_map.2 ⟨a, ha, rfl⟩) (by rw [LB.nm, he.1, he.2])
  · intro z hz
    refine h.queue z ?_
    simpa [qs] using hz
  · have := h.vals
    simpa [qs] using this

theorem addrB_ports {s : ByteArray} {p : Int} (h : addrB s.data.toList p = true) (q : Int) (h0 : 0 ≤ q) (h1 : q ≤ 65535) : addrB s.data.toList q = true := by
  unfold addrB at h ⊢
  simp only [Bool.and_eq_true, decide_eq_true_eq] at h ⊢
  exact ⟨⟨h.1.1, h0⟩, h1⟩

theorem netListen_w {own : Nat → Nat} {B : NB} {L : List LB} {C : List CB} {G : Nat} (s : ByteArray) (p most : Int) (w : World) (h : NetW w own B L C G) (hs : s.size ≤ 1000000) :
    Calls Tryz.prog 30 #[.pointer (some ⟨B.n, 0, none⟩), .agg #[.string s, .int .i64 p], .int .i64 most] w fun e w' => ∃ own' L',
      e = .returned (.tuple #[.int .i64 (PN.listen (plainN L C) s p most (addrB s.data.toList p)).2.1, .agg #[.string (PN.listen (plainN L C) s p most (addrB s.data.toList p)).2.2.1.1, .int .i64 (PN.listen (plainN L C) s p most (addrB s.data.toList p)).2.2.1.2], .int .i64 (PN.listen (plainN L C) s p most (addrB s.data.toList p)).2.2.2]) ∧ plainN L' C = (PN.listen (plainN L C) s p most (addrB s.data.toList p)).1 ∧ NetW w' own' B L' C G ∧ Ext w own own' ∧ FrO own netO w w' := by
  have hrefs : (plainN L C).L.map (·.ref) = L.map (·.ref) := by simp [plainN, LB.pl]
  have hlen : (plainN L C).L.length = L.length := by simp [plainN]
  unfold PN.listen
  by_cases hb : most < 1 ∨ 128 < most ∨ addrB s.data.toList p = false
  · rw [if_pos hb]
    refine (netListen_bad B.n B.r B.m B.lm B.cm _ _ _ s p most w h.net hs hb).mono ?_
    rintro e w' ⟨rfl, hf⟩
    exact ⟨own, L, rfl, rfl, h.new hf, Ext.refl _ _, FrO.new hf⟩
  · rw [if_neg hb, hrefs, hlen]
    have hv : addrB s.data.toList p = true := by
      cases hh : addrB s.data.toList p
      · exact absurd (.inr (.inr hh)) hb
      · rfl
    have hm : 1 ≤ most ∧ most ≤ 128 := by omega
    obtain ⟨pb1, pb2⟩ := addrB_port hv
    have hnl := h.nl
    -- the port
    obtain ⟨pp, hpp⟩ : ∃ pp, PN.portOf (plainN L C).L s p = pp := ⟨_, rfl⟩
    rw [hpp]
    have key : (0 ≤ pp ∧ pp ≤ 65535) ∧ (pp == 0) = false ∧ ((∀ x ∈ L.map LB.nm, x.1 ≠ addrV s pp) → ¬ 128 ≤ ((L.map LB.nm).length : Int) → ∀ W, RegIs W B.r B.m (L.map LB.nm) → Calls Tryz.prog 75 #[.pointer (some ⟨B.r, 0, none⟩), .agg #[.string s, .int .i64 p], .int .i64 0] W fun e w' => e = .returned (.tuple #[.agg #[.string s, .int .i64 pp], .int .i64 0]) ∧ RegIs w' B.r B.m (L.map LB.nm ++ [(addrV s pp, .int .i64 0)]) ∧ Fr [B.m] W w') ∧
        ((∀ x ∈ L.map LB.nm, x.1 ≠ addrV s pp) → 128 ≤ ((L.map LB.nm).length : Int) → ∀ W, RegIs W B.r B.m (L.map LB.nm) → Calls Tryz.prog 75 #[.pointer (some ⟨B.r, 0, none⟩), .agg #[.string s, .int .i64 p], .int .i64 0] W fun e w' => e = .returned (.tuple #[.agg #[.string ⟨#[]⟩, .int .i64 0], .int .i64 7]) ∧ Fr [] W w') ∧
        (∀ u, (addrV s pp, .int .i64 u) ∈ L.map LB.nm → ∀ W, RegIs W B.r B.m (L.map LB.nm) → Calls Tryz.prog 75 #[.pointer (some ⟨B.r, 0, none⟩), .agg #[.string s, .int .i64 p], .int .i64 0] W fun e w' => e = .returned (.tuple #[.agg #[.string ⟨#[]⟩, .int .i64 0], .int .i64 11]) ∧ Fr [] W w') := by
      unfold PN.portOf at hpp
      by_cases hp0 : p = 0
      · subst hp0
        rw [if_pos rfl] at hpp
        obtain ⟨f1, f2, f3⟩ := PN.free_spec (PN.ports (L.map LB.pl) s)
        have hpl : (PN.ports (L.map LB.pl) s).length ≤ L.length := by
          unfold PN.ports
          have := List.length_filter_le (fun x : PN.PL => decide (x.s = s ∧ 49152 ≤ x.p)) (L.map LB.pl)
          simpa using this
        obtain ⟨k, hk⟩ : ∃ k, PN.free (PN.ports (L.map LB.pl) s) = k := ⟨_, rfl⟩
        rw [show (plainN L C).L = L.map LB.pl from rfl, hk] at hpp
        rw [hk] at f1 f2 f3
        subst hpp
        have hlow : ∀ j, j < k → ∃ v, (addrV s (49152 + (j : Int)), .int .i64 v) ∈ L.map LB.nm := fun j hj => by
          obtain ⟨x, hx, h1, h2⟩ := mem_ports.1 (f2 j hj)
          exact ⟨x.ref, List.mem_map.2 ⟨x, hx, by rw [LB.nm, h1, h2]⟩⟩
        have hat : ∀ x ∈ L.map LB.nm, x.1 ≠ addrV s (49152 + (k : Int)) := fun x hx he => by
          obtain ⟨y, hy, rfl⟩ := List.mem_map.1 hx
          obtain ⟨h1, h2⟩ := addrV_inj he
          exact f1 (mem_ports.2 ⟨y, hy, h1, h2⟩)
        have hfr : ∀ W, RegIs W B.r B.m (L.map LB.nm) → Calls Tryz.prog 122 #[.pointer (some ⟨B.r, 0, none⟩), .string s] W fun e w' => e = .returned (.int .i64 (49152 + (k : Int))) ∧ W = w' := fun W hW => regFree_any B.r B.m k _ s W hW hs (by omega) hlow hat
        refine ⟨⟨by omega, by omega⟩, by rw [beq_eq_false_iff_ne]; omega, fun hx hn W hW => ?_, fun hx hn W hW => ?_, fun u hu => absurd rfl (hat _ hu)⟩
        · exact regBind0_ok B.r B.m _ s _ 0 W hW hs hv ⟨by omega, by omega⟩ (by omega) hfr hat hn
        · exact regBind0_full B.r B.m _ s _ 0 W hW hs hv ⟨by omega, by omega⟩ (by omega) hfr hat hn
      · rw [if_neg hp0] at hpp
        subst hpp
        have hpb : (p == 0) = false := by rw [beq_eq_false_iff_ne]; exact hp0
        exact ⟨⟨pb1, pb2⟩, hpb, fun hx hn W hW => regBind_ok B.r B.m _ s p 0 W hW hs hv hpb (by omega) hx hn, fun hx hn W hW => regBind_full B.r B.m _ s p 0 W hW hs hv hpb (by omega) hx hn, fun u hu W hW => regBind_busy B.r B.m _ s p 0 W hW hs hv hpb (by omega) u hu⟩
    obtain ⟨⟨q1, q2⟩, q3, kOk, kFull, kBusy⟩ := key
    rcases hat : PN.at? (plainN L C).L s pp with _ | z
    · rw [if_neg (by simp)]
      have hxn := at_none hat
      by_cases hl : 128 ≤ L.length
      · rw [if_pos hl]
        refine (netListen_err B.n B.r B.m B.lm B.cm _ _ _ s p most 7 w h.net hs hv rfl (kFull hxn (by simp; omega)) (by omega) (by omega)).mono ?_
        rintro e w' ⟨rfl, hf⟩
        exact ⟨own, L, rfl, rfl, h.new hf, Ext.refl _ _, FrO.new hf⟩
      · rw [if_neg hl]
        obtain ⟨a1, a2, a3⟩ := listFree L
        obtain ⟨k, hk⟩ : ∃ k, PN.free (L.map (·.ref)) = k := ⟨_, rfl⟩
        rw [hk] at a1 a2 a3 ⊢
        refine (netListen_gen B.n B.r B.m B.lm B.cm _ _ _ s p pp most k w h.net hs hv (addrB_ports hv pp q1 q2) q3 (kOk hxn (by simp; omega)) (by omega) (by omega) hxn (by simp; omega) a1 a2 (by omega)).mono ?_
        rintro e w' ⟨b, q, mm, t, rfl, hn, hb', hf, l1, l2, l3, l4⟩
        obtain ⟨o1, o2, o3, o4, o5⟩ := h.on
        refine ⟨ownNew w own (4 * k + 2), L ++ [⟨k, s, pp, most, [], 0, b, q, mm, t⟩], rfl, by simp [plainN, LB.pl], h.add hk hs (addrB_ports hv pp q1 q2) q3 hm hxn (by omega) hn hb' hf l1 l2 l3 l4, Ext.new _ _ _, FrO.of hf (fun z hz => ?_)⟩
        simp only [List.mem_cons, List.not_mem_nil, or_false] at hz
        rcases hz with rfl | rfl
        · exact .inl o3
        · exact .inl o4
    · rw [if_pos (by simp)]
      obtain ⟨L1, x, L2, hL, rfl, hxs, hxp⟩ := at_some hat
      have hu : (addrV s pp, .int .i64 (x.ref : Int)) ∈ L.map LB.nm := List.mem_map.2 ⟨x, by rw [hL]; simp, by rw [LB.nm, hxs, hxp]⟩
      refine (netListen_err B.n B.r B.m B.lm B.cm _ _ _ s p most 11 w h.net hs hv rfl (kBusy _ hu) (by omega) (by omega)).mono ?_
      rintro e w' ⟨rfl, hf⟩
      exact ⟨own, L, rfl, rfl, h.new hf, Ext.refl _ _, FrO.new hf⟩
end Go.Proofs.YtmdhlodafjpnmaaGreat
