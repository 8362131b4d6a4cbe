/- Contracts of listener's Listen where it refuses. -/
import Derived.Test.YtmdhlodafjpnmaaGreatListen
import Derived.Test.YtmdhlodafjpnmaaGreatBind0
namespace Go.Proofs.YtmdhlodafjpnmaaGreat
open Go.RowKit
open Go.Maps (Keyed)
set_option linter.unusedVariables false
set_option maxRecDepth 100000
set_option maxHeartbeats 8000000


theorem netListen_bad (n r m lm cm : Nat) (names ls cs : List (Value × Value)) (s : ByteArray) (p most : Int) (w : World) (h : NetIs w n r m lm cm names ls cs) (hs : s.size ≤ 1000000) (hb : most < 1 ∨ 128 < most ∨ addrB s.data.toList p = false) :
    Calls Tryz.prog 30 #[.pointer (some ⟨n, 0, none⟩), .agg #[.string s, .int .i64 p], .int .i64 most] w fun e w' => e = .returned (.tuple #[.int .i64 0, .agg #[.string ⟨#[]⟩, .int .i64 0], .int .i64 2]) ∧ Fr [] w w' := by
  have f0 : Fr [] w ((w.alloc (.cells #[.string s, .int .i64 p] 28)).alloc (.cells #[.string ⟨#[]⟩, .int .i64 0] 28)) := ((Fr.refl [] w).alloc _).alloc _
  have h0 := h.new f0
  have key : ∀ (c : Int) (v : Value), (c = 2 ∨ addrB s.data.toList p = false) → (∀ W, Calls Tryz.prog 74 #[.int .i64 most] W fun e w' => (∃ v, e = .returned (.tuple #[v, .int .i64 c])) ∧ Fr [] W w') →
      Calls Tryz.prog 30 #[.pointer (some ⟨n, 0, none⟩), .agg #[.string s, .int .i64 p], .int .i64 most] w fun e w' => e = .returned (.tuple #[.int .i64 0, .agg #[.string ⟨#[]⟩, .int .i64 0], .int .i64 2]) ∧ Fr [] w w' := by
    intro c v hc hN
    have HNB := Lib.hid hN
    have HNN := Lib.hid (netNone_any _ h0)
    clear hN hb
    obtain ⟨ab, hab⟩ : ∃ ab, addrB s.data.toList p = ab := ⟨_, rfl⟩
    have HV := Lib.hid hab
    rw [hab] at hc
    clear hab
    have fin : ∀ W, Fr [] w W → Fr [] w ((W.setCell ⟨w.heap.size + 1, 0, none⟩ (.string ⟨#[]⟩)).setCell ⟨w.heap.size + 1, 1, none⟩ (.int .i64 0)) := fun W hW => (hW.setCell (p := ⟨w.heap.size + 1, 0, none⟩) (fun h => by simp only at h; omega) _).setCell (p := ⟨w.heap.size + 1, 1, none⟩) (fun h => by simp only at h; omega) _
    have FIN := Lib.hid fin
    clear fin
    cases ab
    · go_enter Tryz.func30, Tryz.ntmps30
      go_wp2_with (first
        | (go_at_call 55; refine HNN.out.mono ?_; rintro e w' ⟨rfl, rfl⟩)
        | (go_at_call 74; refine (HNB.out _).mono ?_; rintro e w1 ⟨⟨v1, rfl⟩, f1⟩; have k0 : w1.cell? ⟨w.heap.size, 0, none⟩ = some (.string s) := f1.keep (by simp) (by simp); have k1 : w1.cell? ⟨w.heap.size, 1, none⟩ = some (.int .i64 p) := f1.keep (by simp) (by simp))
        | (go_at_call 77; refine (valid_any s p hs _).mono ?_; rintro e w2 ⟨rfl, f2⟩; rw [HV.out]; have j0 : w2.cell? ⟨w.heap.size + 1, 0, none⟩ = some (.string ⟨#[]⟩) := (f1.step f2).keep (by simp) (by simp); have j1 : w2.cell? ⟨w.heap.size + 1, 1, none⟩ = some (.int .i64 0) := (f1.step f2).keep (by simp) (by simp); have jf : ∀ o, w2.frozen? ⟨w.heap.size + 1, o, none⟩ = false := (fun o => by rw [(f1.step f2).frozen (by simp) (by simp)]; simp)))
      refine bodyPost_ret (v := .tuple #[.int .i64 0, .agg #[.string ⟨#[]⟩, .int .i64 0], .int .i64 2]) (by simp [results, Tryz.results30, go_sem, j0, j1]) rfl ⟨rfl, FIN.out _ ((f0.step f1).step f2)⟩
    · obtain rfl : c = 2 := hc.elim id (fun h => by cases h)
      go_enter Tryz.func30, Tryz.ntmps30
      go_wp2_with (first
        | (go_at_call 55; refine HNN.out.mono ?_; rintro e w' ⟨rfl, rfl⟩)
        | (go_at_call 74; refine (HNB.out _).mono ?_; rintro e w1 ⟨⟨v1, rfl⟩, f1⟩; have k0 : w1.cell? ⟨w.heap.size, 0, none⟩ = some (.string s) := f1.keep (by simp) (by simp); have k1 : w1.cell? ⟨w.heap.size, 1, none⟩ = some (.int .i64 p) := f1.keep (by simp) (by simp))
        | (go_at_call 77; refine (valid_any s p hs _).mono ?_; rintro e w2 ⟨rfl, f2⟩; rw [HV.out]; have j0 : w2.cell? ⟨w.heap.size + 1, 0, none⟩ = some (.string ⟨#[]⟩) := (f1.step f2).keep (by simp) (by simp); have j1 : w2.cell? ⟨w.heap.size + 1, 1, none⟩ = some (.int .i64 0) := (f1.step f2).keep (by simp) (by simp); have jf : ∀ o, w2.frozen? ⟨w.heap.size + 1, o, none⟩ = false := (fun o => by rw [(f1.step f2).frozen (by simp) (by simp)]; simp)))
      refine bodyPost_ret (v := .tuple #[.int .i64 0, .agg #[.string ⟨#[]⟩, .int .i64 0], .int .i64 2]) (by simp [results, Tryz.results30, go_sem, j0, j1]) rfl ⟨rfl, FIN.out _ ((f0.step f1).step f2)⟩
  by_cases hm : most < 1 ∨ 128 < most
  · exact key 2 (.pointer none) (.inl rfl) (fun W => (backNew_bad most W hm).mono fun e w' ⟨he, hw⟩ => ⟨⟨_, he⟩, hw ▸ Fr.refl [] W⟩)
  · exact key 0 (.pointer none) (.inr (by rcases hb with h | h | h; exact absurd (.inl h) hm; exact absurd (.inr h) hm; exact h)) (fun W => (backNew_ok most W (by omega) (by omega)).mono fun e w' ⟨b, q, m, t, he, _, hf, _⟩ => ⟨⟨_, he⟩, hf⟩)
theorem netListen_err (n r m lm cm : Nat) (names ls cs : List (Value × Value)) (s : ByteArray) (p most ce : Int) (w : World) (h : NetIs w n r m lm cm names ls cs) (hs : s.size ≤ 1000000) (hv0 : addrB s.data.toList p = true) (hce : (ce != 0) = true)
    (hB : ∀ W, RegIs W r m names → Calls Tryz.prog 75 #[.pointer (some ⟨r, 0, none⟩), .agg #[.string s, .int .i64 p], .int .i64 0] W fun e w' => e = .returned (.tuple #[.agg #[.string ⟨#[]⟩, .int .i64 0], .int .i64 ce]) ∧ Fr [] W w')
    (h1 : ¬ most < 1) (h2 : ¬ 128 < most) :
    Calls Tryz.prog 30 #[.pointer (some ⟨n, 0, none⟩), .agg #[.string s, .int .i64 p], .int .i64 most] w fun e w' => e = .returned (.tuple #[.int .i64 0, .agg #[.string ⟨#[]⟩, .int .i64 0], .int .i64 ce]) ∧ Fr [] w w' := by
  have f0 : Fr [] w ((w.alloc (.cells #[.string s, .int .i64 p] 28)).alloc (.cells #[.string ⟨#[]⟩, .int .i64 0] 28)) := ((Fr.refl [] w).alloc _).alloc _
  have h0 := h.new f0
  have HV0 := Lib.hid hv0
  have HB := Lib.hid hB
  have hne := h.ne
  have hnlt := cell_lt h.c0
  have hrlt := cell_lt h.reg.c0
  have hmlt := h.reg.map.lt
  have hllt := h.ls.lt
  have hclt := h.cs.lt
  clear hv0 hB
  go_enter Tryz.func30, Tryz.ntmps30
  go_wp2_with (first
    | (go_at_call 55; refine (netNone_any _ h0).mono ?_; rintro e w' ⟨rfl, rfl⟩)
    | (go_at_call 74; refine (backNew_ok most _ (by omega) (by omega)).mono ?_; rintro e w1 ⟨b, q, mm, t, rfl, hb1, f1, l1, l2, l3, l4⟩; simp only [World.size_alloc] at l1 l2 l3 l4; have k0 : w1.cell? ⟨w.heap.size, 0, none⟩ = some (.string s) := f1.keep (by simp) (by simp); have k1 : w1.cell? ⟨w.heap.size, 1, none⟩ = some (.int .i64 p) := f1.keep (by simp) (by simp))
    | (go_at_call 77; refine (valid_any s p hs _).mono ?_; rintro e w2 ⟨rfl, f2⟩; rw [HV0.out]; have k0 := f2.keep k0 (by simp); have k1 := f2.keep k1 (by simp); have j0 : w2.cell? ⟨n, 0, none⟩ = some (.pointer (some ⟨r, 0, none⟩)) := ((h0.new f1).new f2).c0))
  have n2 := (h0.new f1).new f2
  have b2 := hb1.keep f2 (by simp) (by simp) (by simp) (by simp)
  clear k0 k1
  have k0 : w2.cell? ⟨w.heap.size, 0, none⟩ = some (.string s) := (f1.step f2).keep (by simp) (by simp)
  have k1 : w2.cell? ⟨w.heap.size, 1, none⟩ = some (.int .i64 p) := (f1.step f2).keep (by simp) (by simp)
  have n3 := n2.new ((Fr.refl [] w2).alloc (.cells #[.string ⟨#[]⟩, .int .i64 0] 28))
  have c3 := n3.c0
  have k3 : (w2.alloc (.cells #[.string ⟨#[]⟩, .int .i64 0] 28)).cell? ⟨w.heap.size, 0, none⟩ = some (.string s) := ((Fr.refl [] w2).alloc _).keep k0 (by simp)
  have k4 : (w2.alloc (.cells #[.string ⟨#[]⟩, .int .i64 0] 28)).cell? ⟨w.heap.size, 1, none⟩ = some (.int .i64 p) := ((Fr.refl [] w2).alloc _).keep k1 (by simp)
  have z2 : w.heap.size + 2 ≤ w2.heap.size := by simpa using (f1.step f2).size
  go_cut [10, 11] from 29 to 37 (fun s10 s11 wc => ∃ c, s10 = .int .i64 ce ∧ s11 = .pointer (some ⟨c, 0, none⟩) ∧ Fr [] w2 wc)
  case first =>
    go_region_with (go_at_call 75; first
      | (refine (HB.out _ (n2.reg.drewN 1)).mono ?_; rintro e w3 ⟨rfl, f3⟩; have g3 : Fr [] w2 w3 := f3.behind; clear f3)
      | (refine (HB.out _ (n3.reg.drewN 1)).mono ?_; rintro e w3 ⟨rfl, f3⟩; have g3 : Fr [] w2 w3 := ((Fr.refl [] w2).alloc _).step f3.behind; have i0 : w3.cell? ⟨w2.heap.size, 0, none⟩ = some (.string ⟨#[]⟩) := f3.keep (by simp) (by simp); have i1 : w3.cell? ⟨w2.heap.size, 1, none⟩ = some (.int .i64 0) := f3.keep (by simp) (by simp); have ifz : ∀ o, w3.frozen? ⟨w2.heap.size, o, none⟩ = false := (fun o => by rw [f3.frozen (by simp) (by simp)]; simp); clear f3))
    all_goals go_wp2
    all_goals go_meet
    case' rel => skip
    all_goals first
      | exact ⟨_, rfl, rfl, g3.alloc _⟩
      | exact ⟨_, rfl, rfl, (g3.setCell (fun h => by simp only at h; omega) _).setCell (fun h => by simp only at h; omega) _⟩
  case rest =>
    obtain ⟨c, rfl, rfl, g3⟩ := hcut
    have fA : Fr [] w wc := (f0.step (f1.step f2)).step g3
    have fB := (f1.step f2).step g3
    have t0 : wc.cell? ⟨w.heap.size + 1, 0, none⟩ = some (.string ⟨#[]⟩) := fB.keep (by simp) (by simp)
    have t1 : wc.cell? ⟨w.heap.size + 1, 1, none⟩ = some (.int .i64 0) := fB.keep (by simp) (by simp)
    have tf : ∀ o, wc.frozen? ⟨w.heap.size + 1, o, none⟩ = false := fun o => by rw [fB.frozen (by simp) (by simp)]; simp
    clear k0 k1
    go_wp2
    refine bodyPost_ret (v := .tuple #[.int .i64 0, .agg #[.string ⟨#[]⟩, .int .i64 0], .int .i64 ce]) (by simp [results, Tryz.results30, go_sem, t0, t1]) rfl ⟨rfl, ?_⟩
    exact (fA.setCell (p := ⟨w.heap.size + 1, 0, none⟩) (fun h => by simp only at h; omega) _).setCell (p := ⟨w.heap.size + 1, 1, none⟩) (fun h => by simp only at h; omega) _

end Go.Proofs.YtmdhlodafjpnmaaGreat
