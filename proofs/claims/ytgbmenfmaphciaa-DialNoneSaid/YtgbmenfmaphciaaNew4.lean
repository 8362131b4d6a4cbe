/- The law DialNew's walk: it returns true at every start. -/
import Derived.Test.YtgbmenfmaphciaaNew3
namespace Go.Proofs.Ytgbmenfmaphciaa
open Go.RowKit
open Go.Maps (Keyed)
set_option linter.unusedVariables false
set_option maxRecDepth 100000
set_option maxHeartbeats 4000000

theorem few_one (b : Nat) (s : ByteArray) (w : World) (h0 : w.cell? ⟨b, 0, none⟩ = some (.string s)) :
    Calls Try.prog 7 #[.slice (some ⟨b, 0, none⟩) 1 1, .slice none 0 0] w fun e w' => e = .returned (.bool (decide (s.size ≤ 100))) ∧ w = w' := by
  by_cases h : 100 < (s.size : Int)
  · go_enter Try.func7, Try.ntmps7
    go_wp2
    refine wp_loop_rounds 2 ?_
    rw [rounds_succ]
    go_wp2
    go_ret
    exact ⟨by simp; omega, rfl⟩
  · go_enter Try.func7, Try.ntmps7
    go_wp2
    refine wp_loop_rounds 2 ?_
    rw [rounds_succ]
    go_wp2
    rw [rounds_succ]
    go_wp2
    refine wp_loop_rounds 1 ?_
    rw [rounds_succ]
    go_wp2
    go_ret
    exact ⟨by simp; omega, rfl⟩

theorem dialNew_walk (s : ByteArray) (p c un : Int) (w : World) :
    Calls Try.prog 3 #[.agg #[.string s, .int .i64 p, .int .i64 c, .int .u64 un]] w fun e w' => e = .returned (.bool true) ∧ Fr [] w w' := by
  have f0 : Fr [] w ((w.alloc (.cells #[.string s, .int .i64 p, .int .i64 c, .int .u64 un] 27)).alloc (.cells #[.string s, .int .i64 p, .int .i64 c, .int .u64 un] 27)) := ((Fr.refl [] w).alloc _).alloc _
  by_cases hs : s.size ≤ 100
  · have hf : decide (s.size ≤ 100) = true := by simp [hs]
    go_enter Try.func3, Try.ntmps3
    go_wp2_with fail
    refine (few_one _ s _ (by simp)).mono ?_
    rintro e w' ⟨rfl, rfl⟩
    rw [hf]
    go_wp2_with fail
    by_cases hv : addrB s.data.toList p = true ∧ 0 < p ∧ 0 ≤ c ∧ c ≤ 4096
    · obtain ⟨hv, hp, hc, hc'⟩ := hv
      obtain ⟨n, rfl⟩ := Int.eq_ofNat_of_zero_le hc
      refine (dialNew_ok s p un n _ (by omega) hv (by simp; omega) (by omega)).mono ?_
      rintro e w1 ⟨d, u, rfl, hd, ld, lu, f1⟩
      have k0 : w1.cell? ⟨w.heap.size, 0, none⟩ = some (.string s) := f1.keep (by simp) (by simp)
      have k1 : w1.cell? ⟨w.heap.size, 1, none⟩ = some (.int .i64 p) := f1.keep (by simp) (by simp)
      have k2 : w1.cell? ⟨w.heap.size, 2, none⟩ = some (.int .i64 n) := f1.keep (by simp) (by simp)
      go_wp2_with fail
      refine (refDialValid_any s p n _ (by omega)).mono ?_
      rintro e w2 ⟨rfl, f2⟩
      have hb : (addrB s.data.toList p && decide (0 < p) && capB n) = true := by
        simp only [hv, capB, Bool.and_eq_true, decide_eq_true_eq, true_and]
        omega
      rw [hb]
      have k3 : w2.cell? ⟨w.heap.size, 3, none⟩ = some (.int .u64 un) := (f1.step f2).keep (by simp) (by simp)
      go_wp2_with fail
      refine (is_any d u s ⟨#[]⟩ p n un 0 0 0 0 0 0 un 0 0 0 0 _ (hd.new f2)).mono ?_
      rintro e w3 ⟨rfl, f3⟩
      have hi : (((0 : Int) == 0) && ((0 : Int) == 0) && ((0 : Int) == 0) && ((0 : Int) == 0) && (un == un)) = true := by simp
      rw [hi]
      go_wp2_with fail
      refine (known_true _).mono ?_
      rintro e w4 ⟨rfl, f4⟩
      go_wp2_with fail
      go_ret
      exact ⟨rfl, (((f0.step f1).step f2).step f3).step f4⟩
    · have hq : addrB s.data.toList p = false ∨ p = 0 ∨ c < 0 ∨ 4096 < c := by
        cases h1 : addrB s.data.toList p
        · exact .inl rfl
        · have h2 : 0 ≤ p := by
            simp only [addrB, Bool.and_eq_true, decide_eq_true_eq] at h1
            omega
          simp only [h1, true_and] at hv
          omega
      refine (dialNew_bad s p c un _ (by omega) hq).mono ?_
      rintro e w1 ⟨rfl, f1⟩
      have k0 : w1.cell? ⟨w.heap.size, 0, none⟩ = some (.string s) := f1.keep (by simp) (by simp)
      have k1 : w1.cell? ⟨w.heap.size, 1, none⟩ = some (.int .i64 p) := f1.keep (by simp) (by simp)
      have k2 : w1.cell? ⟨w.heap.size, 2, none⟩ = some (.int .i64 c) := f1.keep (by simp) (by simp)
      go_wp2_with fail
      refine (refDialValid_any s p c _ (by omega)).mono ?_
      rintro e w2 ⟨rfl, f2⟩
      have hb : (addrB s.data.toList p && decide (0 < p) && capB c) = false := by
        cases h1 : addrB s.data.toList p
        · simp
        · simp only [capB, Bool.true_and, ← Bool.decide_and, decide_eq_false_iff_not]
          simp only [h1, true_and] at hv
          omega
      rw [hb]
      go_wp2_with fail
      refine (known_true _).mono ?_
      rintro e w4 ⟨rfl, f4⟩
      go_wp2_with fail
      go_ret
      exact ⟨rfl, ((f0.step f1).step f2).step f4⟩
  · have hf : decide (s.size ≤ 100) = false := by simp; omega
    go_enter Try.func3, Try.ntmps3
    go_wp2_with fail
    refine (few_one _ s _ (by simp)).mono ?_
    rintro e w' ⟨rfl, rfl⟩
    rw [hf]
    go_wp2_with fail
    refine (known_true _).mono ?_
    rintro e w4 ⟨rfl, f4⟩
    go_wp2_with fail
    go_ret
    exact ⟨rfl, f0.step f4⟩
end Go.Proofs.Ytgbmenfmaphciaa
