/- Contracts of slices.Index and slices.Contains over a row of integers. -/
import Derived.Test.YtmdhlodafjpnmaaGreatFifo
namespace Go.Proofs.YtmdhlodafjpnmaaGreat
open Go.RowKit
set_option linter.unusedVariables false
set_option maxRecDepth 100000
set_option maxHeartbeats 4000000

/-- Where a number is first in a list, or -1. -/
def idxOf (k : Int) : List Int → Int
  | [] => -1
  | x :: r => if x = k then 0 else (let i := idxOf k r; if i < 0 then -1 else i + 1)
/-- A slice of integers that can be read. -/
def IntRow (w : World) (v : Value) (xs : List Int) : Prop :=
  (xs = [] ∧ ∃ a c, v = .slice a 0 c) ∨ ∃ g off cap, v = .slice (some ⟨g, off, none⟩) xs.length cap ∧ xs.length ≤ maxLen ∧ ∀ i x, xs[i]? = some x → w.cell? ⟨g, off + i, none⟩ = some (.int .i64 x)

theorem sliceIndex_any (k : Int) (v : Value) (xs : List Int) (w : World) (h : IntRow w v xs) :
    Calls Tryz.prog 140 #[v, .int .i64 k] w fun e w' => (∃ i : Int, e = .returned (.int .i64 i) ∧ (0 ≤ i ↔ k ∈ xs)) ∧ w = w' := by
  rcases h with ⟨rfl, a, c, rfl⟩ | ⟨g, off, cap, rfl, hm, hc⟩
  · go_enter Tryz.func140, Tryz.ntmps140
    go_wp2
    refine wp_loop_rounds 1 ?_
    rw [rounds_succ]
    go_wp2
    go_ret
    exact ⟨⟨-1, rfl, by simp⟩, rfl⟩
  · obtain ⟨n, hn⟩ : ∃ n, xs.length = n := ⟨_, rfl⟩
    rw [hn] at hm ⊢
    have HC := Lib.hid hc
    have hm2 : n ≤ 9223372036854775807 := by simp only [maxLen] at hm; omega
    clear hc
    go_enter Tryz.func140, Tryz.ntmps140
    go_wp2
    go_loop [8] (fun j => ∃ q : Nat, j = .int .i64 q ∧ q ≤ n ∧ ∀ i x, i < q → xs[i]? = some x → x ≠ k) (fun j => n - (intOf j).toNat)
    case atStart => exact ⟨0, rfl, by omega, fun i x hi => by omega⟩
    case round =>
      obtain ⟨q, rfl, hq, hno⟩ := hrel
      have HNO := Lib.hid hno
      clear hno
      by_cases hlt : q < n
      · have hx := List.getElem?_eq_getElem (l := xs) (i := q) (by omega)
        have hcq := HC.out q _ hx
        generalize xs[q] = y at hx hcq
        have HX := Lib.hid hx
        clear hx
        by_cases hy : k = y
        · subst hy
          have hkk : (k == k) = true := by simp
          go_wp2
          go_ret
          exact ⟨⟨q, rfl, by
            constructor
            · intro _
              exact List.mem_of_getElem? HX.out
            · intro _
              omega⟩, rfl⟩
        · have hkk : (k == y) = false := by rw [beq_eq_false_iff_ne]; exact hy
          go_wp2
          go_round
          case rel => exact ⟨q + 1, by go_num, by omega, fun i x hi hx => by
            rcases Nat.lt_or_ge i q with h | h
            · exact HNO.out i x h hx
            · obtain rfl : i = q := by omega
              rw [HX.out] at hx
              cases hx
              exact Ne.symm hy⟩
          case measure => simp [intOf]; omega
      · go_wp2
        go_ret
        exact ⟨⟨-1, rfl, by
          constructor
          · intro h
            omega
          · intro h
            obtain ⟨i, hi⟩ := List.getElem?_of_mem h
            have := (List.getElem?_eq_some_iff.1 hi).1
            exact absurd rfl (HNO.out i k (by omega) hi)⟩, rfl⟩
theorem sliceContains_any (k : Int) (v : Value) (xs : List Int) (w : World) (h : IntRow w v xs) :
    Calls Tryz.prog 101 #[v, .int .i64 k] w fun e w' => e = .returned (.bool (decide (k ∈ xs))) ∧ w = w' := by
  go_enter Tryz.func101, Tryz.ntmps101
  go_wp2_with (go_at_call 140; refine (sliceIndex_any k v xs w h).mono ?_; rintro e w' ⟨⟨i, rfl, hi⟩, rfl⟩)
  by_cases hm : k ∈ xs
  · have h0 := hi.2 hm
    rw [decide_eq_true hm]
    go_wp2
    go_ret
    exact ⟨by simp, rfl⟩
  · have h0 : ¬ 0 ≤ i := fun h => hm (hi.1 h)
    rw [decide_eq_false hm]
    go_wp2
    go_ret
    exact ⟨by simp, rfl⟩
end Go.Proofs.YtmdhlodafjpnmaaGreat
