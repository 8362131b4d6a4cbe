/- Contracts of what dial.All calls: slices.IndexFunc and ContainsFunc with none, states, slices.Equal of states. -/
import Derived.Test.YtgbmenfmaphciaaNew4
namespace Go.Proofs.Ytgbmenfmaphciaa
open Go.RowKit
open Go.Maps (Keyed)
set_option linter.unusedVariables false
set_option maxRecDepth 100000
set_option maxHeartbeats 4000000

/-- The function value 'none' of dialings. -/
def noneV : Value := .func (.func 35) #[] #[]

theorem indexNone (b off len cap k : Nat) (dv : Nat → Value) (w : World) (hk : k ≤ len) (hlen : len ≤ 100000)
    (hc : ∀ i, i < len → w.cell? ⟨b, off + i, none⟩ = some (dv i))
    (hlow : ∀ i, i < k → Calls Try.prog 35 #[dv i] w fun e w' => e = .returned (.bool false) ∧ w = w')
    (hat : k < len → Calls Try.prog 35 #[dv k] w fun e w' => e = .returned (.bool true) ∧ w = w') :
    Calls Try.prog 56 #[.slice (some ⟨b, off, none⟩) len cap, .func (.func 35) #[] #[]] w fun e w' => e = .returned (.int .i64 (if k < len then (k : Int) else -1)) ∧ w = w' := by
  have HC := Lib.hid hc
  have HL := Lib.hid hlow
  have HA := Lib.hid hat
  clear hc hlow hat
  go_enter Try.func56, Try.ntmps56
  go_wp2
  go_loop [8] (fun i => ∃ j : Nat, i = .int .i64 j ∧ j ≤ k) (fun i => k - (intOf i).toNat)
  case atStart => exact ⟨0, rfl, by omega⟩
  case round =>
    obtain ⟨j, rfl, hj⟩ := hrel
    by_cases hl : j < len
    · have hcj := HC.out j hl
      have hl' : (j : Int) < (len : Int) := by omega
      by_cases hjk : j < k
      · go_wp2_with (go_at_call 35; refine (HL.out j hjk).mono ?_; rintro e w' ⟨rfl, rfl⟩)
        go_round
        case rel => exact ⟨j + 1, by go_num, by omega⟩
        case measure => simp [intOf]; omega
      · obtain rfl : j = k := by omega
        go_wp2_with (go_at_call 35; refine (HA.out hl).mono ?_; rintro e w' ⟨rfl, rfl⟩)
        go_ret
        exact ⟨by simp, rfl⟩
    · have hl' : ¬ (j : Int) < (len : Int) := by omega
      go_wp2
      go_ret
      exact ⟨rfl, rfl⟩

theorem containsNone (b off len cap k : Nat) (dv : Nat → Value) (w : World) (hk : k ≤ len) (hlen : len ≤ 100000)
    (hc : ∀ i, i < len → w.cell? ⟨b, off + i, none⟩ = some (dv i))
    (hlow : ∀ i, i < k → Calls Try.prog 35 #[dv i] w fun e w' => e = .returned (.bool false) ∧ w = w')
    (hat : k < len → Calls Try.prog 35 #[dv k] w fun e w' => e = .returned (.bool true) ∧ w = w') :
    Calls Try.prog 38 #[.slice (some ⟨b, off, none⟩) len cap, .func (.func 35) #[] #[]] w fun e w' => e = .returned (.bool (decide (k < len))) ∧ w = w' := by
  have HI := Lib.hid (indexNone b off len cap k dv w hk hlen hc hlow hat)
  clear hc hlow hat
  by_cases h : k < len
  · rw [if_pos h] at HI
    have h0 : (0 : Int) ≤ (k : Int) := by omega
    go_enter Try.func38, Try.ntmps38
    go_wp2_with (go_at_call 56; refine HI.out.mono ?_; rintro e w' ⟨rfl, rfl⟩)
    go_ret
    exact ⟨by simp [h], rfl⟩
  · rw [if_neg h] at HI
    go_enter Try.func38, Try.ntmps38
    go_wp2_with (go_at_call 56; refine HI.out.mono ?_; rintro e w' ⟨rfl, rfl⟩)
    go_ret
    exact ⟨by simp [h], rfl⟩

theorem containsNone_nil (w : World) :
    Calls Try.prog 38 #[.slice none 0 0, .func (.func 35) #[] #[]] w fun e w' => e = .returned (.bool false) ∧ w = w' := by
  have HI : Calls Try.prog 56 #[.slice none 0 0, .func (.func 35) #[] #[]] w fun e w' => e = .returned (.int .i64 (-1)) ∧ w = w' := by
    go_enter Try.func56, Try.ntmps56
    go_wp2
    refine wp_loop_rounds 1 ?_
    rw [rounds_succ]
    go_wp2
    go_ret
    exact ⟨rfl, rfl⟩
  go_enter Try.func38, Try.ntmps38
  go_wp2_with (go_at_call 56; refine HI.mono ?_; rintro e w' ⟨rfl, rfl⟩)
  go_ret
  exact ⟨rfl, rfl⟩

/-- Two rows of states compared. -/
theorem equalStates (b1 b2 len c1 c2 : Nat) (f g : Nat → Int) (k : Nat) (w : World) (hk : k ≤ len) (hlen : len ≤ 100000)
    (h1 : ∀ i, i < len → w.cell? ⟨b1, i, none⟩ = some (.int .i64 (f i))) (h2 : ∀ i, i < len → w.cell? ⟨b2, i, none⟩ = some (.int .i64 (g i)))
    (hlow : ∀ i, i < k → f i = g i) (hat : k < len → f k ≠ g k) :
    Calls Try.prog 40 #[.slice (some ⟨b1, 0, none⟩) len c1, .slice (some ⟨b2, 0, none⟩) len c2] w fun e w' => e = .returned (.bool (decide (k = len))) ∧ ∃ n, w' = w.drewN n := by
  have H1 := Lib.hid h1
  have H2 := Lib.hid h2
  have HL := Lib.hid hlow
  have HA := Lib.hid hat
  clear h1 h2 hlow hat
  go_enter Try.func40, Try.ntmps40
  go_wp2
  go_loopw [13] (fun i wr => ∃ j n : Nat, i = .int .i64 j ∧ j ≤ k ∧ wr = w.drewN n) (fun i _ => k - (intOf i).toNat)
  case atStart => exact ⟨0, 0, rfl, by omega, rfl⟩
  case round =>
    obtain ⟨j, n, rfl, hj, rfl⟩ := hrel
    by_cases hl : j < len
    · have q1 : w.cell? ⟨b1, j, none⟩ = some (.int .i64 (f j)) := H1.out j hl
      have q2 : w.cell? ⟨b2, j, none⟩ = some (.int .i64 (g j)) := H2.out j hl
      have hl' : (j : Int) < (len : Int) := by omega
      by_cases hjk : j < k
      · have e1 := HL.out j hjk
        rw [e1] at q1
        go_wp2_with fail
        go_quiet (fail)
        go_wp2
        go_roundw
        case rel => exact ⟨j + 1, _, by go_num, by omega, rfl⟩
        case measure => simp [intOf]; omega
      · obtain rfl : j = k := by omega
        have e1 := HA.out hl
        have e2 : (f j != g j) = true := by simp [e1]
        go_wp2_with fail
        go_quiet (fail)
        go_wp2
        go_ret
        exact ⟨by simp; omega, _, World.drewN_drewN _ _ _⟩
    · have hl' : ¬ (j : Int) < (len : Int) := by omega
      go_wp2
      go_ret
      exact ⟨by simp; omega, n, rfl⟩
end Go.Proofs.Ytgbmenfmaphciaa
