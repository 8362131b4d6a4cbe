/- Contracts of chaos's within, right and valid, and of the law's own lane and valid. -/
import Derived.Test.YtededfkenlhokaaDoorCPlain
import Derived.Test.YtededfkenlhokaaDoorFr
import Derived.Test.YtededfkenlhokaaDoorProg
import Derived.BigQuiet
namespace Go.Proofs.YtededfkenlhokaaDoor
open Go.RowKit
set_option linter.unusedVariables false
set_option maxRecDepth 100000
set_option maxHeartbeats 4000000

def ftV (f : Ft) : Value := .agg #[.int .i64 f.k, .int .i64 f.c, .int .i64 f.d, .int .i64 f.a, .int .i64 f.g]
theorem within_any (n lo hi : Int) (w : World) :
    Calls Tryd.prog 37 #[.int .i64 n, .int .i64 lo, .int .i64 hi] w fun e w' => e = .returned (.bool (decide (lo ≤ n ∧ n ≤ hi))) ∧ w = w' := by
  by_cases h1 : lo ≤ n <;> by_cases h2 : n ≤ hi
  all_goals
    go_enter Tryd.func37, Tryd.ntmps37
    go_wp2
    go_ret
    first | exact ⟨by simp [h1, h2], rfl⟩ | exact ⟨by simp; omega, rfl⟩
theorem right_any (c d : Int) (w : World) :
    Calls Tryd.prog 58 #[.int .i64 c, .int .i64 d] w fun e w' => e = .returned (.bool (laneB c d)) ∧ w = w' := by
  have e : laneB c d = (decide (0 ≤ c ∧ c ≤ 1000) && (d == 0 || d == 1)) := by
    unfold laneB
    rw [Bool.eq_iff_iff]
    simp
    omega
  rw [e]
  cases h1 : decide (0 ≤ c ∧ c ≤ 1000) <;> cases h2 : d == 0 <;> cases h3 : d == 1
  all_goals
    go_enter Tryd.func58, Tryd.ntmps58
    go_wp2_with (go_at_call 37; refine (within_any _ _ _ _).mono ?_; rintro e w' ⟨rfl, rfl⟩; rw [h1])
    go_ret
    exact ⟨rfl, rfl⟩

theorem ok_no {f : Ft} (h : f.k ≠ 1) (h2 : f.k ≠ 2) (h3 : f.k ≠ 3) (h4 : f.k ≠ 4) : f.ok = false := by
  rw [Bool.eq_false_iff]
  intro h0
  have := (Ft.ok_iff.1 h0).2.2.2
  omega
theorem ok_lane {f : Ft} (h : laneB f.c f.d = false) : f.ok = false := by unfold Ft.ok; simp [h]
theorem ok_at {f : Ft} (h : ¬ (0 ≤ f.a ∧ f.a ≤ 1000000)) : f.ok = false := by unfold Ft.ok; simp; omega
/-- What a kind asks of an argument. -/
def argB (k g : Int) : Bool := decide (k = 1 ∧ 0 ≤ g ∧ g ≤ 65536 ∨ k = 2 ∧ 0 ≤ g ∧ g ≤ 1000000 ∨ k = 3 ∧ 1 ≤ g ∧ g ≤ 999 ∨ k = 4 ∧ g = 0)
theorem ok_arg {f : Ft} (h : laneB f.c f.d = true) (h2 : 0 ≤ f.a ∧ f.a ≤ 1000000) : f.ok = argB f.k f.g := by
  unfold Ft.ok argB
  simp [h, h2.1, h2.2]
theorem valid_any (f : Ft) (w : World) :
    Calls Tryd.prog 46 #[ftV f] w fun e w' => e = .returned (.bool f.ok) ∧ Fr [] w w' := by
  have f0 : Fr [] w (w.alloc (.cells #[.int .i64 f.k, .int .i64 f.c, .int .i64 f.d, .int .i64 f.a, .int .i64 f.g] 32)) := (Fr.refl [] w).alloc _
  unfold ftV
  have ok1 := @ok_lane f
  have ok2 := @ok_at f
  have ok3 := @ok_arg f
  obtain ⟨k, c, d, a, g⟩ := f
  simp only at ok1 ok2 ok3 f0 ⊢
  cases hl : laneB c d with
  | false =>
    rw [ok1 hl]
    clear ok1 ok2 ok3
    go_enter Tryd.func46, Tryd.ntmps46
    go_wp2_with (go_at_call 58; refine (right_any _ _ _).mono ?_; rintro e w' ⟨rfl, rfl⟩; rw [hl])
    go_ret
    exact ⟨rfl, f0⟩
  | true =>
    by_cases ha : 0 ≤ a ∧ a ≤ 1000000
    · rw [ok3 hl ha]
      have hd := decide_eq_true ha
      have HD := Lib.hid hd
      clear ok1 ok2 ok3 ha hd
      by_cases h1 : k = 1 ∨ k = 2 ∨ k = 3 ∨ k = 4
      · rcases h1 with rfl | rfl | rfl | rfl
        · have e : argB 1 g = decide (0 ≤ g ∧ g ≤ 65536) := by unfold argB; simp
          rw [e]
          obtain ⟨b, hb⟩ : ∃ b, decide (0 ≤ g ∧ g ≤ 65536) = b := ⟨_, rfl⟩
          rw [hb]
          have HB := Lib.hid hb
          clear hb
          go_enter Tryd.func46, Tryd.ntmps46
          go_wp2_with (first
            | (go_at_call 58; refine (right_any _ _ _).mono ?_; rintro e w' ⟨rfl, rfl⟩; rw [hl])
            | (go_at_call 37; refine (within_any _ _ _ _).mono ?_; rintro e w' ⟨rfl, rfl⟩; first | rw [HD.out] | rw [HB.out]))
          go_ret
          exact ⟨rfl, f0⟩
        · have e : argB 2 g = decide (0 ≤ g ∧ g ≤ 1000000) := by unfold argB; simp
          rw [e]
          obtain ⟨b, hb⟩ : ∃ b, decide (0 ≤ g ∧ g ≤ 1000000) = b := ⟨_, rfl⟩
          rw [hb]
          have HB := Lib.hid hb
          clear hb
          go_enter Tryd.func46, Tryd.ntmps46
          go_wp2_with (first
            | (go_at_call 58; refine (right_any _ _ _).mono ?_; rintro e w' ⟨rfl, rfl⟩; rw [hl])
            | (go_at_call 37; refine (within_any _ _ _ _).mono ?_; rintro e w' ⟨rfl, rfl⟩; first | rw [HD.out] | rw [HB.out]))
          go_ret
          exact ⟨rfl, f0⟩
        · have e : argB 3 g = decide (1 ≤ g ∧ g ≤ 999) := by unfold argB; simp
          rw [e]
          obtain ⟨b, hb⟩ : ∃ b, decide (1 ≤ g ∧ g ≤ 999) = b := ⟨_, rfl⟩
          rw [hb]
          have HB := Lib.hid hb
          clear hb
          go_enter Tryd.func46, Tryd.ntmps46
          go_wp2_with (first
            | (go_at_call 58; refine (right_any _ _ _).mono ?_; rintro e w' ⟨rfl, rfl⟩; rw [hl])
            | (go_at_call 37; refine (within_any _ _ _ _).mono ?_; rintro e w' ⟨rfl, rfl⟩; first | rw [HD.out] | rw [HB.out]))
          go_ret
          exact ⟨rfl, f0⟩
        · have e : argB 4 g = (g == 0) := by unfold argB; rw [Bool.eq_iff_iff]; simp
          rw [e]
          go_enter Tryd.func46, Tryd.ntmps46
          go_wp2_with (first
            | (go_at_call 58; refine (right_any _ _ _).mono ?_; rintro e w' ⟨rfl, rfl⟩; rw [hl])
            | (go_at_call 37; refine (within_any _ _ _ _).mono ?_; rintro e w' ⟨rfl, rfl⟩; try rw [HD.out]))
          go_ret
          exact ⟨rfl, f0⟩
      · have e : argB k g = false := by unfold argB; simp; omega
        rw [e]
        have k1 : (k == 1) = false := by rw [beq_eq_false_iff_ne]; omega
        have k2 : (k == 2) = false := by rw [beq_eq_false_iff_ne]; omega
        have k3 : (k == 3) = false := by rw [beq_eq_false_iff_ne]; omega
        have k4 : (k == 4) = false := by rw [beq_eq_false_iff_ne]; omega
        clear h1 e
        go_enter Tryd.func46, Tryd.ntmps46
        go_wp2_with (first
          | (go_at_call 58; refine (right_any _ _ _).mono ?_; rintro e w' ⟨rfl, rfl⟩; rw [hl])
          | (go_at_call 37; refine (within_any _ _ _ _).mono ?_; rintro e w' ⟨rfl, rfl⟩; try rw [HD.out]))
        go_ret
        exact ⟨rfl, f0⟩
    · rw [ok2 ha]
      have hd := decide_eq_false ha
      clear ok1 ok2 ok3 ha
      go_enter Tryd.func46, Tryd.ntmps46
      go_wp2_with (first
        | (go_at_call 58; refine (right_any _ _ _).mono ?_; rintro e w' ⟨rfl, rfl⟩; rw [hl])
        | (go_at_call 37; refine (within_any _ _ _ _).mono ?_; rintro e w' ⟨rfl, rfl⟩; rw [hd]))
      go_ret
      exact ⟨rfl, f0⟩
/-- The closure of 'plan'. -/
theorem planBad_any (f : Ft) (w : World) :
    Calls Tryd.prog 45 #[ftV f] w fun e w' => e = .returned (.bool (!f.ok)) ∧ Fr [] w w' := by
  have f0 : Fr [] w (w.alloc (.cells #[.int .i64 f.k, .int .i64 f.c, .int .i64 f.d, .int .i64 f.a, .int .i64 f.g] 32)) := (Fr.refl [] w).alloc _
  have HV := Lib.hid (valid_any f (w.alloc (.cells #[.int .i64 f.k, .int .i64 f.c, .int .i64 f.d, .int .i64 f.a, .int .i64 f.g] 32)))
  unfold ftV at HV ⊢
  cases h : f.ok
  all_goals
    rw [h] at HV
    go_enter Tryd.func45, Tryd.ntmps45
    go_wp2_with (go_at_call 46; refine HV.out.mono ?_; rintro e w1 ⟨rfl, f1⟩)
    go_ret
    exact ⟨rfl, f0.step f1⟩
end Go.Proofs.YtededfkenlhokaaDoor
