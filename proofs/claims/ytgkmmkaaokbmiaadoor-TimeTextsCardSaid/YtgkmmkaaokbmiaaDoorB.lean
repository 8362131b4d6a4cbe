/- Contracts of clocks (New, Now, Advance, Pass, Copy) and of the reference's clocks, for every time and number of ticks. -/
import Derived.Test.YtgkmmkaaokbmiaaDoorA
namespace Go.Proofs.YtgkmmkaaokbmiaaDoor
open Go.RowKit
set_option linter.unusedVariables false

def advE (a x : Int) : Int := if x = 18446744073709551615 then 2 else if x < a then 3 else 0
def advN (a x : Int) : Int := if x = 18446744073709551615 then a else if x < a then a else x
def passE (a k : Int) : Int := if addT a k = 18446744073709551615 then 7 else 0
def passN (a k : Int) : Int := if addT a k = 18446744073709551615 then a else addT a k
def newE (a : Int) : Int := if a = 18446744073709551615 then 2 else 0
def newN (a : Int) : Int := if a = 18446744073709551615 then 0 else a
theorem ret_si {a a' b b' : Int} (h : a = a') (h' : b = b') : Ending.returned (.tuple #[.agg #[.int .u64 a], .int .i64 b]) = .returned (.tuple #[.agg #[.int .u64 a'], .int .i64 b']) := by rw [h, h']

set_option maxHeartbeats 400000 in
theorem new_never (w : World) :
    Calls Tryd.prog 21 #[.int .u64 18446744073709551615] w fun e w' => e = .returned (.tuple #[.pointer none, .int .i64 2]) ∧ w = w' := by
  go_enter Tryd.func21, Tryd.ntmps21
  go_wp2
  go_ret2
  exact ⟨rfl, rfl⟩

set_option maxHeartbeats 400000 in
theorem new_ok (a : Int) (w : World) (h : (a == 18446744073709551615) = false) :
    Calls Tryd.prog 21 #[.int .u64 a] w fun e w' => e = .returned (.tuple #[.pointer (some ⟨w.heap.size, 0, none⟩), .int .i64 0]) ∧ w.alloc (.cells #[.bool true, .int .u64 a] 57) = w' := by
  go_enter Tryd.func21, Tryd.ntmps21
  go_wp2
  go_ret2
  exact ⟨rfl, rfl⟩

set_option maxHeartbeats 400000 in
theorem now_any (b : Nat) (a : Int) (w : World) (h : w.cell? ⟨b, 1, none⟩ = some (.int .u64 a)) :
    Calls Tryd.prog 23 #[.pointer (some ⟨b, 0, none⟩)] w fun e w' => e = .returned (.int .u64 a) ∧ w = w' := by
  go_enter Tryd.func23, Tryd.ntmps23
  go_wp2
  go_ret
  exact ⟨rfl, rfl⟩
set_option maxHeartbeats 400000 in
theorem now_nil (w : World) :
    Calls Tryd.prog 23 #[.pointer none] w fun e w' => e = .returned (.int .u64 0) ∧ w = w' := by
  go_enter Tryd.func23, Tryd.ntmps23
  go_wp2
  go_ret
  exact ⟨rfl, rfl⟩

set_option maxHeartbeats 400000 in
theorem advance_nil (x : Int) (w : World) :
    Calls Tryd.prog 22 #[.pointer none, .int .u64 x] w fun e w' => e = .returned (.int .i64 1) ∧ w = w' := by
  go_enter Tryd.func22, Tryd.ntmps22
  go_wp2
  go_ret
  exact ⟨rfl, rfl⟩
set_option maxHeartbeats 400000 in
theorem advance_zero (b : Nat) (x : Int) (w : World) (h0 : w.cell? ⟨b, 0, none⟩ = some (.bool false)) :
    Calls Tryd.prog 22 #[.pointer (some ⟨b, 0, none⟩), .int .u64 x] w fun e w' => e = .returned (.int .i64 1) ∧ w = w' := by
  go_enter Tryd.func22, Tryd.ntmps22
  go_wp2
  go_ret
  exact ⟨rfl, rfl⟩
set_option maxHeartbeats 400000 in
theorem advance_ok (b : Nat) (a x : Int) (w : World) (h0 : w.cell? ⟨b, 0, none⟩ = some (.bool true)) (h1 : w.cell? ⟨b, 1, none⟩ = some (.int .u64 a)) (hf : w.frozen? ⟨b, 1, none⟩ = false) (hx : (x == 18446744073709551615) = false) (hax : a ≤ x) :
    Calls Tryd.prog 22 #[.pointer (some ⟨b, 0, none⟩), .int .u64 x] w fun e w' => e = .returned (.int .i64 0) ∧ w.setCell ⟨b, 1, none⟩ (.int .u64 x) = w' := by
  go_enter Tryd.func22, Tryd.ntmps22
  go_wp2
  go_ret
  exact ⟨rfl, rfl⟩
set_option maxHeartbeats 400000 in
theorem advance_never (b : Nat) (w : World) (h0 : w.cell? ⟨b, 0, none⟩ = some (.bool true)) :
    Calls Tryd.prog 22 #[.pointer (some ⟨b, 0, none⟩), .int .u64 18446744073709551615] w fun e w' => e = .returned (.int .i64 2) ∧ w = w' := by
  go_enter Tryd.func22, Tryd.ntmps22
  go_wp2
  go_ret
  exact ⟨rfl, rfl⟩
set_option maxHeartbeats 400000 in
theorem advance_range (b : Nat) (a x : Int) (w : World) (h0 : w.cell? ⟨b, 0, none⟩ = some (.bool true)) (h1 : w.cell? ⟨b, 1, none⟩ = some (.int .u64 a)) (hx : (x == 18446744073709551615) = false) (hax : x < a) :
    Calls Tryd.prog 22 #[.pointer (some ⟨b, 0, none⟩), .int .u64 x] w fun e w' => e = .returned (.int .i64 3) ∧ w = w' := by
  go_enter Tryd.func22, Tryd.ntmps22
  go_wp2
  go_ret
  exact ⟨rfl, rfl⟩

set_option maxHeartbeats 400000 in
theorem pass_nil (x : Int) (w : World) :
    Calls Tryd.prog 24 #[.pointer none, .int .u64 x] w fun e w' => e = .returned (.int .i64 1) ∧ w = w' := by
  go_enter Tryd.func24, Tryd.ntmps24
  go_wp2
  go_ret
  exact ⟨rfl, rfl⟩
set_option maxHeartbeats 400000 in
theorem pass_zero (b : Nat) (x : Int) (w : World) (h0 : w.cell? ⟨b, 0, none⟩ = some (.bool false)) :
    Calls Tryd.prog 24 #[.pointer (some ⟨b, 0, none⟩), .int .u64 x] w fun e w' => e = .returned (.int .i64 1) ∧ w = w' := by
  go_enter Tryd.func24, Tryd.ntmps24
  go_wp2
  go_ret
  exact ⟨rfl, rfl⟩
set_option maxHeartbeats 400000 in
theorem pass_full (b : Nat) (a x : Int) (w : World) (h0 : w.cell? ⟨b, 0, none⟩ = some (.bool true)) (h1 : w.cell? ⟨b, 1, none⟩ = some (.int .u64 a))
    (ha : 0 ≤ a) (ha' : a ≤ 18446744073709551615) (hb : 0 ≤ x) (hb' : x ≤ 18446744073709551615) (hc : (addT a x == 18446744073709551615) = true) :
    Calls Tryd.prog 24 #[.pointer (some ⟨b, 0, none⟩), .int .u64 x] w fun e w' => e = .returned (.int .i64 7) ∧ w = w' := by
  go_enter Tryd.func24, Tryd.ntmps24
  go_wp2_with (go_at_call 9; refine (add_any _ _ _ ha ha' hb hb').mono ?_; rintro e w' ⟨rfl, rfl⟩)
  go_ret
  exact ⟨rfl, rfl⟩
set_option maxHeartbeats 400000 in
theorem pass_ok (b : Nat) (a x : Int) (w : World) (h0 : w.cell? ⟨b, 0, none⟩ = some (.bool true)) (h1 : w.cell? ⟨b, 1, none⟩ = some (.int .u64 a)) (hf : w.frozen? ⟨b, 1, none⟩ = false)
    (ha : 0 ≤ a) (ha' : a ≤ 18446744073709551615) (hb : 0 ≤ x) (hb' : x ≤ 18446744073709551615) (hc : (addT a x == 18446744073709551615) = false) :
    Calls Tryd.prog 24 #[.pointer (some ⟨b, 0, none⟩), .int .u64 x] w fun e w' => e = .returned (.int .i64 0) ∧ w.setCell ⟨b, 1, none⟩ (.int .u64 (addT a x)) = w' := by
  go_enter Tryd.func24, Tryd.ntmps24
  go_wp2_with (go_at_call 9; refine (add_any _ _ _ ha ha' hb hb').mono ?_; rintro e w' ⟨rfl, rfl⟩)
  go_ret
  exact ⟨rfl, rfl⟩

set_option maxHeartbeats 400000 in
theorem copy_nil (w : World) :
    Calls Tryd.prog 28 #[.pointer none] w fun e w' => e = .returned (.pointer none) ∧ w = w' := by
  go_enter Tryd.func28, Tryd.ntmps28
  go_wp2
  go_ret
  exact ⟨rfl, rfl⟩
set_option maxHeartbeats 400000 in
theorem copy_zero (b : Nat) (w : World) (h0 : w.cell? ⟨b, 0, none⟩ = some (.bool false)) :
    Calls Tryd.prog 28 #[.pointer (some ⟨b, 0, none⟩)] w fun e w' => e = .returned (.pointer none) ∧ w = w' := by
  go_enter Tryd.func28, Tryd.ntmps28
  go_wp2
  go_ret
  exact ⟨rfl, rfl⟩
set_option maxHeartbeats 400000 in
theorem copy_ok (b : Nat) (a : Int) (w : World) (h0 : w.cell? ⟨b, 0, none⟩ = some (.bool true)) (h1 : w.cell? ⟨b, 1, none⟩ = some (.int .u64 a)) :
    Calls Tryd.prog 28 #[.pointer (some ⟨b, 0, none⟩)] w fun e w' => e = .returned (.pointer (some ⟨w.heap.size, 0, none⟩)) ∧ w.alloc (.cells #[.bool true, .int .u64 a] 57) = w' := by
  go_enter Tryd.func28, Tryd.ntmps28
  go_wp2
  go_ret
  exact ⟨rfl, rfl⟩


set_option maxHeartbeats 400000 in
theorem refnew_any (a : Int) (w : World) :
    Calls Tryd.prog 25 #[.int .u64 a] w fun e w' => e = .returned (.tuple #[.agg #[.int .u64 (newN a)], .int .i64 (newE a)]) ∧ Below w.heap.size w w' := by
  go_enter Tryd.func25, Tryd.ntmps25
  go_wp2
  · refine bodyPost_ret (v := .tuple #[.agg #[.int .u64 0], .int .i64 2]) (by simp [results, Tryd.results25, go_sem]) rfl ⟨?_, (Below.refl _ _).alloc (Nat.le_refl _) _⟩
    have h : a = 18446744073709551615 := by simpa using ‹(a == 18446744073709551615) = true›
    exact ret_si (by unfold newN; rw [if_pos h]) (by unfold newE; rw [if_pos h])
  · refine bodyPost_ret (v := .tuple #[.agg #[.int .u64 a], .int .i64 0]) (by simp [results, Tryd.results25, go_sem]) rfl ⟨?_, (Below.refl _ _).alloc (Nat.le_refl _) _⟩
    have h : ¬ a = 18446744073709551615 := by simpa using ‹(a == 18446744073709551615) = false›
    exact ret_si (by unfold newN; rw [if_neg h]) (by unfold newE; rw [if_neg h])
set_option maxHeartbeats 400000 in
theorem refadvance_any (a x : Int) (w : World) :
    Calls Tryd.prog 26 #[.agg #[.int .u64 a], .int .u64 x] w fun e w' => e = .returned (.tuple #[.agg #[.int .u64 (advN a x)], .int .i64 (advE a x)]) ∧ Below w.heap.size w w' := by
  go_enter Tryd.func26, Tryd.ntmps26
  go_wp2
  · refine bodyPost_ret (v := .tuple #[.agg #[.int .u64 a], .int .i64 2]) (by simp [results, Tryd.results26, go_sem]) rfl ⟨?_, ((Below.refl _ _).alloc (Nat.le_refl _) _).alloc (by simp) _⟩
    have h : x = 18446744073709551615 := by simpa using ‹(x == 18446744073709551615) = true›
    exact ret_si (by unfold advN; rw [if_pos h]) (by unfold advE; rw [if_pos h])
  · refine bodyPost_ret (v := .tuple #[.agg #[.int .u64 a], .int .i64 3]) (by simp [results, Tryd.results26, go_sem]) rfl ⟨?_, ((Below.refl _ _).alloc (Nat.le_refl _) _).alloc (by simp) _⟩
    have h : ¬ x = 18446744073709551615 := by simpa using ‹(x == 18446744073709551615) = false›
    have h' : x < a := by assumption
    exact ret_si (by unfold advN; rw [if_neg h, if_pos h']) (by unfold advE; rw [if_neg h, if_pos h'])
  · refine bodyPost_ret (v := .tuple #[.agg #[.int .u64 x], .int .i64 0]) (by simp [results, Tryd.results26, go_sem]) rfl ⟨?_, ((Below.refl _ _).alloc (Nat.le_refl _) _).alloc (by simp) _⟩
    have h : ¬ x = 18446744073709551615 := by simpa using ‹(x == 18446744073709551615) = false›
    have h' : ¬ x < a := by have : a ≤ x := by assumption
                            omega
    exact ret_si (by unfold advN; rw [if_neg h, if_neg h']) (by unfold advE; rw [if_neg h, if_neg h'])
set_option maxHeartbeats 400000 in
theorem refpass_any (a x : Int) (w : World)
    (ha : 0 ≤ a) (ha' : a ≤ 18446744073709551615) (hb : 0 ≤ x) (hb' : x ≤ 18446744073709551615) :
    Calls Tryd.prog 27 #[.agg #[.int .u64 a], .int .u64 x] w fun e w' => e = .returned (.tuple #[.agg #[.int .u64 (passN a x)], .int .i64 (passE a x)]) ∧ Below w.heap.size w w' := by
  go_enter Tryd.func27, Tryd.ntmps27
  go_wp2_with (go_at_call 10; refine (refadd_any _ _ _ ha ha' hb hb').mono ?_; rintro e w' ⟨rfl, rfl⟩)
  · refine bodyPost_ret (v := .tuple #[.agg #[.int .u64 a], .int .i64 7]) (by simp [results, Tryd.results27, go_sem]) rfl ⟨?_, ((Below.refl _ _).alloc (Nat.le_refl _) _).alloc (by simp) _⟩
    have h : addT a x = 18446744073709551615 := by simpa using ‹(addT a x == 18446744073709551615) = true›
    exact ret_si (by unfold passN; rw [if_pos h]) (by unfold passE; rw [if_pos h])
  · refine bodyPost_ret (v := .tuple #[.agg #[.int .u64 (addT a x)], .int .i64 0]) (by simp [results, Tryd.results27, go_sem]) rfl ⟨?_, ((Below.refl _ _).alloc (Nat.le_refl _) _).alloc (by simp) _⟩
    have h : ¬ addT a x = 18446744073709551615 := by simpa using ‹(addT a x == 18446744073709551615) = false›
    exact ret_si (by unfold passN; rw [if_neg h]) (by unfold passE; rw [if_neg h])
end Go.Proofs.YtgkmmkaaokbmiaaDoor
