/- The walks of the laws TimeNil and TimeSums: each returns true. -/
import Derived.Test.YtgkmmkaaokbmiaaDoorK
namespace Go.Proofs.YtgkmmkaaokbmiaaDoor
open Go.RowKit Go.Sort Go.Lib
set_option linter.unusedVariables false

set_option maxRecDepth 100000 in
set_option maxHeartbeats 1000000 in
theorem nil_walk (at_ ticks : Int) (w : World) (he : Env w) :
    Calls Tryd.prog 7 #[.int .u64 at_, .int .u64 ticks] w fun e w' => e = .returned (.bool true) ∧ Below w.heap.size w w' := by
  go_enter Tryd.func7, Tryd.ntmps7
  go_wp2
  refine wp_loop_rounds 3 ?_
  rw [rounds_succ]
  go_wp2_with (first | (go_at_call 23; go_in) | (go_at_call 22; go_in) | (go_at_call 24; go_in) | (go_at_call 28; go_in))
  rw [rounds_succ]
  go_wp2_with (first | (go_at_call 23; go_in) | (go_at_call 22; go_in) | (go_at_call 24; go_in) | (go_at_call 28; go_in))
  rw [rounds_succ]
  go_wp2_with fail
  have q : Below w.heap.size w ((w.alloc (.cells #[.bool false, .int .u64 0] 57)).alloc (.cells #[.pointer none, .pointer (some ⟨w.heap.size, 0, none⟩)] 39)) := ((Below.refl _ _).alloc (Nat.le_refl _) _).alloc (by simp) _
  refine (known_any _ (he.on he.big q)).mono ?_
  rintro e w1 ⟨rfl, hb⟩
  have q1 := q.trans (hb.mono q.size)
  clear hb
  go_wp2
  go_ret
  exact ⟨rfl, q1⟩

set_option maxRecDepth 100000 in
set_option maxHeartbeats 1000000 in
theorem sums_long (a b k : Int) (v : Option Addr) (len c : Nat) (w : World) (he : Env w) (h : 40 < (len : Int)) :
    Calls Tryd.prog 3 #[.int .u64 a, .int .u64 b, .int .u64 k, .slice v len c] w fun e w' => e = .returned (.bool true) ∧ Below w.heap.size w w' := by
  go_enter Tryd.func3, Tryd.ntmps3
  go_wp2_with (go_at_call 8; refine (known_any _ he).mono ?_; rintro e w1 ⟨rfl, hb⟩)
  go_ret
  exact ⟨rfl, hb⟩
theorem passedT_same (a b : Int) : (passedT a b == passedT a b) = true := beq_self_eq_true _

set_option maxRecDepth 100000 in
set_option maxHeartbeats 1000000 in
theorem sums_any (a b k m : Int) (v : Value) (len : Nat) (w : World) (he : Env w) (h : ¬ 40 < (len : Int)) (o : Option Addr) (c : Nat) (hv : v = .slice o len c)
    (ha : 0 ≤ a) (ha' : a ≤ 18446744073709551615) (hb : 0 ≤ b) (hb' : b ≤ 18446744073709551615) (hk : 0 ≤ k) (hk' : k ≤ 18446744073709551615)
    (h1 : Calls Tryd.prog 13 #[v] w fun e w' => e = .returned (.int .u64 m) ∧ w = w') (h2 : Calls Tryd.prog 14 #[v] w fun e w' => e = .returned (.int .u64 m) ∧ w = w') :
    Calls Tryd.prog 3 #[.int .u64 a, .int .u64 b, .int .u64 k, v] w fun e w' => e = .returned (.bool true) ∧ Below w.heap.size w w' := by
  subst hv
  have H1 := Lib.hid h1
  have H2 := Lib.hid h2
  clear h1 h2
  have hp := passedT_same a b
  go_enter Tryd.func3, Tryd.ntmps3
  go_wp2_with (first
    | (go_at_call 9; refine (add_any _ _ _ ha ha' hk hk').mono ?_; rintro e w' ⟨rfl, rfl⟩)
    | (go_at_call 10; refine (refadd_any _ _ _ ha ha' hk hk').mono ?_; rintro e w' ⟨rfl, rfl⟩)
    | (go_at_call 11; refine (sub_any _ _ _ ha ha' hb hb').mono ?_; rintro e w' ⟨rfl, rfl⟩)
    | (go_at_call 12; refine (refsub_any _ _ _ ha ha' hb hb').mono ?_; rintro e w' ⟨rfl, rfl⟩)
    | (go_at_call 13; refine H1.out.mono ?_; rintro e w' ⟨rfl, rfl⟩)
    | (go_at_call 14; refine H2.out.mono ?_; rintro e w' ⟨rfl, rfl⟩)
    | (go_at_call 15; refine (passed_any _ _ _ ha ha' hb hb').mono ?_; rintro e w' ⟨rfl, rfl⟩)
    | (go_at_call 16; refine (refpassed_any _ _ _ ha ha' hb hb').mono ?_; rintro e w' ⟨rfl, rfl⟩)
    | (go_at_call 8; refine (known_any _ he).mono ?_; rintro e w1 ⟨rfl, hq⟩))
  go_ret
  exact ⟨rfl, hq⟩
end Go.Proofs.YtgkmmkaaokbmiaaDoor
