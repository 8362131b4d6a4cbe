/- The walk of the law TimeHolds: it returns true, for all times and ticks. -/
import Derived.Test.YtgkmmkaaokbmiaaDoorE
namespace Go.Proofs.YtgkmmkaaokbmiaaDoor
open Go.RowKit Go.Sort Go.Lib
set_option linter.unusedVariables false

theorem addT_sub (a b : Int) (hb : 0 ≤ b) (ha : a ≤ 18446744073709551615) (h : b ≤ a) : addT b (subT a b) = a := by
  unfold addT subT
  split <;> (repeat' split at *) <;> omega
theorem addT_ge (a k : Int) (ha : a ≤ 18446744073709551615) (hk : 0 ≤ k) : a ≤ addT a k := by
  unfold addT
  split <;> omega
theorem subT_bd (a b : Int) (ha : a ≤ 18446744073709551615) (hb : 0 ≤ b) : 0 ≤ subT a b ∧ subT a b ≤ 18446744073709551615 := by
  unfold subT
  split
  · omega
  · split <;> omega
theorem addT_bd (a k : Int) (ha : 0 ≤ a) (ha' : a ≤ 18446744073709551615) (hk : 0 ≤ k) : 0 ≤ addT a k ∧ addT a k ≤ 18446744073709551615 := by
  unfold addT
  split <;> omega
theorem passed_later (d a l : Int) (h : passedT d a = true) (hl : a ≤ l) (hn : (l != 18446744073709551615) = true) : passedT d l = true := by
  unfold passedT at *
  simp at *
  omega
theorem textB_len (u : Nat) (h : u < 18446744073709551616) : (textB u).length ≤ 20 := by
  unfold textB
  split
  · simp
  · exact decDigits_len u h
theorem parse_text (u : Nat) (h : u < 18446744073709551616) (w : World) (he : Env w) :
    Calls Tryd.prog 19 #[.string ⟨(textB u).toArray⟩] w fun e w' => e = .returned (.tuple #[.int .u64 u, .int .i64 0]) ∧ Below w.heap.size w w' :=
  (parse_any ⟨(textB u).toArray⟩ (by have := textB_len u h; show (textB u).toArray.size ≤ _; simp; omega) w he).mono fun e w' ⟨h1, hb⟩ => by
    have hp := pT_text u h
    have e1 : pV (textB u) = u := by unfold pV; rw [hp]; rfl
    have e2 : pE (textB u) = 0 := by unfold pE; rw [hp]; rfl
    refine ⟨?_, hb⟩
    rw [h1]
    simp only
    rw [e1, e2]

set_option maxRecDepth 100000 in
set_option maxHeartbeats 1000000 in
theorem holds_never (d k b : Int) (w : World) (he : Env w) (hb : 0 ≤ b) (hb' : b ≤ 18446744073709551615) (hd : 0 ≤ d) (hd' : d ≤ 18446744073709551615) (hk : 0 ≤ k) (hk' : k ≤ 18446744073709551615) :
    Calls Tryd.prog 5 #[.int .u64 18446744073709551615, .int .u64 b, .int .u64 d, .int .u64 k] w fun e w' => e = .returned (.bool true) ∧ Below w.heap.size w w' := by
  have h1 : (addT b (subT 18446744073709551615 b) != 18446744073709551615) = false := by rw [addT_sub _ _ hb (by omega) hb']; rfl
  have h2 : (addT 18446744073709551615 k == 18446744073709551615) = true := by rw [beq_iff_eq]; unfold addT; split <;> omega
  have h3 : (addT 18446744073709551615 k != 18446744073709551615) = false := by rw [bne, h2]; rfl
  have h4 : 18446744073709551615 ≤ addT 18446744073709551615 k := addT_ge _ _ (by omega) hk
  have s1 := subT_bd 18446744073709551615 b (by omega) hb
  go_enter Tryd.func5, Tryd.ntmps5
  go_wp2_with (go_at_call 17; refine (text_any 18446744073709551615 (by omega) _ he).mono ?_; rintro e w1 ⟨rfl, hb1⟩; refine Hid.out ?_)
  refine Lib.hid ?_
  have e1 := he.on he.big hb1
  go_wp2_with (go_at_call 19; refine (parse_text 18446744073709551615 (by omega) _ e1).mono ?_; rintro e w2 ⟨rfl, hb2⟩; refine Hid.out ?_)
  refine Lib.hid ?_
  have q2 := hb1.trans (hb2.mono hb1.size)
  have e2 := he.on he.big q2
  clear hb2 hb1 e1
  go_wp2_with (first
    | (go_at_call 11; refine (sub_any _ _ _ (by omega) (by omega) hb hb').mono ?_; rintro e w' ⟨rfl, rfl⟩)
    | (go_at_call 9; refine (add_any _ _ _ (by omega) (by omega) (by omega) (by omega)).mono ?_; rintro e w' ⟨rfl, rfl⟩)
    | (go_at_call 21; refine (new_never _).mono ?_; rintro e w' ⟨rfl, rfl⟩)
    | (go_at_call 8; refine (known_any _ e2).mono ?_; rintro e w3 ⟨rfl, hb3⟩))
  go_ret
  exact ⟨rfl, q2.trans (hb3.mono q2.size)⟩

def HoldsGoal (a b d k : Int) (w : World) : Prop :=
    Calls Tryd.prog 5 #[.int .u64 a, .int .u64 b, .int .u64 d, .int .u64 k] w fun e w' => e = .returned (.bool true) ∧ Below w.heap.size w w'

set_option maxRecDepth 100000 in
set_option maxHeartbeats 1000000 in
theorem holds_L1E1 (u : Nat) (b d k : Int) (w : World) (he : Env w) (ha' : (u : Int) ≤ 18446744073709551614) (hb : 0 ≤ b) (hb' : b ≤ 18446744073709551615) (hd : 0 ≤ d) (hd' : d ≤ 18446744073709551615) (hk : 0 ≤ k) (hk' : k ≤ 18446744073709551615)
    (hD : ((u : Int) == 18446744073709551615) = false) (hD' : ((u : Int) != 18446744073709551615) = true) (g1 : 0 ≤ addT u k) (g2 : addT u k ≤ 18446744073709551615) (g3 : (u : Int) ≤ addT u k)
    (l1 : (addT u k == 18446744073709551615) = true) (l2 : (addT u k != 18446744073709551615) = false) (n1 : u < b) (n2 : (b == 18446744073709551615) = true) (n3 : (b != 18446744073709551615) = false) : HoldsGoal u b d k w := by
  unfold HoldsGoal
  go_enter Tryd.func5, Tryd.ntmps5
  go_wp2_with (go_at_call 17; refine (text_any u (by omega) _ he).mono ?_; rintro e w1 ⟨rfl, hb1⟩; refine Hid.out ?_)
  refine Lib.hid ?_
  have e1 := he.on he.big hb1
  go_wp2_with (go_at_call 19; refine (parse_text u (by omega) _ e1).mono ?_; rintro e w2 ⟨rfl, hb2⟩; refine Hid.out ?_)
  refine Lib.hid ?_
  have q2 := hb1.trans (hb2.mono hb1.size)
  have e2 := he.on he.big q2
  clear hb2 hb1 e1
  go_wp2_with (first
    | (go_at_call 11; refine (sub_any _ _ _ (by omega) (by omega) (by omega) (by omega)).mono ?_; rintro e w' ⟨rfl, rfl⟩)
    | (go_at_call 9; refine (add_any _ _ _ (by omega) (by omega) (by omega) (by omega)).mono ?_; rintro e w' ⟨rfl, rfl⟩)
    | (go_at_call 15; refine (passed_any _ _ _ (by omega) (by omega) (by omega) (by omega)).mono ?_; rintro e w' ⟨rfl, rfl⟩)
    | (go_at_call 21; refine (new_ok _ _ hD).mono ?_; rintro e w' ⟨rfl, rfl⟩)
    | (go_at_call 22; go_in) | (go_at_call 23; go_in) | (go_at_call 24; go_in)
    | (go_at_call 8; refine Hid.out ?_))
  refine Lib.hid ?_
  have q3 := q2.alloc q2.size (.cells #[.bool true, .int .u64 (u)] 57)
  refine (known_any _ (he.on he.big q3)).mono ?_
  rintro e w3 ⟨rfl, hb3⟩
  go_wp2_with fail
  go_ret
  exact ⟨rfl, q3.trans (hb3.mono q3.size)⟩

set_option maxRecDepth 100000 in
set_option maxHeartbeats 1000000 in
theorem holds_L1E2 (u : Nat) (b d k : Int) (w : World) (he : Env w) (ha' : (u : Int) ≤ 18446744073709551614) (hb : 0 ≤ b) (hb' : b ≤ 18446744073709551615) (hd : 0 ≤ d) (hd' : d ≤ 18446744073709551615) (hk : 0 ≤ k) (hk' : k ≤ 18446744073709551615)
    (hD : ((u : Int) == 18446744073709551615) = false) (hD' : ((u : Int) != 18446744073709551615) = true) (g1 : 0 ≤ addT u k) (g2 : addT u k ≤ 18446744073709551615) (g3 : (u : Int) ≤ addT u k)
    (l1 : (addT u k == 18446744073709551615) = true) (l2 : (addT u k != 18446744073709551615) = false) (n1 : b < u) (n2 : (b == 18446744073709551615) = false) (n3 : (b != 18446744073709551615) = true) (n4 : (addT b (subT u b) != u) = false) (n5 : 0 ≤ subT u b) (n6 : subT u b ≤ 18446744073709551615) : HoldsGoal u (b) d k w := by
  unfold HoldsGoal
  go_enter Tryd.func5, Tryd.ntmps5
  go_wp2_with (go_at_call 17; refine (text_any u (by omega) _ he).mono ?_; rintro e w1 ⟨rfl, hb1⟩; refine Hid.out ?_)
  refine Lib.hid ?_
  have e1 := he.on he.big hb1
  go_wp2_with (go_at_call 19; refine (parse_text u (by omega) _ e1).mono ?_; rintro e w2 ⟨rfl, hb2⟩; refine Hid.out ?_)
  refine Lib.hid ?_
  have q2 := hb1.trans (hb2.mono hb1.size)
  have e2 := he.on he.big q2
  clear hb2 hb1 e1
  go_wp2_with (first
    | (go_at_call 11; refine (sub_any _ _ _ (by omega) (by omega) (by omega) (by omega)).mono ?_; rintro e w' ⟨rfl, rfl⟩)
    | (go_at_call 9; refine (add_any _ _ _ (by omega) (by omega) (by omega) (by omega)).mono ?_; rintro e w' ⟨rfl, rfl⟩)
    | (go_at_call 15; refine (passed_any _ _ _ (by omega) (by omega) (by omega) (by omega)).mono ?_; rintro e w' ⟨rfl, rfl⟩)
    | (go_at_call 21; refine (new_ok _ _ hD).mono ?_; rintro e w' ⟨rfl, rfl⟩)
    | (go_at_call 22; go_in) | (go_at_call 23; go_in) | (go_at_call 24; go_in)
    | (go_at_call 8; refine Hid.out ?_))
  refine Lib.hid ?_
  have q3 := q2.alloc q2.size (.cells #[.bool true, .int .u64 (u)] 57)
  refine (known_any _ (he.on he.big q3)).mono ?_
  rintro e w3 ⟨rfl, hb3⟩
  go_wp2_with fail
  go_ret
  exact ⟨rfl, q3.trans (hb3.mono q3.size)⟩

set_option maxRecDepth 100000 in
set_option maxHeartbeats 1000000 in
theorem holds_L1E3 (u : Nat) (d k : Int) (w : World) (he : Env w) (ha' : (u : Int) ≤ 18446744073709551614) (hd : 0 ≤ d) (hd' : d ≤ 18446744073709551615) (hk : 0 ≤ k) (hk' : k ≤ 18446744073709551615)
    (hD : ((u : Int) == 18446744073709551615) = false) (hD' : ((u : Int) != 18446744073709551615) = true) (g1 : 0 ≤ addT u k) (g2 : addT u k ≤ 18446744073709551615) (g3 : (u : Int) ≤ addT u k)
    (l1 : (addT u k == 18446744073709551615) = true) (l2 : (addT u k != 18446744073709551615) = false) (n4 : (addT u (subT u u) != u) = false) (n5 : 0 ≤ subT u u) (n6 : subT u u ≤ 18446744073709551615) : HoldsGoal u (u) d k w := by
  unfold HoldsGoal
  go_enter Tryd.func5, Tryd.ntmps5
  go_wp2_with (go_at_call 17; refine (text_any u (by omega) _ he).mono ?_; rintro e w1 ⟨rfl, hb1⟩; refine Hid.out ?_)
  refine Lib.hid ?_
  have e1 := he.on he.big hb1
  go_wp2_with (go_at_call 19; refine (parse_text u (by omega) _ e1).mono ?_; rintro e w2 ⟨rfl, hb2⟩; refine Hid.out ?_)
  refine Lib.hid ?_
  have q2 := hb1.trans (hb2.mono hb1.size)
  have e2 := he.on he.big q2
  clear hb2 hb1 e1
  go_wp2_with (first
    | (go_at_call 11; refine (sub_any _ _ _ (by omega) (by omega) (by omega) (by omega)).mono ?_; rintro e w' ⟨rfl, rfl⟩)
    | (go_at_call 9; refine (add_any _ _ _ (by omega) (by omega) (by omega) (by omega)).mono ?_; rintro e w' ⟨rfl, rfl⟩)
    | (go_at_call 15; refine (passed_any _ _ _ (by omega) (by omega) (by omega) (by omega)).mono ?_; rintro e w' ⟨rfl, rfl⟩)
    | (go_at_call 21; refine (new_ok _ _ hD).mono ?_; rintro e w' ⟨rfl, rfl⟩)
    | (go_at_call 22; go_in) | (go_at_call 23; go_in) | (go_at_call 24; go_in)
    | (go_at_call 8; refine Hid.out ?_))
  refine Lib.hid ?_
  have q3 := q2.alloc q2.size (.cells #[.bool true, .int .u64 (u)] 57)
  refine (known_any _ (he.on he.big q3)).mono ?_
  rintro e w3 ⟨rfl, hb3⟩
  go_wp2_with fail
  go_ret
  exact ⟨rfl, q3.trans (hb3.mono q3.size)⟩

set_option maxRecDepth 100000 in
set_option maxHeartbeats 1000000 in
theorem holds_L1E4 (u : Nat) (b d k : Int) (w : World) (he : Env w) (ha' : (u : Int) ≤ 18446744073709551614) (hb : 0 ≤ b) (hb' : b ≤ 18446744073709551615) (hd : 0 ≤ d) (hd' : d ≤ 18446744073709551615) (hk : 0 ≤ k) (hk' : k ≤ 18446744073709551615)
    (hD : ((u : Int) == 18446744073709551615) = false) (hD' : ((u : Int) != 18446744073709551615) = true) (g1 : 0 ≤ addT u k) (g2 : addT u k ≤ 18446744073709551615) (g3 : (u : Int) ≤ addT u k)
    (l1 : (addT u k == 18446744073709551615) = true) (l2 : (addT u k != 18446744073709551615) = false) (n1 : u < b) (n2 : (b == 18446744073709551615) = false) (n3 : (b != 18446744073709551615) = true) (m1 : (addT b k == 18446744073709551615) = true) (m2 : (addT b k != 18446744073709551615) = false) : HoldsGoal u (b) d k w := by
  unfold HoldsGoal
  go_enter Tryd.func5, Tryd.ntmps5
  go_wp2_with (go_at_call 17; refine (text_any u (by omega) _ he).mono ?_; rintro e w1 ⟨rfl, hb1⟩; refine Hid.out ?_)
  refine Lib.hid ?_
  have e1 := he.on he.big hb1
  go_wp2_with (go_at_call 19; refine (parse_text u (by omega) _ e1).mono ?_; rintro e w2 ⟨rfl, hb2⟩; refine Hid.out ?_)
  refine Lib.hid ?_
  have q2 := hb1.trans (hb2.mono hb1.size)
  have e2 := he.on he.big q2
  clear hb2 hb1 e1
  go_wp2_with (first
    | (go_at_call 11; refine (sub_any _ _ _ (by omega) (by omega) (by omega) (by omega)).mono ?_; rintro e w' ⟨rfl, rfl⟩)
    | (go_at_call 9; refine (add_any _ _ _ (by omega) (by omega) (by omega) (by omega)).mono ?_; rintro e w' ⟨rfl, rfl⟩)
    | (go_at_call 15; refine (passed_any _ _ _ (by omega) (by omega) (by omega) (by omega)).mono ?_; rintro e w' ⟨rfl, rfl⟩)
    | (go_at_call 21; refine (new_ok _ _ hD).mono ?_; rintro e w' ⟨rfl, rfl⟩)
    | (go_at_call 22; go_in) | (go_at_call 23; go_in) | (go_at_call 24; go_in)
    | (go_at_call 8; refine Hid.out ?_))
  refine Lib.hid ?_
  have q3 := q2.alloc q2.size (.cells #[.bool true, .int .u64 (b)] 57)
  refine (known_any _ (he.on he.big q3)).mono ?_
  rintro e w3 ⟨rfl, hb3⟩
  go_wp2_with fail
  go_ret
  exact ⟨rfl, q3.trans (hb3.mono q3.size)⟩

set_option maxRecDepth 100000 in
set_option maxHeartbeats 1000000 in
theorem holds_L1E5 (u : Nat) (b d k : Int) (w : World) (he : Env w) (ha' : (u : Int) ≤ 18446744073709551614) (hb : 0 ≤ b) (hb' : b ≤ 18446744073709551615) (hd : 0 ≤ d) (hd' : d ≤ 18446744073709551615) (hk : 0 ≤ k) (hk' : k ≤ 18446744073709551615)
    (hD : ((u : Int) == 18446744073709551615) = false) (hD' : ((u : Int) != 18446744073709551615) = true) (g1 : 0 ≤ addT u k) (g2 : addT u k ≤ 18446744073709551615) (g3 : (u : Int) ≤ addT u k)
    (l1 : (addT u k == 18446744073709551615) = true) (l2 : (addT u k != 18446744073709551615) = false) (n1 : u < b) (n2 : (b == 18446744073709551615) = false) (n3 : (b != 18446744073709551615) = true) (m1 : (addT b k == 18446744073709551615) = false) (m2 : (addT b k != 18446744073709551615) = true) (m3 : b ≤ addT b k) : HoldsGoal u (b) d k w := by
  unfold HoldsGoal
  go_enter Tryd.func5, Tryd.ntmps5
  go_wp2_with (go_at_call 17; refine (text_any u (by omega) _ he).mono ?_; rintro e w1 ⟨rfl, hb1⟩; refine Hid.out ?_)
  refine Lib.hid ?_
  have e1 := he.on he.big hb1
  go_wp2_with (go_at_call 19; refine (parse_text u (by omega) _ e1).mono ?_; rintro e w2 ⟨rfl, hb2⟩; refine Hid.out ?_)
  refine Lib.hid ?_
  have q2 := hb1.trans (hb2.mono hb1.size)
  have e2 := he.on he.big q2
  clear hb2 hb1 e1
  go_wp2_with (first
    | (go_at_call 11; refine (sub_any _ _ _ (by omega) (by omega) (by omega) (by omega)).mono ?_; rintro e w' ⟨rfl, rfl⟩)
    | (go_at_call 9; refine (add_any _ _ _ (by omega) (by omega) (by omega) (by omega)).mono ?_; rintro e w' ⟨rfl, rfl⟩)
    | (go_at_call 15; refine (passed_any _ _ _ (by omega) (by omega) (by omega) (by omega)).mono ?_; rintro e w' ⟨rfl, rfl⟩)
    | (go_at_call 21; refine (new_ok _ _ hD).mono ?_; rintro e w' ⟨rfl, rfl⟩)
    | (go_at_call 22; go_in) | (go_at_call 23; go_in) | (go_at_call 24; go_in)
    | (go_at_call 8; refine Hid.out ?_))
  refine Lib.hid ?_
  have q3 := q2.alloc q2.size (.cells #[.bool true, .int .u64 (addT b k)] 57)
  refine (known_any _ (he.on he.big q3)).mono ?_
  rintro e w3 ⟨rfl, hb3⟩
  go_wp2_with fail
  go_ret
  exact ⟨rfl, q3.trans (hb3.mono q3.size)⟩

set_option maxRecDepth 100000 in
set_option maxHeartbeats 1000000 in
theorem holds_L2E1 (u : Nat) (b d k : Int) (w : World) (he : Env w) (ha' : (u : Int) ≤ 18446744073709551614) (hb : 0 ≤ b) (hb' : b ≤ 18446744073709551615) (hd : 0 ≤ d) (hd' : d ≤ 18446744073709551615) (hk : 0 ≤ k) (hk' : k ≤ 18446744073709551615)
    (hD : ((u : Int) == 18446744073709551615) = false) (hD' : ((u : Int) != 18446744073709551615) = true) (g1 : 0 ≤ addT u k) (g2 : addT u k ≤ 18446744073709551615) (g3 : (u : Int) ≤ addT u k)
    (l1 : (addT u k == 18446744073709551615) = false) (l2 : (addT u k != 18446744073709551615) = true) (l3 : passedT d u = false) (n1 : u < b) (n2 : (b == 18446744073709551615) = true) (n3 : (b != 18446744073709551615) = false) : HoldsGoal u b d k w := by
  unfold HoldsGoal
  go_enter Tryd.func5, Tryd.ntmps5
  go_wp2_with (go_at_call 17; refine (text_any u (by omega) _ he).mono ?_; rintro e w1 ⟨rfl, hb1⟩; refine Hid.out ?_)
  refine Lib.hid ?_
  have e1 := he.on he.big hb1
  go_wp2_with (go_at_call 19; refine (parse_text u (by omega) _ e1).mono ?_; rintro e w2 ⟨rfl, hb2⟩; refine Hid.out ?_)
  refine Lib.hid ?_
  have q2 := hb1.trans (hb2.mono hb1.size)
  have e2 := he.on he.big q2
  clear hb2 hb1 e1
  go_wp2_with (first
    | (go_at_call 11; refine (sub_any _ _ _ (by omega) (by omega) (by omega) (by omega)).mono ?_; rintro e w' ⟨rfl, rfl⟩)
    | (go_at_call 9; refine (add_any _ _ _ (by omega) (by omega) (by omega) (by omega)).mono ?_; rintro e w' ⟨rfl, rfl⟩)
    | (go_at_call 15; refine (passed_any _ _ _ (by omega) (by omega) (by omega) (by omega)).mono ?_; rintro e w' ⟨rfl, rfl⟩)
    | (go_at_call 21; refine (new_ok _ _ hD).mono ?_; rintro e w' ⟨rfl, rfl⟩)
    | (go_at_call 22; go_in) | (go_at_call 23; go_in) | (go_at_call 24; go_in)
    | (go_at_call 8; refine Hid.out ?_))
  refine Lib.hid ?_
  have q3 := q2.alloc q2.size (.cells #[.bool true, .int .u64 (addT u k)] 57)
  refine (known_any _ (he.on he.big q3)).mono ?_
  rintro e w3 ⟨rfl, hb3⟩
  go_wp2_with fail
  go_ret
  exact ⟨rfl, q3.trans (hb3.mono q3.size)⟩

set_option maxRecDepth 100000 in
set_option maxHeartbeats 1000000 in
theorem holds_L2E2 (u : Nat) (b d k : Int) (w : World) (he : Env w) (ha' : (u : Int) ≤ 18446744073709551614) (hb : 0 ≤ b) (hb' : b ≤ 18446744073709551615) (hd : 0 ≤ d) (hd' : d ≤ 18446744073709551615) (hk : 0 ≤ k) (hk' : k ≤ 18446744073709551615)
    (hD : ((u : Int) == 18446744073709551615) = false) (hD' : ((u : Int) != 18446744073709551615) = true) (g1 : 0 ≤ addT u k) (g2 : addT u k ≤ 18446744073709551615) (g3 : (u : Int) ≤ addT u k)
    (l1 : (addT u k == 18446744073709551615) = false) (l2 : (addT u k != 18446744073709551615) = true) (l3 : passedT d u = false) (n1 : b < u) (n2 : (b == 18446744073709551615) = false) (n3 : (b != 18446744073709551615) = true) (n4 : (addT b (subT u b) != u) = false) (n5 : 0 ≤ subT u b) (n6 : subT u b ≤ 18446744073709551615) : HoldsGoal u (b) d k w := by
  unfold HoldsGoal
  go_enter Tryd.func5, Tryd.ntmps5
  go_wp2_with (go_at_call 17; refine (text_any u (by omega) _ he).mono ?_; rintro e w1 ⟨rfl, hb1⟩; refine Hid.out ?_)
  refine Lib.hid ?_
  have e1 := he.on he.big hb1
  go_wp2_with (go_at_call 19; refine (parse_text u (by omega) _ e1).mono ?_; rintro e w2 ⟨rfl, hb2⟩; refine Hid.out ?_)
  refine Lib.hid ?_
  have q2 := hb1.trans (hb2.mono hb1.size)
  have e2 := he.on he.big q2
  clear hb2 hb1 e1
  go_wp2_with (first
    | (go_at_call 11; refine (sub_any _ _ _ (by omega) (by omega) (by omega) (by omega)).mono ?_; rintro e w' ⟨rfl, rfl⟩)
    | (go_at_call 9; refine (add_any _ _ _ (by omega) (by omega) (by omega) (by omega)).mono ?_; rintro e w' ⟨rfl, rfl⟩)
    | (go_at_call 15; refine (passed_any _ _ _ (by omega) (by omega) (by omega) (by omega)).mono ?_; rintro e w' ⟨rfl, rfl⟩)
    | (go_at_call 21; refine (new_ok _ _ hD).mono ?_; rintro e w' ⟨rfl, rfl⟩)
    | (go_at_call 22; go_in) | (go_at_call 23; go_in) | (go_at_call 24; go_in)
    | (go_at_call 8; refine Hid.out ?_))
  refine Lib.hid ?_
  have q3 := q2.alloc q2.size (.cells #[.bool true, .int .u64 (addT u k)] 57)
  refine (known_any _ (he.on he.big q3)).mono ?_
  rintro e w3 ⟨rfl, hb3⟩
  go_wp2_with fail
  go_ret
  exact ⟨rfl, q3.trans (hb3.mono q3.size)⟩

set_option maxRecDepth 100000 in
set_option maxHeartbeats 1000000 in
theorem holds_L2E3 (u : Nat) (d k : Int) (w : World) (he : Env w) (ha' : (u : Int) ≤ 18446744073709551614) (hd : 0 ≤ d) (hd' : d ≤ 18446744073709551615) (hk : 0 ≤ k) (hk' : k ≤ 18446744073709551615)
    (hD : ((u : Int) == 18446744073709551615) = false) (hD' : ((u : Int) != 18446744073709551615) = true) (g1 : 0 ≤ addT u k) (g2 : addT u k ≤ 18446744073709551615) (g3 : (u : Int) ≤ addT u k)
    (l1 : (addT u k == 18446744073709551615) = false) (l2 : (addT u k != 18446744073709551615) = true) (l3 : passedT d u = false) (n4 : (addT u (subT u u) != u) = false) (n5 : 0 ≤ subT u u) (n6 : subT u u ≤ 18446744073709551615) : HoldsGoal u (u) d k w := by
  unfold HoldsGoal
  go_enter Tryd.func5, Tryd.ntmps5
  go_wp2_with (go_at_call 17; refine (text_any u (by omega) _ he).mono ?_; rintro e w1 ⟨rfl, hb1⟩; refine Hid.out ?_)
  refine Lib.hid ?_
  have e1 := he.on he.big hb1
  go_wp2_with (go_at_call 19; refine (parse_text u (by omega) _ e1).mono ?_; rintro e w2 ⟨rfl, hb2⟩; refine Hid.out ?_)
  refine Lib.hid ?_
  have q2 := hb1.trans (hb2.mono hb1.size)
  have e2 := he.on he.big q2
  clear hb2 hb1 e1
  go_wp2_with (first
    | (go_at_call 11; refine (sub_any _ _ _ (by omega) (by omega) (by omega) (by omega)).mono ?_; rintro e w' ⟨rfl, rfl⟩)
    | (go_at_call 9; refine (add_any _ _ _ (by omega) (by omega) (by omega) (by omega)).mono ?_; rintro e w' ⟨rfl, rfl⟩)
    | (go_at_call 15; refine (passed_any _ _ _ (by omega) (by omega) (by omega) (by omega)).mono ?_; rintro e w' ⟨rfl, rfl⟩)
    | (go_at_call 21; refine (new_ok _ _ hD).mono ?_; rintro e w' ⟨rfl, rfl⟩)
    | (go_at_call 22; go_in) | (go_at_call 23; go_in) | (go_at_call 24; go_in)
    | (go_at_call 8; refine Hid.out ?_))
  refine Lib.hid ?_
  have q3 := q2.alloc q2.size (.cells #[.bool true, .int .u64 (addT u k)] 57)
  refine (known_any _ (he.on he.big q3)).mono ?_
  rintro e w3 ⟨rfl, hb3⟩
  go_wp2_with fail
  go_ret
  exact ⟨rfl, q3.trans (hb3.mono q3.size)⟩

set_option maxRecDepth 100000 in
set_option maxHeartbeats 1000000 in
theorem holds_L2E4 (u : Nat) (b d k : Int) (w : World) (he : Env w) (ha' : (u : Int) ≤ 18446744073709551614) (hb : 0 ≤ b) (hb' : b ≤ 18446744073709551615) (hd : 0 ≤ d) (hd' : d ≤ 18446744073709551615) (hk : 0 ≤ k) (hk' : k ≤ 18446744073709551615)
    (hD : ((u : Int) == 18446744073709551615) = false) (hD' : ((u : Int) != 18446744073709551615) = true) (g1 : 0 ≤ addT u k) (g2 : addT u k ≤ 18446744073709551615) (g3 : (u : Int) ≤ addT u k)
    (l1 : (addT u k == 18446744073709551615) = false) (l2 : (addT u k != 18446744073709551615) = true) (l3 : passedT d u = false) (n1 : u < b) (n2 : (b == 18446744073709551615) = false) (n3 : (b != 18446744073709551615) = true) (m1 : (addT b k == 18446744073709551615) = true) (m2 : (addT b k != 18446744073709551615) = false) : HoldsGoal u (b) d k w := by
  unfold HoldsGoal
  go_enter Tryd.func5, Tryd.ntmps5
  go_wp2_with (go_at_call 17; refine (text_any u (by omega) _ he).mono ?_; rintro e w1 ⟨rfl, hb1⟩; refine Hid.out ?_)
  refine Lib.hid ?_
  have e1 := he.on he.big hb1
  go_wp2_with (go_at_call 19; refine (parse_text u (by omega) _ e1).mono ?_; rintro e w2 ⟨rfl, hb2⟩; refine Hid.out ?_)
  refine Lib.hid ?_
  have q2 := hb1.trans (hb2.mono hb1.size)
  have e2 := he.on he.big q2
  clear hb2 hb1 e1
  go_wp2_with (first
    | (go_at_call 11; refine (sub_any _ _ _ (by omega) (by omega) (by omega) (by omega)).mono ?_; rintro e w' ⟨rfl, rfl⟩)
    | (go_at_call 9; refine (add_any _ _ _ (by omega) (by omega) (by omega) (by omega)).mono ?_; rintro e w' ⟨rfl, rfl⟩)
    | (go_at_call 15; refine (passed_any _ _ _ (by omega) (by omega) (by omega) (by omega)).mono ?_; rintro e w' ⟨rfl, rfl⟩)
    | (go_at_call 21; refine (new_ok _ _ hD).mono ?_; rintro e w' ⟨rfl, rfl⟩)
    | (go_at_call 22; go_in) | (go_at_call 23; go_in) | (go_at_call 24; go_in)
    | (go_at_call 8; refine Hid.out ?_))
  refine Lib.hid ?_
  have q3 := q2.alloc q2.size (.cells #[.bool true, .int .u64 (b)] 57)
  refine (known_any _ (he.on he.big q3)).mono ?_
  rintro e w3 ⟨rfl, hb3⟩
  go_wp2_with fail
  go_ret
  exact ⟨rfl, q3.trans (hb3.mono q3.size)⟩

set_option maxRecDepth 100000 in
set_option maxHeartbeats 1000000 in
theorem holds_L2E5 (u : Nat) (b d k : Int) (w : World) (he : Env w) (ha' : (u : Int) ≤ 18446744073709551614) (hb : 0 ≤ b) (hb' : b ≤ 18446744073709551615) (hd : 0 ≤ d) (hd' : d ≤ 18446744073709551615) (hk : 0 ≤ k) (hk' : k ≤ 18446744073709551615)
    (hD : ((u : Int) == 18446744073709551615) = false) (hD' : ((u : Int) != 18446744073709551615) = true) (g1 : 0 ≤ addT u k) (g2 : addT u k ≤ 18446744073709551615) (g3 : (u : Int) ≤ addT u k)
    (l1 : (addT u k == 18446744073709551615) = false) (l2 : (addT u k != 18446744073709551615) = true) (l3 : passedT d u = false) (n1 : u < b) (n2 : (b == 18446744073709551615) = false) (n3 : (b != 18446744073709551615) = true) (m1 : (addT b k == 18446744073709551615) = false) (m2 : (addT b k != 18446744073709551615) = true) (m3 : b ≤ addT b k) : HoldsGoal u (b) d k w := by
  unfold HoldsGoal
  go_enter Tryd.func5, Tryd.ntmps5
  go_wp2_with (go_at_call 17; refine (text_any u (by omega) _ he).mono ?_; rintro e w1 ⟨rfl, hb1⟩; refine Hid.out ?_)
  refine Lib.hid ?_
  have e1 := he.on he.big hb1
  go_wp2_with (go_at_call 19; refine (parse_text u (by omega) _ e1).mono ?_; rintro e w2 ⟨rfl, hb2⟩; refine Hid.out ?_)
  refine Lib.hid ?_
  have q2 := hb1.trans (hb2.mono hb1.size)
  have e2 := he.on he.big q2
  clear hb2 hb1 e1
  go_wp2_with (first
    | (go_at_call 11; refine (sub_any _ _ _ (by omega) (by omega) (by omega) (by omega)).mono ?_; rintro e w' ⟨rfl, rfl⟩)
    | (go_at_call 9; refine (add_any _ _ _ (by omega) (by omega) (by omega) (by omega)).mono ?_; rintro e w' ⟨rfl, rfl⟩)
    | (go_at_call 15; refine (passed_any _ _ _ (by omega) (by omega) (by omega) (by omega)).mono ?_; rintro e w' ⟨rfl, rfl⟩)
    | (go_at_call 21; refine (new_ok _ _ hD).mono ?_; rintro e w' ⟨rfl, rfl⟩)
    | (go_at_call 22; go_in) | (go_at_call 23; go_in) | (go_at_call 24; go_in)
    | (go_at_call 8; refine Hid.out ?_))
  refine Lib.hid ?_
  have q3 := q2.alloc q2.size (.cells #[.bool true, .int .u64 (addT b k)] 57)
  refine (known_any _ (he.on he.big q3)).mono ?_
  rintro e w3 ⟨rfl, hb3⟩
  go_wp2_with fail
  go_ret
  exact ⟨rfl, q3.trans (hb3.mono q3.size)⟩

set_option maxRecDepth 100000 in
set_option maxHeartbeats 1000000 in
theorem holds_L3E1 (u : Nat) (b d k : Int) (w : World) (he : Env w) (ha' : (u : Int) ≤ 18446744073709551614) (hb : 0 ≤ b) (hb' : b ≤ 18446744073709551615) (hd : 0 ≤ d) (hd' : d ≤ 18446744073709551615) (hk : 0 ≤ k) (hk' : k ≤ 18446744073709551615)
    (hD : ((u : Int) == 18446744073709551615) = false) (hD' : ((u : Int) != 18446744073709551615) = true) (g1 : 0 ≤ addT u k) (g2 : addT u k ≤ 18446744073709551615) (g3 : (u : Int) ≤ addT u k)
    (l1 : (addT u k == 18446744073709551615) = false) (l2 : (addT u k != 18446744073709551615) = true) (l3 : passedT d u = true) (l4 : passedT d (addT u k) = true) (n1 : u < b) (n2 : (b == 18446744073709551615) = true) (n3 : (b != 18446744073709551615) = false) : HoldsGoal u b d k w := by
  unfold HoldsGoal
  go_enter Tryd.func5, Tryd.ntmps5
  go_wp2_with (go_at_call 17; refine (text_any u (by omega) _ he).mono ?_; rintro e w1 ⟨rfl, hb1⟩; refine Hid.out ?_)
  refine Lib.hid ?_
  have e1 := he.on he.big hb1
  go_wp2_with (go_at_call 19; refine (parse_text u (by omega) _ e1).mono ?_; rintro e w2 ⟨rfl, hb2⟩; refine Hid.out ?_)
  refine Lib.hid ?_
  have q2 := hb1.trans (hb2.mono hb1.size)
  have e2 := he.on he.big q2
  clear hb2 hb1 e1
  go_wp2_with (first
    | (go_at_call 11; refine (sub_any _ _ _ (by omega) (by omega) (by omega) (by omega)).mono ?_; rintro e w' ⟨rfl, rfl⟩)
    | (go_at_call 9; refine (add_any _ _ _ (by omega) (by omega) (by omega) (by omega)).mono ?_; rintro e w' ⟨rfl, rfl⟩)
    | (go_at_call 15; refine (passed_any _ _ _ (by omega) (by omega) (by omega) (by omega)).mono ?_; rintro e w' ⟨rfl, rfl⟩)
    | (go_at_call 21; refine (new_ok _ _ hD).mono ?_; rintro e w' ⟨rfl, rfl⟩)
    | (go_at_call 22; go_in) | (go_at_call 23; go_in) | (go_at_call 24; go_in)
    | (go_at_call 8; refine Hid.out ?_))
  refine Lib.hid ?_
  have q3 := q2.alloc q2.size (.cells #[.bool true, .int .u64 (addT u k)] 57)
  refine (known_any _ (he.on he.big q3)).mono ?_
  rintro e w3 ⟨rfl, hb3⟩
  go_wp2_with fail
  go_ret
  exact ⟨rfl, q3.trans (hb3.mono q3.size)⟩

set_option maxRecDepth 100000 in
set_option maxHeartbeats 1000000 in
theorem holds_L3E2 (u : Nat) (b d k : Int) (w : World) (he : Env w) (ha' : (u : Int) ≤ 18446744073709551614) (hb : 0 ≤ b) (hb' : b ≤ 18446744073709551615) (hd : 0 ≤ d) (hd' : d ≤ 18446744073709551615) (hk : 0 ≤ k) (hk' : k ≤ 18446744073709551615)
    (hD : ((u : Int) == 18446744073709551615) = false) (hD' : ((u : Int) != 18446744073709551615) = true) (g1 : 0 ≤ addT u k) (g2 : addT u k ≤ 18446744073709551615) (g3 : (u : Int) ≤ addT u k)
    (l1 : (addT u k == 18446744073709551615) = false) (l2 : (addT u k != 18446744073709551615) = true) (l3 : passedT d u = true) (l4 : passedT d (addT u k) = true) (n1 : b < u) (n2 : (b == 18446744073709551615) = false) (n3 : (b != 18446744073709551615) = true) (n4 : (addT b (subT u b) != u) = false) (n5 : 0 ≤ subT u b) (n6 : subT u b ≤ 18446744073709551615) : HoldsGoal u (b) d k w := by
  unfold HoldsGoal
  go_enter Tryd.func5, Tryd.ntmps5
  go_wp2_with (go_at_call 17; refine (text_any u (by omega) _ he).mono ?_; rintro e w1 ⟨rfl, hb1⟩; refine Hid.out ?_)
  refine Lib.hid ?_
  have e1 := he.on he.big hb1
  go_wp2_with (go_at_call 19; refine (parse_text u (by omega) _ e1).mono ?_; rintro e w2 ⟨rfl, hb2⟩; refine Hid.out ?_)
  refine Lib.hid ?_
  have q2 := hb1.trans (hb2.mono hb1.size)
  have e2 := he.on he.big q2
  clear hb2 hb1 e1
  go_wp2_with (first
    | (go_at_call 11; refine (sub_any _ _ _ (by omega) (by omega) (by omega) (by omega)).mono ?_; rintro e w' ⟨rfl, rfl⟩)
    | (go_at_call 9; refine (add_any _ _ _ (by omega) (by omega) (by omega) (by omega)).mono ?_; rintro e w' ⟨rfl, rfl⟩)
    | (go_at_call 15; refine (passed_any _ _ _ (by omega) (by omega) (by omega) (by omega)).mono ?_; rintro e w' ⟨rfl, rfl⟩)
    | (go_at_call 21; refine (new_ok _ _ hD).mono ?_; rintro e w' ⟨rfl, rfl⟩)
    | (go_at_call 22; go_in) | (go_at_call 23; go_in) | (go_at_call 24; go_in)
    | (go_at_call 8; refine Hid.out ?_))
  refine Lib.hid ?_
  have q3 := q2.alloc q2.size (.cells #[.bool true, .int .u64 (addT u k)] 57)
  refine (known_any _ (he.on he.big q3)).mono ?_
  rintro e w3 ⟨rfl, hb3⟩
  go_wp2_with fail
  go_ret
  exact ⟨rfl, q3.trans (hb3.mono q3.size)⟩

set_option maxRecDepth 100000 in
set_option maxHeartbeats 1000000 in
theorem holds_L3E3 (u : Nat) (d k : Int) (w : World) (he : Env w) (ha' : (u : Int) ≤ 18446744073709551614) (hd : 0 ≤ d) (hd' : d ≤ 18446744073709551615) (hk : 0 ≤ k) (hk' : k ≤ 18446744073709551615)
    (hD : ((u : Int) == 18446744073709551615) = false) (hD' : ((u : Int) != 18446744073709551615) = true) (g1 : 0 ≤ addT u k) (g2 : addT u k ≤ 18446744073709551615) (g3 : (u : Int) ≤ addT u k)
    (l1 : (addT u k == 18446744073709551615) = false) (l2 : (addT u k != 18446744073709551615) = true) (l3 : passedT d u = true) (l4 : passedT d (addT u k) = true) (n4 : (addT u (subT u u) != u) = false) (n5 : 0 ≤ subT u u) (n6 : subT u u ≤ 18446744073709551615) : HoldsGoal u (u) d k w := by
  unfold HoldsGoal
  go_enter Tryd.func5, Tryd.ntmps5
  go_wp2_with (go_at_call 17; refine (text_any u (by omega) _ he).mono ?_; rintro e w1 ⟨rfl, hb1⟩; refine Hid.out ?_)
  refine Lib.hid ?_
  have e1 := he.on he.big hb1
  go_wp2_with (go_at_call 19; refine (parse_text u (by omega) _ e1).mono ?_; rintro e w2 ⟨rfl, hb2⟩; refine Hid.out ?_)
  refine Lib.hid ?_
  have q2 := hb1.trans (hb2.mono hb1.size)
  have e2 := he.on he.big q2
  clear hb2 hb1 e1
  go_wp2_with (first
    | (go_at_call 11; refine (sub_any _ _ _ (by omega) (by omega) (by omega) (by omega)).mono ?_; rintro e w' ⟨rfl, rfl⟩)
    | (go_at_call 9; refine (add_any _ _ _ (by omega) (by omega) (by omega) (by omega)).mono ?_; rintro e w' ⟨rfl, rfl⟩)
    | (go_at_call 15; refine (passed_any _ _ _ (by omega) (by omega) (by omega) (by omega)).mono ?_; rintro e w' ⟨rfl, rfl⟩)
    | (go_at_call 21; refine (new_ok _ _ hD).mono ?_; rintro e w' ⟨rfl, rfl⟩)
    | (go_at_call 22; go_in) | (go_at_call 23; go_in) | (go_at_call 24; go_in)
    | (go_at_call 8; refine Hid.out ?_))
  refine Lib.hid ?_
  have q3 := q2.alloc q2.size (.cells #[.bool true, .int .u64 (addT u k)] 57)
  refine (known_any _ (he.on he.big q3)).mono ?_
  rintro e w3 ⟨rfl, hb3⟩
  go_wp2_with fail
  go_ret
  exact ⟨rfl, q3.trans (hb3.mono q3.size)⟩

set_option maxRecDepth 100000 in
set_option maxHeartbeats 1000000 in
theorem holds_L3E4 (u : Nat) (b d k : Int) (w : World) (he : Env w) (ha' : (u : Int) ≤ 18446744073709551614) (hb : 0 ≤ b) (hb' : b ≤ 18446744073709551615) (hd : 0 ≤ d) (hd' : d ≤ 18446744073709551615) (hk : 0 ≤ k) (hk' : k ≤ 18446744073709551615)
    (hD : ((u : Int) == 18446744073709551615) = false) (hD' : ((u : Int) != 18446744073709551615) = true) (g1 : 0 ≤ addT u k) (g2 : addT u k ≤ 18446744073709551615) (g3 : (u : Int) ≤ addT u k)
    (l1 : (addT u k == 18446744073709551615) = false) (l2 : (addT u k != 18446744073709551615) = true) (l3 : passedT d u = true) (l4 : passedT d (addT u k) = true) (n1 : u < b) (n2 : (b == 18446744073709551615) = false) (n3 : (b != 18446744073709551615) = true) (m1 : (addT b k == 18446744073709551615) = true) (m2 : (addT b k != 18446744073709551615) = false) : HoldsGoal u (b) d k w := by
  unfold HoldsGoal
  go_enter Tryd.func5, Tryd.ntmps5
  go_wp2_with (go_at_call 17; refine (text_any u (by omega) _ he).mono ?_; rintro e w1 ⟨rfl, hb1⟩; refine Hid.out ?_)
  refine Lib.hid ?_
  have e1 := he.on he.big hb1
  go_wp2_with (go_at_call 19; refine (parse_text u (by omega) _ e1).mono ?_; rintro e w2 ⟨rfl, hb2⟩; refine Hid.out ?_)
  refine Lib.hid ?_
  have q2 := hb1.trans (hb2.mono hb1.size)
  have e2 := he.on he.big q2
  clear hb2 hb1 e1
  go_wp2_with (first
    | (go_at_call 11; refine (sub_any _ _ _ (by omega) (by omega) (by omega) (by omega)).mono ?_; rintro e w' ⟨rfl, rfl⟩)
    | (go_at_call 9; refine (add_any _ _ _ (by omega) (by omega) (by omega) (by omega)).mono ?_; rintro e w' ⟨rfl, rfl⟩)
    | (go_at_call 15; refine (passed_any _ _ _ (by omega) (by omega) (by omega) (by omega)).mono ?_; rintro e w' ⟨rfl, rfl⟩)
    | (go_at_call 21; refine (new_ok _ _ hD).mono ?_; rintro e w' ⟨rfl, rfl⟩)
    | (go_at_call 22; go_in) | (go_at_call 23; go_in) | (go_at_call 24; go_in)
    | (go_at_call 8; refine Hid.out ?_))
  refine Lib.hid ?_
  have q3 := q2.alloc q2.size (.cells #[.bool true, .int .u64 (b)] 57)
  refine (known_any _ (he.on he.big q3)).mono ?_
  rintro e w3 ⟨rfl, hb3⟩
  go_wp2_with fail
  go_ret
  exact ⟨rfl, q3.trans (hb3.mono q3.size)⟩

set_option maxRecDepth 100000 in
set_option maxHeartbeats 1000000 in
theorem holds_L3E5 (u : Nat) (b d k : Int) (w : World) (he : Env w) (ha' : (u : Int) ≤ 18446744073709551614) (hb : 0 ≤ b) (hb' : b ≤ 18446744073709551615) (hd : 0 ≤ d) (hd' : d ≤ 18446744073709551615) (hk : 0 ≤ k) (hk' : k ≤ 18446744073709551615)
    (hD : ((u : Int) == 18446744073709551615) = false) (hD' : ((u : Int) != 18446744073709551615) = true) (g1 : 0 ≤ addT u k) (g2 : addT u k ≤ 18446744073709551615) (g3 : (u : Int) ≤ addT u k)
    (l1 : (addT u k == 18446744073709551615) = false) (l2 : (addT u k != 18446744073709551615) = true) (l3 : passedT d u = true) (l4 : passedT d (addT u k) = true) (n1 : u < b) (n2 : (b == 18446744073709551615) = false) (n3 : (b != 18446744073709551615) = true) (m1 : (addT b k == 18446744073709551615) = false) (m2 : (addT b k != 18446744073709551615) = true) (m3 : b ≤ addT b k) : HoldsGoal u (b) d k w := by
  unfold HoldsGoal
  go_enter Tryd.func5, Tryd.ntmps5
  go_wp2_with (go_at_call 17; refine (text_any u (by omega) _ he).mono ?_; rintro e w1 ⟨rfl, hb1⟩; refine Hid.out ?_)
  refine Lib.hid ?_
  have e1 := he.on he.big hb1
  go_wp2_with (go_at_call 19; refine (parse_text u (by omega) _ e1).mono ?_; rintro e w2 ⟨rfl, hb2⟩; refine Hid.out ?_)
  refine Lib.hid ?_
  have q2 := hb1.trans (hb2.mono hb1.size)
  have e2 := he.on he.big q2
  clear hb2 hb1 e1
  go_wp2_with (first
    | (go_at_call 11; refine (sub_any _ _ _ (by omega) (by omega) (by omega) (by omega)).mono ?_; rintro e w' ⟨rfl, rfl⟩)
    | (go_at_call 9; refine (add_any _ _ _ (by omega) (by omega) (by omega) (by omega)).mono ?_; rintro e w' ⟨rfl, rfl⟩)
    | (go_at_call 15; refine (passed_any _ _ _ (by omega) (by omega) (by omega) (by omega)).mono ?_; rintro e w' ⟨rfl, rfl⟩)
    | (go_at_call 21; refine (new_ok _ _ hD).mono ?_; rintro e w' ⟨rfl, rfl⟩)
    | (go_at_call 22; go_in) | (go_at_call 23; go_in) | (go_at_call 24; go_in)
    | (go_at_call 8; refine Hid.out ?_))
  refine Lib.hid ?_
  have q3 := q2.alloc q2.size (.cells #[.bool true, .int .u64 (addT b k)] 57)
  refine (known_any _ (he.on he.big q3)).mono ?_
  rintro e w3 ⟨rfl, hb3⟩
  go_wp2_with fail
  go_ret
  exact ⟨rfl, q3.trans (hb3.mono q3.size)⟩

theorem passedT_bool (d u : Int) : passedT d u = true ∨ passedT d u = false := by cases passedT d u <;> simp
theorem beq_cases (x y : Int) : ((x == y) = true ∧ (x != y) = false) ∨ ((x == y) = false ∧ (x != y) = true) := by
  cases h : (x == y) <;> simp [bne, h]
theorem holds_any (a b d k : Int) (w : World) (he : Env w) (ha : 0 ≤ a) (ha' : a ≤ 18446744073709551615) (hb : 0 ≤ b) (hb' : b ≤ 18446744073709551615) (hd : 0 ≤ d) (hd' : d ≤ 18446744073709551615) (hk : 0 ≤ k) (hk' : k ≤ 18446744073709551615) :
    HoldsGoal a b d k w := by
  rcases beq_cases a 18446744073709551615 with ⟨hD, hD'⟩ | ⟨hD, hD'⟩
  · rw [beq_iff_eq] at hD
    subst hD
    exact holds_never d k b w he hb hb' hd hd' hk hk'
  · have hlt : a ≤ 18446744073709551614 := by rw [beq_eq_false_iff_ne] at hD; omega
    obtain ⟨u, rfl⟩ := Int.eq_ofNat_of_zero_le ha
    have g := addT_bd u k ha ha' hk
    have g3 := addT_ge u k ha' hk
    have s1 := subT_bd u b ha' hb
    have last : ∀ (hn : (addT u k == 18446744073709551615) = true ∧ (addT u k != 18446744073709551615) = false ∨ (addT u k == 18446744073709551615) = false ∧ (addT u k != 18446744073709551615) = true ∧ (passedT d u = false ∨ passedT d u = true ∧ passedT d (addT u k) = true)), HoldsGoal u b d k w := by
      intro hn
      rcases beq_cases b 18446744073709551615 with ⟨n2, n3⟩ | ⟨n2, n3⟩
      · have n1 : (u : Int) < b := by rw [beq_iff_eq] at n2; omega
        rcases hn with ⟨l1, l2⟩ | ⟨l1, l2, l3 | ⟨l3, l4⟩⟩
        · exact holds_L1E1 u b d k w he hlt hb hb' hd hd' hk hk' hD hD' g.1 g.2 g3 l1 l2 n1 n2 n3
        · exact holds_L2E1 u b d k w he hlt hb hb' hd hd' hk hk' hD hD' g.1 g.2 g3 l1 l2 l3 n1 n2 n3
        · exact holds_L3E1 u b d k w he hlt hb hb' hd hd' hk hk' hD hD' g.1 g.2 g3 l1 l2 l3 l4 n1 n2 n3
      · rcases Int.lt_trichotomy b u with n1 | rfl | n1
        · have n4 : (addT b (subT u b) != u) = false := by rw [addT_sub _ _ hb ha' (by omega)]; simp
          rcases hn with ⟨l1, l2⟩ | ⟨l1, l2, l3 | ⟨l3, l4⟩⟩
          · exact holds_L1E2 u b d k w he hlt hb hb' hd hd' hk hk' hD hD' g.1 g.2 g3 l1 l2 n1 n2 n3 n4 s1.1 s1.2
          · exact holds_L2E2 u b d k w he hlt hb hb' hd hd' hk hk' hD hD' g.1 g.2 g3 l1 l2 l3 n1 n2 n3 n4 s1.1 s1.2
          · exact holds_L3E2 u b d k w he hlt hb hb' hd hd' hk hk' hD hD' g.1 g.2 g3 l1 l2 l3 l4 n1 n2 n3 n4 s1.1 s1.2
        · have n4 : (addT u (subT u u) != u) = false := by rw [addT_sub _ _ hb ha' (by omega)]; simp
          rcases hn with ⟨l1, l2⟩ | ⟨l1, l2, l3 | ⟨l3, l4⟩⟩
          · exact holds_L1E3 u d k w he hlt hd hd' hk hk' hD hD' g.1 g.2 g3 l1 l2 n4 s1.1 s1.2
          · exact holds_L2E3 u d k w he hlt hd hd' hk hk' hD hD' g.1 g.2 g3 l1 l2 l3 n4 s1.1 s1.2
          · exact holds_L3E3 u d k w he hlt hd hd' hk hk' hD hD' g.1 g.2 g3 l1 l2 l3 l4 n4 s1.1 s1.2
        · have m3 := addT_ge b k hb' hk
          rcases beq_cases (addT b k) 18446744073709551615 with ⟨m1, m2⟩ | ⟨m1, m2⟩
          · rcases hn with ⟨l1, l2⟩ | ⟨l1, l2, l3 | ⟨l3, l4⟩⟩
            · exact holds_L1E4 u b d k w he hlt hb hb' hd hd' hk hk' hD hD' g.1 g.2 g3 l1 l2 n1 n2 n3 m1 m2
            · exact holds_L2E4 u b d k w he hlt hb hb' hd hd' hk hk' hD hD' g.1 g.2 g3 l1 l2 l3 n1 n2 n3 m1 m2
            · exact holds_L3E4 u b d k w he hlt hb hb' hd hd' hk hk' hD hD' g.1 g.2 g3 l1 l2 l3 l4 n1 n2 n3 m1 m2
          · rcases hn with ⟨l1, l2⟩ | ⟨l1, l2, l3 | ⟨l3, l4⟩⟩
            · exact holds_L1E5 u b d k w he hlt hb hb' hd hd' hk hk' hD hD' g.1 g.2 g3 l1 l2 n1 n2 n3 m1 m2 m3
            · exact holds_L2E5 u b d k w he hlt hb hb' hd hd' hk hk' hD hD' g.1 g.2 g3 l1 l2 l3 n1 n2 n3 m1 m2 m3
            · exact holds_L3E5 u b d k w he hlt hb hb' hd hd' hk hk' hD hD' g.1 g.2 g3 l1 l2 l3 l4 n1 n2 n3 m1 m2 m3
    refine last ?_
    rcases beq_cases (addT u k) 18446744073709551615 with h | ⟨h1, h2⟩
    · exact .inl h
    · refine .inr ⟨h1, h2, ?_⟩
      rcases passedT_bool d u with h | h
      · exact .inr ⟨h, passed_later d u _ h g3 h2⟩
      · exact .inl h
end Go.Proofs.YtgkmmkaaokbmiaaDoor
