/- The chapter's examples (known) answer true, in a world that holds the library's table and sentinels. -/
import Derived.Test.YtgkmmkaaokbmiaaDoorD
namespace Go.Proofs.YtgkmmkaaokbmiaaDoor
open Go.RowKit Go.Sort Go.Lib
set_option linter.unusedVariables false

theorem text_120 (w : World) (he : Env w) :
    Calls Tryd.prog 17 #[.int .u64 120] w fun e w' => e = .returned (.string ⟨#[49, 50, 48]⟩) ∧ Below w.heap.size w w' :=
  (text_any 120 (by omega) w he).mono fun e w' ⟨h, hb⟩ => ⟨by rw [h]; congr 3; decide +kernel, hb⟩
theorem parses_k (s : ByteArray) (t c : Int) (h : (pV s.data.toList == t && pE s.data.toList == c) = true) (hl : s.size ≤ 281474976710656) (w : World) (he : Env w) :
    Calls Tryd.prog 29 #[.string s, .int .u64 t, .int .i64 c] w fun e w' => e = .returned (.bool true) ∧ Below w.heap.size w w' :=
  (parses_any s hl t c w he).mono fun e w' ⟨h1, hb⟩ => ⟨by rw [h1, h], hb⟩
theorem parses_0 (w : World) (he : Env w) : Calls Tryd.prog 29 #[.string ⟨#[48]⟩, .int .u64 0, .int .i64 0] w fun e w' => e = .returned (.bool true) ∧ Below w.heap.size w w' :=
  parses_k _ _ _ (by decide +kernel) (by decide +kernel) w he
theorem parses_n (w : World) (he : Env w) : Calls Tryd.prog 29 #[.string ⟨#[110, 101, 118, 101, 114]⟩, .int .u64 18446744073709551615, .int .i64 0] w fun e w' => e = .returned (.bool true) ∧ Below w.heap.size w w' :=
  parses_k _ _ _ (by decide +kernel) (by decide +kernel) w he
theorem parses_7 (w : World) (he : Env w) : Calls Tryd.prog 29 #[.string ⟨#[48, 48, 55]⟩, .int .u64 0, .int .i64 6] w fun e w' => e = .returned (.bool true) ∧ Below w.heap.size w w' :=
  parses_k _ _ _ (by decide +kernel) (by decide +kernel) w he
theorem parses_b (w : World) (he : Env w) : Calls Tryd.prog 29 #[.string ⟨#[49, 56, 52, 52, 54, 55, 52, 52, 48, 55, 51, 55, 48, 57, 53, 53, 49, 54, 49, 53]⟩, .int .u64 0, .int .i64 6] w fun e w' => e = .returned (.bool true) ∧ Below w.heap.size w w' :=
  parses_k _ _ _ (by decide +kernel) (by decide +kernel) w he

theorem min_3 (b : Nat) (w : World) (c0 : w.cell? ⟨b, 0, none⟩ = some (.int .u64 3)) (c1 : w.cell? ⟨b, 1, none⟩ = some (.int .u64 18446744073709551615)) (c2 : w.cell? ⟨b, 2, none⟩ = some (.int .u64 2)) :
    Calls Tryd.prog 13 #[.slice (some ⟨b, 0, none⟩) 3 3] w fun e w' => e = .returned (.int .u64 2) ∧ w = w' :=
  (min_any b 0 3 3 [3, 18446744073709551615, 2] w (by omega) rfl (by omega) (by decide) (fun i hi => by
    match i, hi with
    | 0, _ => exact c0
    | 1, _ => exact c1
    | 2, _ => exact c2)).mono fun e w' ⟨h, hb⟩ => ⟨by rw [h]; rfl, hb⟩
theorem min_0 (w : World) : Calls Tryd.prog 13 #[.slice none 0 0] w fun e w' => e = .returned (.int .u64 18446744073709551615) ∧ w = w' := min_empty none 0 w

set_option maxRecDepth 100000 in
set_option maxHeartbeats 1000000 in
theorem known_any (w : World) (he : Env w) :
    Calls Tryd.prog 8 #[] w fun e w' => e = .returned (.bool true) ∧ Below w.heap.size w w' := by
  go_enter Tryd.func8, Tryd.ntmps8
  go_wp2_with (first | (go_at_call 9; go_in) | (go_at_call 11; go_in) | (go_at_call 15; go_in))
  refine (min_3 _ _ (by simp) (by simp) (by simp)).mono ?_
  rintro e w' ⟨rfl, rfl⟩
  go_wp2_with (first | (go_at_call 11; go_in) | (go_at_call 15; go_in) | (go_at_call 13; refine (min_0 _).mono ?_; rintro e w' ⟨rfl, rfl⟩))
  have he1 : Env (w.alloc (.cells #[.int .u64 3, .int .u64 18446744073709551615, .int .u64 2] 23)) := he.on he.big ((Below.refl _ _).alloc (Nat.le_refl _) _)
  refine (text_120 _ he1).mono ?_
  rintro e w1 ⟨rfl, hb1⟩
  have q1 : Below w.heap.size w w1 := ((Below.refl _ _).alloc (Nat.le_refl _) _).trans (hb1.mono (by simp))
  have e1 := he.on he.big q1
  clear hb1 he1
  go_wp2_with fail
  refine (text_never _).mono ?_
  rintro e w2 ⟨rfl, hb2⟩
  have q2 := q1.trans (hb2.mono q1.size)
  have e2 := he.on he.big q2
  clear hb2 q1 e1
  go_wp2_with fail
  refine (parses_0 _ e2).mono ?_
  rintro e w3 ⟨rfl, hb3⟩
  have q3 := q2.trans (hb3.mono q2.size)
  have e3 := he.on he.big q3
  clear hb3 q2 e2
  go_wp2_with fail
  refine (parses_n _ e3).mono ?_
  rintro e w4 ⟨rfl, hb4⟩
  have q4 := q3.trans (hb4.mono q3.size)
  have e4 := he.on he.big q4
  clear hb4 q3 e3
  go_wp2_with fail
  refine (parses_7 _ e4).mono ?_
  rintro e w5 ⟨rfl, hb5⟩
  have q5 := q4.trans (hb5.mono q4.size)
  have e5 := he.on he.big q5
  clear hb5 q4 e4
  go_wp2_with fail
  refine (parses_b _ e5).mono ?_
  rintro e w6 ⟨rfl, hb6⟩
  have q6 := q5.trans (hb6.mono q5.size)
  clear hb6 q5 e5
  go_wp2_with (first | (go_at_call 21; go_in) | (go_at_call 22; go_in) | (go_at_call 24; go_in) | (go_at_call 23; go_in) | (go_at_call 9; go_in))
  go_ret
  exact ⟨rfl, q6.alloc q6.size _⟩
end Go.Proofs.YtgkmmkaaokbmiaaDoor
