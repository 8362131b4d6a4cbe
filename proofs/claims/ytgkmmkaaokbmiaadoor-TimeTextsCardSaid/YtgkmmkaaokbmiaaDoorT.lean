/- The walks of the laws TimeTexts and TimeHolds: each returns true, for every input within the stated bounds of its kinds. -/
import Derived.Test.YtgkmmkaaokbmiaaDoorE
namespace Go.Proofs.YtgkmmkaaokbmiaaDoor
open Go.RowKit Go.Sort Go.Lib
set_option linter.unusedVariables false

set_option maxRecDepth 100000 in
set_option maxHeartbeats 1000000 in
theorem texts_long (t : Int) (s : ByteArray) (w : World) (he : Env w) (h : 40 < (s.size : Int)) :
    Calls Tryd.prog 4 #[.int .u64 t, .string s] w fun e w' => e = .returned (.bool true) ∧ Below w.heap.size w w' := by
  go_enter Tryd.func4, Tryd.ntmps4
  go_wp2_with (go_at_call 8; refine (known_any _ he).mono ?_; rintro e w1 ⟨rfl, hb⟩)
  go_ret
  exact ⟨rfl, hb⟩

set_option maxRecDepth 100000 in
set_option maxHeartbeats 1000000 in
theorem texts_any (u : Nat) (hu : u < 18446744073709551616) (s : ByteArray) (w : World) (he : Env w) (h : ¬ 40 < (s.size : Int)) :
    Calls Tryd.prog 4 #[.int .u64 u, .string s] w fun e w' => e = .returned (.bool true) ∧ Below w.heap.size w w' := by
  have hlim : s.size ≤ 1000000 := by omega
  have hx : (pV s.data.toList == rV s.data.toList) = true := beq_iff_eq.2 rfl
  by_cases hp : (pT s.data.toList).isSome = true
  · have h1 : (pE s.data.toList == 0) = true := by unfold pE; rw [if_pos hp]; rfl
    have h2 : rB s.data.toList = true := hp
    clear hp
    go_enter Tryd.func4, Tryd.ntmps4
    go_wp2_with (go_at_call 17; refine (text_any u hu _ he).mono ?_; rintro e w1 ⟨rfl, hb1⟩; refine Hid.out ?_)
    refine Lib.hid ?_
    have e1 := he.on he.big hb1
    go_wp2_with (first | (go_at_call 18; refine (reftext_any u hu _).mono ?_; rintro e w2 ⟨rfl, rfl⟩) | (go_at_call 19; refine (parse_any s (by omega) _ e1).mono ?_; rintro e w2 ⟨rfl, hb2⟩; refine Hid.out ?_))
    refine Lib.hid ?_
    have q2 := hb1.trans (hb2.mono hb1.size)
    have e2 := he.on he.big q2
    clear hb2 hb1 e1
    go_wp2_with (first | (go_at_call 20; refine (refparse_any s hlim _).mono ?_; rintro e w3 ⟨rfl, rfl⟩) | (go_at_call 8; refine (known_any _ e2).mono ?_; rintro e w3 ⟨rfl, hb3⟩))
    go_ret
    exact ⟨rfl, q2.trans (hb3.mono q2.size)⟩
  · have h1 : (pE s.data.toList == 6) = true := by unfold pE; rw [if_neg hp]; rfl
    have h2 : rB s.data.toList = false := (Bool.not_eq_true _).mp hp
    have h3 : (pV s.data.toList == 0) = true := by
      rw [Option.not_isSome_iff_eq_none] at hp
      unfold pV
      rw [hp]
      rfl
    clear hp hx
    go_enter Tryd.func4, Tryd.ntmps4
    go_wp2_with (go_at_call 17; refine (text_any u hu _ he).mono ?_; rintro e w1 ⟨rfl, hb1⟩; refine Hid.out ?_)
    refine Lib.hid ?_
    have e1 := he.on he.big hb1
    go_wp2_with (first | (go_at_call 18; refine (reftext_any u hu _).mono ?_; rintro e w2 ⟨rfl, rfl⟩) | (go_at_call 19; refine (parse_any s (by omega) _ e1).mono ?_; rintro e w2 ⟨rfl, hb2⟩; refine Hid.out ?_))
    refine Lib.hid ?_
    have q2 := hb1.trans (hb2.mono hb1.size)
    have e2 := he.on he.big q2
    clear hb2 hb1 e1
    go_wp2_with (first | (go_at_call 20; refine (refparse_any s hlim _).mono ?_; rintro e w3 ⟨rfl, rfl⟩) | (go_at_call 8; refine (known_any _ e2).mono ?_; rintro e w3 ⟨rfl, hb3⟩))
    go_ret
    exact ⟨rfl, q2.trans (hb3.mono q2.size)⟩
end Go.Proofs.YtgkmmkaaokbmiaaDoor
