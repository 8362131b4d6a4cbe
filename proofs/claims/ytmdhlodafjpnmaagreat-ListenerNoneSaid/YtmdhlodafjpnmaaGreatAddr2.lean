/- Contracts of addr.Valid and of the reference's ValidName and Valid, for every name of at most a million bytes and every port. -/
import Derived.Test.YtmdhlodafjpnmaaGreatAddr
namespace Go.Proofs.YtmdhlodafjpnmaaGreat
open Go.RowKit
set_option linter.unusedVariables false

def addrB (l : List UInt8) (p : Int) : Bool := nameB l && decide (0 ≤ p) && decide (p ≤ 65535)

set_option maxHeartbeats 1000000 in
theorem valid_any (s : ByteArray) (p : Int) (hlim : s.size ≤ 1000000) (w : World) :
    Calls Tryz.prog 77 #[.agg #[.string s, .int .i64 p]] w fun e w' => e = .returned (.bool (addrB s.data.toList p)) ∧ Fr [] w w' := by
  have f0 : Fr [] w (w.alloc (.cells #[.string s, .int .i64 p] 28)) := (Fr.refl [] w).alloc _
  go_enter Tryz.func77, Tryz.ntmps77
  go_wp2_with (go_at_call 125; refine Hid.out ?_)
  refine Lib.hid ?_
  refine (validName_any s hlim _).mono ?_
  rintro e w1 ⟨rfl, f1⟩
  have c0 := f1.keep (b := w.heap.size) (o := 0) (v := .string s) (by simp) (by simp)
  have c1 := f1.keep (b := w.heap.size) (o := 1) (v := .int .i64 p) (by simp) (by simp)
  have f2 := f0.step f1
  cases hn : nameB s.data.toList with
  | false =>
    have hr : Hid (addrB s.data.toList p = false) := by show addrB s.data.toList p = false; unfold addrB; rw [hn]; rfl
    clear hn
    go_wp2
    go_ret
    exact ⟨retB hr.out.symm, f2⟩
  | true =>
    have hr : Hid (addrB s.data.toList p = (decide (0 ≤ p) && decide (p ≤ 65535))) := by show addrB s.data.toList p = _; unfold addrB; rw [hn]; rfl
    clear hn
    go_wp2
    all_goals
      go_ret
      refine ⟨retB ?_, f2⟩
      rw [hr.out, Bool.eq_iff_iff]
      simp
      try omega

set_option maxHeartbeats 400000 in
theorem letter_any (c : Nat) (w : World) :
    Calls Tryz.prog 136 #[.int .u8 c] w fun e w' => e = .returned (.bool (letterB c)) ∧ w = w' := by
  go_enter Tryz.func136, Tryz.ntmps136
  go_wp2
  all_goals
    go_ret
    refine ⟨retB ?_, rfl⟩
    unfold letterB
    rw [Bool.eq_iff_iff]
    simp
    try omega
set_option maxHeartbeats 400000 in
theorem digit_any (c : Nat) (w : World) :
    Calls Tryz.prog 137 #[.int .u8 c] w fun e w' => e = .returned (.bool (digitB c)) ∧ w = w' := by
  go_enter Tryz.func137, Tryz.ntmps137
  go_wp2
  all_goals
    go_ret
    refine ⟨retB ?_, rfl⟩
    unfold digitB
    rw [Bool.eq_iff_iff]
    simp
    try omega

set_option maxHeartbeats 1000000 in
theorem refName_any (s : ByteArray) (hlim : s.size ≤ 1000000) (w : World) :
    Calls Tryz.prog 94 #[.string s] w fun e w' => e = .returned (.bool (nameB s.data.toList)) ∧ w = w' := by
  by_cases h1 : s.size < 1
  · have d1 : (s.size : Int) < 1 := by omega
    have hr : Hid (nameB s.data.toList = false) := by show nameB s.data.toList = false; unfold nameB; rw [len_size]; simp; omega
    clear h1
    go_enter Tryz.func94, Tryz.ntmps94
    go_wp2
    all_goals
      go_ret
      exact ⟨retB hr.out.symm, rfl⟩
  · by_cases h2 : 32 < s.size
    · have d1 : ¬ (s.size : Int) < 1 := by omega
      have d2 : 32 < (s.size : Int) := by omega
      have hr : Hid (nameB s.data.toList = false) := by show nameB s.data.toList = false; unfold nameB; rw [len_size]; simp; omega
      clear h1 h2
      go_enter Tryz.func94, Tryz.ntmps94
      go_wp2
      all_goals
        go_ret
        exact ⟨retB hr.out.symm, rfl⟩
    · have d1 : ¬ (s.size : Int) < 1 := by omega
      have d2 : ¬ 32 < (s.size : Int) := by omega
      have hp0 : 0 < s.size := by omega
      have hg0 := good_take s 0 hp0
      cases hl : letterB (s[0]).toNat with
      | false =>
        have hr : Hid (nameB s.data.toList = false) := nameB_bad s 0 hp0 (by unfold goodAt; rw [hl]; rfl)
        clear h1 h2 hg0
        go_enter Tryz.func94, Tryz.ntmps94
        go_wp2_with (go_at_call 136; refine (letter_any _ _).mono ?_; rintro e w' ⟨rfl, rfl⟩)
        go_ret
        exact ⟨retB hr.out.symm, rfl⟩
      | true =>
        have hg : Hid (goodFrom 0 (s.data.toList.take 1) = true) := by
          show goodFrom 0 (s.data.toList.take 1) = true
          rw [hg0]
          unfold goodAt
          rw [hl]
          rfl
        clear h1 h2 hg0
        go_enter Tryz.func94, Tryz.ntmps94
        go_wp2_with (go_at_call 136; refine (letter_any _ _).mono ?_; rintro e w' ⟨rfl, rfl⟩)
        go_loop [3] (fun i => ∃ k : Nat, 1 ≤ k ∧ k ≤ s.size ∧ i = .int .i64 k ∧ Hid (goodFrom 0 (s.data.toList.take k) = true)) (fun i => s.size - (intOf i).toNat)
        case atStart => exact ⟨1, Nat.le_refl _, hp0, rfl, hg⟩
        case round =>
          obtain ⟨k, hk1, hk, rfl, hgk⟩ := hrel
          clear hl hg
          by_cases hp : k < s.size
          · have hgt := Lib.hid (good_take s k hp)
            cases hl : letterB (s[k]).toNat with
            | true =>
              have hn : Hid (goodFrom 0 (s.data.toList.take (k + 1)) = true) := by
                show goodFrom 0 (s.data.toList.take (k + 1)) = true
                rw [hgt.out, hgk.out]
                unfold goodAt
                rw [hl]
                rfl
              go_wp2_with (go_at_call 136; refine (letter_any _ _).mono ?_; rintro e w' ⟨rfl, rfl⟩)
              go_round
              case rel => exact ⟨k + 1, by omega, by omega, by go_num, hn⟩
              case measure => simp [intOf]; omega
            | false =>
              cases hd : digitB (s[k]).toNat with
              | true =>
                have hn : Hid (goodFrom 0 (s.data.toList.take (k + 1)) = true) := by
                  show goodFrom 0 (s.data.toList.take (k + 1)) = true
                  rw [hgt.out, hgk.out]
                  unfold goodAt
                  rw [hd]
                  simp
                  omega
                go_wp2_with (first | (go_at_call 136; refine (letter_any _ _).mono ?_; rintro e w' ⟨rfl, rfl⟩) | (go_at_call 137; refine (digit_any _ _).mono ?_; rintro e w' ⟨rfl, rfl⟩))
                go_round
                case rel => exact ⟨k + 1, by omega, by omega, by go_num, hn⟩
                case measure => simp [intOf]; omega
              | false =>
                by_cases hm : (s[k]).toNat = 45
                · have hn : Hid (goodFrom 0 (s.data.toList.take (k + 1)) = true) := by
                    show goodFrom 0 (s.data.toList.take (k + 1)) = true
                    rw [hgt.out, hgk.out]
                    unfold goodAt
                    simp [hm]
                    omega
                  have d5 : (((s[k]).toNat : Int) != 45) = false := by rw [hm]; rfl
                  clear hm
                  go_wp2_with (first | (go_at_call 136; refine (letter_any _ _).mono ?_; rintro e w' ⟨rfl, rfl⟩) | (go_at_call 137; refine (digit_any _ _).mono ?_; rintro e w' ⟨rfl, rfl⟩))
                  go_round
                  case rel => exact ⟨k + 1, by omega, by omega, by go_num, hn⟩
                  case measure => simp [intOf]; omega
                · have d5 : (((s[k]).toNat : Int) != 45) = true := by rw [bne_iff_ne]; omega
                  by_cases hu : (s[k]).toNat = 95
                  · have hn : Hid (goodFrom 0 (s.data.toList.take (k + 1)) = true) := by
                      show goodFrom 0 (s.data.toList.take (k + 1)) = true
                      rw [hgt.out, hgk.out]
                      unfold goodAt
                      simp [hu]
                      omega
                    have d6 : (((s[k]).toNat : Int) != 95) = false := by rw [hu]; rfl
                    clear hm hu
                    go_wp2_with (first | (go_at_call 136; refine (letter_any _ _).mono ?_; rintro e w' ⟨rfl, rfl⟩) | (go_at_call 137; refine (digit_any _ _).mono ?_; rintro e w' ⟨rfl, rfl⟩))
                    go_round
                    case rel => exact ⟨k + 1, by omega, by omega, by go_num, hn⟩
                    case measure => simp [intOf]; omega
                  · have d6 : (((s[k]).toNat : Int) != 95) = true := by rw [bne_iff_ne]; omega
                    have hr : Hid (nameB s.data.toList = false) := nameB_bad s k hp (by unfold goodAt; rw [hl, hd]; simp [hm, hu])
                    clear hm hu
                    go_wp2_with (first | (go_at_call 136; refine (letter_any _ _).mono ?_; rintro e w' ⟨rfl, rfl⟩) | (go_at_call 137; refine (digit_any _ _).mono ?_; rintro e w' ⟨rfl, rfl⟩))
                    go_ret
                    exact ⟨retB hr.out.symm, rfl⟩
          · have hr : Hid (nameB s.data.toList = true) := by
              show nameB s.data.toList = true
              have h := hgk.out
              rw [full_take s k hp] at h
              unfold nameB
              rw [h, len_size]
              simp
              omega
            go_wp2
            go_ret
            exact ⟨retB hr.out.symm, rfl⟩

set_option maxHeartbeats 1000000 in
theorem refValid_any (s : ByteArray) (p : Int) (hlim : s.size ≤ 1000000) (w : World) :
    Calls Tryz.prog 45 #[.agg #[.string s, .int .i64 p]] w fun e w' => e = .returned (.bool (addrB s.data.toList p)) ∧ Fr [] w w' := by
  have f0 : Fr [] w (w.alloc (.cells #[.string s, .int .i64 p] 28)) := (Fr.refl [] w).alloc _
  cases hn : nameB s.data.toList with
  | false =>
    have hr : Hid (addrB s.data.toList p = false) := by show addrB s.data.toList p = false; unfold addrB; rw [hn]; rfl
    go_enter Tryz.func45, Tryz.ntmps45
    go_wp2_with (go_at_call 94; refine (refName_any s hlim _).mono ?_; rintro e w1 ⟨rfl, rfl⟩)
    go_ret
    exact ⟨retB hr.out.symm, f0⟩
  | true =>
    have hr : Hid (addrB s.data.toList p = (decide (0 ≤ p) && decide (p ≤ 65535))) := by show addrB s.data.toList p = _; unfold addrB; rw [hn]; rfl
    go_enter Tryz.func45, Tryz.ntmps45
    go_wp2_with (go_at_call 94; refine (refName_any s hlim _).mono ?_; rintro e w1 ⟨rfl, rfl⟩)
    all_goals
      go_ret
      refine ⟨retB ?_, f0⟩
      rw [hr.out, Bool.eq_iff_iff]
      simp
      try omega
end Go.Proofs.YtmdhlodafjpnmaaGreat
