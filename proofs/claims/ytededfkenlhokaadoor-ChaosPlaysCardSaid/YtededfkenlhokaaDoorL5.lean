/- Contracts of the law's own lane, valid and plan. -/
import Derived.Test.YtededfkenlhokaaDoorL3
namespace Go.Proofs.YtededfkenlhokaaDoor
open Go.RowKit Go.Shelf
set_option linter.unusedVariables false
set_option maxRecDepth 100000
set_option maxHeartbeats 4000000

theorem laneL_any (c d : Int) (w : World) :
    Calls Tryd.prog 15 #[.int .i64 c, .int .i64 d] w fun e w' => e = .returned (.bool (laneB c d)) ∧ w = w' := by
  have e : laneB c d = (decide (0 ≤ c) && (decide (c ≤ 1000) && (d == 0 || d == 1))) := by
    unfold laneB
    rw [Bool.eq_iff_iff]
    simp [and_assoc]
  rw [e]
  cases h1 : decide (0 ≤ c)
  · go_enter Tryd.func15, Tryd.ntmps15
    go_wp2
    go_ret
    exact ⟨rfl, rfl⟩
  · cases h2 : decide (c ≤ 1000)
    · go_enter Tryd.func15, Tryd.ntmps15
      go_wp2
      go_ret
      exact ⟨rfl, rfl⟩
    · cases h3 : d == 0 <;> cases h4 : d == 1
      all_goals
        go_enter Tryd.func15, Tryd.ntmps15
        go_wp2
        go_ret
        exact ⟨rfl, rfl⟩

theorem ok_neg {f : Ft} (h : f.g < 0) : f.ok = false := by
  rw [Bool.eq_false_iff]
  intro h0
  have := (Ft.ok_iff.1 h0).2.2.2
  omega
theorem validL_any (f : Ft) (w : World) :
    Calls Tryd.prog 29 #[ftV f] w fun e w' => e = .returned (.bool f.ok) ∧ Fr [] w w' := by
  have f0 : Fr [] w (w.alloc (.cells #[.int .i64 f.k, .int .i64 f.c, .int .i64 f.d, .int .i64 f.a, .int .i64 f.g] 32)) := (Fr.refl [] w).alloc _
  unfold ftV
  have ok1 := @ok_lane f
  have ok2 := @ok_at f
  have ok3 := @ok_arg f
  have ok4 := @ok_neg f
  obtain ⟨k, c, d, a, g⟩ := f
  simp only at ok1 ok2 ok3 ok4 f0 ⊢
  cases hl : laneB c d with
  | false =>
    rw [ok1 hl]
    clear ok1 ok2 ok3 ok4
    go_enter Tryd.func29, Tryd.ntmps29
    go_wp2_with (go_at_call 15; refine (laneL_any _ _ _).mono ?_; rintro e w' ⟨rfl, rfl⟩; rw [hl])
    go_ret
    exact ⟨rfl, f0⟩
  | true =>
    by_cases ha0 : a < 0
    · rw [ok2 (by omega)]
      clear ok1 ok2 ok3 ok4
      go_enter Tryd.func29, Tryd.ntmps29
      go_wp2_with (go_at_call 15; refine (laneL_any _ _ _).mono ?_; rintro e w' ⟨rfl, rfl⟩; rw [hl])
      go_ret
      exact ⟨rfl, f0⟩
    · by_cases ha1 : 1000000 < a
      · rw [ok2 (by omega)]
        clear ok1 ok2 ok3 ok4
        go_enter Tryd.func29, Tryd.ntmps29
        go_wp2_with (go_at_call 15; refine (laneL_any _ _ _).mono ?_; rintro e w' ⟨rfl, rfl⟩; rw [hl])
        go_ret
        exact ⟨rfl, f0⟩
      · by_cases hg : g < 0
        · rw [ok4 hg]
          clear ok1 ok2 ok3 ok4
          go_enter Tryd.func29, Tryd.ntmps29
          go_wp2_with (go_at_call 15; refine (laneL_any _ _ _).mono ?_; rintro e w' ⟨rfl, rfl⟩; rw [hl])
          go_ret
          exact ⟨rfl, f0⟩
        · rw [ok3 hl (by omega)]
          clear ok1 ok2 ok3 ok4
          by_cases h1 : k = 1 ∨ k = 2 ∨ k = 3 ∨ k = 4
          · rcases h1 with rfl | rfl | rfl | rfl
            · have e : argB 1 g = decide (g ≤ 65536) := by unfold argB; simp; omega
              rw [e]
              go_enter Tryd.func29, Tryd.ntmps29
              go_wp2_with (go_at_call 15; refine (laneL_any _ _ _).mono ?_; rintro e w' ⟨rfl, rfl⟩; rw [hl])
              go_ret
              exact ⟨rfl, f0⟩
            · have e : argB 2 g = decide (g ≤ 1000000) := by unfold argB; simp; omega
              rw [e]
              go_enter Tryd.func29, Tryd.ntmps29
              go_wp2_with (go_at_call 15; refine (laneL_any _ _ _).mono ?_; rintro e w' ⟨rfl, rfl⟩; rw [hl])
              go_ret
              exact ⟨rfl, f0⟩
            · by_cases hg1 : 1 ≤ g
              · have e : argB 3 g = decide (g ≤ 999) := by unfold argB; simp; omega
                rw [e]
                go_enter Tryd.func29, Tryd.ntmps29
                go_wp2_with (go_at_call 15; refine (laneL_any _ _ _).mono ?_; rintro e w' ⟨rfl, rfl⟩; rw [hl])
                go_ret
                exact ⟨rfl, f0⟩
              · have e : argB 3 g = false := by unfold argB; simp; omega
                rw [e]
                go_enter Tryd.func29, Tryd.ntmps29
                go_wp2_with (go_at_call 15; refine (laneL_any _ _ _).mono ?_; rintro e w' ⟨rfl, rfl⟩; rw [hl])
                go_ret
                exact ⟨rfl, f0⟩
            · have e : argB 4 g = (g == 0) := by unfold argB; rw [Bool.eq_iff_iff]; simp
              rw [e]
              go_enter Tryd.func29, Tryd.ntmps29
              go_wp2_with (go_at_call 15; refine (laneL_any _ _ _).mono ?_; rintro e w' ⟨rfl, rfl⟩; rw [hl])
              go_ret
              exact ⟨rfl, f0⟩
          · have e : argB k g = false := by unfold argB; simp; omega
            rw [e]
            have k1 : (k == 1) = false := by rw [beq_eq_false_iff_ne]; omega
            have k2 : (k == 2) = false := by rw [beq_eq_false_iff_ne]; omega
            have k3 : (k == 3) = false := by rw [beq_eq_false_iff_ne]; omega
            have k4 : (k == 4) = false := by rw [beq_eq_false_iff_ne]; omega
            clear h1 e
            go_enter Tryd.func29, Tryd.ntmps29
            go_wp2_with (go_at_call 15; refine (laneL_any _ _ _).mono ?_; rintro e w' ⟨rfl, rfl⟩; rw [hl])
            go_ret
            exact ⟨rfl, f0⟩

theorem planL_any (v : Value) (fs : List Ft) (hl : fs.length ≤ 9223372036854775807) (w : World) (h : FtRow w v fs) :
    Calls Tryd.prog 9 #[v] w fun e w' => e = .returned (.bool (planB fs)) ∧ Fr [] w w' := by
  obtain ⟨a, cap, rfl⟩ := h.val
  have HH := Lib.hid h
  obtain ⟨m, hm⟩ : ∃ m, fs.length = m := ⟨_, rfl⟩
  rw [hm] at hl HH ⊢
  have HM := Lib.hid hm
  clear h hm
  go_enter Tryd.func9, Tryd.ntmps9
  go_wp2
  go_loopw [3] (fun i wr => ∃ k : Nat, i = .int .i64 k ∧ k ≤ m ∧ allOk (fs.take k) = true ∧ Fr [] w wr) (fun i _ => m - (intOf i).toNat)
  case atStart => exact ⟨0, rfl, by omega, rfl, Fr.refl _ _⟩
  case round =>
    rename_i wr
    obtain ⟨k, rfl, hk, hok, hF⟩ := hrel
    by_cases hlt : k < m
    · have hx := List.getElem?_eq_getElem (l := fs) (i := k) (by rw [HM.out]; exact hlt)
      obtain ⟨x, hxe⟩ : ∃ x, fs[k]'(by rw [HM.out]; exact hlt) = x := ⟨_, rfl⟩
      rw [hxe] at hx
      rcases HH.out.new hF with ⟨h1, _⟩ | ⟨g, off, cap', hv, hg, hcells⟩
      · rw [h1] at hx
        simp at hx
      rw [HM.out] at hv
      simp only [Value.slice.injEq] at hv
      obtain ⟨rfl, _, rfl⟩ := hv
      obtain ⟨c0, c1, c2, c3, c4⟩ := hcells k x hx
      have k0 : (0 : Int) ≤ (k : Int) := Int.natCast_nonneg _
      have k1 : (k : Int) < (m : Int) := by omega
      have HV := Lib.hid (fun W => validL_any x W)
      simp only [ftV] at HV
      have HF := Lib.hid hF
      have HX := Lib.hid hx
      have HO := Lib.hid hok
      clear hF hx hok hcells hxe
      cases ho : x.ok with
      | true =>
        have HT := Lib.hid (show allOk (fs.take (k + 1)) = true from by
          rw [List.take_add_one, HX.out]
          have := HO.out
          unfold allOk at this ⊢
          rw [List.all_append, this]
          simp [ho])
        rw [ho] at HV
        clear ho
        go_wp2_with (go_at_call 29; refine (HV.out _).mono ?_; rintro e w1 ⟨rfl, f1⟩)
        go_roundw
        case rel => exact ⟨k + 1, by go_num, by omega, HT.out, HF.out.step f1⟩
        case measure => simp [intOf]; omega
      | false =>
        have HP := Lib.hid (show planB fs = false from by
          unfold planB
          rw [Bool.and_eq_false_iff]
          right
          unfold allOk
          rw [List.all_eq_false]
          exact ⟨x, List.mem_of_getElem? HX.out, by simp [ho]⟩)
        rw [ho] at HV
        clear ho
        go_wp2_with (go_at_call 29; refine (HV.out _).mono ?_; rintro e w1 ⟨rfl, f1⟩)
        go_ret
        exact ⟨by rw [HP.out] <;> rfl, HF.out.step f1⟩
    · have hkm : k = m := by omega
      subst hkm
      have ht : fs.take k = fs := List.take_of_length_le (by rw [HM.out]; omega)
      rw [ht] at hok
      have HP := Lib.hid (show planB fs = decide (k ≤ 64) from by
        unfold planB
        rw [hok, HM.out, Bool.and_true])
      clear ht hok hlt
      by_cases h64 : k ≤ 64
      · have hd : decide ((k : Int) ≤ 64) = true := decide_eq_true (by omega)
        go_wp2
        go_ret
        exact ⟨by rw [HP.out, decide_eq_true h64] <;> rfl, hF⟩
      · have hd : decide ((k : Int) ≤ 64) = false := decide_eq_false (by omega)
        go_wp2
        go_ret
        exact ⟨by rw [HP.out, decide_eq_false h64] <;> rfl, hF⟩
end Go.Proofs.YtededfkenlhokaaDoor
