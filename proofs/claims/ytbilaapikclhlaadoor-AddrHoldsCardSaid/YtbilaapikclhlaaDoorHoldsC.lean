import Derived.Test.YtbilaapikclhlaaDoorHoldsA
namespace Go.Proofs.YtbilaapikclhlaaDoor
open Go.RowKit Go.Sort
set_option linter.unusedVariables false
set_option maxRecDepth 100000
set_option maxHeartbeats 16000000

theorem holds_C (s1 s2 s3 s : ByteArray) (p1 p2 p3 : Int) (w : World) (he : Env w) (l1 : s1.size ≤ 100) (l2 : s2.size ≤ 100) (l3 : s3.size ≤ 100) (l4 : s.size ≤ 100) (hv : addrB s1.data.toList p1 = false) (hg : goodP s = true) :
    Calls Tryd.prog 7 #[.agg #[.string s1, .int .i64 p1], .agg #[.string s2, .int .i64 p2], .agg #[.string s3, .int .i64 p3], .string s] w fun e w' => e = .returned (.bool true) ∧ Fr [] w w' := by
  have f0 : Fr [] w (((w.alloc (.cells #[.string s1, .int .i64 p1] 23)).alloc (.cells #[.string s2, .int .i64 p2] 23)).alloc (.cells #[.string s3, .int .i64 p3] 23)) := (((Fr.refl [] w).alloc _).alloc _).alloc _
  have HE := Lib.hid (he.new f0)
  clear he
  have h1 : ¬ 100 < (s1.size : Int) := by omega
  have h2 : ¬ 100 < (s2.size : Int) := by omega
  have h3 : ¬ 100 < (s3.size : Int) := by omega
  have h4 : ¬ 100 < (s.size : Int) := by omega
  have x0 : (((w.alloc (.cells #[.string s1, .int .i64 p1] 23)).alloc (.cells #[.string s2, .int .i64 p2] 23)).alloc (.cells #[.string s3, .int .i64 p3] 23)).cell? ⟨w.heap.size, 0, none⟩ = some (.string s1) := (((Fr.refl [] _).alloc _).alloc _ : Fr [] (w.alloc (.cells #[.string s1, .int .i64 p1] 23)) _).keep (by simp) (by simp)
  have x1 : (((w.alloc (.cells #[.string s1, .int .i64 p1] 23)).alloc (.cells #[.string s2, .int .i64 p2] 23)).alloc (.cells #[.string s3, .int .i64 p3] 23)).cell? ⟨w.heap.size, 1, none⟩ = some (.int .i64 p1) := (((Fr.refl [] _).alloc _).alloc _ : Fr [] (w.alloc (.cells #[.string s1, .int .i64 p1] 23)) _).keep (by simp) (by simp)
  have y0 : (((w.alloc (.cells #[.string s1, .int .i64 p1] 23)).alloc (.cells #[.string s2, .int .i64 p2] 23)).alloc (.cells #[.string s3, .int .i64 p3] 23)).cell? ⟨w.heap.size + 1, 0, none⟩ = some (.string s2) := ((Fr.refl [] _).alloc _ : Fr [] ((w.alloc (.cells #[.string s1, .int .i64 p1] 23)).alloc (.cells #[.string s2, .int .i64 p2] 23)) _).keep (newCell (w.alloc (.cells #[.string s1, .int .i64 p1] 23)) _ _ 0 rfl (by simp) rfl) (by simp)
  have y1 : (((w.alloc (.cells #[.string s1, .int .i64 p1] 23)).alloc (.cells #[.string s2, .int .i64 p2] 23)).alloc (.cells #[.string s3, .int .i64 p3] 23)).cell? ⟨w.heap.size + 1, 1, none⟩ = some (.int .i64 p2) := ((Fr.refl [] _).alloc _ : Fr [] ((w.alloc (.cells #[.string s1, .int .i64 p1] 23)).alloc (.cells #[.string s2, .int .i64 p2] 23)) _).keep (newCell (w.alloc (.cells #[.string s1, .int .i64 p1] 23)) _ _ 1 rfl (by simp) rfl) (by simp)
  have z0 : (((w.alloc (.cells #[.string s1, .int .i64 p1] 23)).alloc (.cells #[.string s2, .int .i64 p2] 23)).alloc (.cells #[.string s3, .int .i64 p3] 23)).cell? ⟨w.heap.size + 1 + 1, 0, none⟩ = some (.string s3) := newCell ((w.alloc (.cells #[.string s1, .int .i64 p1] 23)).alloc (.cells #[.string s2, .int .i64 p2] 23)) _ _ 0 rfl (by simp) rfl
  have z1 : (((w.alloc (.cells #[.string s1, .int .i64 p1] 23)).alloc (.cells #[.string s2, .int .i64 p2] 23)).alloc (.cells #[.string s3, .int .i64 p3] 23)).cell? ⟨w.heap.size + 1 + 1, 1, none⟩ = some (.int .i64 p3) := newCell ((w.alloc (.cells #[.string s1, .int .i64 p1] 23)).alloc (.cells #[.string s2, .int .i64 p2] 23)) _ _ 1 rfl (by simp) rfl
  have HT := Lib.hid (fun W => Text_bad s1 p1 (by omega) hv W)
  have HV1 := Lib.hid hv
  clear hv
  go_enter Tryd.func7, Tryd.ntmps7
  go_wp2_with fail
  refine (HT.out _).mono ?_
  rintro e w2 ⟨rfl, f2⟩
  have x0 := f2.keep x0 (by simp)
  have x1 := f2.keep x1 (by simp)
  have y0 := f2.keep y0 (by simp)
  have y1 := f2.keep y1 (by simp)
  have z0 := f2.keep z0 (by simp)
  have z1 := f2.keep z1 (by simp)
  have E2 := Lib.hid (HE.out.new f2)
  have F2 := f0.step f2
  clear f0 f2 HE HT
  go_wp2_with fail
  obtain ⟨nm, v, hv1, hv2, hv3, hv4, hv5⟩ := parse_good l4 hg
  have HX := Lib.hid (And.intro hv3 hv4)
  have HQ := Lib.hid hv5
  have HT := Lib.hid (fun W he' => Text_ok nm v (by omega) (by omega) hv3 W he')
  rw [hv4] at HT
  clear hv3 hv4 hv5 hg
  refine (HQ.out _ E2.out).mono ?_
  rintro e w3 ⟨rfl, f3⟩
  have f4 : Fr [] w3 (w3.alloc (.cells #[.string nm, .int .i64 v] 23)) := (Fr.refl [] w3).alloc _
  go_wp2_with fail
  refine (HT.out _ (E2.out.new (f3.step f4))).mono ?_
  rintro e w5 ⟨rfl, f5⟩
  have x0 := ((f3.step f4).step f5).keep x0 (by simp)
  have x1 := ((f3.step f4).step f5).keep x1 (by simp)
  have y0 := ((f3.step f4).step f5).keep y0 (by simp)
  have y1 := ((f3.step f4).step f5).keep y1 (by simp)
  have z0 := ((f3.step f4).step f5).keep z0 (by simp)
  have z1 := ((f3.step f4).step f5).keep z1 (by simp)
  have E5 := Lib.hid (E2.out.new ((f3.step f4).step f5))
  have F5 := F2.step ((f3.step f4).step f5)
  clear F2 E2 f3 f4 f5 HX HQ HT
  go_wp2_with fail
  have HC := Lib.hid (fun (s p t q) W => compare_any (s, p) (t, q) W)
  have hr : ∀ W, (Op.equalIn 10000 23 (.agg #[.string s1, .int .i64 p1]) (.agg #[.string s2, .int .i64 p2])).run Tryd.prog W = .ok (decide (((s1, (p1 : Int)) : Ad) = ((s2, p2) : Ad))) W := fun W => eqRaw ((s1, (p1 : Int)) : Ad) ((s2, p2) : Ad) W
  have hz : decide (((s1, (p1 : Int)) : Ad) = ((s2, p2) : Ad)) = (cmpA ((s1, (p1 : Int)) : Ad) ((s2, p2) : Ad) == 0) := by
    rw [Bool.eq_iff_iff]
    simp only [decide_eq_true_eq, beq_iff_eq]
    exact (cmpA_zero _ _).symm
  have ht := cmpA_trans ((s1, (p1 : Int)) : Ad) ((s2, p2) : Ad) ((s3, p3) : Ad)
  have hb := cmpA_range ((s1, (p1 : Int)) : Ad) ((s2, p2) : Ad)
  have e1 := cmpA_anti ((s1, (p1 : Int)) : Ad) ((s2, p2) : Ad)
  rw [hz] at hr
  clear hz
  generalize e2 : cmpA ((s1, (p1 : Int)) : Ad) ((s2, p2) : Ad) = X at hr ht hb e1
  generalize e3 : cmpA ((s2, p2) : Ad) ((s3, p3) : Ad) = Z at ht
  generalize e4 : cmpA ((s1, (p1 : Int)) : Ad) ((s3, p3) : Ad) = T at ht
  have HE4 := Lib.hid (And.intro e1 (And.intro e2 (And.intro e3 e4)))
  clear e1 e2 e3 e4
  have mixed : Tryd.prog.follows .mixedOrders = true := by kernel_rfl
  go_cut [108] from 73 to 108 (fun v wc => v = .bool false ∧ Fr [] w5 wc)
  case first =>
    have HTR := Lib.hid ht
    clear ht
    have kx0 : ∀ n os, (grow (w5.drewN n) os).cell? ⟨w.heap.size, 0, none⟩ = some (.string s1) := fun n os => cell_grown (cell_lt x0) x0 n os
    have kx1 : ∀ n os, (grow (w5.drewN n) os).cell? ⟨w.heap.size, 1, none⟩ = some (.int .i64 p1) := fun n os => cell_grown (cell_lt x0) x1 n os
    have ky0 : ∀ n os, (grow (w5.drewN n) os).cell? ⟨w.heap.size + 1, 0, none⟩ = some (.string s2) := fun n os => cell_grown (cell_lt y0) y0 n os
    have ky1 : ∀ n os, (grow (w5.drewN n) os).cell? ⟨w.heap.size + 1, 1, none⟩ = some (.int .i64 p2) := fun n os => cell_grown (cell_lt y0) y1 n os
    have kz0 : ∀ n os, (grow (w5.drewN n) os).cell? ⟨w.heap.size + 1 + 1, 0, none⟩ = some (.string s3) := fun n os => cell_grown (cell_lt z0) z0 n os
    have kz1 : ∀ n os, (grow (w5.drewN n) os).cell? ⟨w.heap.size + 1 + 1, 1, none⟩ = some (.int .i64 p3) := fun n os => cell_grown (cell_lt z0) z1 n os
    clear x0 x1 y0 y1 z0 z1
    have hX : X = -1 ∨ X = 0 ∨ X = 1 := by omega
    have hZT : (Z ≤ 0 ∧ T ≤ 0) ∨ (Z ≤ 0 ∧ 0 < T ∧ X = 1) ∨ 0 < Z := by
      have := HTR.out
      omega
    have e1 := HE4.out.1
    have e2 := HE4.out.2.1
    have e3 := HE4.out.2.2.1
    have e4 := HE4.out.2.2.2
    rcases hX with rfl | rfl | rfl
    · rcases hZT with ⟨q1, q2⟩ | ⟨_, _, q⟩ | q1
      · go_quiet_grown ((go_at_call 17; exact Calls.grown_of (HC.out _ _ _ _ _)))
        go_wp2
        go_meet
        case' rel => skip
        all_goals first | exact ⟨rfl, fr_grow _ _ _⟩ | exact ⟨by (have q3 : ¬ 0 < T := by omega); simp [IntKind.wrap, IntKind.signed, IntKind.bits, q3]; done, fr_grow _ _ _⟩
      · omega
      · have q1' : ¬ Z ≤ 0 := by omega
        go_quiet_grown ((go_at_call 17; exact Calls.grown_of (HC.out _ _ _ _ _)))
        go_wp2
        go_meet
        case' rel => skip
        all_goals first | exact ⟨rfl, fr_grow _ _ _⟩ | exact ⟨by (have q3 : ¬ 0 < T := by omega); simp [IntKind.wrap, IntKind.signed, IntKind.bits, q3]; done, fr_grow _ _ _⟩
    · rcases hZT with ⟨q1, q2⟩ | ⟨_, _, q⟩ | q1
      · go_quiet_grown ((go_at_call 17; exact Calls.grown_of (HC.out _ _ _ _ _)))
        go_wp2
        go_meet
        case' rel => skip
        all_goals first | exact ⟨rfl, fr_grow _ _ _⟩ | exact ⟨by (have q3 : ¬ 0 < T := by omega); simp [IntKind.wrap, IntKind.signed, IntKind.bits, q3]; done, fr_grow _ _ _⟩
      · omega
      · have q1' : ¬ Z ≤ 0 := by omega
        go_quiet_grown ((go_at_call 17; exact Calls.grown_of (HC.out _ _ _ _ _)))
        go_wp2
        go_meet
        case' rel => skip
        all_goals first | exact ⟨rfl, fr_grow _ _ _⟩ | exact ⟨by (have q3 : ¬ 0 < T := by omega); simp [IntKind.wrap, IntKind.signed, IntKind.bits, q3]; done, fr_grow _ _ _⟩
    · go_quiet_grown ((go_at_call 17; exact Calls.grown_of (HC.out _ _ _ _ _)))
      go_wp2
      go_meet
      case' rel => skip
      all_goals first | exact ⟨rfl, fr_grow _ _ _⟩ | exact ⟨by (have q3 : ¬ 0 < T := by omega); simp [IntKind.wrap, IntKind.signed, IntKind.bits, q3]; done, fr_grow _ _ _⟩
  case rest =>
    obtain ⟨rfl, f6⟩ := hcut
    clear HC HE4 ht hr hb
    have x0 := f6.keep x0 (by simp)
    have x1 := f6.keep x1 (by simp)
    have y0 := f6.keep y0 (by simp)
    have y1 := f6.keep y1 (by simp)
    have z0 := f6.keep z0 (by simp)
    have z1 := f6.keep z1 (by simp)
    have E6 := Lib.hid (E5.out.new f6)
    have F6 := F5.step f6
    clear F5 E5 f6
    go_wp2_with fail
    have f7 : Fr [] wc (wc.alloc (.cells #[.string s1, .int .i64 p1, .string s2, .int .i64 p2, .string s3, .int .i64 p3, .string s1, .int .i64 p1] 23)) := (Fr.refl [] wc).alloc _
    have hrow : RowA (wc.alloc (.cells #[.string s1, .int .i64 p1, .string s2, .int .i64 p2, .string s3, .int .i64 p3, .string s1, .int .i64 p1] 23)) wc.heap.size 0 4 (four (s1, p1) (s2, p2) (s3, p3)) := by
      refine ⟨fun i hi => ?_, fun i hi => ?_⟩
      · match i, hi with
        | 0, _ => simp [four]
        | 1, _ => simp [four]
        | 2, _ => simp [four]
        | 3, _ => simp [four]
      · match i, hi with
        | 0, _ => simp [four]
        | 1, _ => simp [four]
        | 2, _ => simp [four]
        | 3, _ => simp [four]
    have hsz : ∀ i, i < 4 → (four (s1, p1) (s2, p2) (s3, p3) i).1.size ≤ 1000000 := by
      intro i hi
      match i, hi with
      | 0, _ => simp only [four]; omega
      | 1, _ => simp only [four]; omega
      | 2, _ => simp only [four]; omega
      | 3, _ => simp only [four]; omega
    clear x0 x1 y0 y1 z0 z1
    refine (sort_bad wc.heap.size 0 4 4 0 (four (s1, p1) (s2, p2) (s3, p3)) _ (by omega) (by omega) hrow hsz (fun i hi => ?_) (fun _ => ?_) (.inr (by omega))).mono ?_
    · omega
    · exact HV1.out
    rintro e w8 ⟨rfl, f8⟩
    go_wp2_with fail
    refine (known_any _ (E6.out.new (f7.step f8))).mono ?_
    rintro e w9 ⟨rfl, f9⟩
    go_wp2_with fail
    go_ret
    exact ⟨rfl, ((F6.step f7).step f8).step f9⟩
end Go.Proofs.YtbilaapikclhlaaDoor
