import Derived.Test.YtbilaapikclhlaaDoorHoldsA
namespace Go.Proofs.YtbilaapikclhlaaDoor
open Go.RowKit Go.Sort
set_option linter.unusedVariables false
set_option maxRecDepth 100000
set_option maxHeartbeats 16000000

theorem holds_D (s1 s2 s3 s : ByteArray) (p1 p2 p3 : Int) (w : World) (he : Env w) (l1 : s1.size ≤ 100) (l2 : s2.size ≤ 100) (l3 : s3.size ≤ 100) (l4 : s.size ≤ 100) (hv : addrB s1.data.toList p1 = true) (hg : goodP s = false) :
    Calls Tryd.prog 7 #[.agg #[.string s1, .int .i64 p1], .agg #[.string s2, .int .i64 p2], .agg #[.string s3, .int .i64 p3], .string s] w fun e w' => e = .returned (.bool true) ∧ Fr [] w w' := by
  have f0 : Fr [] w (((w.alloc (.cells #[.string s1, .int .i64 p1] 23)).alloc (.cells #[.string s2, .int .i64 p2] 23)).alloc (.cells #[.string s3, .int .i64 p3] 23)) := (((Fr.refl [] w).alloc _).alloc _).alloc _
  have HE := Lib.hid (he.new f0)
  clear he
  have h1 : ¬ 100 < (s1.size : Int) := by omega
  have h2 : ¬ 100 < (s2.size : Int) := by omega
  have h3 : ¬ 100 < (s3.size : Int) := by omega
  have h4 : ¬ 100 < (s.size : Int) := by omega
  have x0 : (((w.alloc (.cells #[.string s1, .int .i64 p1] 23)).alloc (.cells #[.string s2, .int .i64 p2] 23)).alloc (.cells #[.string s3, .int .i64 p3] 23)).cell? ⟨w.heap.size, 0, none⟩ = some (.string s1) := (((Fr.refl [] _).alloc _).alloc _ : Fr [] (w.alloc (.cells #[.string s1, .int .i64 p1] 23)) _).keep (by simp) (by simp)
  have x1 : (((w.alloc (.cells #[.string s1, .int .i64 p1] 23)).alloc (.cells #[.string s2, .int .i64 p2] 23)).alloc (.cells #[.string s3, .int .i64 p3] 23)).cell? ⟨w.heap.size, 1, none⟩ = some (.int .i64 p1) := (((Fr.refl [] _).alloc _).alloc _ : Fr [] (w.alloc (.cells #[.string s1, .int .i64 p1] 23)) _).keep (by simp) (by simp)
  have y0 : (((w.alloc (.cells #[.string s1, .int .i64 p1] 23)).alloc (.cells #[.string s2, .int .i64 p2] 23)).alloc (.cells #[.string s3, .int .i64 p3] 23)).cell? ⟨w.heap.size + 1, 0, none⟩ = some (.string s2) := ((Fr.refl [] _).alloc _ : Fr [] ((w.alloc (.cells #[.string s1, .int .i64 p1] 23)).alloc (.cells #[.string s2, .int .i64 p2] 23)) _).keep (newCell (w.alloc (.cells #[.string s1, .int .i64 p1] 23)) _ _ 0 rfl (by simp) rfl) (by simp)
  have y1 : (((w.alloc (.cells #[.string s1, .int .i64 p1] 23)).alloc (.cells #[.string s2, .int .i64 p2] 23)).alloc (.cells #[.string s3, .int .i64 p3] 23)).cell? ⟨w.heap.size + 1, 1, none⟩ = some (.int .i64 p2) := ((Fr.refl [] _).alloc _ : Fr [] ((w.alloc (.cells #[.string s1, .int .i64 p1] 23)).alloc (.cells #[.string s2, .int .i64 p2] 23)) _).keep (newCell (w.alloc (.cells #[.string s1, .int .i64 p1] 23)) _ _ 1 rfl (by simp) rfl) (by simp)
  have z0 : (((w.alloc (.cells #[.string s1, .int .i64 p1] 23)).alloc (.cells #[.string s2, .int .i64 p2] 23)).alloc (.cells #[.string s3, .int .i64 p3] 23)).cell? ⟨w.heap.size + 1 + 1, 0, none⟩ = some (.string s3) := newCell ((w.alloc (.cells #[.string s1, .int .i64 p1] 23)).alloc (.cells #[.string s2, .int .i64 p2] 23)) _ _ 0 rfl (by simp) rfl
  have z1 : (((w.alloc (.cells #[.string s1, .int .i64 p1] 23)).alloc (.cells #[.string s2, .int .i64 p2] 23)).alloc (.cells #[.string s3, .int .i64 p3] 23)).cell? ⟨w.heap.size + 1 + 1, 1, none⟩ = some (.int .i64 p3) := newCell ((w.alloc (.cells #[.string s1, .int .i64 p1] 23)).alloc (.cells #[.string s2, .int .i64 p2] 23)) _ _ 1 rfl (by simp) rfl
  have hp := addr_port hv
  obtain ⟨u, rfl⟩ := Int.eq_ofNat_of_zero_le hp.1
  have HT := Lib.hid (fun W he' => Text_ok s1 u (by omega) (by omega) hv W he')
  have HP := Lib.hid (fun W he' => parses_text s1 u hv l1 W he')
  have HV1 := Lib.hid hv
  clear hv
  generalize textB s1 u = t at HT HP
  go_enter Tryd.func7, Tryd.ntmps7
  go_wp2_with fail
  refine (HT.out _ HE.out).mono ?_
  rintro e w1 ⟨rfl, f1⟩
  have x0 := f1.keep x0 (by simp)
  have x1 := f1.keep x1 (by simp)
  have y0 := f1.keep y0 (by simp)
  have y1 := f1.keep y1 (by simp)
  have z0 := f1.keep z0 (by simp)
  have z1 := f1.keep z1 (by simp)
  have E1 := Lib.hid (HE.out.new f1)
  have F1 := f0.step f1
  clear f0 f1 HE
  go_wp2_with fail
  refine (HP.out _ E1.out).mono ?_
  rintro e w2 ⟨rfl, f2⟩
  have x0 := f2.keep x0 (by simp)
  have x1 := f2.keep x1 (by simp)
  have y0 := f2.keep y0 (by simp)
  have y1 := f2.keep y1 (by simp)
  have z0 := f2.keep z0 (by simp)
  have z1 := f2.keep z1 (by simp)
  have E2 := Lib.hid (E1.out.new f2)
  have F2 := F1.step f2
  clear F1 f2 E1 HT HP
  go_wp2_with fail
  have HQ := Lib.hid (fun W he' => parse_bad l4 hg W he')
  clear hg
  refine (HQ.out _ E2.out).mono ?_
  rintro e w3 ⟨rfl, f3⟩
  have f4 : Fr [] w3 (w3.alloc (.cells #[.string ⟨#[]⟩, .int .i64 0] 23)) := (Fr.refl [] w3).alloc _
  go_wp2_with fail
  have x0 := (f3.step f4).keep x0 (by simp)
  have x1 := (f3.step f4).keep x1 (by simp)
  have y0 := (f3.step f4).keep y0 (by simp)
  have y1 := (f3.step f4).keep y1 (by simp)
  have z0 := (f3.step f4).keep z0 (by simp)
  have z1 := (f3.step f4).keep z1 (by simp)
  have E5 := Lib.hid (E2.out.new (f3.step f4))
  have F5 := F2.step (f3.step f4)
  clear F2 E2 HQ
  generalize w3.alloc (.cells #[.string ⟨#[]⟩, .int .i64 0] 23) = w5 at x0 x1 y0 y1 z0 z1 E5 F5 ⊢
  clear f3 f4
  have HC := Lib.hid (fun (s p t q) W => compare_any (s, p) (t, q) W)
  have hr : ∀ W, (Op.equalIn 10000 23 (.agg #[.string s1, .int .i64 u]) (.agg #[.string s2, .int .i64 p2])).run Tryd.prog W = .ok (decide (((s1, (u : Int)) : Ad) = ((s2, p2) : Ad))) W := fun W => eqRaw ((s1, (u : Int)) : Ad) ((s2, p2) : Ad) W
  have hz : decide (((s1, (u : Int)) : Ad) = ((s2, p2) : Ad)) = (cmpA ((s1, (u : Int)) : Ad) ((s2, p2) : Ad) == 0) := by
    rw [Bool.eq_iff_iff]
    simp only [decide_eq_true_eq, beq_iff_eq]
    exact (cmpA_zero _ _).symm
  have ht := cmpA_trans ((s1, (u : Int)) : Ad) ((s2, p2) : Ad) ((s3, p3) : Ad)
  have hb := cmpA_range ((s1, (u : Int)) : Ad) ((s2, p2) : Ad)
  have e1 := cmpA_anti ((s1, (u : Int)) : Ad) ((s2, p2) : Ad)
  rw [hz] at hr
  clear hz
  generalize e2 : cmpA ((s1, (u : Int)) : Ad) ((s2, p2) : Ad) = X at hr ht hb e1
  generalize e3 : cmpA ((s2, p2) : Ad) ((s3, p3) : Ad) = Z at ht
  generalize e4 : cmpA ((s1, (u : Int)) : Ad) ((s3, p3) : Ad) = T at ht
  have HE4 := Lib.hid (And.intro e1 (And.intro e2 (And.intro e3 e4)))
  clear e1 e2 e3 e4
  have mixed : Tryd.prog.follows .mixedOrders = true := by kernel_rfl
  go_cut [108] from 73 to 108 (fun v wc => v = .bool false ∧ Fr [] w5 wc)
  case first =>
    have HTR := Lib.hid ht
    clear ht
    have kx0 : ∀ n os, (grow (w5.drewN n) os).cell? ⟨w.heap.size, 0, none⟩ = some (.string s1) := fun n os => cell_grown (cell_lt x0) x0 n os
    have kx1 : ∀ n os, (grow (w5.drewN n) os).cell? ⟨w.heap.size, 1, none⟩ = some (.int .i64 u) := fun n os => cell_grown (cell_lt x0) x1 n os
    have ky0 : ∀ n os, (grow (w5.drewN n) os).cell? ⟨w.heap.size + 1, 0, none⟩ = some (.string s2) := fun n os => cell_grown (cell_lt y0) y0 n os
    have ky1 : ∀ n os, (grow (w5.drewN n) os).cell? ⟨w.heap.size + 1, 1, none⟩ = some (.int .i64 p2) := fun n os => cell_grown (cell_lt y0) y1 n os
    have kz0 : ∀ n os, (grow (w5.drewN n) os).cell? ⟨w.heap.size + 1 + 1, 0, none⟩ = some (.string s3) := fun n os => cell_grown (cell_lt z0) z0 n os
    have kz1 : ∀ n os, (grow (w5.drewN n) os).cell? ⟨w.heap.size + 1 + 1, 1, none⟩ = some (.int .i64 p3) := fun n os => cell_grown (cell_lt z0) z1 n os
    clear x0 x1 y0 y1 z0 z1
    have hX : X = -1 ∨ X = 0 ∨ X = 1 := by omega
    have hZT : (Z ≤ 0 ∧ T ≤ 0) ∨ (Z ≤ 0 ∧ 0 < T ∧ X = 1) ∨ 0 < Z := by
      have := HTR.out
      omega
    have e1 := HE4.out.1
    have e2 := HE4.out.2.1
    have e3 := HE4.out.2.2.1
    have e4 := HE4.out.2.2.2
    rcases hX with rfl | rfl | rfl
    · rcases hZT with ⟨q1, q2⟩ | ⟨_, _, q⟩ | q1
      · go_quiet_grown ((go_at_call 17; exact Calls.grown_of (HC.out _ _ _ _ _)))
        go_wp2
        go_meet
        case' rel => skip
        all_goals first | exact ⟨rfl, fr_grow _ _ _⟩ | exact ⟨by (have q3 : ¬ 0 < T := by omega); simp [IntKind.wrap, IntKind.signed, IntKind.bits, q3]; done, fr_grow _ _ _⟩
      · omega
      · have q1' : ¬ Z ≤ 0 := by omega
        go_quiet_grown ((go_at_call 17; exact Calls.grown_of (HC.out _ _ _ _ _)))
        go_wp2
        go_meet
        case' rel => skip
        all_goals first | exact ⟨rfl, fr_grow _ _ _⟩ | exact ⟨by (have q3 : ¬ 0 < T := by omega); simp [IntKind.wrap, IntKind.signed, IntKind.bits, q3]; done, fr_grow _ _ _⟩
    · rcases hZT with ⟨q1, q2⟩ | ⟨_, _, q⟩ | q1
      · go_quiet_grown ((go_at_call 17; exact Calls.grown_of (HC.out _ _ _ _ _)))
        go_wp2
        go_meet
        case' rel => skip
        all_goals first | exact ⟨rfl, fr_grow _ _ _⟩ | exact ⟨by (have q3 : ¬ 0 < T := by omega); simp [IntKind.wrap, IntKind.signed, IntKind.bits, q3]; done, fr_grow _ _ _⟩
      · omega
      · have q1' : ¬ Z ≤ 0 := by omega
        go_quiet_grown ((go_at_call 17; exact Calls.grown_of (HC.out _ _ _ _ _)))
        go_wp2
        go_meet
        case' rel => skip
        all_goals first | exact ⟨rfl, fr_grow _ _ _⟩ | exact ⟨by (have q3 : ¬ 0 < T := by omega); simp [IntKind.wrap, IntKind.signed, IntKind.bits, q3]; done, fr_grow _ _ _⟩
    · go_quiet_grown ((go_at_call 17; exact Calls.grown_of (HC.out _ _ _ _ _)))
      go_wp2
      go_meet
      case' rel => skip
      all_goals first | exact ⟨rfl, fr_grow _ _ _⟩ | exact ⟨by (have q3 : ¬ 0 < T := by omega); simp [IntKind.wrap, IntKind.signed, IntKind.bits, q3]; done, fr_grow _ _ _⟩
  case rest =>
    obtain ⟨rfl, f6⟩ := hcut
    clear HC HE4 ht hr hb
    have x0 := f6.keep x0 (by simp)
    have x1 := f6.keep x1 (by simp)
    have y0 := f6.keep y0 (by simp)
    have y1 := f6.keep y1 (by simp)
    have z0 := f6.keep z0 (by simp)
    have z1 := f6.keep z1 (by simp)
    have E6 := Lib.hid (E5.out.new f6)
    have F6 := F5.step f6
    clear F5 E5 f6
    go_wp2_with fail
    have f7 : Fr [] wc (wc.alloc (.cells #[.string s1, .int .i64 u, .string s2, .int .i64 p2, .string s3, .int .i64 p3, .string s1, .int .i64 u] 23)) := (Fr.refl [] wc).alloc _
    have hrow : RowA (wc.alloc (.cells #[.string s1, .int .i64 u, .string s2, .int .i64 p2, .string s3, .int .i64 p3, .string s1, .int .i64 u] 23)) wc.heap.size 0 4 (four (s1, u) (s2, p2) (s3, p3)) := by
      refine ⟨fun i hi => ?_, fun i hi => ?_⟩
      · match i, hi with
        | 0, _ => simp [four]
        | 1, _ => simp [four]
        | 2, _ => simp [four]
        | 3, _ => simp [four]
      · match i, hi with
        | 0, _ => simp [four]
        | 1, _ => simp [four]
        | 2, _ => simp [four]
        | 3, _ => simp [four]
    have hsz : ∀ i, i < 4 → (four (s1, u) (s2, p2) (s3, p3) i).1.size ≤ 1000000 := by
      intro i hi
      match i, hi with
      | 0, _ => simp only [four]; omega
      | 1, _ => simp only [four]; omega
      | 2, _ => simp only [four]; omega
      | 3, _ => simp only [four]; omega
    clear x0 x1 y0 y1 z0 z1
    cases hb2 : addrB s2.data.toList p2
    · refine (sort_bad wc.heap.size 0 4 4 1 (four (s1, u) (s2, p2) (s3, p3)) _ (by omega) (by omega) hrow hsz (fun i hi => ?_) (fun _ => ?_) (.inr (by omega))).mono ?_
      · match i, hi with
        | 0, _ => exact HV1.out
      · exact hb2
      rintro e w8 ⟨rfl, f8⟩
      go_wp2_with fail
      refine (known_any _ (E6.out.new (f7.step f8))).mono ?_
      rintro e w9 ⟨rfl, f9⟩
      go_wp2_with fail
      go_ret
      exact ⟨rfl, ((F6.step f7).step f8).step f9⟩
    cases hb3 : addrB s3.data.toList p3
    · refine (sort_bad wc.heap.size 0 4 4 2 (four (s1, u) (s2, p2) (s3, p3)) _ (by omega) (by omega) hrow hsz (fun i hi => ?_) (fun _ => ?_) (.inr (by omega))).mono ?_
      · match i, hi with
        | 0, _ => exact HV1.out
        | 1, _ => exact hb2
      · exact hb3
      rintro e w8 ⟨rfl, f8⟩
      go_wp2_with fail
      refine (known_any _ (E6.out.new (f7.step f8))).mono ?_
      rintro e w9 ⟨rfl, f9⟩
      go_wp2_with fail
      go_ret
      exact ⟨rfl, ((F6.step f7).step f8).step f9⟩
    have hall : ∀ e, e ∈ csA (upto (four (s1, u) (s2, p2) (s3, p3)) 4) → okA e = true ∧ e.1.size ≤ 1000000 := by
      intro e he
      rcases four_mem _ _ _ e ((csA_mem _ e).1 he) with rfl | rfl | rfl
      · exact ⟨HV1.out, by simp only; omega⟩
      · exact ⟨hb2, by simp only; omega⟩
      · exact ⟨hb3, by simp only; omega⟩
    have hlen : (csA (upto (four (s1, u) (s2, p2) (s3, p3)) 4)).length ≤ 4 := by
      have := csA_length (upto (four (s1, u) (s2, p2) (s3, p3)) 4)
      rw [upto_length] at this
      exact this
    have hpos : 0 < (csA (upto (four (s1, u) (s2, p2) (s3, p3)) 4)).length := csA_pos _ (by rw [upto_length]; omega)
    have hst := csA_strict (upto (four (s1, u) (s2, p2) (s3, p3)) 4)
    have hcc := csA_csA (upto (four (s1, u) (s2, p2) (s3, p3)) 4)
    refine (sort_ok wc.heap.size 0 4 4 (four (s1, u) (s2, p2) (s3, p3)) _ (by omega) (by omega) hrow hsz (fun i hi => ?_)).mono ?_
    · match i, hi with
      | 0, _ => exact HV1.out
      | 1, _ => exact hb2
      | 2, _ => exact hb3
      | 3, _ => exact HV1.out
    generalize csA (upto (four (s1, u) (s2, p2) (s3, p3)) 4) = C at hall hlen hpos hst hcc
    rintro e w8 ⟨g, c, rfl, hR, hg, f8⟩
    have HA := Lib.hid (And.intro hall (And.intro hst hcc))
    clear hall hst hcc hb2 hb3 hrow hsz hg
    have F8 := (F6.step f7).step f8
    have E8 := Lib.hid (E6.out.new (f7.step f8))
    clear F6 E6 f7 f8
    have R8 := Lib.hid hR
    clear hR
    go_wp2_with fail
    refine (sort_ok g 0 C.length c (fun i => C[i]!) _ hpos (by omega) R8.out (fun i hi => ?_) (fun i hi => ?_)).mono ?_
    · simp only [getElem!_pos C i hi]
      exact (HA.out.1 _ (List.getElem_mem hi)).2
    · simp only [getElem!_pos C i hi]
      exact (HA.out.1 _ (List.getElem_mem hi)).1
    rw [upto_get, HA.out.2.2]
    rintro e w9 ⟨g2, c2, rfl, hR2, hg2, f9⟩
    have F9 := F8.step f9
    have E9 := Lib.hid (E8.out.new f9)
    have R9 := Lib.hid (And.intro (R8.out.new f9) hR2)
    clear F8 E8 f9 R8 hR2 hg2
    generalize hn : C.length = n at *
    have HN := Lib.hid hn
    clear hn
    go_wp2_with fail
    go_loopw [18] (fun i wr => ∃ j : Nat, i = .int .i64 j ∧ j ≤ n ∧ Fr [] w9 wr) (fun i _ => n - (intOf i).toNat)
    case atStart => exact ⟨0, rfl, by omega, Fr.refl _ _⟩
    case round =>
      obtain ⟨j, rfl, hj, fr⟩ := hrel
      by_cases hl : j < n
      · have hl' : (j : Int) < (n : Int) := by omega
        have a0 := (R9.out.1.new fr).s j hl
        have a1 := (R9.out.1.new fr).p j hl
        have b0 := (R9.out.2.new fr).s j hl
        have b1 := (R9.out.2.new fr).p j hl
        have c0 := (R9.out.1.new fr).s (j - 1) (by omega)
        have c1 := (R9.out.1.new fr).p (j - 1) (by omega)
        simp only [Nat.zero_add] at a0 a1 b0 b1 c0 c1
        have hlt : 0 < j → cmpA C[j - 1]! C[j]! < 0 := fun h => by
          rw [getElem!_pos C (j - 1) (by rw [HN.out]; omega), getElem!_pos C j (by rw [HN.out]; omega)]
          exact List.pairwise_iff_getElem.1 HA.out.2.1 (j - 1) j (by rw [HN.out]; omega) (by rw [HN.out]; omega) (by omega)
        have HL := Lib.hid hlt
        clear hlt
        generalize C[j]! = x at a0 a1 b0 b1 HL
        generalize C[j - 1]! = y at c0 c1 HL
        have hr : ∀ W, (Op.equalIn 10000 23 (.agg #[.string x.1, .int .i64 x.2]) (.agg #[.string x.1, .int .i64 x.2])).run Tryd.prog W = .ok true W := fun W => by rw [eqRaw]; simp
        rcases Nat.eq_zero_or_pos j with rfl | hj0
        · simp only [Nat.zero_mul, Nat.zero_add] at a0 a1 b0 b1
          clear c0 c1
          go_wp2_with fail
          go_quiet (fail)
          go_wp2_with fail
          go_roundw
          case rel => exact ⟨1, by go_num, by omega, fr.drewN _⟩
          case measure => simp [intOf]; omega
        · obtain ⟨i, rfl⟩ : ∃ i, j = i + 1 := ⟨j - 1, by omega⟩
          have hneg := HL.out hj0
          simp only [Nat.add_sub_cancel] at c0 c1
          have ka0 : ∀ n os, (grow (wr.drewN n) os).cell? ⟨g, (i + 1) * 2, none⟩ = some (.string x.1) := fun n os => cell_grown (cell_lt a0) a0 n os
          have ka1 : ∀ n os, (grow (wr.drewN n) os).cell? ⟨g, (i + 1) * 2 + 1, none⟩ = some (.int .i64 x.2) := fun n os => cell_grown (cell_lt a0) a1 n os
          have kb0 : ∀ n os, (grow (wr.drewN n) os).cell? ⟨g2, (i + 1) * 2, none⟩ = some (.string x.1) := fun n os => cell_grown (cell_lt b0) b0 n os
          have kb1 : ∀ n os, (grow (wr.drewN n) os).cell? ⟨g2, (i + 1) * 2 + 1, none⟩ = some (.int .i64 x.2) := fun n os => cell_grown (cell_lt b0) b1 n os
          have kc0 : ∀ n os, (grow (wr.drewN n) os).cell? ⟨g, i * 2, none⟩ = some (.string y.1) := fun n os => cell_grown (cell_lt c0) c0 n os
          have kc1 : ∀ n os, (grow (wr.drewN n) os).cell? ⟨g, i * 2 + 1, none⟩ = some (.int .i64 y.2) := fun n os => cell_grown (cell_lt c0) c1 n os
          clear a0 a1 b0 b1 c0 c1
          have hj0' : (0 : Int) < (i : Int) + 1 := by omega
          have hA : (0 : Int) ≤ (i : Int) + 1 := by omega
          have hB : (i : Int) + 1 < (n : Int) := by omega
          have hB2 : (i : Int) < (n : Int) := by omega
          have hw : IntKind.i64.wrap (i : Int) = (i : Int) := wrap_nat4 i (by omega)
          have D := fun W => compare_any y x W
          generalize cmpA y x = q at D hneg
          have HD := Lib.hid D
          clear D
          have hge : ¬ 0 ≤ q := by omega
          go_wp2_with fail
          go_quiet_grown ((go_at_call 17; exact Calls.grown_of (HD.out _)))
          go_wp2_with fail
          go_roundw
          case rel => exact ⟨i + 1 + 1, by go_num, by omega, fr.step (fr_grow _ _ _)⟩
          case measure => simp [intOf]; omega
      · have hl' : ¬ (j : Int) < (n : Int) := by omega
        go_wp2_with fail
        refine (known_any _ (E9.out.new fr)).mono ?_
        rintro e wz ⟨rfl, fz⟩
        go_wp2_with fail
        go_ret
        exact ⟨rfl, (F9.step fr).step fz⟩
end Go.Proofs.YtbilaapikclhlaaDoor
