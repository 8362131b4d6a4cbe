/- Contract of the reference's Parse of addresses. -/
import Derived.Test.YtbilaapikclhlaaDoorRefA
namespace Go.Proofs.YtbilaapikclhlaaDoor
open Go.RowKit Go.Sort
set_option linter.unusedVariables false
set_option maxRecDepth 100000
set_option maxHeartbeats 4000000

theorem take_snoc (s : ByteArray) (k : Nat) (h : k < s.size) : s.data.toList.take (k + 1) = s.data.toList.take k ++ [s[k]] := by
  rw [List.take_succ_eq_append_getElem (by simpa using h)]; rfl
theorem drop_at (s : ByteArray) (k : Nat) (h : k < s.size) : s.data.toList.drop k = s[k] :: s.data.toList.drop (k + 1) := by
  rw [List.drop_eq_getElem_cons (by simpa using h)]; rfl
theorem colon_end (s : ByteArray) (k : Nat) (hk : k ≤ s.size) (h : ∀ c ∈ s.data.toList.take k, c ≠ 58) (he : (hl : k < s.size) → s[k] = 58) : ColonAt s k := by
  refine ⟨hk, h, fun hl => ?_⟩
  have h1 := drop_at s k hl
  rw [he hl] at h1
  rw [← h1, List.take_append_drop]
/-- The number that the bytes behind the colon spell, up to j. -/
def pv (s : ByteArray) (k j : Nat) : Nat := dval ((s.data.toList.drop (k + 1)).take (j - (k + 1)))
theorem pv_start (s : ByteArray) (k : Nat) : pv s k (k + 1) = 0 := by simp [pv, dval]
theorem pv_step (s : ByteArray) (k j : Nat) (hj : k + 1 ≤ j) (hl : j < s.size) : pv s k (j + 1) = pv s k j * 10 + ((s[j]).toNat - 48) := by
  unfold pv
  have hlen : j - (k + 1) < (s.data.toList.drop (k + 1)).length := by simp; omega
  have e : j + 1 - (k + 1) = (j - (k + 1)) + 1 := by omega
  rw [e, List.take_succ_eq_append_getElem hlen, dval_snoc]
  have : (s.data.toList.drop (k + 1))[j - (k + 1)]'hlen = s[j] := by
    rw [List.getElem_drop]
    have e : k + 1 + (j - (k + 1)) = j := by omega
    simp only [e]
    rfl
  rw [this]
theorem pv_end (s : ByteArray) (k j : Nat) (h : s.size ≤ j) : pv s k j = dval (s.data.toList.drop (k + 1)) := by
  unfold pv
  rw [List.take_of_length_le (by simp; omega)]
theorem pv_lt (s : ByteArray) (k j : Nat) (h : ∀ i, k + 1 ≤ i → i < j → (hl : i < s.size) → isDig s[i]) (hj : j ≤ k + 7) (hjs : j ≤ s.size) (hkj : k + 1 ≤ j) : pv s k j ≤ 999999 := by
  unfold pv
  have h1 := dval_lt ((s.data.toList.drop (k + 1)).take (j - (k + 1))) (fun c hc => by
    obtain ⟨i, hi, rfl⟩ := List.mem_iff_getElem.1 hc
    have hi' : i < j - (k + 1) := by simp at hi; omega
    rw [List.getElem_take, List.getElem_drop]
    exact h (k + 1 + i) (by omega) (by omega) (by omega)) 0
  have h2 : ((s.data.toList.drop (k + 1)).take (j - (k + 1))).length ≤ 6 := by simp; omega
  have h3 : (10 : Nat) ^ ((s.data.toList.drop (k + 1)).take (j - (k + 1))).length ≤ 10 ^ 6 := Nat.pow_le_pow_right (by omega) h2
  have h4 : (10 : Nat) ^ 6 = 1000000 := rfl
  unfold dval
  omega
theorem digitB_iff (c : UInt8) : digitB c.toNat = true ↔ isDig c := by simp [digitB, isDig]

theorem refParse_any (s : ByteArray) (hs : s.size ≤ 100000) (w : World) :
    Calls Tryd.prog 15 #[.string s] w fun e w' => e = .returned (.tuple #[.agg #[.string (parsedA s).1, .int .i64 (parsedA s).2], .bool (goodP s)]) ∧ Fr [] w w' := by
  have f0 : Fr [] w (w.alloc (.cells #[.string ⟨#[]⟩, .int .i64 0] 23)) := (Fr.refl [] w).alloc _
  go_enter Tryd.func15, Tryd.ntmps15
  go_wp2
  go_loop [4] (fun i => ∃ k : Nat, k ≤ s.size ∧ i = .int .i64 k ∧ Hid (∀ c ∈ s.data.toList.take k, c ≠ 58)) (fun i => s.size - (intOf i).toNat)
  case atStart => exact ⟨0, by omega, rfl, Lib.hid (fun c hc => by simp at hc)⟩
  case round =>
    obtain ⟨k, hk, rfl, hnc⟩ := hrel
    by_cases hl : k < s.size
    · have hl' : (k : Int) < (s.size : Int) := by omega
      by_cases hc : (s[k]).toNat = 58
      · have hC := Lib.hid (colon_end s k hk hnc.out (fun _ => by exact UInt8.toNat_inj.1 hc))
        have hcb : (((s[k]).toNat : Int) != 58) = false := by simp; omega
        go_wp2_with fail
        go_loopw [6] (fun i wr => ∃ j : Nat, i = .int .i64 j ∧ k + 1 ≤ j ∧ j ≤ s.size ∧ j ≤ k + 7 ∧ wr.cell? ⟨w.heap.size + 1, 0, none⟩ = some (.string (s.extract 0 k)) ∧ wr.cell? ⟨w.heap.size + 1, 1, none⟩ = some (.int .i64 (pv s k j)) ∧ (∀ o, wr.frozen? ⟨w.heap.size + 1, o, none⟩ = false) ∧
          wr.cell? ⟨w.heap.size, 0, none⟩ = some (.string ⟨#[]⟩) ∧ wr.cell? ⟨w.heap.size, 1, none⟩ = some (.int .i64 0) ∧ (∀ o, wr.frozen? ⟨w.heap.size, o, none⟩ = false) ∧ Hid (∀ i, k + 1 ≤ i → i < j → (hl : i < s.size) → isDig s[i]) ∧ Fr [] w wr) (fun i _ => s.size + 8 - (intOf i).toNat)
        case atStart =>
          have hp0 := pv_start s k
          exact ⟨k + 1, by go_num, by omega, by omega, by omega, newCell (w.alloc (.cells #[.string ⟨#[]⟩, .int .i64 0] 23)) _ _ 0 rfl (by simp) rfl, by rw [hp0]; exact newCell (w.alloc (.cells #[.string ⟨#[]⟩, .int .i64 0] 23)) _ _ 1 rfl (by simp) rfl, fun o => by simp, by simp, by simp, fun o => by simp, Lib.hid (fun i h1 h2 => by omega), f0.alloc _⟩
        case round =>
          obtain ⟨j, rfl, hj1, hj2, hj3, a0, a1, af, z0, z1, zf, hd, fr⟩ := hrel
          by_cases hlj : j < s.size
          · have hlj' : (j : Int) < (s.size : Int) := by omega
            have D := Lib.hid (fun W => digit_any (s[j]).toNat W)
            have FF := fr
            cases hdg : digitB (s[j]).toNat
            · rw [hdg] at D
              have HB := Lib.hid (bad_digit hC.out hj1 hlj (.inl (fun h => by rw [(digitB_iff s[j]).2 h] at hdg; cases hdg)))
              clear hdg
              go_wp2_with fail
              refine (D.out _).mono ?_
              rintro e w' ⟨rfl, rfl⟩
              go_wp2_with fail
              refine bodyPost_ret (v := .tuple #[.agg #[.string ⟨#[]⟩, .int .i64 0], .bool false]) (by simp [results, Tryd.results15, go_sem, z0, z1]) rfl ⟨?_, ?_⟩
              · rw [(goodF HB.out).1, HB.out]
              · exact (FF.setCell (by simp) _).setCell (by simp) _

            · rw [hdg] at D
              have hdj : isDig s[j] := (digitB_iff s[j]).1 hdg
              clear hdg
              by_cases hk6 : k + 6 < j
              · have hk6' : (k : Int) + 6 < (j : Int) := by omega
                have HB := Lib.hid (bad_digit hC.out hj1 hlj (.inr hk6))
                go_wp2_with fail
                refine (D.out _).mono ?_
                rintro e w' ⟨rfl, rfl⟩
                go_wp2_with fail
                refine bodyPost_ret (v := .tuple #[.agg #[.string ⟨#[]⟩, .int .i64 0], .bool false]) (by simp [results, Tryd.results15, go_sem, z0, z1]) rfl ⟨?_, ?_⟩
                · rw [(goodF HB.out).1, HB.out]
                · exact (FF.setCell (by simp) _).setCell (by simp) _

              · have hk6' : ¬ (k : Int) + 6 < (j : Int) := by omega
                have hpl := pv_lt s k j hd.out hj3 (by omega) hj1
                have hps := pv_step s k j hj1 hlj
                have hd2 : Hid (∀ i, k + 1 ≤ i → i < j + 1 → (hl : i < s.size) → isDig s[i]) := Lib.hid (fun i h1 h2 h3 => by
                  by_cases e : i = j
                  · subst e
                    exact hdj
                  · exact hd.out i h1 (by omega) h3)
                have hc1 := hdj.1
                have hc2 := hdj.2
                have PS := Lib.hid hps
                clear hps hdj
                generalize pv s k j = v at a1 hpl PS
                go_wp2_with fail
                refine (D.out _).mono ?_
                rintro e w' ⟨rfl, rfl⟩
                go_wp2_with fail
                go_region
                go_wp2_with fail
                go_roundw
                case rel =>
                  refine ⟨j + 1, by go_num, by omega, by omega, by omega, (World.cell?_setCell_other _ _ _ _ (by simp)).trans a0, ?_, fun o => by simpa using af o, (World.cell?_setCell_other _ _ _ _ (by simp)).trans z0, (World.cell?_setCell_other _ _ _ _ (by simp)).trans z1, fun o => by simpa using zf o, hd2, (fr.drew).setCell (by simp) _⟩
                  show (wr.setCell _ _).cell? _ = _
                  rw [World.cell?_setCell_same _ _ _ a1, PS.out]
                  have e1 : ((v * 10 + ((s[j]).toNat - 48) : Nat) : Int) = 10 * (v : Int) + (((s[j]).toNat : Int) - 48) := by omega
                  rw [e1]
                case measure => simp [intOf]; omega
          · have hlj' : ¬ (j : Int) < (s.size : Int) := by omega
            have hpl := pv_lt s k j hd.out hj3 (by omega) hj1
            have hvd := pv_end s k j (by omega)
            generalize pv s k j = v at a1 hpl hvd
            have hzlt := cell_lt z0
            have HG := Lib.hid (good_iff hC.out (s.extract 0 k) (by simp) v hvd)
            have hns : (s.extract 0 k).size ≤ 1000000 := by simp [ByteArray.size_extract]; omega
            have hV := fun W => refValid_any (s.extract 0 k) v hns W
            have HT := Lib.hid (fun W => refText_any (s.extract 0 k) v hns (by omega) W)
            clear hvd
            generalize s.extract 0 k = nm at a0 HG hV HT hns
            cases hv : addrB nm.data.toList v
            · rw [hv] at hV
              have HV := Lib.hid hV
              have HB := Lib.hid (show goodP s = false by rw [HG.out.1, hv]; rfl)
              clear hV hv
              go_wp2_with fail
              refine (HV.out _).mono ?_
              rintro e w1 ⟨rfl, f1⟩
              have z0 := f1.keep z0 (by simp)
              have z1 := f1.keep z1 (by simp)
              have zf : ∀ o, w1.frozen? ⟨w.heap.size, o, none⟩ = false := fun o => by rw [f1.frozen (by assumption) (by simp)]; exact zf o
              have FF := fr.step f1
              go_wp2_with fail
              refine bodyPost_ret (v := .tuple #[.agg #[.string ⟨#[]⟩, .int .i64 0], .bool false]) (by simp [results, Tryd.results15, go_sem, z0, z1]) rfl ⟨?_, ?_⟩
              · rw [(goodF HB.out).1, HB.out]
              · exact (FF.setCell (by simp) _).setCell (by simp) _

            · rw [hv] at hV
              have HV := Lib.hid hV
              clear hV
              by_cases ht : textB nm v = s
              · have hgt : goodP s = true := by rw [HG.out.1, hv, ht]; simp
                have HX := Lib.hid (And.intro hgt (HG.out.2 hgt))
                rw [ht] at HT
                clear hv ht hgt
                go_wp2_with fail
                refine (HV.out _).mono ?_
                rintro e w1 ⟨rfl, f1⟩
                have a0 := f1.keep a0 (by simp)
                have a1 := f1.keep a1 (by simp)
                go_wp2_with fail
                refine (HT.out _).mono ?_
                rintro e w2 ⟨rfl, f2⟩
                have a0 := f2.keep a0 (by simp)
                have a1 := f2.keep a1 (by simp)
                have z0 := (f1.step f2).keep z0 (by simp)
                have z1 := (f1.step f2).keep z1 (by simp)
                have zf : ∀ o, w2.frozen? ⟨w.heap.size, o, none⟩ = false := fun o => by rw [(f1.step f2).frozen (by assumption) (by simp)]; exact zf o
                have FF := (fr.step f1).step f2
                go_wp2_with fail
                refine bodyPost_ret (v := .tuple #[.agg #[.string nm, .int .i64 v], .bool true]) (by simp [results, Tryd.results15, go_sem, z0, z1]) rfl ⟨?_, ?_⟩
                · rw [(goodT HX.out.1).1, HX.out.1, HX.out.2.1, HX.out.2.2]
                · exact (FF.setCell (by simp) _).setCell (by simp) _
              · have hne2 : ((textB nm v).toList == s.toList) = false := by simp [toList_ne ht]
                have HB := Lib.hid (show goodP s = false by rw [HG.out.1, hv, decide_eq_false ht]; rfl)
                clear hv ht
                generalize textB nm v = t at HT hne2
                go_wp2_with fail
                refine (HV.out _).mono ?_
                rintro e w1 ⟨rfl, f1⟩
                have a0 := f1.keep a0 (by simp)
                have a1 := f1.keep a1 (by simp)
                go_wp2_with fail
                refine (HT.out _).mono ?_
                rintro e w2 ⟨rfl, f2⟩
                have z0 := (f1.step f2).keep z0 (by simp)
                have z1 := (f1.step f2).keep z1 (by simp)
                have zf : ∀ o, w2.frozen? ⟨w.heap.size, o, none⟩ = false := fun o => by rw [(f1.step f2).frozen (by assumption) (by simp)]; exact zf o
                have FF := (fr.step f1).step f2
                go_wp2_with fail
                refine bodyPost_ret (v := .tuple #[.agg #[.string ⟨#[]⟩, .int .i64 0], .bool false]) (by simp [results, Tryd.results15, go_sem, z0, z1]) rfl ⟨?_, ?_⟩
                · rw [(goodF HB.out).1, HB.out]
                · exact (FF.setCell (by simp) _).setCell (by simp) _

      · have hcb : (((s[k]).toNat : Int) != 58) = true := by simp; omega
        have hn2 := Lib.hid (show ∀ c ∈ s.data.toList.take (k + 1), c ≠ 58 by
          rw [take_snoc s k hl]
          intro c hm
          rcases List.mem_append.1 hm with hm | hm
          · exact hnc.out c hm
          · rw [List.mem_singleton] at hm
            subst hm
            exact fun e => hc (by rw [e]; rfl))
        go_wp2
        go_round
        case rel => exact ⟨k + 1, by omega, by go_num, hn2⟩
        case measure => simp [intOf]; omega
    · have hl' : ¬ (k : Int) < (s.size : Int) := by omega
      have hC := Lib.hid (colon_end s k hk hnc.out (fun h => absurd h hl))
      go_wp2_with fail
      refine wp_loop_rounds 1 ?_
      rw [rounds_succ]
      have a0 : ((w.alloc (.cells #[.string ⟨#[]⟩, .int .i64 0] 23)).alloc (.cells #[.string (s.extract 0 k), .int .i64 0] 23)).cell? ⟨w.heap.size + 1, 0, none⟩ = some (.string (s.extract 0 k)) := newCell (w.alloc (.cells #[.string ⟨#[]⟩, .int .i64 0] 23)) _ _ 0 rfl (by simp) rfl
      obtain ⟨v, hv0⟩ : ∃ v : Nat, v = 0 := ⟨0, rfl⟩
      have a1 : ((w.alloc (.cells #[.string ⟨#[]⟩, .int .i64 0] 23)).alloc (.cells #[.string (s.extract 0 k), .int .i64 0] 23)).cell? ⟨w.heap.size + 1, 1, none⟩ = some (.int .i64 v) := by
        rw [hv0]
        exact newCell (w.alloc (.cells #[.string ⟨#[]⟩, .int .i64 0] 23)) _ _ 1 rfl (by simp) rfl
      have z0 : ((w.alloc (.cells #[.string ⟨#[]⟩, .int .i64 0] 23)).alloc (.cells #[.string (s.extract 0 k), .int .i64 0] 23)).cell? ⟨w.heap.size, 0, none⟩ = some (.string ⟨#[]⟩) := by simp
      have z1 : ((w.alloc (.cells #[.string ⟨#[]⟩, .int .i64 0] 23)).alloc (.cells #[.string (s.extract 0 k), .int .i64 0] 23)).cell? ⟨w.heap.size, 1, none⟩ = some (.int .i64 0) := by simp
      have zf : ∀ o, ((w.alloc (.cells #[.string ⟨#[]⟩, .int .i64 0] 23)).alloc (.cells #[.string (s.extract 0 k), .int .i64 0] 23)).frozen? ⟨w.heap.size, o, none⟩ = false := fun o => by simp
      have fr : Fr [] w ((w.alloc (.cells #[.string ⟨#[]⟩, .int .i64 0] 23)).alloc (.cells #[.string (s.extract 0 k), .int .i64 0] 23)) := f0.alloc _
      have hvd : v = dval (s.data.toList.drop (k + 1)) := by rw [hv0, List.drop_eq_nil_of_le (by simp; omega)]; rfl
      have hpl : v ≤ 999999 := by omega
      clear hv0
      generalize ((w.alloc (.cells #[.string ⟨#[]⟩, .int .i64 0] 23)).alloc (.cells #[.string (s.extract 0 k), .int .i64 0] 23)) = wr at a0 a1 z0 z1 zf fr ⊢
      have hzlt := cell_lt z0
      have HG := Lib.hid (good_iff hC.out (s.extract 0 k) (by simp) v hvd)
      have hns : (s.extract 0 k).size ≤ 1000000 := by simp [ByteArray.size_extract]; omega
      have hV := fun W => refValid_any (s.extract 0 k) v hns W
      have HT := Lib.hid (fun W => refText_any (s.extract 0 k) v hns (by omega) W)
      clear hvd
      generalize s.extract 0 k = nm at a0 HG hV HT hns
      cases hv : addrB nm.data.toList v
      · rw [hv] at hV
        have HV := Lib.hid hV
        have HB := Lib.hid (show goodP s = false by rw [HG.out.1, hv]; rfl)
        clear hV hv
        go_wp2_with fail
        refine (HV.out _).mono ?_
        rintro e w1 ⟨rfl, f1⟩
        have z0 := f1.keep z0 (by simp)
        have z1 := f1.keep z1 (by simp)
        have zf : ∀ o, w1.frozen? ⟨w.heap.size, o, none⟩ = false := fun o => by rw [f1.frozen (by assumption) (by simp)]; exact zf o
        have FF := fr.step f1
        go_wp2_with fail
        refine bodyPost_ret (v := .tuple #[.agg #[.string ⟨#[]⟩, .int .i64 0], .bool false]) (by simp [results, Tryd.results15, go_sem, z0, z1]) rfl ⟨?_, ?_⟩
        · rw [(goodF HB.out).1, HB.out]
        · exact (FF.setCell (by simp) _).setCell (by simp) _

      · rw [hv] at hV
        have HV := Lib.hid hV
        clear hV
        by_cases ht : textB nm v = s
        · have hgt : goodP s = true := by rw [HG.out.1, hv, ht]; simp
          have HX := Lib.hid (And.intro hgt (HG.out.2 hgt))
          rw [ht] at HT
          clear hv ht hgt
          go_wp2_with fail
          refine (HV.out _).mono ?_
          rintro e w1 ⟨rfl, f1⟩
          have a0 := f1.keep a0 (by simp)
          have a1 := f1.keep a1 (by simp)
          go_wp2_with fail
          refine (HT.out _).mono ?_
          rintro e w2 ⟨rfl, f2⟩
          have a0 := f2.keep a0 (by simp)
          have a1 := f2.keep a1 (by simp)
          have z0 := (f1.step f2).keep z0 (by simp)
          have z1 := (f1.step f2).keep z1 (by simp)
          have zf : ∀ o, w2.frozen? ⟨w.heap.size, o, none⟩ = false := fun o => by rw [(f1.step f2).frozen (by assumption) (by simp)]; exact zf o
          have FF := (fr.step f1).step f2
          go_wp2_with fail
          refine bodyPost_ret (v := .tuple #[.agg #[.string nm, .int .i64 v], .bool true]) (by simp [results, Tryd.results15, go_sem, z0, z1]) rfl ⟨?_, ?_⟩
          · rw [(goodT HX.out.1).1, HX.out.1, HX.out.2.1, HX.out.2.2]
          · exact (FF.setCell (by simp) _).setCell (by simp) _
        · have hne2 : ((textB nm v).toList == s.toList) = false := by simp [toList_ne ht]
          have HB := Lib.hid (show goodP s = false by rw [HG.out.1, hv, decide_eq_false ht]; rfl)
          clear hv ht
          generalize textB nm v = t at HT hne2
          go_wp2_with fail
          refine (HV.out _).mono ?_
          rintro e w1 ⟨rfl, f1⟩
          have a0 := f1.keep a0 (by simp)
          have a1 := f1.keep a1 (by simp)
          go_wp2_with fail
          refine (HT.out _).mono ?_
          rintro e w2 ⟨rfl, f2⟩
          have z0 := (f1.step f2).keep z0 (by simp)
          have z1 := (f1.step f2).keep z1 (by simp)
          have zf : ∀ o, w2.frozen? ⟨w.heap.size, o, none⟩ = false := fun o => by rw [(f1.step f2).frozen (by assumption) (by simp)]; exact zf o
          have FF := (fr.step f1).step f2
          go_wp2_with fail
          refine bodyPost_ret (v := .tuple #[.agg #[.string ⟨#[]⟩, .int .i64 0], .bool false]) (by simp [results, Tryd.results15, go_sem, z0, z1]) rfl ⟨?_, ?_⟩
          · rw [(goodF HB.out).1, HB.out]
          · exact (FF.setCell (by simp) _).setCell (by simp) _

end Go.Proofs.YtbilaapikclhlaaDoor
