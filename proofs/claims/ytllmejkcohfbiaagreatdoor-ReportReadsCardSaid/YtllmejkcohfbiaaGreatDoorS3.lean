/- Report, the law's own known: it answers true. -/
import Derived.Test.YtllmejkcohfbiaaGreatDoorS2
import Derived.Test.YtllmejkcohfbiaaGreatDoorR20T
namespace Go.Proofs.YtllmejkcohfbiaaGreatDoor
open Go.RowKit Go.Shelf Go.Sort Go.Lib
set_option linter.unusedVariables false
set_option linter.unusedSimpArgs false
set_option maxRecDepth 100000
set_option maxHeartbeats 8000000

theorem knownA (w : World) (ht : Tab w) : Calls Tryz.prog 20 #[.slice (some ⟨w.heap.size, 0, none⟩) 1 1] (w.alloc (.cells #[.int .i64 1, .int .i64 2, .int .i64 1, .int .i64 3, .int .i64 2, .int .i64 1, .int .i64 5, .int .i64 0] 58)) fun e w' => e = .returned (.tuple #[.string (bs exA), .int .i64 0]) ∧ Fr [] w w' := by
  have f0 : Fr [] w (w.alloc (.cells #[.int .i64 1, .int .i64 2, .int .i64 1, .int .i64 3, .int .i64 2, .int .i64 1, .int .i64 5, .int .i64 0] 58)) := (Fr.refl [] w).alloc _
  have h := Tasks_any (.slice (some ⟨w.heap.size, 0, none⟩) 1 1) [exTk] (by simp) _ (tab_new ht f0) (.inr ⟨w.heap.size, 0, 1, rfl, by simp, fun i x hi => by
    match i with
    | 0 => cases hi; refine ⟨?_, ?_, ?_, ?_, ?_, ?_, ?_, ?_⟩ <;> simp <;> rfl
    | i + 1 => simp at hi⟩) (fun x hx => by
      rw [List.mem_singleton] at hx
      subst hx
      refine ⟨⟨by decide, by decide⟩, ?_⟩
      unfold I64
      decide)
  rw [exA_text] at h
  exact h.mono fun e w' ⟨h1, h2⟩ => ⟨h1, f0.step h2⟩
theorem knownB (w : World) (ht : Tab w) : Calls Tryz.prog 22 #[.slice (some ⟨w.heap.size, 0, none⟩) 2 2] (w.alloc (.cells #[.int .i64 5, .int .i64 12, .int .i64 2, .int .i64 3, .int .i64 450, .int .i64 1] 62)) fun e w' => e = .returned (.tuple #[.string (bs exB), .int .i64 0]) ∧ Fr [] w w' := by
  have f0 : Fr [] w (w.alloc (.cells #[.int .i64 5, .int .i64 12, .int .i64 2, .int .i64 3, .int .i64 450, .int .i64 1] 62)) := (Fr.refl [] w).alloc _
  have h := Codes_any (.slice (some ⟨w.heap.size, 0, none⟩) 2 2) [⟨5, 12, 2⟩, ⟨3, 450, 1⟩] (by simp) _ (tab_new ht f0) (.inr ⟨w.heap.size, 0, 2, rfl, by simp, fun i x hi => by
    match i with
    | 0 => cases hi; refine ⟨?_, ?_, ?_⟩ <;> simp
    | 1 => cases hi; refine ⟨?_, ?_, ?_⟩ <;> simp
    | i + 2 => simp at hi⟩) (fun x hx => by
      simp only [List.mem_cons, List.not_mem_nil, or_false] at hx
      rcases hx with rfl | rfl
      · exact ⟨⟨by decide, by decide⟩, ⟨by decide, by decide⟩, by decide, by decide⟩
      · exact ⟨⟨by decide, by decide⟩, ⟨by decide, by decide⟩, by decide, by decide⟩)
  rw [exB_text] at h
  exact h.mono fun e w' ⟨h1, h2⟩ => ⟨h1, f0.step h2⟩
theorem knownC (w : World) (ht : Tab w) : Calls Tryz.prog 24 #[.slice (some ⟨w.heap.size, 0, none⟩) 2 2] (w.alloc (.cells #[.int .i64 3, .int .i64 6, .int .u64 9, .int .i64 0, .int .i64 1, .int .u64 18446744073709551615] 67)) fun e w' => e = .returned (.tuple #[.string (bs exC), .int .i64 0]) ∧ Fr [] w w' := by
  have f0 : Fr [] w (w.alloc (.cells #[.int .i64 3, .int .i64 6, .int .u64 9, .int .i64 0, .int .i64 1, .int .u64 18446744073709551615] 67)) := (Fr.refl [] w).alloc _
  have h := Blocked_any (.slice (some ⟨w.heap.size, 0, none⟩) 2 2) [⟨3, 6, 9⟩, ⟨0, 1, 18446744073709551615⟩] (by simp) _ (tab_new ht f0) (.inr ⟨w.heap.size, 0, 2, rfl, by simp, fun i x hi => by
    match i with
    | 0 => cases hi; refine ⟨?_, ?_, ?_⟩ <;> simp
    | 1 => cases hi; refine ⟨?_, ?_, ?_⟩ <;> simp
    | i + 2 => simp at hi⟩) (fun x hx => by
      simp only [List.mem_cons, List.not_mem_nil, or_false] at hx
      rcases hx with rfl | rfl
      · exact ⟨⟨by decide, by decide⟩, ⟨by decide, by decide⟩, by decide, by decide⟩
      · exact ⟨⟨by decide, by decide⟩, ⟨by decide, by decide⟩, by decide, by decide⟩)
  rw [exC_text] at h
  exact h.mono fun e w' ⟨h1, h2⟩ => ⟨h1, f0.step h2⟩
theorem knownD (w : World) (ht : Tab w) : Calls Tryz.prog 16 #[.agg #[.int .i64 2, .int .i64 2, .int .i64 (-1)]] w fun e w' => e = .returned (.tuple #[.string (bs exD), .int .i64 0]) ∧ Fr [] w w' := by
  have h := check_any 2 2 (-1) ⟨by decide, by decide⟩ ⟨by decide, by decide⟩ w ht
  rw [exD_text] at h
  exact h
theorem knownE (w6 : World) (ht : Tab w6) : Calls Tryz.prog 18 #[.agg #[.int .i64 5, .int .i64 3, .int .i64 4, .slice (some ⟨w6.heap.size + 1, 0, none⟩) 1 1]] ((w6.alloc (.cells #[.int .i64 0, .int .i64 1] 3)).alloc (.cells #[.int .u64 0, .slice none 0 0, .slice none 0 0, .slice none 0 0, .slice none 0 0, .slice none 0 0, .slice none 0 0, .slice none 0 0, .int .i64 3, .slice (some ⟨w6.heap.size, 0, none⟩) 2 2, .slice none 0 0] 49)) fun e w' => e = .returned (.tuple #[.string (bs exE), .int .i64 0]) ∧ Fr [] w6 w' := by
  have f0 : Fr [] w6 ((w6.alloc (.cells #[.int .i64 0, .int .i64 1] 3)).alloc (.cells #[.int .u64 0, .slice none 0 0, .slice none 0 0, .slice none 0 0, .slice none 0 0, .slice none 0 0, .slice none 0 0, .slice none 0 0, .int .i64 3, .slice (some ⟨w6.heap.size, 0, none⟩) 2 2, .slice none 0 0] 49)) := ((Fr.refl [] w6).alloc _).alloc _
  have h := Explored_any ⟨5, 3, 4, [⟨3, [0, 1]⟩]⟩ (.slice (some ⟨w6.heap.size + 1, 0, none⟩) 1 1) _ (tab_new ht f0) ⟨⟨⟨by decide, by decide⟩, ⟨by decide, by decide⟩, by decide, by decide⟩, fun o ho => by
    rw [List.mem_singleton] at ho
    subst ho
    refine ⟨⟨by decide, by decide⟩, ?_⟩
    unfold I64
    decide⟩ (.inr ⟨w6.heap.size + 1, 0, 1, rfl, by simp, fun i x hi => by
    match i with
    | 0 =>
      cases hi
      refine ⟨0, (none, 0, 0), (none, 0, 0), (none, 0, 0), (none, 0, 0), (none, 0, 0), (none, 0, 0), (none, 0, 0), .slice (some ⟨w6.heap.size, 0, none⟩) 2 2, (none, 0, 0), ?_, ?_, ?_, ?_, ?_, ?_, ?_, ?_, ?_, ?_, ?_, ?_⟩
      · exact .inr ⟨w6.heap.size, 0, 2, rfl, by simp; omega, fun j n hj => by
          match j with
          | 0 => cases hj; exact (((Fr.refl [] _).alloc _).keep (by simp) (by simp))
          | 1 => cases hj; exact (((Fr.refl [] _).alloc _).keep (by simp) (by simp))
          | j + 2 => simp at hj⟩
      all_goals simp
    | i + 1 => simp at hi⟩)
  rw [exE_text] at h
  exact h.mono fun e w' ⟨h1, h2⟩ => ⟨h1, f0.step h2⟩
theorem knownR (w : World) (he : EnvR w) : Calls Tryz.prog 27 #[.string ⟨#[114, 101, 97, 100, 32, 116, 105, 109, 101, 111, 117, 116, 32, 50, 10, 114, 101, 97, 100, 10]⟩] w fun e w' => ∃ a c, e = .returned (.tuple #[.slice a 0 c, .int .i64 2, .int .i64 6]) ∧ Fr [] w w' := by
  have h := ReadCodes_any exR (by decide) w he
  rw [exR_read] at h
  refine h.mono ?_
  rintro e w' ⟨v, rfl, hr, f⟩
  obtain ⟨a, c, rfl⟩ := hr.val
  exact ⟨a, c, rfl, f⟩
theorem knownT (w : World) (he : EnvR w) : Calls Tryz.prog 26 #[.string ⟨#[]⟩] w fun e w' => ∃ a c, e = .returned (.tuple #[.slice a 0 c, .int .i64 0, .int .i64 0]) ∧ Fr [] w w' := by
  refine (readTasks_none w he).mono ?_
  rintro e w' ⟨v, rfl, hr, f⟩
  obtain ⟨a, c, rfl⟩ := hr.val
  exact ⟨a, c, rfl, f⟩
theorem known_any (w : World) (he : EnvR w) :
    Calls Tryz.prog 10 #[] w fun e w' => e = .returned (.bool true) ∧ Fr [] w w' := by
  have HE := Lib.hid he
  have hA := Lib.hid (show ((bs exA).toList == [116, 97, 115, 107, 32, 49, 58, 32, 99, 97, 108, 108, 115, 32, 50, 44, 32, 114, 101, 102, 117, 115, 101, 100, 32, 49, 44, 32, 115, 116, 101, 112, 115, 32, 51, 44, 32, 101, 110, 100, 101, 100, 32, 50, 44, 32, 102, 97, 105, 108, 101, 100, 32, 49, 44, 32, 114, 101, 97, 100, 32, 53, 44, 32, 119, 114, 105, 116, 116, 101, 110, 32, 48, 10]) = true from by rw [toList_bs]; rfl)
  have hB := Lib.hid (show ((bs exB).toList == [114, 101, 97, 100, 32, 116, 105, 109, 101, 111, 117, 116, 32, 50, 10, 100, 105, 97, 108, 32, 52, 53, 48, 32, 49, 10]) = true from by rw [toList_bs]; rfl)
  have hC := Lib.hid (show ((bs exC).toList == [51, 32, 115, 108, 101, 101, 112, 32, 117, 110, 116, 105, 108, 32, 57, 10, 48, 32, 114, 101, 97, 100, 32, 117, 110, 116, 105, 108, 32, 110, 101, 118, 101, 114, 10]) = true from by rw [toList_bs]; rfl)
  have hD := Lib.hid (show ((bs exD).toList == [112, 105, 112, 101, 32, 50, 32, 108, 111, 115, 116, 10, 99, 111, 100, 101, 115, 32, 102, 105, 110, 101, 10]) = true from by rw [toList_bs]; rfl)
  have hE := Lib.hid (show ((bs exE).toList == [115, 116, 97, 116, 101, 115, 32, 53, 44, 32, 114, 117, 110, 115, 32, 51, 44, 32, 108, 111, 110, 103, 101, 115, 116, 32, 52, 10, 101, 110, 100, 32, 51, 44, 32, 112, 105, 99, 107, 115, 32, 48, 32, 49, 10]) = true from by rw [toList_bs]; rfl)
  obtain ⟨tA, htA⟩ : ∃ x, bs exA = x := ⟨_, rfl⟩
  obtain ⟨tB, htB⟩ : ∃ x, bs exB = x := ⟨_, rfl⟩
  obtain ⟨tC, htC⟩ : ∃ x, bs exC = x := ⟨_, rfl⟩
  obtain ⟨tD, htD⟩ : ∃ x, bs exD = x := ⟨_, rfl⟩
  obtain ⟨tE, htE⟩ : ∃ x, bs exE = x := ⟨_, rfl⟩
  have HA := Lib.hid knownA
  have HB := Lib.hid knownB
  have HC := Lib.hid knownC
  have HD := Lib.hid knownD
  have HX := Lib.hid knownE
  rw [htA] at HA hA
  rw [htB] at HB hB
  rw [htC] at HC hC
  rw [htD] at HD hD
  rw [htE] at HX hE
  clear he htA htB htC htD htE
  go_enter Tryz.func10, Tryz.ntmps10
  go_wp2_with fail
  refine (task_any _).mono ?_
  rintro e w1 ⟨rfl, f1⟩
  have F1 := Lib.hid f1
  clear f1
  go_wp2_with fail
  refine (HA.out _ (HE.out.new F1.out).tab).mono ?_
  rintro e w2 ⟨rfl, f2⟩
  have F2 := Lib.hid (F1.out.step f2)
  clear f2 HA
  go_wp2_with fail
  refine (HB.out _ (HE.out.new F2.out).tab).mono ?_
  rintro e w3 ⟨rfl, f3⟩
  have F3 := Lib.hid (F2.out.step f3)
  clear f3 HB
  go_wp2_with fail
  refine (HC.out _ (HE.out.new F3.out).tab).mono ?_
  rintro e w4 ⟨rfl, f4⟩
  have F4 := Lib.hid (F3.out.step f4)
  clear f4 HC
  have eA := hA.out
  have eB := hB.out
  have eC := hC.out
  go_wp2_with fail
  refine (HD.out _ (HE.out.new F4.out).tab).mono ?_
  rintro e w5 ⟨rfl, f5⟩
  have F5 := Lib.hid (F4.out.step f5)
  clear f5 HD eA eB eC
  go_wp2_with fail
  refine (HX.out _ (HE.out.new F5.out).tab).mono ?_
  rintro e w6 ⟨rfl, f6⟩
  have F6 := Lib.hid (F5.out.step f6)
  clear f6 HX
  go_wp2_with fail
  refine (knownR _ (HE.out.new F6.out)).mono ?_
  rintro e w7 ⟨a7, c7, rfl, f7⟩
  have F7 := Lib.hid (F6.out.step f7)
  clear f7
  go_wp2_with fail
  refine (knownT _ (HE.out.new F7.out)).mono ?_
  rintro e w8 ⟨a8, c8, rfl, f8⟩
  have F8 := Lib.hid (F7.out.step f8)
  clear f8
  have eD := hD.out
  have eE := hE.out
  go_wp2
  go_ret
  exact ⟨rfl, F8.out⟩
end Go.Proofs.YtllmejkcohfbiaaGreatDoor
