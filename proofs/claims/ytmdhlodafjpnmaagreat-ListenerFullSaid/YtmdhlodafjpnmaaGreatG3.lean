/- The reference's streams in memory, with their bytes: the ends closed. -/
import Derived.Test.YtmdhlodafjpnmaaGreatG2
namespace Go.Proofs.YtmdhlodafjpnmaaGreat
open Go.RowKit
set_option linter.unusedVariables false
set_option linter.unusedSimpArgs false
set_option maxRecDepth 100000
set_option maxHeartbeats 8000000

theorem refCodeG (e : Int) (h : e = 13 ∨ e = 14) (w : World) : Calls Tryz.prog 159 #[.int .i64 e] w fun r w' => r = .returned (.bool true) ∧ w' = w := by
  rcases h with rfl | rfl
  · go_enter Tryz.func159, Tryz.ntmps159
    go_wp2
    go_ret
    exact ⟨rfl, rfl⟩
  · go_enter Tryz.func159, Tryz.ntmps159
    go_wp2
    go_ret
    exact ⟨rfl, rfl⟩
theorem refEndG (e : Int) (h : e = 0 ∨ e = 1) (w : World) : Calls Tryz.prog 52 #[.int .i64 e] w fun r w' => r = .returned (.bool true) ∧ w' = w := by
  rcases h with rfl | rfl
  · go_enter Tryz.func52, Tryz.ntmps52
    go_wp2
    go_ret
    exact ⟨rfl, rfl⟩
  · go_enter Tryz.func52, Tryz.ntmps52
    go_wp2
    go_ret
    exact ⟨rfl, rfl⟩
def SS.closeW (x : SS) (e : Int) : SS × Int := if x.wr = 0 then ({ x with wr := e }, 0) else (x, 14)
def SS.closeRb (x : SS) (b : Sli) : Sli := if x.rd = 0 then (none, 0, 0) else b
def SS.closeR (x : SS) (e : Int) : SS × Int := if x.rd = 0 then ({ x with rd := e, buf := [] }, 0) else (x, 14)
theorem sCloseW_any (x : SS) (b r : Sli) (w : World) :
    Calls Tryz.prog 138 #[.agg (stC x b r).toArray, .int .i64 13] w fun e w' => e = .returned (.tuple #[.agg (stC (x.closeW 13).1 b r).toArray, .int .i64 (x.closeW 13).2]) ∧ Fr [] w w' := by
  unfold SS.closeW
  by_cases h0 : x.wr = 0
  · skip
    rw [if_pos h0]
    have d0 : (x.wr == 0) = true := beq_iff_eq.2 h0
    have d1 : decide (x.wr = 0) = true := decide_eq_true h0
    clear h0
    obtain ⟨B, hB⟩ : ∃ B, w.heap.size = B := ⟨_, rfl⟩
    obtain ⟨wA, hwA⟩ : ∃ z, (w.alloc (.cells (stC x b r).toArray 90)).alloc (.cells #[.int .i64 0, .slice none 0 0, .bool false, .slice none 0 0, .int .i64 0, .int .i64 0, .int .i64 0] 90) = z := ⟨_, rfl⟩
    have hb1 : Blk wA B 90 (stC x b r) := by
      rw [← hwA, ← hB]
      exact (Blk.made w _ (stC x b r)).keep ((Fr.refl [] _).alloc _) (by simp)
    have hr1 : Blk wA (B + 1) 90 zSt := by
      have h := Blk.made (w.alloc (.cells (stC x b r).toArray 90)) 90 zSt
      rw [show (w.alloc (.cells (stC x b r).toArray 90)).heap.size = B + 1 from by rw [← hB]; simp] at h
      rw [← hwA]
      exact h
    have hf : Fr [] w wA := by rw [← hwA]; exact ((Fr.refl [] w).alloc _).alloc _
    have HB := Lib.hid hb1
    have HR := Lib.hid hr1
    have HF := Lib.hid hf
    have HBS := Lib.hid hB
    have HWA := Lib.hid hwA
    have c5 : wA.cell? ⟨B, 5, none⟩ = some (.int .i64 x.wr) := hb1.at 5 _ rfl
    clear hb1 hr1 hf hB hwA
    go_enter Tryz.func138, Tryz.ntmps138
    go_wp2_with fail
    rw [HWA.out]
    simp only [HBS.out]
    refine (refCodeG 13 (.inl rfl) _).mono ?_
    rintro e w' ⟨rfl, rfl⟩
    go_upto_region 5 with fail
    clear c5
    refine wp_region_lit ?_
    refine wpList_plain rfl (fun K hK => ?_); go_simp; refine hK _ _ ?_; clear hK K
    refine wpList_plain rfl (fun K hK => ?_); go_simp; refine hK _ _ ?_; clear hK K
    try simp only [Act.put, List.getElem_toArray, List.getElem_cons_succ, List.getElem_cons_zero, List.setIfInBounds_toArray, List.set_cons_zero, List.set_cons_succ]
    obtain ⟨w2, hst, hb_, hf_⟩ := store_cell (t := 30) (o := 5) (.int .i64 13) size30 rfl rfl HB.out (by show 5 + 1 ≤ 7; omega)
    refine wpList_skp rfl (w' := w2) ?_ ?_
    · show Sem.run Tryz.prog ((Instr.storeAt 30 (.pointer (some ⟨B, 5, none⟩)) (.int .i64 13)) >>= fun _ => pure Next.skip) _ = _
      rw [Sem.run_bind, hst]
      rfl
    clear hst
    try simp only [Act.put, List.getElem_toArray, List.getElem_cons_succ, List.getElem_cons_zero, List.setIfInBounds_toArray, List.set_cons_zero, List.set_cons_succ]
    refine wpList_nil ?_
    try simp only [Act.put, List.getElem_toArray, List.getElem_cons_succ, List.getElem_cons_zero, List.setIfInBounds_toArray, List.set_cons_zero, List.set_cons_succ]
    have HB2 := Lib.hid (show Blk w2 B 90 (stC { x with wr := 13 } b r) from hb_)
    have HR2 := Lib.hid (HR.out.keep hf_ (by simp))
    have HF2 := Lib.hid (HF.out.own1 (S := []) (B := 0) hf_ (by have := HBS.out; omega))
    clear hb_ hf_ HB HR HF
    have HR := HR2
    go_upto_region 6 with fail
    refine wp_region_lit ?_
    refine wpList_val rfl (v := .agg (stC { x with wr := 13 } b r).toArray) (w' := w2) ?_ ?_
    · show Sem.run Tryz.prog ((Instr.loadAt 90 (.pointer (some ⟨B, 0, none⟩))) >>= fun x => pure (Next.value x)) w2 = _
      rw [Sem.run_bind, load_all agg90 size90 (xs := stC { x with wr := 13 } b r) rfl HB2.out.at]
      rfl
    try simp only [Act.put, List.getElem_toArray, List.getElem_cons_succ, List.getElem_cons_zero, List.setIfInBounds_toArray, List.set_cons_zero, List.set_cons_succ]
    obtain ⟨w9, hst, hb_, hf_⟩ := store_all (t := 90) (stC { x with wr := 13 } b r) size90 rfl (stC_one _ _ _) HR.out rfl
    refine wpList_skp rfl (w' := w9) ?_ ?_
    · show Sem.run Tryz.prog ((Instr.storeAt 90 (.pointer (some ⟨B + 1, 0, none⟩)) (.agg (stC { x with wr := 13 } b r).toArray)) >>= fun _ => pure Next.skip) _ = _
      rw [Sem.run_bind, hst]
      rfl
    clear hst
    try simp only [Act.put, List.getElem_toArray, List.getElem_cons_succ, List.getElem_cons_zero, List.setIfInBounds_toArray, List.set_cons_zero, List.set_cons_succ]
    refine wpList_plain rfl (fun K hK => ?_); go_simp; refine hK _ _ ?_; clear hK K
    refine wpList_nil ?_
    try simp only [Act.put, List.getElem_toArray, List.getElem_cons_succ, List.getElem_cons_zero, List.setIfInBounds_toArray, List.set_cons_zero, List.set_cons_succ]
    have HR9 := Lib.hid hb_
    have HF9 := Lib.hid (HF2.out.own1 (S := []) (B := 0) hf_ (by have := HBS.out; omega))
    clear hb_ hf_
    go_wp2
    have hl := load_var agg90 size90 (xs := stC { x with wr := 13 } b r) rfl HR9.out.at
    refine bodyPost_ret (v := .tuple #[.agg (stC { x with wr := 13 } b r).toArray, .int .i64 0]) (by simp [results, Tryz.results138, as_addr, hl]) rfl ?_
    exact ⟨rfl, HF9.out⟩
  · skip
    rw [if_neg h0]
    have d0 : (x.wr == 0) = false := beq_eq_false_iff_ne.2 h0
    have d1 : decide (x.wr = 0) = false := decide_eq_false h0
    clear h0
    obtain ⟨B, hB⟩ : ∃ B, w.heap.size = B := ⟨_, rfl⟩
    obtain ⟨wA, hwA⟩ : ∃ z, (w.alloc (.cells (stC x b r).toArray 90)).alloc (.cells #[.int .i64 0, .slice none 0 0, .bool false, .slice none 0 0, .int .i64 0, .int .i64 0, .int .i64 0] 90) = z := ⟨_, rfl⟩
    have hb1 : Blk wA B 90 (stC x b r) := by
      rw [← hwA, ← hB]
      exact (Blk.made w _ (stC x b r)).keep ((Fr.refl [] _).alloc _) (by simp)
    have hr1 : Blk wA (B + 1) 90 zSt := by
      have h := Blk.made (w.alloc (.cells (stC x b r).toArray 90)) 90 zSt
      rw [show (w.alloc (.cells (stC x b r).toArray 90)).heap.size = B + 1 from by rw [← hB]; simp] at h
      rw [← hwA]
      exact h
    have hf : Fr [] w wA := by rw [← hwA]; exact ((Fr.refl [] w).alloc _).alloc _
    have HB := Lib.hid hb1
    have HR := Lib.hid hr1
    have HF := Lib.hid hf
    have HBS := Lib.hid hB
    have HWA := Lib.hid hwA
    have c5 : wA.cell? ⟨B, 5, none⟩ = some (.int .i64 x.wr) := hb1.at 5 _ rfl
    clear hb1 hr1 hf hB hwA
    go_enter Tryz.func138, Tryz.ntmps138
    go_wp2_with fail
    rw [HWA.out]
    simp only [HBS.out]
    refine (refCodeG 13 (.inl rfl) _).mono ?_
    rintro e w' ⟨rfl, rfl⟩
    go_upto_region 4 with fail
    clear c5
    refine wp_region_lit ?_
    refine wpList_val rfl (v := .agg (stC x b r).toArray) (w' := w') ?_ ?_
    · show Sem.run Tryz.prog ((Instr.loadAt 90 (.pointer (some ⟨B, 0, none⟩))) >>= fun x => pure (Next.value x)) w' = _
      rw [Sem.run_bind, load_all agg90 size90 (xs := stC x b r) rfl HB.out.at]
      rfl
    try simp only [Act.put, List.getElem_toArray, List.getElem_cons_succ, List.getElem_cons_zero, List.setIfInBounds_toArray, List.set_cons_zero, List.set_cons_succ]
    obtain ⟨w9, hst, hb_, hf_⟩ := store_all (t := 90) (stC x b r) size90 rfl (stC_one _ _ _) HR.out rfl
    refine wpList_skp rfl (w' := w9) ?_ ?_
    · show Sem.run Tryz.prog ((Instr.storeAt 90 (.pointer (some ⟨B + 1, 0, none⟩)) (.agg (stC x b r).toArray)) >>= fun _ => pure Next.skip) _ = _
      rw [Sem.run_bind, hst]
      rfl
    clear hst
    try simp only [Act.put, List.getElem_toArray, List.getElem_cons_succ, List.getElem_cons_zero, List.setIfInBounds_toArray, List.set_cons_zero, List.set_cons_succ]
    refine wpList_plain rfl (fun K hK => ?_); go_simp; refine hK _ _ ?_; clear hK K
    refine wpList_nil ?_
    try simp only [Act.put, List.getElem_toArray, List.getElem_cons_succ, List.getElem_cons_zero, List.setIfInBounds_toArray, List.set_cons_zero, List.set_cons_succ]
    have HR9 := Lib.hid hb_
    have HF9 := Lib.hid (HF.out.own1 (S := []) (B := 0) hf_ (by have := HBS.out; omega))
    clear hb_ hf_
    go_wp2
    have hl := load_var agg90 size90 (xs := stC x b r) rfl HR9.out.at
    refine bodyPost_ret (v := .tuple #[.agg (stC x b r).toArray, .int .i64 14]) (by simp [results, Tryz.results138, as_addr, hl]) rfl ?_
    exact ⟨rfl, HF9.out⟩
theorem sCloseR_any (x : SS) (b r : Sli) (w : World) :
    Calls Tryz.prog 139 #[.agg (stC x b r).toArray, .int .i64 14] w fun e w' => e = .returned (.tuple #[.agg (stC (x.closeR 14).1 (x.closeRb b) r).toArray, .int .i64 (x.closeR 14).2]) ∧ Fr [] w w' := by
  unfold SS.closeR SS.closeRb
  by_cases h0 : x.rd = 0
  · skip
    rw [if_pos h0, if_pos h0]
    have d0 : (x.rd == 0) = true := beq_iff_eq.2 h0
    have d1 : decide (x.rd = 0) = true := decide_eq_true h0
    clear h0
    obtain ⟨B, hB⟩ : ∃ B, w.heap.size = B := ⟨_, rfl⟩
    obtain ⟨wA, hwA⟩ : ∃ z, (w.alloc (.cells (stC x b r).toArray 90)).alloc (.cells #[.int .i64 0, .slice none 0 0, .bool false, .slice none 0 0, .int .i64 0, .int .i64 0, .int .i64 0] 90) = z := ⟨_, rfl⟩
    have hb1 : Blk wA B 90 (stC x b r) := by
      rw [← hwA, ← hB]
      exact (Blk.made w _ (stC x b r)).keep ((Fr.refl [] _).alloc _) (by simp)
    have hr1 : Blk wA (B + 1) 90 zSt := by
      have h := Blk.made (w.alloc (.cells (stC x b r).toArray 90)) 90 zSt
      rw [show (w.alloc (.cells (stC x b r).toArray 90)).heap.size = B + 1 from by rw [← hB]; simp] at h
      rw [← hwA]
      exact h
    have hf : Fr [] w wA := by rw [← hwA]; exact ((Fr.refl [] w).alloc _).alloc _
    have HB := Lib.hid hb1
    have HR := Lib.hid hr1
    have HF := Lib.hid hf
    have HBS := Lib.hid hB
    have HWA := Lib.hid hwA
    have c5 : wA.cell? ⟨B, 6, none⟩ = some (.int .i64 x.rd) := hb1.at 6 _ rfl
    clear hb1 hr1 hf hB hwA
    go_enter Tryz.func139, Tryz.ntmps139
    go_wp2_with fail
    rw [HWA.out]
    simp only [HBS.out]
    refine (refCodeG 14 (.inr rfl) _).mono ?_
    rintro e w' ⟨rfl, rfl⟩
    go_upto_region 5 with fail
    clear c5
    refine wp_region_lit ?_
    refine wpList_plain rfl (fun K hK => ?_); go_simp; refine hK _ _ ?_; clear hK K
    refine wpList_plain rfl (fun K hK => ?_); go_simp; refine hK _ _ ?_; clear hK K
    try simp only [Act.put, List.getElem_toArray, List.getElem_cons_succ, List.getElem_cons_zero, List.setIfInBounds_toArray, List.set_cons_zero, List.set_cons_succ]
    obtain ⟨w2, hst, hb_, hf_⟩ := store_cell (t := 30) (o := 6) (.int .i64 14) size30 rfl rfl HB.out (by show 6 + 1 ≤ 7; omega)
    refine wpList_skp rfl (w' := w2) ?_ ?_
    · show Sem.run Tryz.prog ((Instr.storeAt 30 (.pointer (some ⟨B, 6, none⟩)) (.int .i64 14)) >>= fun _ => pure Next.skip) _ = _
      rw [Sem.run_bind, hst]
      rfl
    clear hst
    try simp only [Act.put, List.getElem_toArray, List.getElem_cons_succ, List.getElem_cons_zero, List.setIfInBounds_toArray, List.set_cons_zero, List.set_cons_succ]
    have HB1 := Lib.hid (show Blk w2 B 90 (stC { x with rd := 14 } b r) from hb_)
    have HR1 := Lib.hid (HR.out.keep hf_ (by simp))
    have HF1 := Lib.hid (HF.out.own1 (S := []) (B := 0) hf_ (by have := HBS.out; omega))
    clear hb_ hf_ HB HR HF
    refine wpList_plain rfl (fun K hK => ?_); go_simp; refine hK _ _ ?_; clear hK K
    try simp only [Act.put, List.getElem_toArray, List.getElem_cons_succ, List.getElem_cons_zero, List.setIfInBounds_toArray, List.set_cons_zero, List.set_cons_succ]
    obtain ⟨w3, hst, hb_, hf_⟩ := store_cell (t := 22) (o := 1) (slv (none, 0, 0)) size22 rfl rfl HB1.out (by show 1 + 1 ≤ 7; omega)
    refine wpList_skp rfl (w' := w3) ?_ ?_
    · show Sem.run Tryz.prog ((Instr.storeAt 22 (.pointer (some ⟨B, 1, none⟩)) (slv (none, 0, 0))) >>= fun _ => pure Next.skip) _ = _
      rw [Sem.run_bind, hst]
      rfl
    clear hst
    try simp only [Act.put, List.getElem_toArray, List.getElem_cons_succ, List.getElem_cons_zero, List.setIfInBounds_toArray, List.set_cons_zero, List.set_cons_succ]
    refine wpList_nil ?_
    try simp only [Act.put, List.getElem_toArray, List.getElem_cons_succ, List.getElem_cons_zero, List.setIfInBounds_toArray, List.set_cons_zero, List.set_cons_succ]
    have HB2 := Lib.hid (show Blk w3 B 90 (stC { x with rd := 14, buf := [] } (none, 0, 0) r) from hb_)
    have HR2 := Lib.hid (HR1.out.keep hf_ (by simp))
    have HF2 := Lib.hid (HF1.out.own1 (S := []) (B := 0) hf_ (by have := HBS.out; omega))
    clear hb_ hf_ HB1 HR1 HF1
    have HR := HR2
    go_upto_region 6 with fail
    refine wp_region_lit ?_
    refine wpList_val rfl (v := .agg (stC { x with rd := 14, buf := [] } (none, 0, 0) r).toArray) (w' := w3) ?_ ?_
    · show Sem.run Tryz.prog ((Instr.loadAt 90 (.pointer (some ⟨B, 0, none⟩))) >>= fun x => pure (Next.value x)) w3 = _
      rw [Sem.run_bind, load_all agg90 size90 (xs := stC { x with rd := 14, buf := [] } (none, 0, 0) r) rfl HB2.out.at]
      rfl
    try simp only [Act.put, List.getElem_toArray, List.getElem_cons_succ, List.getElem_cons_zero, List.setIfInBounds_toArray, List.set_cons_zero, List.set_cons_succ]
    obtain ⟨w9, hst, hb_, hf_⟩ := store_all (t := 90) (stC { x with rd := 14, buf := [] } (none, 0, 0) r) size90 rfl (stC_one _ _ _) HR.out rfl
    refine wpList_skp rfl (w' := w9) ?_ ?_
    · show Sem.run Tryz.prog ((Instr.storeAt 90 (.pointer (some ⟨B + 1, 0, none⟩)) (.agg (stC { x with rd := 14, buf := [] } (none, 0, 0) r).toArray)) >>= fun _ => pure Next.skip) _ = _
      rw [Sem.run_bind, hst]
      rfl
    clear hst
    try simp only [Act.put, List.getElem_toArray, List.getElem_cons_succ, List.getElem_cons_zero, List.setIfInBounds_toArray, List.set_cons_zero, List.set_cons_succ]
    refine wpList_plain rfl (fun K hK => ?_); go_simp; refine hK _ _ ?_; clear hK K
    refine wpList_nil ?_
    try simp only [Act.put, List.getElem_toArray, List.getElem_cons_succ, List.getElem_cons_zero, List.setIfInBounds_toArray, List.set_cons_zero, List.set_cons_succ]
    have HR9 := Lib.hid hb_
    have HF9 := Lib.hid (HF2.out.own1 (S := []) (B := 0) hf_ (by have := HBS.out; omega))
    clear hb_ hf_
    go_wp2
    have hl := load_var agg90 size90 (xs := stC { x with rd := 14, buf := [] } (none, 0, 0) r) rfl HR9.out.at
    refine bodyPost_ret (v := .tuple #[.agg (stC { x with rd := 14, buf := [] } (none, 0, 0) r).toArray, .int .i64 0]) (by simp [results, Tryz.results139, as_addr, hl]) rfl ?_
    exact ⟨rfl, HF9.out⟩
  · skip
    rw [if_neg h0, if_neg h0]
    have d0 : (x.rd == 0) = false := beq_eq_false_iff_ne.2 h0
    have d1 : decide (x.rd = 0) = false := decide_eq_false h0
    clear h0
    obtain ⟨B, hB⟩ : ∃ B, w.heap.size = B := ⟨_, rfl⟩
    obtain ⟨wA, hwA⟩ : ∃ z, (w.alloc (.cells (stC x b r).toArray 90)).alloc (.cells #[.int .i64 0, .slice none 0 0, .bool false, .slice none 0 0, .int .i64 0, .int .i64 0, .int .i64 0] 90) = z := ⟨_, rfl⟩
    have hb1 : Blk wA B 90 (stC x b r) := by
      rw [← hwA, ← hB]
      exact (Blk.made w _ (stC x b r)).keep ((Fr.refl [] _).alloc _) (by simp)
    have hr1 : Blk wA (B + 1) 90 zSt := by
      have h := Blk.made (w.alloc (.cells (stC x b r).toArray 90)) 90 zSt
      rw [show (w.alloc (.cells (stC x b r).toArray 90)).heap.size = B + 1 from by rw [← hB]; simp] at h
      rw [← hwA]
      exact h
    have hf : Fr [] w wA := by rw [← hwA]; exact ((Fr.refl [] w).alloc _).alloc _
    have HB := Lib.hid hb1
    have HR := Lib.hid hr1
    have HF := Lib.hid hf
    have HBS := Lib.hid hB
    have HWA := Lib.hid hwA
    have c5 : wA.cell? ⟨B, 6, none⟩ = some (.int .i64 x.rd) := hb1.at 6 _ rfl
    clear hb1 hr1 hf hB hwA
    go_enter Tryz.func139, Tryz.ntmps139
    go_wp2_with fail
    rw [HWA.out]
    simp only [HBS.out]
    refine (refCodeG 14 (.inr rfl) _).mono ?_
    rintro e w' ⟨rfl, rfl⟩
    go_upto_region 4 with fail
    clear c5
    refine wp_region_lit ?_
    refine wpList_val rfl (v := .agg (stC x b r).toArray) (w' := w') ?_ ?_
    · show Sem.run Tryz.prog ((Instr.loadAt 90 (.pointer (some ⟨B, 0, none⟩))) >>= fun x => pure (Next.value x)) w' = _
      rw [Sem.run_bind, load_all agg90 size90 (xs := stC x b r) rfl HB.out.at]
      rfl
    try simp only [Act.put, List.getElem_toArray, List.getElem_cons_succ, List.getElem_cons_zero, List.setIfInBounds_toArray, List.set_cons_zero, List.set_cons_succ]
    obtain ⟨w9, hst, hb_, hf_⟩ := store_all (t := 90) (stC x b r) size90 rfl (stC_one _ _ _) HR.out rfl
    refine wpList_skp rfl (w' := w9) ?_ ?_
    · show Sem.run Tryz.prog ((Instr.storeAt 90 (.pointer (some ⟨B + 1, 0, none⟩)) (.agg (stC x b r).toArray)) >>= fun _ => pure Next.skip) _ = _
      rw [Sem.run_bind, hst]
      rfl
    clear hst
    try simp only [Act.put, List.getElem_toArray, List.getElem_cons_succ, List.getElem_cons_zero, List.setIfInBounds_toArray, List.set_cons_zero, List.set_cons_succ]
    refine wpList_plain rfl (fun K hK => ?_); go_simp; refine hK _ _ ?_; clear hK K
    refine wpList_nil ?_
    try simp only [Act.put, List.getElem_toArray, List.getElem_cons_succ, List.getElem_cons_zero, List.setIfInBounds_toArray, List.set_cons_zero, List.set_cons_succ]
    have HR9 := Lib.hid hb_
    have HF9 := Lib.hid (HF.out.own1 (S := []) (B := 0) hf_ (by have := HBS.out; omega))
    clear hb_ hf_
    go_wp2
    have hl := load_var agg90 size90 (xs := stC x b r) rfl HR9.out.at
    refine bodyPost_ret (v := .tuple #[.agg (stC x b r).toArray, .int .i64 14]) (by simp [results, Tryz.results139, as_addr, hl]) rfl ?_
    exact ⟨rfl, HF9.out⟩
end Go.Proofs.YtmdhlodafjpnmaaGreat
