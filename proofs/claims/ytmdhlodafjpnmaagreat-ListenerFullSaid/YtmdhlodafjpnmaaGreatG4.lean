/- The reference's connections in memory, with their bytes: a direction closed. -/
import Derived.Test.YtmdhlodafjpnmaaGreatG3
namespace Go.Proofs.YtmdhlodafjpnmaaGreat
open Go.RowKit
set_option linter.unusedVariables false
set_option linter.unusedSimpArgs false
set_option maxRecDepth 100000
set_option maxHeartbeats 8000000

def CC.closeW (x : CC) (e : Bool) : CC × Int := if e then ({ x with s1 := (x.s1.closeW 13).1 }, (x.s1.closeW 13).2) else ({ x with s0 := (x.s0.closeW 13).1 }, (x.s0.closeW 13).2)
def CC.closeR (x : CC) (e : Bool) : CC × Int := if e then ({ x with s0 := (x.s0.closeR 14).1 }, (x.s0.closeR 14).2) else ({ x with s1 := (x.s1.closeR 14).1 }, (x.s1.closeR 14).2)
/-- The slices behind closeR. -/
def CC.closeRq (x : CC) (q : Q4) (e : Bool) : Q4 := if e then { q with b0 := x.s0.closeRb q.b0 } else { q with b1 := x.s1.closeRb q.b1 }
theorem dCloseW_0 (x : CC) (q : Q4) (w : World) :
    Calls Tryz.prog 99 #[.agg (cnC x q).toArray, .int .i64 0] w fun e w' => e = .returned (.tuple #[.agg (cnC (x.closeW false).1 q).toArray, .int .i64 (x.closeW false).2]) ∧ Fr [] w w' := by
  obtain ⟨B, hB⟩ : ∃ B, w.heap.size = B := ⟨_, rfl⟩
  obtain ⟨wA, hwA⟩ : ∃ z, (w.alloc (.cells (cnC x q).toArray 94)).alloc (.cells #[.int .i64 0, .slice none 0 0, .bool false, .slice none 0 0, .int .i64 0, .int .i64 0, .int .i64 0, .int .i64 0, .slice none 0 0, .bool false, .slice none 0 0, .int .i64 0, .int .i64 0, .int .i64 0, .bool false, .bool false] 94) = z := ⟨_, rfl⟩
  have hb1 : Blk wA B 94 (cnC x q) := by
    rw [← hwA, ← hB]
    exact (Blk.made w _ (cnC x q)).keep ((Fr.refl [] _).alloc _) (by simp)
  have hr1 : Blk wA (B + 1) 94 zCn := by
    have h := Blk.made (w.alloc (.cells (cnC x q).toArray 94)) 94 zCn
    rw [show (w.alloc (.cells (cnC x q).toArray 94)).heap.size = B + 1 from by rw [← hB]; simp] at h
    rw [← hwA]
    exact h
  have hf : Fr [] w wA := by rw [← hwA]; exact ((Fr.refl [] w).alloc _).alloc _
  have HB := Lib.hid hb1
  have HR := Lib.hid hr1
  have HF := Lib.hid hf
  have HBS := Lib.hid hB
  have HWA := Lib.hid hwA
  clear hb1 hr1 hf hB hwA
  
  go_enter Tryz.func99, Tryz.ntmps99
  go_wp2_with fail
  rw [HWA.out]
  simp only [HBS.out]
  refine (refEndG 0 (by omega) _).mono ?_
  rintro e w' ⟨rfl, rfl⟩
  go_upto_region 3 with fail
  have hw1 : IntKind.i64.wrap 1 = 1 := by decide
  have hw0 : IntKind.i64.wrap 0 = 0 := by decide
  refine wp_region_lit ?_
  refine wpList_plain rfl (fun K hK => ?_); go_simp; refine hK _ _ ?_; clear hK K
  refine wpList_plain rfl (fun K hK => ?_); go_simp; refine hK _ _ ?_; clear hK K
  refine wpList_plain rfl (fun K hK => ?_); go_simp; refine hK _ _ ?_; clear hK K
  try simp only [Act.put, List.getElem_toArray, List.getElem_cons_succ, List.getElem_cons_zero, List.setIfInBounds_toArray, List.set_cons_zero, List.set_cons_succ]
  refine wpList_val rfl (v := .agg (stC x.s0 q.b0 q.r0).toArray) (w' := w') ?_ ?_
  · show Sem.run Tryz.prog ((Instr.loadAt 90 (.pointer (some ⟨B, 0, none⟩))) >>= fun x => pure (Next.value x)) w' = _
    rw [Sem.run_bind, load_all agg90 size90 (xs := stC x.s0 q.b0 q.r0) rfl (show LiesAt w' B 0 (stC x.s0 q.b0 q.r0) from HB.out.at.part (k := 0) (n := 7) rfl)]
    rfl
  try simp only [Act.put, List.getElem_toArray, List.getElem_cons_succ, List.getElem_cons_zero, List.setIfInBounds_toArray, List.set_cons_zero, List.set_cons_succ]
  refine wpList_plain rfl (fun K hK => ?_)
  go_simp
  refine (sCloseW_any x.s0 q.b0 q.r0 _).mono ?_
  rintro e w1 ⟨rfl, f1⟩
  refine hK _ _ ?_
  clear hK K
  try simp only [Act.put, List.getElem_toArray, List.getElem_cons_succ, List.getElem_cons_zero, List.setIfInBounds_toArray, List.set_cons_zero, List.set_cons_succ]
  have HB1 := Lib.hid (HB.out.keep f1 (by simp))
  have HR1 := Lib.hid (HR.out.keep f1 (by simp))
  have HF1 := Lib.hid (HF.out.step f1)
  clear f1 HB HR HF HWA
  refine wpList_plain rfl (fun K hK => ?_); go_simp; refine hK _ _ ?_; clear hK K
  refine wpList_plain rfl (fun K hK => ?_); go_simp; refine hK _ _ ?_; clear hK K
  refine wpList_plain rfl (fun K hK => ?_); go_simp; refine hK _ _ ?_; clear hK K
  refine wpList_plain rfl (fun K hK => ?_); go_simp; refine hK _ _ ?_; clear hK K
  try simp only [Act.put, List.getElem_toArray, List.getElem_cons_succ, List.getElem_cons_zero, List.setIfInBounds_toArray, List.set_cons_zero, List.set_cons_succ]
  obtain ⟨E1, hE1⟩ : ∃ E, w1.heap.size = E := ⟨_, rfl⟩
  obtain ⟨wx, hwx⟩ : ∃ z, w1.alloc (.cells #[.int .i64 0, .slice none 0 0, .bool false, .slice none 0 0, .int .i64 0, .int .i64 0, .int .i64 0] 90) = z := ⟨_, rfl⟩
  have hbx : Blk wx E1 90 zSt := by rw [← hwx, ← hE1]; exact Blk.made w1 90 zSt
  have fx : Fr [] w1 wx := by rw [← hwx]; exact (Fr.refl [] w1).alloc _
  rw [hwx]
  simp only [hE1]
  have HE1 := Lib.hid (show w.heap.size ≤ E1 from by rw [← hE1]; exact HF1.out.size)
  have HEB := Lib.hid (show B < E1 ∧ B + 1 < E1 from by rw [← hE1]; exact ⟨HB1.out.lt, HR1.out.lt⟩)
  have HB2 := Lib.hid (HB1.out.keep fx (by simp))
  have HR2 := Lib.hid (HR1.out.keep fx (by simp))
  have HF2 := Lib.hid (HF1.out.step fx)
  have HX2 := Lib.hid hbx
  clear fx hbx hwx hE1 HB1 HR1 HF1
  obtain ⟨w2, hst, hb_, hf_⟩ := store_all (t := 90) (stC (x.s0.closeW 13).1 q.b0 q.r0) size90 rfl (stC_one _ _ _) HX2.out rfl
  refine wpList_skp rfl (w' := w2) ?_ ?_
  · show Sem.run Tryz.prog ((Instr.storeAt 90 (.pointer (some ⟨E1, 0, none⟩)) (.agg (stC (x.s0.closeW 13).1 q.b0 q.r0).toArray)) >>= fun _ => pure Next.skip) _ = _
    rw [Sem.run_bind, hst]
    rfl
  clear hst
  try simp only [Act.put, List.getElem_toArray, List.getElem_cons_succ, List.getElem_cons_zero, List.setIfInBounds_toArray, List.set_cons_zero, List.set_cons_succ]
  have HX3 := Lib.hid hb_
  have HB3 := Lib.hid (HB2.out.keep hf_ (fun hm => by rw [List.mem_singleton] at hm; have := HEB.out; omega))
  have HR3 := Lib.hid (HR2.out.keep hf_ (fun hm => by rw [List.mem_singleton] at hm; have := HEB.out; omega))
  have HF3 := Lib.hid (HF2.out.own1 (S := []) (B := 0) hf_ HE1.out)
  clear hb_ hf_ HB2 HR2 HF2 HX2
  refine wpList_plain rfl (fun K hK => ?_); go_simp; refine hK _ _ ?_; clear hK K
  refine wpList_nil ?_
  try simp only [Act.put, List.getElem_toArray, List.getElem_cons_succ, List.getElem_cons_zero, List.setIfInBounds_toArray, List.set_cons_zero, List.set_cons_succ]
  go_upto_region 4 with fail
  refine wp_region_lit ?_
  refine wpList_plain rfl (fun K hK => ?_); go_simp; refine hK _ _ ?_; clear hK K
  try simp only [Act.put, List.getElem_toArray, List.getElem_cons_succ, List.getElem_cons_zero, List.setIfInBounds_toArray, List.set_cons_zero, List.set_cons_succ]
  refine wpList_val rfl (v := .agg (stC (x.s0.closeW 13).1 q.b0 q.r0).toArray) (w' := w2) ?_ ?_
  · show Sem.run Tryz.prog ((Instr.loadAt 90 (.pointer (some ⟨E1, 0, none⟩))) >>= fun x => pure (Next.value x)) w2 = _
    rw [Sem.run_bind, load_all agg90 size90 (xs := stC (x.s0.closeW 13).1 q.b0 q.r0) rfl HX3.out.at]
    rfl
  try simp only [Act.put, List.getElem_toArray, List.getElem_cons_succ, List.getElem_cons_zero, List.setIfInBounds_toArray, List.set_cons_zero, List.set_cons_succ]
  refine wpList_plain rfl (fun K hK => ?_); go_simp; refine hK _ _ ?_; clear hK K
  refine wpList_plain rfl (fun K hK => ?_); go_simp; refine hK _ _ ?_; clear hK K
  try simp only [Act.put, List.getElem_toArray, List.getElem_cons_succ, List.getElem_cons_zero, List.setIfInBounds_toArray, List.set_cons_zero, List.set_cons_succ]
  obtain ⟨w3, hst, hb_, hf_⟩ := store_part (t := 90) (o := 0) (stC (x.s0.closeW 13).1 q.b0 q.r0) size90 rfl (stC_one _ _ _) HB3.out (by show 0 + 7 ≤ 16; omega)
  refine wpList_skp rfl (w' := w3) ?_ ?_
  · show Sem.run Tryz.prog ((Instr.storeAt 90 (.pointer (some ⟨B, 0, none⟩)) (.agg (stC (x.s0.closeW 13).1 q.b0 q.r0).toArray)) >>= fun _ => pure Next.skip) _ = _
    rw [Sem.run_bind, hst]
    rfl
  clear hst
  try simp only [Act.put, List.getElem_toArray, List.getElem_cons_succ, List.getElem_cons_zero, List.setIfInBounds_toArray, List.set_cons_zero, List.set_cons_succ]
  refine wpList_nil ?_
  try simp only [Act.put, List.getElem_toArray, List.getElem_cons_succ, List.getElem_cons_zero, List.setIfInBounds_toArray, List.set_cons_zero, List.set_cons_succ]
  have HB4 := Lib.hid (show Blk w3 B 94 (cnC (x.closeW false).1 q) from hb_)
  have HR4 := Lib.hid (HR3.out.keep hf_ (by simp))
  have HF4 := Lib.hid (HF3.out.own1 (S := []) (B := 0) hf_ (by have := HBS.out; omega))
  clear hb_ hf_ HB3 HR3 HF3 HX3
  go_upto_region 5 with fail
  refine wp_region_lit ?_
  refine wpList_val rfl (v := .agg (cnC (x.closeW false).1 q).toArray) (w' := w3) ?_ ?_
  · show Sem.run Tryz.prog ((Instr.loadAt 94 (.pointer (some ⟨B, 0, none⟩))) >>= fun x => pure (Next.value x)) w3 = _
    rw [Sem.run_bind, load_all agg94 size94 (xs := cnC (x.closeW false).1 q) rfl HB4.out.at]
    rfl
  try simp only [Act.put, List.getElem_toArray, List.getElem_cons_succ, List.getElem_cons_zero, List.setIfInBounds_toArray, List.set_cons_zero, List.set_cons_succ]
  refine wpList_plain rfl (fun K hK => ?_); go_simp; refine hK _ _ ?_; clear hK K
  try simp only [Act.put, List.getElem_toArray, List.getElem_cons_succ, List.getElem_cons_zero, List.setIfInBounds_toArray, List.set_cons_zero, List.set_cons_succ]
  obtain ⟨w4, hst, hb_, hf_⟩ := store_all (t := 94) (cnC (x.closeW false).1 q) size94 rfl (cnC_one _ _) HR4.out rfl
  refine wpList_skp rfl (w' := w4) ?_ ?_
  · show Sem.run Tryz.prog ((Instr.storeAt 94 (.pointer (some ⟨B + 1, 0, none⟩)) (.agg (cnC (x.closeW false).1 q).toArray)) >>= fun _ => pure Next.skip) _ = _
    rw [Sem.run_bind, hst]
    rfl
  clear hst
  try simp only [Act.put, List.getElem_toArray, List.getElem_cons_succ, List.getElem_cons_zero, List.setIfInBounds_toArray, List.set_cons_zero, List.set_cons_succ]
  refine wpList_plain rfl (fun K hK => ?_); go_simp; refine hK _ _ ?_; clear hK K
  refine wpList_nil ?_
  try simp only [Act.put, List.getElem_toArray, List.getElem_cons_succ, List.getElem_cons_zero, List.setIfInBounds_toArray, List.set_cons_zero, List.set_cons_succ]
  have HR5 := Lib.hid hb_
  have HF5 := Lib.hid (HF4.out.own1 (S := []) (B := 0) hf_ (by have := HBS.out; omega))
  clear hb_ hf_
  go_wp2
  have hl := load_var agg94 size94 (xs := cnC (x.closeW false).1 q) rfl HR5.out.at
  refine bodyPost_ret (v := .tuple #[.agg (cnC (x.closeW false).1 q).toArray, .int .i64 (x.s0.closeW 13).2]) (by simp [results, Tryz.results99, as_addr, hl]) rfl ?_
  exact ⟨rfl, HF5.out⟩
theorem dCloseW_1 (x : CC) (q : Q4) (w : World) :
    Calls Tryz.prog 99 #[.agg (cnC x q).toArray, .int .i64 1] w fun e w' => e = .returned (.tuple #[.agg (cnC (x.closeW true).1 q).toArray, .int .i64 (x.closeW true).2]) ∧ Fr [] w w' := by
  obtain ⟨B, hB⟩ : ∃ B, w.heap.size = B := ⟨_, rfl⟩
  obtain ⟨wA, hwA⟩ : ∃ z, (w.alloc (.cells (cnC x q).toArray 94)).alloc (.cells #[.int .i64 0, .slice none 0 0, .bool false, .slice none 0 0, .int .i64 0, .int .i64 0, .int .i64 0, .int .i64 0, .slice none 0 0, .bool false, .slice none 0 0, .int .i64 0, .int .i64 0, .int .i64 0, .bool false, .bool false] 94) = z := ⟨_, rfl⟩
  have hb1 : Blk wA B 94 (cnC x q) := by
    rw [← hwA, ← hB]
    exact (Blk.made w _ (cnC x q)).keep ((Fr.refl [] _).alloc _) (by simp)
  have hr1 : Blk wA (B + 1) 94 zCn := by
    have h := Blk.made (w.alloc (.cells (cnC x q).toArray 94)) 94 zCn
    rw [show (w.alloc (.cells (cnC x q).toArray 94)).heap.size = B + 1 from by rw [← hB]; simp] at h
    rw [← hwA]
    exact h
  have hf : Fr [] w wA := by rw [← hwA]; exact ((Fr.refl [] w).alloc _).alloc _
  have HB := Lib.hid hb1
  have HR := Lib.hid hr1
  have HF := Lib.hid hf
  have HBS := Lib.hid hB
  have HWA := Lib.hid hwA
  clear hb1 hr1 hf hB hwA
  
  go_enter Tryz.func99, Tryz.ntmps99
  go_wp2_with fail
  rw [HWA.out]
  simp only [HBS.out]
  refine (refEndG 1 (by omega) _).mono ?_
  rintro e w' ⟨rfl, rfl⟩
  go_upto_region 3 with fail
  have hw1 : IntKind.i64.wrap 1 = 1 := by decide
  have hw0 : IntKind.i64.wrap 0 = 0 := by decide
  refine wp_region_lit ?_
  refine wpList_plain rfl (fun K hK => ?_); go_simp; refine hK _ _ ?_; clear hK K
  refine wpList_plain rfl (fun K hK => ?_); go_simp; refine hK _ _ ?_; clear hK K
  refine wpList_plain rfl (fun K hK => ?_); go_simp; refine hK _ _ ?_; clear hK K
  try simp only [Act.put, List.getElem_toArray, List.getElem_cons_succ, List.getElem_cons_zero, List.setIfInBounds_toArray, List.set_cons_zero, List.set_cons_succ]
  refine wpList_val rfl (v := .agg (stC x.s1 q.b1 q.r1).toArray) (w' := w') ?_ ?_
  · show Sem.run Tryz.prog ((Instr.loadAt 90 (.pointer (some ⟨B, 7, none⟩))) >>= fun x => pure (Next.value x)) w' = _
    rw [Sem.run_bind, load_all agg90 size90 (xs := stC x.s1 q.b1 q.r1) rfl (show LiesAt w' B 7 (stC x.s1 q.b1 q.r1) from HB.out.at.part (k := 7) (n := 7) rfl)]
    rfl
  try simp only [Act.put, List.getElem_toArray, List.getElem_cons_succ, List.getElem_cons_zero, List.setIfInBounds_toArray, List.set_cons_zero, List.set_cons_succ]
  refine wpList_plain rfl (fun K hK => ?_)
  go_simp
  refine (sCloseW_any x.s1 q.b1 q.r1 _).mono ?_
  rintro e w1 ⟨rfl, f1⟩
  refine hK _ _ ?_
  clear hK K
  try simp only [Act.put, List.getElem_toArray, List.getElem_cons_succ, List.getElem_cons_zero, List.setIfInBounds_toArray, List.set_cons_zero, List.set_cons_succ]
  have HB1 := Lib.hid (HB.out.keep f1 (by simp))
  have HR1 := Lib.hid (HR.out.keep f1 (by simp))
  have HF1 := Lib.hid (HF.out.step f1)
  clear f1 HB HR HF HWA
  refine wpList_plain rfl (fun K hK => ?_); go_simp; refine hK _ _ ?_; clear hK K
  refine wpList_plain rfl (fun K hK => ?_); go_simp; refine hK _ _ ?_; clear hK K
  refine wpList_plain rfl (fun K hK => ?_); go_simp; refine hK _ _ ?_; clear hK K
  refine wpList_plain rfl (fun K hK => ?_); go_simp; refine hK _ _ ?_; clear hK K
  try simp only [Act.put, List.getElem_toArray, List.getElem_cons_succ, List.getElem_cons_zero, List.setIfInBounds_toArray, List.set_cons_zero, List.set_cons_succ]
  obtain ⟨E1, hE1⟩ : ∃ E, w1.heap.size = E := ⟨_, rfl⟩
  obtain ⟨wx, hwx⟩ : ∃ z, w1.alloc (.cells #[.int .i64 0, .slice none 0 0, .bool false, .slice none 0 0, .int .i64 0, .int .i64 0, .int .i64 0] 90) = z := ⟨_, rfl⟩
  have hbx : Blk wx E1 90 zSt := by rw [← hwx, ← hE1]; exact Blk.made w1 90 zSt
  have fx : Fr [] w1 wx := by rw [← hwx]; exact (Fr.refl [] w1).alloc _
  rw [hwx]
  simp only [hE1]
  have HE1 := Lib.hid (show w.heap.size ≤ E1 from by rw [← hE1]; exact HF1.out.size)
  have HEB := Lib.hid (show B < E1 ∧ B + 1 < E1 from by rw [← hE1]; exact ⟨HB1.out.lt, HR1.out.lt⟩)
  have HB2 := Lib.hid (HB1.out.keep fx (by simp))
  have HR2 := Lib.hid (HR1.out.keep fx (by simp))
  have HF2 := Lib.hid (HF1.out.step fx)
  have HX2 := Lib.hid hbx
  clear fx hbx hwx hE1 HB1 HR1 HF1
  obtain ⟨w2, hst, hb_, hf_⟩ := store_all (t := 90) (stC (x.s1.closeW 13).1 q.b1 q.r1) size90 rfl (stC_one _ _ _) HX2.out rfl
  refine wpList_skp rfl (w' := w2) ?_ ?_
  · show Sem.run Tryz.prog ((Instr.storeAt 90 (.pointer (some ⟨E1, 0, none⟩)) (.agg (stC (x.s1.closeW 13).1 q.b1 q.r1).toArray)) >>= fun _ => pure Next.skip) _ = _
    rw [Sem.run_bind, hst]
    rfl
  clear hst
  try simp only [Act.put, List.getElem_toArray, List.getElem_cons_succ, List.getElem_cons_zero, List.setIfInBounds_toArray, List.set_cons_zero, List.set_cons_succ]
  have HX3 := Lib.hid hb_
  have HB3 := Lib.hid (HB2.out.keep hf_ (fun hm => by rw [List.mem_singleton] at hm; have := HEB.out; omega))
  have HR3 := Lib.hid (HR2.out.keep hf_ (fun hm => by rw [List.mem_singleton] at hm; have := HEB.out; omega))
  have HF3 := Lib.hid (HF2.out.own1 (S := []) (B := 0) hf_ HE1.out)
  clear hb_ hf_ HB2 HR2 HF2 HX2
  refine wpList_plain rfl (fun K hK => ?_); go_simp; refine hK _ _ ?_; clear hK K
  refine wpList_nil ?_
  try simp only [Act.put, List.getElem_toArray, List.getElem_cons_succ, List.getElem_cons_zero, List.setIfInBounds_toArray, List.set_cons_zero, List.set_cons_succ]
  go_upto_region 4 with fail
  refine wp_region_lit ?_
  refine wpList_plain rfl (fun K hK => ?_); go_simp; refine hK _ _ ?_; clear hK K
  try simp only [Act.put, List.getElem_toArray, List.getElem_cons_succ, List.getElem_cons_zero, List.setIfInBounds_toArray, List.set_cons_zero, List.set_cons_succ]
  refine wpList_val rfl (v := .agg (stC (x.s1.closeW 13).1 q.b1 q.r1).toArray) (w' := w2) ?_ ?_
  · show Sem.run Tryz.prog ((Instr.loadAt 90 (.pointer (some ⟨E1, 0, none⟩))) >>= fun x => pure (Next.value x)) w2 = _
    rw [Sem.run_bind, load_all agg90 size90 (xs := stC (x.s1.closeW 13).1 q.b1 q.r1) rfl HX3.out.at]
    rfl
  try simp only [Act.put, List.getElem_toArray, List.getElem_cons_succ, List.getElem_cons_zero, List.setIfInBounds_toArray, List.set_cons_zero, List.set_cons_succ]
  refine wpList_plain rfl (fun K hK => ?_); go_simp; refine hK _ _ ?_; clear hK K
  refine wpList_plain rfl (fun K hK => ?_); go_simp; refine hK _ _ ?_; clear hK K
  try simp only [Act.put, List.getElem_toArray, List.getElem_cons_succ, List.getElem_cons_zero, List.setIfInBounds_toArray, List.set_cons_zero, List.set_cons_succ]
  obtain ⟨w3, hst, hb_, hf_⟩ := store_part (t := 90) (o := 7) (stC (x.s1.closeW 13).1 q.b1 q.r1) size90 rfl (stC_one _ _ _) HB3.out (by show 7 + 7 ≤ 16; omega)
  refine wpList_skp rfl (w' := w3) ?_ ?_
  · show Sem.run Tryz.prog ((Instr.storeAt 90 (.pointer (some ⟨B, 7, none⟩)) (.agg (stC (x.s1.closeW 13).1 q.b1 q.r1).toArray)) >>= fun _ => pure Next.skip) _ = _
    rw [Sem.run_bind, hst]
    rfl
  clear hst
  try simp only [Act.put, List.getElem_toArray, List.getElem_cons_succ, List.getElem_cons_zero, List.setIfInBounds_toArray, List.set_cons_zero, List.set_cons_succ]
  refine wpList_nil ?_
  try simp only [Act.put, List.getElem_toArray, List.getElem_cons_succ, List.getElem_cons_zero, List.setIfInBounds_toArray, List.set_cons_zero, List.set_cons_succ]
  have HB4 := Lib.hid (show Blk w3 B 94 (cnC (x.closeW true).1 q) from hb_)
  have HR4 := Lib.hid (HR3.out.keep hf_ (by simp))
  have HF4 := Lib.hid (HF3.out.own1 (S := []) (B := 0) hf_ (by have := HBS.out; omega))
  clear hb_ hf_ HB3 HR3 HF3 HX3
  go_upto_region 5 with fail
  refine wp_region_lit ?_
  refine wpList_val rfl (v := .agg (cnC (x.closeW true).1 q).toArray) (w' := w3) ?_ ?_
  · show Sem.run Tryz.prog ((Instr.loadAt 94 (.pointer (some ⟨B, 0, none⟩))) >>= fun x => pure (Next.value x)) w3 = _
    rw [Sem.run_bind, load_all agg94 size94 (xs := cnC (x.closeW true).1 q) rfl HB4.out.at]
    rfl
  try simp only [Act.put, List.getElem_toArray, List.getElem_cons_succ, List.getElem_cons_zero, List.setIfInBounds_toArray, List.set_cons_zero, List.set_cons_succ]
  refine wpList_plain rfl (fun K hK => ?_); go_simp; refine hK _ _ ?_; clear hK K
  try simp only [Act.put, List.getElem_toArray, List.getElem_cons_succ, List.getElem_cons_zero, List.setIfInBounds_toArray, List.set_cons_zero, List.set_cons_succ]
  obtain ⟨w4, hst, hb_, hf_⟩ := store_all (t := 94) (cnC (x.closeW true).1 q) size94 rfl (cnC_one _ _) HR4.out rfl
  refine wpList_skp rfl (w' := w4) ?_ ?_
  · show Sem.run Tryz.prog ((Instr.storeAt 94 (.pointer (some ⟨B + 1, 0, none⟩)) (.agg (cnC (x.closeW true).1 q).toArray)) >>= fun _ => pure Next.skip) _ = _
    rw [Sem.run_bind, hst]
    rfl
  clear hst
  try simp only [Act.put, List.getElem_toArray, List.getElem_cons_succ, List.getElem_cons_zero, List.setIfInBounds_toArray, List.set_cons_zero, List.set_cons_succ]
  refine wpList_plain rfl (fun K hK => ?_); go_simp; refine hK _ _ ?_; clear hK K
  refine wpList_nil ?_
  try simp only [Act.put, List.getElem_toArray, List.getElem_cons_succ, List.getElem_cons_zero, List.setIfInBounds_toArray, List.set_cons_zero, List.set_cons_succ]
  have HR5 := Lib.hid hb_
  have HF5 := Lib.hid (HF4.out.own1 (S := []) (B := 0) hf_ (by have := HBS.out; omega))
  clear hb_ hf_
  go_wp2
  have hl := load_var agg94 size94 (xs := cnC (x.closeW true).1 q) rfl HR5.out.at
  refine bodyPost_ret (v := .tuple #[.agg (cnC (x.closeW true).1 q).toArray, .int .i64 (x.s1.closeW 13).2]) (by simp [results, Tryz.results99, as_addr, hl]) rfl ?_
  exact ⟨rfl, HF5.out⟩
theorem dCloseR_0 (x : CC) (q : Q4) (w : World) :
    Calls Tryz.prog 100 #[.agg (cnC x q).toArray, .int .i64 0] w fun e w' => e = .returned (.tuple #[.agg (cnC (x.closeR false).1 (x.closeRq q false)).toArray, .int .i64 (x.closeR false).2]) ∧ Fr [] w w' := by
  obtain ⟨B, hB⟩ : ∃ B, w.heap.size = B := ⟨_, rfl⟩
  obtain ⟨wA, hwA⟩ : ∃ z, (w.alloc (.cells (cnC x q).toArray 94)).alloc (.cells #[.int .i64 0, .slice none 0 0, .bool false, .slice none 0 0, .int .i64 0, .int .i64 0, .int .i64 0, .int .i64 0, .slice none 0 0, .bool false, .slice none 0 0, .int .i64 0, .int .i64 0, .int .i64 0, .bool false, .bool false] 94) = z := ⟨_, rfl⟩
  have hb1 : Blk wA B 94 (cnC x q) := by
    rw [← hwA, ← hB]
    exact (Blk.made w _ (cnC x q)).keep ((Fr.refl [] _).alloc _) (by simp)
  have hr1 : Blk wA (B + 1) 94 zCn := by
    have h := Blk.made (w.alloc (.cells (cnC x q).toArray 94)) 94 zCn
    rw [show (w.alloc (.cells (cnC x q).toArray 94)).heap.size = B + 1 from by rw [← hB]; simp] at h
    rw [← hwA]
    exact h
  have hf : Fr [] w wA := by rw [← hwA]; exact ((Fr.refl [] w).alloc _).alloc _
  have HB := Lib.hid hb1
  have HR := Lib.hid hr1
  have HF := Lib.hid hf
  have HBS := Lib.hid hB
  have HWA := Lib.hid hwA
  clear hb1 hr1 hf hB hwA
  
  go_enter Tryz.func100, Tryz.ntmps100
  go_wp2_with fail
  rw [HWA.out]
  simp only [HBS.out]
  refine (refEndG 0 (by omega) _).mono ?_
  rintro e w' ⟨rfl, rfl⟩
  go_upto_region 3 with fail
  have hw1 : IntKind.i64.wrap 1 = 1 := by decide
  have hw0 : IntKind.i64.wrap 0 = 0 := by decide
  refine wp_region_lit ?_
  refine wpList_plain rfl (fun K hK => ?_); go_simp; refine hK _ _ ?_; clear hK K
  refine wpList_plain rfl (fun K hK => ?_); go_simp; refine hK _ _ ?_; clear hK K
  refine wpList_plain rfl (fun K hK => ?_); go_simp; refine hK _ _ ?_; clear hK K
  refine wpList_plain rfl (fun K hK => ?_); go_simp; refine hK _ _ ?_; clear hK K
  try simp only [Act.put, List.getElem_toArray, List.getElem_cons_succ, List.getElem_cons_zero, List.setIfInBounds_toArray, List.set_cons_zero, List.set_cons_succ]
  refine wpList_val rfl (v := .agg (stC x.s1 q.b1 q.r1).toArray) (w' := w') ?_ ?_
  · show Sem.run Tryz.prog ((Instr.loadAt 90 (.pointer (some ⟨B, 7, none⟩))) >>= fun x => pure (Next.value x)) w' = _
    rw [Sem.run_bind, load_all agg90 size90 (xs := stC x.s1 q.b1 q.r1) rfl (show LiesAt w' B 7 (stC x.s1 q.b1 q.r1) from HB.out.at.part (k := 7) (n := 7) rfl)]
    rfl
  try simp only [Act.put, List.getElem_toArray, List.getElem_cons_succ, List.getElem_cons_zero, List.setIfInBounds_toArray, List.set_cons_zero, List.set_cons_succ]
  refine wpList_plain rfl (fun K hK => ?_)
  go_simp
  refine (sCloseR_any x.s1 q.b1 q.r1 _).mono ?_
  rintro e w1 ⟨rfl, f1⟩
  refine hK _ _ ?_
  clear hK K
  try simp only [Act.put, List.getElem_toArray, List.getElem_cons_succ, List.getElem_cons_zero, List.setIfInBounds_toArray, List.set_cons_zero, List.set_cons_succ]
  have HB1 := Lib.hid (HB.out.keep f1 (by simp))
  have HR1 := Lib.hid (HR.out.keep f1 (by simp))
  have HF1 := Lib.hid (HF.out.step f1)
  clear f1 HB HR HF HWA
  refine wpList_plain rfl (fun K hK => ?_); go_simp; refine hK _ _ ?_; clear hK K
  refine wpList_plain rfl (fun K hK => ?_); go_simp; refine hK _ _ ?_; clear hK K
  refine wpList_plain rfl (fun K hK => ?_); go_simp; refine hK _ _ ?_; clear hK K
  refine wpList_plain rfl (fun K hK => ?_); go_simp; refine hK _ _ ?_; clear hK K
  try simp only [Act.put, List.getElem_toArray, List.getElem_cons_succ, List.getElem_cons_zero, List.setIfInBounds_toArray, List.set_cons_zero, List.set_cons_succ]
  obtain ⟨E1, hE1⟩ : ∃ E, w1.heap.size = E := ⟨_, rfl⟩
  obtain ⟨wx, hwx⟩ : ∃ z, w1.alloc (.cells #[.int .i64 0, .slice none 0 0, .bool false, .slice none 0 0, .int .i64 0, .int .i64 0, .int .i64 0] 90) = z := ⟨_, rfl⟩
  have hbx : Blk wx E1 90 zSt := by rw [← hwx, ← hE1]; exact Blk.made w1 90 zSt
  have fx : Fr [] w1 wx := by rw [← hwx]; exact (Fr.refl [] w1).alloc _
  rw [hwx]
  simp only [hE1]
  have HE1 := Lib.hid (show w.heap.size ≤ E1 from by rw [← hE1]; exact HF1.out.size)
  have HEB := Lib.hid (show B < E1 ∧ B + 1 < E1 from by rw [← hE1]; exact ⟨HB1.out.lt, HR1.out.lt⟩)
  have HB2 := Lib.hid (HB1.out.keep fx (by simp))
  have HR2 := Lib.hid (HR1.out.keep fx (by simp))
  have HF2 := Lib.hid (HF1.out.step fx)
  have HX2 := Lib.hid hbx
  clear fx hbx hwx hE1 HB1 HR1 HF1
  obtain ⟨w2, hst, hb_, hf_⟩ := store_all (t := 90) (stC (x.s1.closeR 14).1 (x.s1.closeRb q.b1) q.r1) size90 rfl (stC_one _ _ _) HX2.out rfl
  refine wpList_skp rfl (w' := w2) ?_ ?_
  · show Sem.run Tryz.prog ((Instr.storeAt 90 (.pointer (some ⟨E1, 0, none⟩)) (.agg (stC (x.s1.closeR 14).1 (x.s1.closeRb q.b1) q.r1).toArray)) >>= fun _ => pure Next.skip) _ = _
    rw [Sem.run_bind, hst]
    rfl
  clear hst
  try simp only [Act.put, List.getElem_toArray, List.getElem_cons_succ, List.getElem_cons_zero, List.setIfInBounds_toArray, List.set_cons_zero, List.set_cons_succ]
  have HX3 := Lib.hid hb_
  have HB3 := Lib.hid (HB2.out.keep hf_ (fun hm => by rw [List.mem_singleton] at hm; have := HEB.out; omega))
  have HR3 := Lib.hid (HR2.out.keep hf_ (fun hm => by rw [List.mem_singleton] at hm; have := HEB.out; omega))
  have HF3 := Lib.hid (HF2.out.own1 (S := []) (B := 0) hf_ HE1.out)
  clear hb_ hf_ HB2 HR2 HF2 HX2
  refine wpList_plain rfl (fun K hK => ?_); go_simp; refine hK _ _ ?_; clear hK K
  refine wpList_nil ?_
  try simp only [Act.put, List.getElem_toArray, List.getElem_cons_succ, List.getElem_cons_zero, List.setIfInBounds_toArray, List.set_cons_zero, List.set_cons_succ]
  go_upto_region 4 with fail
  refine wp_region_lit ?_
  refine wpList_plain rfl (fun K hK => ?_); go_simp; refine hK _ _ ?_; clear hK K
  refine wpList_plain rfl (fun K hK => ?_); go_simp; refine hK _ _ ?_; clear hK K
  try simp only [Act.put, List.getElem_toArray, List.getElem_cons_succ, List.getElem_cons_zero, List.setIfInBounds_toArray, List.set_cons_zero, List.set_cons_succ]
  refine wpList_val rfl (v := .agg (stC (x.s1.closeR 14).1 (x.s1.closeRb q.b1) q.r1).toArray) (w' := w2) ?_ ?_
  · show Sem.run Tryz.prog ((Instr.loadAt 90 (.pointer (some ⟨E1, 0, none⟩))) >>= fun x => pure (Next.value x)) w2 = _
    rw [Sem.run_bind, load_all agg90 size90 (xs := stC (x.s1.closeR 14).1 (x.s1.closeRb q.b1) q.r1) rfl HX3.out.at]
    rfl
  try simp only [Act.put, List.getElem_toArray, List.getElem_cons_succ, List.getElem_cons_zero, List.setIfInBounds_toArray, List.set_cons_zero, List.set_cons_succ]
  refine wpList_plain rfl (fun K hK => ?_); go_simp; refine hK _ _ ?_; clear hK K
  refine wpList_plain rfl (fun K hK => ?_); go_simp; refine hK _ _ ?_; clear hK K
  try simp only [Act.put, List.getElem_toArray, List.getElem_cons_succ, List.getElem_cons_zero, List.setIfInBounds_toArray, List.set_cons_zero, List.set_cons_succ]
  obtain ⟨w3, hst, hb_, hf_⟩ := store_part (t := 90) (o := 7) (stC (x.s1.closeR 14).1 (x.s1.closeRb q.b1) q.r1) size90 rfl (stC_one _ _ _) HB3.out (by show 7 + 7 ≤ 16; omega)
  refine wpList_skp rfl (w' := w3) ?_ ?_
  · show Sem.run Tryz.prog ((Instr.storeAt 90 (.pointer (some ⟨B, 7, none⟩)) (.agg (stC (x.s1.closeR 14).1 (x.s1.closeRb q.b1) q.r1).toArray)) >>= fun _ => pure Next.skip) _ = _
    rw [Sem.run_bind, hst]
    rfl
  clear hst
  try simp only [Act.put, List.getElem_toArray, List.getElem_cons_succ, List.getElem_cons_zero, List.setIfInBounds_toArray, List.set_cons_zero, List.set_cons_succ]
  refine wpList_nil ?_
  try simp only [Act.put, List.getElem_toArray, List.getElem_cons_succ, List.getElem_cons_zero, List.setIfInBounds_toArray, List.set_cons_zero, List.set_cons_succ]
  have HB4 := Lib.hid (show Blk w3 B 94 (cnC (x.closeR false).1 (x.closeRq q false)) from hb_)
  have HR4 := Lib.hid (HR3.out.keep hf_ (by simp))
  have HF4 := Lib.hid (HF3.out.own1 (S := []) (B := 0) hf_ (by have := HBS.out; omega))
  clear hb_ hf_ HB3 HR3 HF3 HX3
  go_upto_region 5 with fail
  refine wp_region_lit ?_
  refine wpList_val rfl (v := .agg (cnC (x.closeR false).1 (x.closeRq q false)).toArray) (w' := w3) ?_ ?_
  · show Sem.run Tryz.prog ((Instr.loadAt 94 (.pointer (some ⟨B, 0, none⟩))) >>= fun x => pure (Next.value x)) w3 = _
    rw [Sem.run_bind, load_all agg94 size94 (xs := cnC (x.closeR false).1 (x.closeRq q false)) rfl HB4.out.at]
    rfl
  try simp only [Act.put, List.getElem_toArray, List.getElem_cons_succ, List.getElem_cons_zero, List.setIfInBounds_toArray, List.set_cons_zero, List.set_cons_succ]
  refine wpList_plain rfl (fun K hK => ?_); go_simp; refine hK _ _ ?_; clear hK K
  try simp only [Act.put, List.getElem_toArray, List.getElem_cons_succ, List.getElem_cons_zero, List.setIfInBounds_toArray, List.set_cons_zero, List.set_cons_succ]
  obtain ⟨w4, hst, hb_, hf_⟩ := store_all (t := 94) (cnC (x.closeR false).1 (x.closeRq q false)) size94 rfl (cnC_one _ _) HR4.out rfl
  refine wpList_skp rfl (w' := w4) ?_ ?_
  · show Sem.run Tryz.prog ((Instr.storeAt 94 (.pointer (some ⟨B + 1, 0, none⟩)) (.agg (cnC (x.closeR false).1 (x.closeRq q false)).toArray)) >>= fun _ => pure Next.skip) _ = _
    rw [Sem.run_bind, hst]
    rfl
  clear hst
  try simp only [Act.put, List.getElem_toArray, List.getElem_cons_succ, List.getElem_cons_zero, List.setIfInBounds_toArray, List.set_cons_zero, List.set_cons_succ]
  refine wpList_plain rfl (fun K hK => ?_); go_simp; refine hK _ _ ?_; clear hK K
  refine wpList_nil ?_
  try simp only [Act.put, List.getElem_toArray, List.getElem_cons_succ, List.getElem_cons_zero, List.setIfInBounds_toArray, List.set_cons_zero, List.set_cons_succ]
  have HR5 := Lib.hid hb_
  have HF5 := Lib.hid (HF4.out.own1 (S := []) (B := 0) hf_ (by have := HBS.out; omega))
  clear hb_ hf_
  go_wp2
  have hl := load_var agg94 size94 (xs := cnC (x.closeR false).1 (x.closeRq q false)) rfl HR5.out.at
  refine bodyPost_ret (v := .tuple #[.agg (cnC (x.closeR false).1 (x.closeRq q false)).toArray, .int .i64 (x.s1.closeR 14).2]) (by simp [results, Tryz.results100, as_addr, hl]) rfl ?_
  exact ⟨rfl, HF5.out⟩
theorem dCloseR_1 (x : CC) (q : Q4) (w : World) :
    Calls Tryz.prog 100 #[.agg (cnC x q).toArray, .int .i64 1] w fun e w' => e = .returned (.tuple #[.agg (cnC (x.closeR true).1 (x.closeRq q true)).toArray, .int .i64 (x.closeR true).2]) ∧ Fr [] w w' := by
  obtain ⟨B, hB⟩ : ∃ B, w.heap.size = B := ⟨_, rfl⟩
  obtain ⟨wA, hwA⟩ : ∃ z, (w.alloc (.cells (cnC x q).toArray 94)).alloc (.cells #[.int .i64 0, .slice none 0 0, .bool false, .slice none 0 0, .int .i64 0, .int .i64 0, .int .i64 0, .int .i64 0, .slice none 0 0, .bool false, .slice none 0 0, .int .i64 0, .int .i64 0, .int .i64 0, .bool false, .bool false] 94) = z := ⟨_, rfl⟩
  have hb1 : Blk wA B 94 (cnC x q) := by
    rw [← hwA, ← hB]
    exact (Blk.made w _ (cnC x q)).keep ((Fr.refl [] _).alloc _) (by simp)
  have hr1 : Blk wA (B + 1) 94 zCn := by
    have h := Blk.made (w.alloc (.cells (cnC x q).toArray 94)) 94 zCn
    rw [show (w.alloc (.cells (cnC x q).toArray 94)).heap.size = B + 1 from by rw [← hB]; simp] at h
    rw [← hwA]
    exact h
  have hf : Fr [] w wA := by rw [← hwA]; exact ((Fr.refl [] w).alloc _).alloc _
  have HB := Lib.hid hb1
  have HR := Lib.hid hr1
  have HF := Lib.hid hf
  have HBS := Lib.hid hB
  have HWA := Lib.hid hwA
  clear hb1 hr1 hf hB hwA
  
  go_enter Tryz.func100, Tryz.ntmps100
  go_wp2_with fail
  rw [HWA.out]
  simp only [HBS.out]
  refine (refEndG 1 (by omega) _).mono ?_
  rintro e w' ⟨rfl, rfl⟩
  go_upto_region 3 with fail
  have hw1 : IntKind.i64.wrap 1 = 1 := by decide
  have hw0 : IntKind.i64.wrap 0 = 0 := by decide
  refine wp_region_lit ?_
  refine wpList_plain rfl (fun K hK => ?_); go_simp; refine hK _ _ ?_; clear hK K
  refine wpList_plain rfl (fun K hK => ?_); go_simp; refine hK _ _ ?_; clear hK K
  refine wpList_plain rfl (fun K hK => ?_); go_simp; refine hK _ _ ?_; clear hK K
  refine wpList_plain rfl (fun K hK => ?_); go_simp; refine hK _ _ ?_; clear hK K
  try simp only [Act.put, List.getElem_toArray, List.getElem_cons_succ, List.getElem_cons_zero, List.setIfInBounds_toArray, List.set_cons_zero, List.set_cons_succ]
  refine wpList_val rfl (v := .agg (stC x.s0 q.b0 q.r0).toArray) (w' := w') ?_ ?_
  · show Sem.run Tryz.prog ((Instr.loadAt 90 (.pointer (some ⟨B, 0, none⟩))) >>= fun x => pure (Next.value x)) w' = _
    rw [Sem.run_bind, load_all agg90 size90 (xs := stC x.s0 q.b0 q.r0) rfl (show LiesAt w' B 0 (stC x.s0 q.b0 q.r0) from HB.out.at.part (k := 0) (n := 7) rfl)]
    rfl
  try simp only [Act.put, List.getElem_toArray, List.getElem_cons_succ, List.getElem_cons_zero, List.setIfInBounds_toArray, List.set_cons_zero, List.set_cons_succ]
  refine wpList_plain rfl (fun K hK => ?_)
  go_simp
  refine (sCloseR_any x.s0 q.b0 q.r0 _).mono ?_
  rintro e w1 ⟨rfl, f1⟩
  refine hK _ _ ?_
  clear hK K
  try simp only [Act.put, List.getElem_toArray, List.getElem_cons_succ, List.getElem_cons_zero, List.setIfInBounds_toArray, List.set_cons_zero, List.set_cons_succ]
  have HB1 := Lib.hid (HB.out.keep f1 (by simp))
  have HR1 := Lib.hid (HR.out.keep f1 (by simp))
  have HF1 := Lib.hid (HF.out.step f1)
  clear f1 HB HR HF HWA
  refine wpList_plain rfl (fun K hK => ?_); go_simp; refine hK _ _ ?_; clear hK K
  refine wpList_plain rfl (fun K hK => ?_); go_simp; refine hK _ _ ?_; clear hK K
  refine wpList_plain rfl (fun K hK => ?_); go_simp; refine hK _ _ ?_; clear hK K
  refine wpList_plain rfl (fun K hK => ?_); go_simp; refine hK _ _ ?_; clear hK K
  try simp only [Act.put, List.getElem_toArray, List.getElem_cons_succ, List.getElem_cons_zero, List.setIfInBounds_toArray, List.set_cons_zero, List.set_cons_succ]
  obtain ⟨E1, hE1⟩ : ∃ E, w1.heap.size = E := ⟨_, rfl⟩
  obtain ⟨wx, hwx⟩ : ∃ z, w1.alloc (.cells #[.int .i64 0, .slice none 0 0, .bool false, .slice none 0 0, .int .i64 0, .int .i64 0, .int .i64 0] 90) = z := ⟨_, rfl⟩
  have hbx : Blk wx E1 90 zSt := by rw [← hwx, ← hE1]; exact Blk.made w1 90 zSt
  have fx : Fr [] w1 wx := by rw [← hwx]; exact (Fr.refl [] w1).alloc _
  rw [hwx]
  simp only [hE1]
  have HE1 := Lib.hid (show w.heap.size ≤ E1 from by rw [← hE1]; exact HF1.out.size)
  have HEB := Lib.hid (show B < E1 ∧ B + 1 < E1 from by rw [← hE1]; exact ⟨HB1.out.lt, HR1.out.lt⟩)
  have HB2 := Lib.hid (HB1.out.keep fx (by simp))
  have HR2 := Lib.hid (HR1.out.keep fx (by simp))
  have HF2 := Lib.hid (HF1.out.step fx)
  have HX2 := Lib.hid hbx
  clear fx hbx hwx hE1 HB1 HR1 HF1
  obtain ⟨w2, hst, hb_, hf_⟩ := store_all (t := 90) (stC (x.s0.closeR 14).1 (x.s0.closeRb q.b0) q.r0) size90 rfl (stC_one _ _ _) HX2.out rfl
  refine wpList_skp rfl (w' := w2) ?_ ?_
  · show Sem.run Tryz.prog ((Instr.storeAt 90 (.pointer (some ⟨E1, 0, none⟩)) (.agg (stC (x.s0.closeR 14).1 (x.s0.closeRb q.b0) q.r0).toArray)) >>= fun _ => pure Next.skip) _ = _
    rw [Sem.run_bind, hst]
    rfl
  clear hst
  try simp only [Act.put, List.getElem_toArray, List.getElem_cons_succ, List.getElem_cons_zero, List.setIfInBounds_toArray, List.set_cons_zero, List.set_cons_succ]
  have HX3 := Lib.hid hb_
  have HB3 := Lib.hid (HB2.out.keep hf_ (fun hm => by rw [List.mem_singleton] at hm; have := HEB.out; omega))
  have HR3 := Lib.hid (HR2.out.keep hf_ (fun hm => by rw [List.mem_singleton] at hm; have := HEB.out; omega))
  have HF3 := Lib.hid (HF2.out.own1 (S := []) (B := 0) hf_ HE1.out)
  clear hb_ hf_ HB2 HR2 HF2 HX2
  refine wpList_plain rfl (fun K hK => ?_); go_simp; refine hK _ _ ?_; clear hK K
  refine wpList_nil ?_
  try simp only [Act.put, List.getElem_toArray, List.getElem_cons_succ, List.getElem_cons_zero, List.setIfInBounds_toArray, List.set_cons_zero, List.set_cons_succ]
  go_upto_region 4 with fail
  refine wp_region_lit ?_
  refine wpList_plain rfl (fun K hK => ?_); go_simp; refine hK _ _ ?_; clear hK K
  refine wpList_plain rfl (fun K hK => ?_); go_simp; refine hK _ _ ?_; clear hK K
  try simp only [Act.put, List.getElem_toArray, List.getElem_cons_succ, List.getElem_cons_zero, List.setIfInBounds_toArray, List.set_cons_zero, List.set_cons_succ]
  refine wpList_val rfl (v := .agg (stC (x.s0.closeR 14).1 (x.s0.closeRb q.b0) q.r0).toArray) (w' := w2) ?_ ?_
  · show Sem.run Tryz.prog ((Instr.loadAt 90 (.pointer (some ⟨E1, 0, none⟩))) >>= fun x => pure (Next.value x)) w2 = _
    rw [Sem.run_bind, load_all agg90 size90 (xs := stC (x.s0.closeR 14).1 (x.s0.closeRb q.b0) q.r0) rfl HX3.out.at]
    rfl
  try simp only [Act.put, List.getElem_toArray, List.getElem_cons_succ, List.getElem_cons_zero, List.setIfInBounds_toArray, List.set_cons_zero, List.set_cons_succ]
  refine wpList_plain rfl (fun K hK => ?_); go_simp; refine hK _ _ ?_; clear hK K
  refine wpList_plain rfl (fun K hK => ?_); go_simp; refine hK _ _ ?_; clear hK K
  try simp only [Act.put, List.getElem_toArray, List.getElem_cons_succ, List.getElem_cons_zero, List.setIfInBounds_toArray, List.set_cons_zero, List.set_cons_succ]
  obtain ⟨w3, hst, hb_, hf_⟩ := store_part (t := 90) (o := 0) (stC (x.s0.closeR 14).1 (x.s0.closeRb q.b0) q.r0) size90 rfl (stC_one _ _ _) HB3.out (by show 0 + 7 ≤ 16; omega)
  refine wpList_skp rfl (w' := w3) ?_ ?_
  · show Sem.run Tryz.prog ((Instr.storeAt 90 (.pointer (some ⟨B, 0, none⟩)) (.agg (stC (x.s0.closeR 14).1 (x.s0.closeRb q.b0) q.r0).toArray)) >>= fun _ => pure Next.skip) _ = _
    rw [Sem.run_bind, hst]
    rfl
  clear hst
  try simp only [Act.put, List.getElem_toArray, List.getElem_cons_succ, List.getElem_cons_zero, List.setIfInBounds_toArray, List.set_cons_zero, List.set_cons_succ]
  refine wpList_nil ?_
  try simp only [Act.put, List.getElem_toArray, List.getElem_cons_succ, List.getElem_cons_zero, List.setIfInBounds_toArray, List.set_cons_zero, List.set_cons_succ]
  have HB4 := Lib.hid (show Blk w3 B 94 (cnC (x.closeR true).1 (x.closeRq q true)) from hb_)
  have HR4 := Lib.hid (HR3.out.keep hf_ (by simp))
  have HF4 := Lib.hid (HF3.out.own1 (S := []) (B := 0) hf_ (by have := HBS.out; omega))
  clear hb_ hf_ HB3 HR3 HF3 HX3
  go_upto_region 5 with fail
  refine wp_region_lit ?_
  refine wpList_val rfl (v := .agg (cnC (x.closeR true).1 (x.closeRq q true)).toArray) (w' := w3) ?_ ?_
  · show Sem.run Tryz.prog ((Instr.loadAt 94 (.pointer (some ⟨B, 0, none⟩))) >>= fun x => pure (Next.value x)) w3 = _
    rw [Sem.run_bind, load_all agg94 size94 (xs := cnC (x.closeR true).1 (x.closeRq q true)) rfl HB4.out.at]
    rfl
  try simp only [Act.put, List.getElem_toArray, List.getElem_cons_succ, List.getElem_cons_zero, List.setIfInBounds_toArray, List.set_cons_zero, List.set_cons_succ]
  refine wpList_plain rfl (fun K hK => ?_); go_simp; refine hK _ _ ?_; clear hK K
  try simp only [Act.put, List.getElem_toArray, List.getElem_cons_succ, List.getElem_cons_zero, List.setIfInBounds_toArray, List.set_cons_zero, List.set_cons_succ]
  obtain ⟨w4, hst, hb_, hf_⟩ := store_all (t := 94) (cnC (x.closeR true).1 (x.closeRq q true)) size94 rfl (cnC_one _ _) HR4.out rfl
  refine wpList_skp rfl (w' := w4) ?_ ?_
  · show Sem.run Tryz.prog ((Instr.storeAt 94 (.pointer (some ⟨B + 1, 0, none⟩)) (.agg (cnC (x.closeR true).1 (x.closeRq q true)).toArray)) >>= fun _ => pure Next.skip) _ = _
    rw [Sem.run_bind, hst]
    rfl
  clear hst
  try simp only [Act.put, List.getElem_toArray, List.getElem_cons_succ, List.getElem_cons_zero, List.setIfInBounds_toArray, List.set_cons_zero, List.set_cons_succ]
  refine wpList_plain rfl (fun K hK => ?_); go_simp; refine hK _ _ ?_; clear hK K
  refine wpList_nil ?_
  try simp only [Act.put, List.getElem_toArray, List.getElem_cons_succ, List.getElem_cons_zero, List.setIfInBounds_toArray, List.set_cons_zero, List.set_cons_succ]
  have HR5 := Lib.hid hb_
  have HF5 := Lib.hid (HF4.out.own1 (S := []) (B := 0) hf_ (by have := HBS.out; omega))
  clear hb_ hf_
  go_wp2
  have hl := load_var agg94 size94 (xs := cnC (x.closeR true).1 (x.closeRq q true)) rfl HR5.out.at
  refine bodyPost_ret (v := .tuple #[.agg (cnC (x.closeR true).1 (x.closeRq q true)).toArray, .int .i64 (x.s0.closeR 14).2]) (by simp [results, Tryz.results100, as_addr, hl]) rfl ?_
  exact ⟨rfl, HF5.out⟩
end Go.Proofs.YtmdhlodafjpnmaaGreat
