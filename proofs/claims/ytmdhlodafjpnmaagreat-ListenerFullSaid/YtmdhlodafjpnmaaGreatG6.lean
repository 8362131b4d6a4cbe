/- The reference's connections in memory, with their bytes: an end closed. -/
/- Rows of structs in memory: lists of records, each with its cells; structs built. -/
import Derived.Test.YtmdhlodafjpnmaaGreatG4
import Derived.Test.YtmdhlodafjpnmaaGreatPNR
namespace Go.Proofs.YtmdhlodafjpnmaaGreat
open Go.RowKit
set_option linter.unusedVariables false
set_option linter.unusedSimpArgs false
set_option maxRecDepth 100000
set_option maxHeartbeats 8000000

def CC.shut (x : CC) (e : Bool) : CC := if e then { x with a1 := true } else { x with a0 := true }
def CC.isShut (x : CC) (e : Bool) : Bool := if e then x.a1 else x.a0
def CC.close (x : CC) (e : Bool) : CC × Int := if x.isShut e = true then (x, 14) else ((((x.shut e).closeW e).1.closeR e).1, 0)
def CC.closeq (x : CC) (q : Q4) (e : Bool) : Q4 := if x.isShut e = true then q else ((x.shut e).closeW e).1.closeRq q e
theorem size4g : ∀ w, (sizeOf 4).run Tryz.prog w = .ok 1 w := fun w => by kernel_rfl
theorem dClose_0 (x : CC) (q : Q4) (w : World) :
    Calls Tryz.prog 54 #[.agg (cnC x q).toArray, .int .i64 0] w fun e w' => e = .returned (.tuple #[.agg (cnC (x.close false).1 (x.closeq q false)).toArray, .int .i64 (x.close false).2]) ∧ Fr [] w w' := by
  unfold CC.close CC.closeq
  have hsh : x.isShut false = x.a0 := rfl
  cases ha : x.a0 with
  | true =>
    rw [hsh, ha, if_pos rfl, if_pos rfl]
    clear hsh
    obtain ⟨B, hB⟩ : ∃ B, w.heap.size = B := ⟨_, rfl⟩
    obtain ⟨wA, hwA⟩ : ∃ z, (w.alloc (.cells (cnC x q).toArray 94)).alloc (.cells #[.int .i64 0, .slice none 0 0, .bool false, .slice none 0 0, .int .i64 0, .int .i64 0, .int .i64 0, .int .i64 0, .slice none 0 0, .bool false, .slice none 0 0, .int .i64 0, .int .i64 0, .int .i64 0, .bool false, .bool false] 94) = z := ⟨_, rfl⟩
    have hb1 : Blk wA B 94 (cnC x q) := by
      rw [← hwA, ← hB]
      exact (Blk.made w _ (cnC x q)).keep ((Fr.refl [] _).alloc _) (by simp)
    have hr1 : Blk wA (B + 1) 94 zCn := by
      have h := Blk.made (w.alloc (.cells (cnC x q).toArray 94)) 94 zCn
      rw [show (w.alloc (.cells (cnC x q).toArray 94)).heap.size = B + 1 from by rw [← hB]; simp] at h
      rw [← hwA]
      exact h
    have hf : Fr [] w wA := by rw [← hwA]; exact ((Fr.refl [] w).alloc _).alloc _
    have HB := Lib.hid hb1
    have HR := Lib.hid hr1
    have HF := Lib.hid hf
    have HBS := Lib.hid hB
    have HWA := Lib.hid hwA
    clear hb1 hr1 hf hB hwA
    
    have c14 : wA.cell? ⟨B, 14, none⟩ = some (.bool true) := by
      rw [← ha]
      exact HB.out.at 14 _ rfl
    go_enter Tryz.func54, Tryz.ntmps54
    go_wp2_with fail
    rw [HWA.out]
    simp only [HBS.out]
    refine (refEndG 0 (by omega) _).mono ?_
    rintro e w' ⟨rfl, rfl⟩
    go_upto_region 4 with fail
    clear c14
    refine wp_region_lit ?_
    refine wpList_val rfl (v := .agg (cnC x q).toArray) (w' := w') ?_ ?_
    · show Sem.run Tryz.prog ((Instr.loadAt 94 (.pointer (some ⟨B, 0, none⟩))) >>= fun x => pure (Next.value x)) w' = _
      rw [Sem.run_bind, load_all agg94 size94 (xs := cnC x q) rfl HB.out.at]
      rfl
    try simp only [Act.put, List.getElem_toArray, List.getElem_cons_succ, List.getElem_cons_zero, List.setIfInBounds_toArray, List.set_cons_zero, List.set_cons_succ]
    obtain ⟨w9, hst, hb_, hf_⟩ := store_all (t := 94) (cnC x q) size94 rfl (cnC_one _ _) HR.out rfl
    refine wpList_skp rfl (w' := w9) ?_ ?_
    · show Sem.run Tryz.prog ((Instr.storeAt 94 (.pointer (some ⟨B + 1, 0, none⟩)) (.agg (cnC x q).toArray)) >>= fun _ => pure Next.skip) _ = _
      rw [Sem.run_bind, hst]
      rfl
    clear hst
    try simp only [Act.put, List.getElem_toArray, List.getElem_cons_succ, List.getElem_cons_zero, List.setIfInBounds_toArray, List.set_cons_zero, List.set_cons_succ]
    refine wpList_plain rfl (fun K hK => ?_); go_simp; refine hK _ _ ?_; clear hK K
    refine wpList_nil ?_
    try simp only [Act.put, List.getElem_toArray, List.getElem_cons_succ, List.getElem_cons_zero, List.setIfInBounds_toArray, List.set_cons_zero, List.set_cons_succ]
    have HR9 := Lib.hid hb_
    have HF9 := Lib.hid (HF.out.own1 (S := []) (B := 0) hf_ (by have := HBS.out; omega))
    clear hb_ hf_
    go_wp2
    have hl := load_var agg94 size94 (xs := cnC x q) rfl HR9.out.at
    refine bodyPost_ret (v := .tuple #[.agg (cnC x q).toArray, .int .i64 14]) (by simp [results, Tryz.results54, as_addr, hl]) rfl ?_
    exact ⟨rfl, HF9.out⟩
  | false =>
    rw [hsh, ha, if_neg (by decide), if_neg (by decide)]
    clear hsh
    obtain ⟨B, hB⟩ : ∃ B, w.heap.size = B := ⟨_, rfl⟩
    obtain ⟨wA, hwA⟩ : ∃ z, (w.alloc (.cells (cnC x q).toArray 94)).alloc (.cells #[.int .i64 0, .slice none 0 0, .bool false, .slice none 0 0, .int .i64 0, .int .i64 0, .int .i64 0, .int .i64 0, .slice none 0 0, .bool false, .slice none 0 0, .int .i64 0, .int .i64 0, .int .i64 0, .bool false, .bool false] 94) = z := ⟨_, rfl⟩
    have hb1 : Blk wA B 94 (cnC x q) := by
      rw [← hwA, ← hB]
      exact (Blk.made w _ (cnC x q)).keep ((Fr.refl [] _).alloc _) (by simp)
    have hr1 : Blk wA (B + 1) 94 zCn := by
      have h := Blk.made (w.alloc (.cells (cnC x q).toArray 94)) 94 zCn
      rw [show (w.alloc (.cells (cnC x q).toArray 94)).heap.size = B + 1 from by rw [← hB]; simp] at h
      rw [← hwA]
      exact h
    have hf : Fr [] w wA := by rw [← hwA]; exact ((Fr.refl [] w).alloc _).alloc _
    have HB := Lib.hid hb1
    have HR := Lib.hid hr1
    have HF := Lib.hid hf
    have HBS := Lib.hid hB
    have HWA := Lib.hid hwA
    clear hb1 hr1 hf hB hwA
    
    have c14 : wA.cell? ⟨B, 14, none⟩ = some (.bool false) := by
      rw [← ha]
      exact HB.out.at 14 _ rfl
    go_enter Tryz.func54, Tryz.ntmps54
    go_wp2_with fail
    rw [HWA.out]
    simp only [HBS.out]
    refine (refEndG 0 (by omega) _).mono ?_
    rintro e w' ⟨rfl, rfl⟩
    go_upto_region 5 with fail
    clear c14
    refine wp_region_lit ?_
    refine wpList_plain rfl (fun K hK => ?_); go_simp; refine hK _ _ ?_; clear hK K
    refine wpList_plain rfl (fun K hK => ?_); go_simp; refine hK _ _ ?_; clear hK K
    refine wpList_plain rfl (fun K hK => ?_); go_simp; refine hK _ _ ?_; clear hK K
    try simp only [Act.put, List.getElem_toArray, List.getElem_cons_succ, List.getElem_cons_zero, List.setIfInBounds_toArray, List.set_cons_zero, List.set_cons_succ]
    obtain ⟨w1, hst, hb_, hf_⟩ := store_cell (t := 4) (o := 14) (.bool true) size4g rfl rfl HB.out (by show 14 + 1 ≤ 16; omega)
    refine wpList_skp rfl (w' := w1) ?_ ?_
    · show Sem.run Tryz.prog ((Instr.storeAt 4 (.pointer (some ⟨B, 14, none⟩)) (.bool true)) >>= fun _ => pure Next.skip) _ = _
      rw [Sem.run_bind, hst]
      rfl
    clear hst
    try simp only [Act.put, List.getElem_toArray, List.getElem_cons_succ, List.getElem_cons_zero, List.setIfInBounds_toArray, List.set_cons_zero, List.set_cons_succ]
    refine wpList_nil ?_
    try simp only [Act.put, List.getElem_toArray, List.getElem_cons_succ, List.getElem_cons_zero, List.setIfInBounds_toArray, List.set_cons_zero, List.set_cons_succ]
    have HB1 := Lib.hid (show Blk w1 B 94 (cnC (x.shut false) q) from hb_)
    have HR1 := Lib.hid (HR.out.keep hf_ (by simp))
    have HF1 := Lib.hid (HF.out.own1 (S := []) (B := 0) hf_ (by have := HBS.out; omega))
    clear hb_ hf_ HB HR HF HWA
    go_upto_region 6 with fail
    refine wp_region_lit ?_
    refine wpList_val rfl (v := .agg (cnC (x.shut false) q).toArray) (w' := w1) ?_ ?_
    · show Sem.run Tryz.prog ((Instr.loadAt 94 (.pointer (some ⟨B, 0, none⟩))) >>= fun x => pure (Next.value x)) w1 = _
      rw [Sem.run_bind, load_all agg94 size94 (xs := cnC (x.shut false) q) rfl HB1.out.at]
      rfl
    try simp only [Act.put, List.getElem_toArray, List.getElem_cons_succ, List.getElem_cons_zero, List.setIfInBounds_toArray, List.set_cons_zero, List.set_cons_succ]
    refine wpList_plain rfl (fun K hK => ?_); go_simp; refine hK _ _ ?_; clear hK K
    try simp only [Act.put, List.getElem_toArray, List.getElem_cons_succ, List.getElem_cons_zero, List.setIfInBounds_toArray, List.set_cons_zero, List.set_cons_succ]
    refine wpList_plain rfl (fun K hK => ?_)
    go_simp
    refine (dCloseW_0 (x.shut false) q _).mono ?_
    rintro e w2 ⟨rfl, f1⟩
    refine hK _ _ ?_
    clear hK K
    try simp only [Act.put, List.getElem_toArray, List.getElem_cons_succ, List.getElem_cons_zero, List.setIfInBounds_toArray, List.set_cons_zero, List.set_cons_succ]
    refine wpList_plain rfl (fun K hK => ?_); go_simp; refine hK _ _ ?_; clear hK K
    refine wpList_plain rfl (fun K hK => ?_); go_simp; refine hK _ _ ?_; clear hK K
    refine wpList_plain rfl (fun K hK => ?_); go_simp; refine hK _ _ ?_; clear hK K
    try simp only [Act.put, List.getElem_toArray, List.getElem_cons_succ, List.getElem_cons_zero, List.setIfInBounds_toArray, List.set_cons_zero, List.set_cons_succ]
    have HBx := Lib.hid (HB1.out.keep f1 (by simp))
    have HRx := Lib.hid (HR1.out.keep f1 (by simp))
    have HFx := Lib.hid (HF1.out.step f1)
    clear f1 HB1 HR1 HF1
    obtain ⟨w3, hst, hb_, hf_⟩ := store_all (t := 94) (cnC ((x.shut false).closeW false).1 q) size94 rfl (cnC_one _ _) HBx.out rfl
    refine wpList_skp rfl (w' := w3) ?_ ?_
    · show Sem.run Tryz.prog ((Instr.storeAt 94 (.pointer (some ⟨B, 0, none⟩)) (.agg (cnC ((x.shut false).closeW false).1 q).toArray)) >>= fun _ => pure Next.skip) _ = _
      rw [Sem.run_bind, hst]
      rfl
    clear hst
    try simp only [Act.put, List.getElem_toArray, List.getElem_cons_succ, List.getElem_cons_zero, List.setIfInBounds_toArray, List.set_cons_zero, List.set_cons_succ]
    refine wpList_nil ?_
    try simp only [Act.put, List.getElem_toArray, List.getElem_cons_succ, List.getElem_cons_zero, List.setIfInBounds_toArray, List.set_cons_zero, List.set_cons_succ]
    have HB2 := Lib.hid (show Blk w3 B 94 (cnC ((x.shut false).closeW false).1 q) from hb_)
    have HR2 := Lib.hid (HRx.out.keep hf_ (by simp))
    have HF2 := Lib.hid (HFx.out.own1 (S := []) (B := 0) hf_ (by have := HBS.out; omega))
    clear hb_ hf_ HBx HRx HFx
    go_upto_region 7 with fail
    refine wp_region_lit ?_
    refine wpList_val rfl (v := .agg (cnC ((x.shut false).closeW false).1 q).toArray) (w' := w3) ?_ ?_
    · show Sem.run Tryz.prog ((Instr.loadAt 94 (.pointer (some ⟨B, 0, none⟩))) >>= fun x => pure (Next.value x)) w3 = _
      rw [Sem.run_bind, load_all agg94 size94 (xs := cnC ((x.shut false).closeW false).1 q) rfl HB2.out.at]
      rfl
    try simp only [Act.put, List.getElem_toArray, List.getElem_cons_succ, List.getElem_cons_zero, List.setIfInBounds_toArray, List.set_cons_zero, List.set_cons_succ]
    refine wpList_plain rfl (fun K hK => ?_); go_simp; refine hK _ _ ?_; clear hK K
    try simp only [Act.put, List.getElem_toArray, List.getElem_cons_succ, List.getElem_cons_zero, List.setIfInBounds_toArray, List.set_cons_zero, List.set_cons_succ]
    refine wpList_plain rfl (fun K hK => ?_)
    go_simp
    refine (dCloseR_0 ((x.shut false).closeW false).1 q _).mono ?_
    rintro e w4 ⟨rfl, f1⟩
    refine hK _ _ ?_
    clear hK K
    try simp only [Act.put, List.getElem_toArray, List.getElem_cons_succ, List.getElem_cons_zero, List.setIfInBounds_toArray, List.set_cons_zero, List.set_cons_succ]
    refine wpList_plain rfl (fun K hK => ?_); go_simp; refine hK _ _ ?_; clear hK K
    refine wpList_plain rfl (fun K hK => ?_); go_simp; refine hK _ _ ?_; clear hK K
    refine wpList_plain rfl (fun K hK => ?_); go_simp; refine hK _ _ ?_; clear hK K
    try simp only [Act.put, List.getElem_toArray, List.getElem_cons_succ, List.getElem_cons_zero, List.setIfInBounds_toArray, List.set_cons_zero, List.set_cons_succ]
    have HBx := Lib.hid (HB2.out.keep f1 (by simp))
    have HRx := Lib.hid (HR2.out.keep f1 (by simp))
    have HFx := Lib.hid (HF2.out.step f1)
    clear f1 HB2 HR2 HF2
    obtain ⟨w5, hst, hb_, hf_⟩ := store_all (t := 94) (cnC (((x.shut false).closeW false).1.closeR false).1 (((x.shut false).closeW false).1.closeRq q false)) size94 rfl (cnC_one _ _) HBx.out rfl
    refine wpList_skp rfl (w' := w5) ?_ ?_
    · show Sem.run Tryz.prog ((Instr.storeAt 94 (.pointer (some ⟨B, 0, none⟩)) (.agg (cnC (((x.shut false).closeW false).1.closeR false).1 (((x.shut false).closeW false).1.closeRq q false)).toArray)) >>= fun _ => pure Next.skip) _ = _
      rw [Sem.run_bind, hst]
      rfl
    clear hst
    try simp only [Act.put, List.getElem_toArray, List.getElem_cons_succ, List.getElem_cons_zero, List.setIfInBounds_toArray, List.set_cons_zero, List.set_cons_succ]
    refine wpList_nil ?_
    try simp only [Act.put, List.getElem_toArray, List.getElem_cons_succ, List.getElem_cons_zero, List.setIfInBounds_toArray, List.set_cons_zero, List.set_cons_succ]
    have HB3 := Lib.hid (show Blk w5 B 94 (cnC (((x.shut false).closeW false).1.closeR false).1 (((x.shut false).closeW false).1.closeRq q false)) from hb_)
    have HR3 := Lib.hid (HRx.out.keep hf_ (by simp))
    have HF3 := Lib.hid (HFx.out.own1 (S := []) (B := 0) hf_ (by have := HBS.out; omega))
    clear hb_ hf_ HBx HRx HFx
    go_upto_region 8 with fail
    refine wp_region_lit ?_
    refine wpList_val rfl (v := .agg (cnC (((x.shut false).closeW false).1.closeR false).1 (((x.shut false).closeW false).1.closeRq q false)).toArray) (w' := w5) ?_ ?_
    · show Sem.run Tryz.prog ((Instr.loadAt 94 (.pointer (some ⟨B, 0, none⟩))) >>= fun x => pure (Next.value x)) w5 = _
      rw [Sem.run_bind, load_all agg94 size94 (xs := cnC (((x.shut false).closeW false).1.closeR false).1 (((x.shut false).closeW false).1.closeRq q false)) rfl HB3.out.at]
      rfl
    try simp only [Act.put, List.getElem_toArray, List.getElem_cons_succ, List.getElem_cons_zero, List.setIfInBounds_toArray, List.set_cons_zero, List.set_cons_succ]
    obtain ⟨w9, hst, hb_, hf_⟩ := store_all (t := 94) (cnC (((x.shut false).closeW false).1.closeR false).1 (((x.shut false).closeW false).1.closeRq q false)) size94 rfl (cnC_one _ _) HR3.out rfl
    refine wpList_skp rfl (w' := w9) ?_ ?_
    · show Sem.run Tryz.prog ((Instr.storeAt 94 (.pointer (some ⟨B + 1, 0, none⟩)) (.agg (cnC (((x.shut false).closeW false).1.closeR false).1 (((x.shut false).closeW false).1.closeRq q false)).toArray)) >>= fun _ => pure Next.skip) _ = _
      rw [Sem.run_bind, hst]
      rfl
    clear hst
    try simp only [Act.put, List.getElem_toArray, List.getElem_cons_succ, List.getElem_cons_zero, List.setIfInBounds_toArray, List.set_cons_zero, List.set_cons_succ]
    refine wpList_plain rfl (fun K hK => ?_); go_simp; refine hK _ _ ?_; clear hK K
    refine wpList_nil ?_
    try simp only [Act.put, List.getElem_toArray, List.getElem_cons_succ, List.getElem_cons_zero, List.setIfInBounds_toArray, List.set_cons_zero, List.set_cons_succ]
    have HR9 := Lib.hid hb_
    have HF9 := Lib.hid (HF3.out.own1 (S := []) (B := 0) hf_ (by have := HBS.out; omega))
    clear hb_ hf_
    go_wp2
    have hl := load_var agg94 size94 (xs := cnC (((x.shut false).closeW false).1.closeR false).1 (((x.shut false).closeW false).1.closeRq q false)) rfl HR9.out.at
    refine bodyPost_ret (v := .tuple #[.agg (cnC (((x.shut false).closeW false).1.closeR false).1 (((x.shut false).closeW false).1.closeRq q false)).toArray, .int .i64 0]) (by simp [results, Tryz.results54, as_addr, hl]) rfl ?_
    exact ⟨rfl, HF9.out⟩
theorem dClose_1 (x : CC) (q : Q4) (w : World) :
    Calls Tryz.prog 54 #[.agg (cnC x q).toArray, .int .i64 1] w fun e w' => e = .returned (.tuple #[.agg (cnC (x.close true).1 (x.closeq q true)).toArray, .int .i64 (x.close true).2]) ∧ Fr [] w w' := by
  unfold CC.close CC.closeq
  have hsh : x.isShut true = x.a1 := rfl
  cases ha : x.a1 with
  | true =>
    rw [hsh, ha, if_pos rfl, if_pos rfl]
    clear hsh
    obtain ⟨B, hB⟩ : ∃ B, w.heap.size = B := ⟨_, rfl⟩
    obtain ⟨wA, hwA⟩ : ∃ z, (w.alloc (.cells (cnC x q).toArray 94)).alloc (.cells #[.int .i64 0, .slice none 0 0, .bool false, .slice none 0 0, .int .i64 0, .int .i64 0, .int .i64 0, .int .i64 0, .slice none 0 0, .bool false, .slice none 0 0, .int .i64 0, .int .i64 0, .int .i64 0, .bool false, .bool false] 94) = z := ⟨_, rfl⟩
    have hb1 : Blk wA B 94 (cnC x q) := by
      rw [← hwA, ← hB]
      exact (Blk.made w _ (cnC x q)).keep ((Fr.refl [] _).alloc _) (by simp)
    have hr1 : Blk wA (B + 1) 94 zCn := by
      have h := Blk.made (w.alloc (.cells (cnC x q).toArray 94)) 94 zCn
      rw [show (w.alloc (.cells (cnC x q).toArray 94)).heap.size = B + 1 from by rw [← hB]; simp] at h
      rw [← hwA]
      exact h
    have hf : Fr [] w wA := by rw [← hwA]; exact ((Fr.refl [] w).alloc _).alloc _
    have HB := Lib.hid hb1
    have HR := Lib.hid hr1
    have HF := Lib.hid hf
    have HBS := Lib.hid hB
    have HWA := Lib.hid hwA
    clear hb1 hr1 hf hB hwA
    
    have c14 : wA.cell? ⟨B, 15, none⟩ = some (.bool true) := by
      rw [← ha]
      exact HB.out.at 15 _ rfl
    go_enter Tryz.func54, Tryz.ntmps54
    go_wp2_with fail
    rw [HWA.out]
    simp only [HBS.out]
    refine (refEndG 1 (by omega) _).mono ?_
    rintro e w' ⟨rfl, rfl⟩
    go_upto_region 4 with fail
    clear c14
    refine wp_region_lit ?_
    refine wpList_val rfl (v := .agg (cnC x q).toArray) (w' := w') ?_ ?_
    · show Sem.run Tryz.prog ((Instr.loadAt 94 (.pointer (some ⟨B, 0, none⟩))) >>= fun x => pure (Next.value x)) w' = _
      rw [Sem.run_bind, load_all agg94 size94 (xs := cnC x q) rfl HB.out.at]
      rfl
    try simp only [Act.put, List.getElem_toArray, List.getElem_cons_succ, List.getElem_cons_zero, List.setIfInBounds_toArray, List.set_cons_zero, List.set_cons_succ]
    obtain ⟨w9, hst, hb_, hf_⟩ := store_all (t := 94) (cnC x q) size94 rfl (cnC_one _ _) HR.out rfl
    refine wpList_skp rfl (w' := w9) ?_ ?_
    · show Sem.run Tryz.prog ((Instr.storeAt 94 (.pointer (some ⟨B + 1, 0, none⟩)) (.agg (cnC x q).toArray)) >>= fun _ => pure Next.skip) _ = _
      rw [Sem.run_bind, hst]
      rfl
    clear hst
    try simp only [Act.put, List.getElem_toArray, List.getElem_cons_succ, List.getElem_cons_zero, List.setIfInBounds_toArray, List.set_cons_zero, List.set_cons_succ]
    refine wpList_plain rfl (fun K hK => ?_); go_simp; refine hK _ _ ?_; clear hK K
    refine wpList_nil ?_
    try simp only [Act.put, List.getElem_toArray, List.getElem_cons_succ, List.getElem_cons_zero, List.setIfInBounds_toArray, List.set_cons_zero, List.set_cons_succ]
    have HR9 := Lib.hid hb_
    have HF9 := Lib.hid (HF.out.own1 (S := []) (B := 0) hf_ (by have := HBS.out; omega))
    clear hb_ hf_
    go_wp2
    have hl := load_var agg94 size94 (xs := cnC x q) rfl HR9.out.at
    refine bodyPost_ret (v := .tuple #[.agg (cnC x q).toArray, .int .i64 14]) (by simp [results, Tryz.results54, as_addr, hl]) rfl ?_
    exact ⟨rfl, HF9.out⟩
  | false =>
    rw [hsh, ha, if_neg (by decide), if_neg (by decide)]
    clear hsh
    obtain ⟨B, hB⟩ : ∃ B, w.heap.size = B := ⟨_, rfl⟩
    obtain ⟨wA, hwA⟩ : ∃ z, (w.alloc (.cells (cnC x q).toArray 94)).alloc (.cells #[.int .i64 0, .slice none 0 0, .bool false, .slice none 0 0, .int .i64 0, .int .i64 0, .int .i64 0, .int .i64 0, .slice none 0 0, .bool false, .slice none 0 0, .int .i64 0, .int .i64 0, .int .i64 0, .bool false, .bool false] 94) = z := ⟨_, rfl⟩
    have hb1 : Blk wA B 94 (cnC x q) := by
      rw [← hwA, ← hB]
      exact (Blk.made w _ (cnC x q)).keep ((Fr.refl [] _).alloc _) (by simp)
    have hr1 : Blk wA (B + 1) 94 zCn := by
      have h := Blk.made (w.alloc (.cells (cnC x q).toArray 94)) 94 zCn
      rw [show (w.alloc (.cells (cnC x q).toArray 94)).heap.size = B + 1 from by rw [← hB]; simp] at h
      rw [← hwA]
      exact h
    have hf : Fr [] w wA := by rw [← hwA]; exact ((Fr.refl [] w).alloc _).alloc _
    have HB := Lib.hid hb1
    have HR := Lib.hid hr1
    have HF := Lib.hid hf
    have HBS := Lib.hid hB
    have HWA := Lib.hid hwA
    clear hb1 hr1 hf hB hwA
    
    have c14 : wA.cell? ⟨B, 15, none⟩ = some (.bool false) := by
      rw [← ha]
      exact HB.out.at 15 _ rfl
    go_enter Tryz.func54, Tryz.ntmps54
    go_wp2_with fail
    rw [HWA.out]
    simp only [HBS.out]
    refine (refEndG 1 (by omega) _).mono ?_
    rintro e w' ⟨rfl, rfl⟩
    go_upto_region 5 with fail
    clear c14
    refine wp_region_lit ?_
    refine wpList_plain rfl (fun K hK => ?_); go_simp; refine hK _ _ ?_; clear hK K
    refine wpList_plain rfl (fun K hK => ?_); go_simp; refine hK _ _ ?_; clear hK K
    refine wpList_plain rfl (fun K hK => ?_); go_simp; refine hK _ _ ?_; clear hK K
    try simp only [Act.put, List.getElem_toArray, List.getElem_cons_succ, List.getElem_cons_zero, List.setIfInBounds_toArray, List.set_cons_zero, List.set_cons_succ]
    obtain ⟨w1, hst, hb_, hf_⟩ := store_cell (t := 4) (o := 15) (.bool true) size4g rfl rfl HB.out (by show 15 + 1 ≤ 16; omega)
    refine wpList_skp rfl (w' := w1) ?_ ?_
    · show Sem.run Tryz.prog ((Instr.storeAt 4 (.pointer (some ⟨B, 15, none⟩)) (.bool true)) >>= fun _ => pure Next.skip) _ = _
      rw [Sem.run_bind, hst]
      rfl
    clear hst
    try simp only [Act.put, List.getElem_toArray, List.getElem_cons_succ, List.getElem_cons_zero, List.setIfInBounds_toArray, List.set_cons_zero, List.set_cons_succ]
    refine wpList_nil ?_
    try simp only [Act.put, List.getElem_toArray, List.getElem_cons_succ, List.getElem_cons_zero, List.setIfInBounds_toArray, List.set_cons_zero, List.set_cons_succ]
    have HB1 := Lib.hid (show Blk w1 B 94 (cnC (x.shut true) q) from hb_)
    have HR1 := Lib.hid (HR.out.keep hf_ (by simp))
    have HF1 := Lib.hid (HF.out.own1 (S := []) (B := 0) hf_ (by have := HBS.out; omega))
    clear hb_ hf_ HB HR HF HWA
    go_upto_region 6 with fail
    refine wp_region_lit ?_
    refine wpList_val rfl (v := .agg (cnC (x.shut true) q).toArray) (w' := w1) ?_ ?_
    · show Sem.run Tryz.prog ((Instr.loadAt 94 (.pointer (some ⟨B, 0, none⟩))) >>= fun x => pure (Next.value x)) w1 = _
      rw [Sem.run_bind, load_all agg94 size94 (xs := cnC (x.shut true) q) rfl HB1.out.at]
      rfl
    try simp only [Act.put, List.getElem_toArray, List.getElem_cons_succ, List.getElem_cons_zero, List.setIfInBounds_toArray, List.set_cons_zero, List.set_cons_succ]
    refine wpList_plain rfl (fun K hK => ?_); go_simp; refine hK _ _ ?_; clear hK K
    try simp only [Act.put, List.getElem_toArray, List.getElem_cons_succ, List.getElem_cons_zero, List.setIfInBounds_toArray, List.set_cons_zero, List.set_cons_succ]
    refine wpList_plain rfl (fun K hK => ?_)
    go_simp
    refine (dCloseW_1 (x.shut true) q _).mono ?_
    rintro e w2 ⟨rfl, f1⟩
    refine hK _ _ ?_
    clear hK K
    try simp only [Act.put, List.getElem_toArray, List.getElem_cons_succ, List.getElem_cons_zero, List.setIfInBounds_toArray, List.set_cons_zero, List.set_cons_succ]
    refine wpList_plain rfl (fun K hK => ?_); go_simp; refine hK _ _ ?_; clear hK K
    refine wpList_plain rfl (fun K hK => ?_); go_simp; refine hK _ _ ?_; clear hK K
    refine wpList_plain rfl (fun K hK => ?_); go_simp; refine hK _ _ ?_; clear hK K
    try simp only [Act.put, List.getElem_toArray, List.getElem_cons_succ, List.getElem_cons_zero, List.setIfInBounds_toArray, List.set_cons_zero, List.set_cons_succ]
    have HBx := Lib.hid (HB1.out.keep f1 (by simp))
    have HRx := Lib.hid (HR1.out.keep f1 (by simp))
    have HFx := Lib.hid (HF1.out.step f1)
    clear f1 HB1 HR1 HF1
    obtain ⟨w3, hst, hb_, hf_⟩ := store_all (t := 94) (cnC ((x.shut true).closeW true).1 q) size94 rfl (cnC_one _ _) HBx.out rfl
    refine wpList_skp rfl (w' := w3) ?_ ?_
    · show Sem.run Tryz.prog ((Instr.storeAt 94 (.pointer (some ⟨B, 0, none⟩)) (.agg (cnC ((x.shut true).closeW true).1 q).toArray)) >>= fun _ => pure Next.skip) _ = _
      rw [Sem.run_bind, hst]
      rfl
    clear hst
    try simp only [Act.put, List.getElem_toArray, List.getElem_cons_succ, List.getElem_cons_zero, List.setIfInBounds_toArray, List.set_cons_zero, List.set_cons_succ]
    refine wpList_nil ?_
    try simp only [Act.put, List.getElem_toArray, List.getElem_cons_succ, List.getElem_cons_zero, List.setIfInBounds_toArray, List.set_cons_zero, List.set_cons_succ]
    have HB2 := Lib.hid (show Blk w3 B 94 (cnC ((x.shut true).closeW true).1 q) from hb_)
    have HR2 := Lib.hid (HRx.out.keep hf_ (by simp))
    have HF2 := Lib.hid (HFx.out.own1 (S := []) (B := 0) hf_ (by have := HBS.out; omega))
    clear hb_ hf_ HBx HRx HFx
    go_upto_region 7 with fail
    refine wp_region_lit ?_
    refine wpList_val rfl (v := .agg (cnC ((x.shut true).closeW true).1 q).toArray) (w' := w3) ?_ ?_
    · show Sem.run Tryz.prog ((Instr.loadAt 94 (.pointer (some ⟨B, 0, none⟩))) >>= fun x => pure (Next.value x)) w3 = _
      rw [Sem.run_bind, load_all agg94 size94 (xs := cnC ((x.shut true).closeW true).1 q) rfl HB2.out.at]
      rfl
    try simp only [Act.put, List.getElem_toArray, List.getElem_cons_succ, List.getElem_cons_zero, List.setIfInBounds_toArray, List.set_cons_zero, List.set_cons_succ]
    refine wpList_plain rfl (fun K hK => ?_); go_simp; refine hK _ _ ?_; clear hK K
    try simp only [Act.put, List.getElem_toArray, List.getElem_cons_succ, List.getElem_cons_zero, List.setIfInBounds_toArray, List.set_cons_zero, List.set_cons_succ]
    refine wpList_plain rfl (fun K hK => ?_)
    go_simp
    refine (dCloseR_1 ((x.shut true).closeW true).1 q _).mono ?_
    rintro e w4 ⟨rfl, f1⟩
    refine hK _ _ ?_
    clear hK K
    try simp only [Act.put, List.getElem_toArray, List.getElem_cons_succ, List.getElem_cons_zero, List.setIfInBounds_toArray, List.set_cons_zero, List.set_cons_succ]
    refine wpList_plain rfl (fun K hK => ?_); go_simp; refine hK _ _ ?_; clear hK K
    refine wpList_plain rfl (fun K hK => ?_); go_simp; refine hK _ _ ?_; clear hK K
    refine wpList_plain rfl (fun K hK => ?_); go_simp; refine hK _ _ ?_; clear hK K
    try simp only [Act.put, List.getElem_toArray, List.getElem_cons_succ, List.getElem_cons_zero, List.setIfInBounds_toArray, List.set_cons_zero, List.set_cons_succ]
    have HBx := Lib.hid (HB2.out.keep f1 (by simp))
    have HRx := Lib.hid (HR2.out.keep f1 (by simp))
    have HFx := Lib.hid (HF2.out.step f1)
    clear f1 HB2 HR2 HF2
    obtain ⟨w5, hst, hb_, hf_⟩ := store_all (t := 94) (cnC (((x.shut true).closeW true).1.closeR true).1 (((x.shut true).closeW true).1.closeRq q true)) size94 rfl (cnC_one _ _) HBx.out rfl
    refine wpList_skp rfl (w' := w5) ?_ ?_
    · show Sem.run Tryz.prog ((Instr.storeAt 94 (.pointer (some ⟨B, 0, none⟩)) (.agg (cnC (((x.shut true).closeW true).1.closeR true).1 (((x.shut true).closeW true).1.closeRq q true)).toArray)) >>= fun _ => pure Next.skip) _ = _
      rw [Sem.run_bind, hst]
      rfl
    clear hst
    try simp only [Act.put, List.getElem_toArray, List.getElem_cons_succ, List.getElem_cons_zero, List.setIfInBounds_toArray, List.set_cons_zero, List.set_cons_succ]
    refine wpList_nil ?_
    try simp only [Act.put, List.getElem_toArray, List.getElem_cons_succ, List.getElem_cons_zero, List.setIfInBounds_toArray, List.set_cons_zero, List.set_cons_succ]
    have HB3 := Lib.hid (show Blk w5 B 94 (cnC (((x.shut true).closeW true).1.closeR true).1 (((x.shut true).closeW true).1.closeRq q true)) from hb_)
    have HR3 := Lib.hid (HRx.out.keep hf_ (by simp))
    have HF3 := Lib.hid (HFx.out.own1 (S := []) (B := 0) hf_ (by have := HBS.out; omega))
    clear hb_ hf_ HBx HRx HFx
    go_upto_region 8 with fail
    refine wp_region_lit ?_
    refine wpList_val rfl (v := .agg (cnC (((x.shut true).closeW true).1.closeR true).1 (((x.shut true).closeW true).1.closeRq q true)).toArray) (w' := w5) ?_ ?_
    · show Sem.run Tryz.prog ((Instr.loadAt 94 (.pointer (some ⟨B, 0, none⟩))) >>= fun x => pure (Next.value x)) w5 = _
      rw [Sem.run_bind, load_all agg94 size94 (xs := cnC (((x.shut true).closeW true).1.closeR true).1 (((x.shut true).closeW true).1.closeRq q true)) rfl HB3.out.at]
      rfl
    try simp only [Act.put, List.getElem_toArray, List.getElem_cons_succ, List.getElem_cons_zero, List.setIfInBounds_toArray, List.set_cons_zero, List.set_cons_succ]
    obtain ⟨w9, hst, hb_, hf_⟩ := store_all (t := 94) (cnC (((x.shut true).closeW true).1.closeR true).1 (((x.shut true).closeW true).1.closeRq q true)) size94 rfl (cnC_one _ _) HR3.out rfl
    refine wpList_skp rfl (w' := w9) ?_ ?_
    · show Sem.run Tryz.prog ((Instr.storeAt 94 (.pointer (some ⟨B + 1, 0, none⟩)) (.agg (cnC (((x.shut true).closeW true).1.closeR true).1 (((x.shut true).closeW true).1.closeRq q true)).toArray)) >>= fun _ => pure Next.skip) _ = _
      rw [Sem.run_bind, hst]
      rfl
    clear hst
    try simp only [Act.put, List.getElem_toArray, List.getElem_cons_succ, List.getElem_cons_zero, List.setIfInBounds_toArray, List.set_cons_zero, List.set_cons_succ]
    refine wpList_plain rfl (fun K hK => ?_); go_simp; refine hK _ _ ?_; clear hK K
    refine wpList_nil ?_
    try simp only [Act.put, List.getElem_toArray, List.getElem_cons_succ, List.getElem_cons_zero, List.setIfInBounds_toArray, List.set_cons_zero, List.set_cons_succ]
    have HR9 := Lib.hid hb_
    have HF9 := Lib.hid (HF3.out.own1 (S := []) (B := 0) hf_ (by have := HBS.out; omega))
    clear hb_ hf_
    go_wp2
    have hl := load_var agg94 size94 (xs := cnC (((x.shut true).closeW true).1.closeR true).1 (((x.shut true).closeW true).1.closeRq q true)) rfl HR9.out.at
    refine bodyPost_ret (v := .tuple #[.agg (cnC (((x.shut true).closeW true).1.closeR true).1 (((x.shut true).closeW true).1.closeRq q true)).toArray, .int .i64 0]) (by simp [results, Tryz.results54, as_addr, hl]) rfl ?_
    exact ⟨rfl, HF9.out⟩
end Go.Proofs.YtmdhlodafjpnmaaGreat
namespace Go.Proofs.YtmdhlodafjpnmaaGreat
open Go.RowKit
set_option linter.unusedVariables false
set_option linter.unusedSimpArgs false
set_option maxRecDepth 100000
set_option maxHeartbeats 8000000

theorem flat_len {sz : Nat} : ∀ {Xs : List (List Value)}, (∀ X ∈ Xs, X.length = sz) → Xs.flatten.length = Xs.length * sz
  | [], _ => by simp
  | X :: r, h => by
    have h1 := h X List.mem_cons_self
    have h2 := flat_len (Xs := r) (fun Y hY => h Y (List.mem_cons_of_mem _ hY))
    simp only [List.flatten_cons, List.length_append, List.length_cons, h1, h2, Nat.add_mul, Nat.one_mul]
    omega
theorem flat_at {sz : Nat} : ∀ {Xs : List (List Value)} {i : Nat} {X : List Value}, (∀ X ∈ Xs, X.length = sz) → Xs[i]? = some X → (Xs.flatten.drop (i * sz)).take sz = X
  | [], i, X, _, h => by simp at h
  | Y :: r, 0, X, hl, h => by
    simp only [List.getElem?_cons_zero, Option.some.injEq] at h
    subst h
    have h1 := hl Y List.mem_cons_self
    simp only [List.flatten_cons, Nat.zero_mul, List.drop_zero]
    rw [← h1, List.take_left]
  | Y :: r, i + 1, X, hl, h => by
    have h1 := hl Y List.mem_cons_self
    have h2 := flat_at (Xs := r) (i := i) (fun Y hY => hl Y (List.mem_cons_of_mem _ hY)) (by simpa using h)
    rw [List.flatten_cons, Nat.add_mul, Nat.one_mul, Nat.add_comm, ← List.drop_drop]
    rw [← h1, List.drop_left, h1]
    exact h2
theorem flat_drop {sz : Nat} : ∀ {Xs : List (List Value)} (i : Nat), (∀ X ∈ Xs, X.length = sz) → Xs.flatten.drop (i * sz) = (Xs.drop i).flatten
  | [], i, _ => by simp
  | Y :: r, 0, hl => by simp
  | Y :: r, i + 1, hl => by
    have h1 := hl Y List.mem_cons_self
    rw [List.flatten_cons, Nat.add_mul, Nat.one_mul, Nat.add_comm, ← List.drop_drop, ← h1, List.drop_left, h1, List.drop_succ_cons]
    exact flat_drop i (fun Y hY => hl Y (List.mem_cons_of_mem _ hY))
theorem flat_take {sz : Nat} : ∀ {Xs : List (List Value)} (i : Nat), (∀ X ∈ Xs, X.length = sz) → Xs.flatten.take (i * sz) = (Xs.take i).flatten
  | [], i, _ => by simp
  | Y :: r, 0, hl => by simp
  | Y :: r, i + 1, hl => by
    have h1 := hl Y List.mem_cons_self
    have h2 := flat_take (Xs := r) i (fun Y hY => hl Y (List.mem_cons_of_mem _ hY))
    rw [List.flatten_cons, List.take_succ_cons, List.flatten_cons, ← h2, List.take_append, h1, Nat.add_mul, Nat.one_mul, Nat.add_sub_cancel]
    rw [List.take_of_length_le (by omega)]
theorem flat_one {Xs : List (List Value)} (h : ∀ X ∈ Xs, ∀ u ∈ X, u.oneCell' = true) : ∀ u ∈ Xs.flatten, u.oneCell' = true := by
  intro u hu
  obtain ⟨X, hX, huX⟩ := List.mem_flatten.1 hu
  exact h X hX u huX

section
variable {α : Type}
/-- Records' cells beside the list. -/
structure Recs (sz : Nat) (El : List Value → α → Prop) (Xs : List (List Value)) (D : List α) : Prop where
  len : Xs.length = D.length
  sz : ∀ X ∈ Xs, X.length = sz
  one : ∀ X ∈ Xs, ∀ u ∈ X, u.oneCell' = true
  el : ∀ (i : Nat) (X : List Value) (y : α), Xs[i]? = some X → D[i]? = some y → El X y
variable {sz : Nat} {El El' : List Value → α → Prop} {Xs : List (List Value)} {D : List α}
theorem Recs.nil : Recs sz El [] ([] : List α) := ⟨rfl, (fun X hX => by cases hX), (fun X hX => by cases hX), (fun i X y h => by simp at h)⟩
theorem Recs.mono (h : Recs sz El Xs D) (hm : ∀ X y, El X y → El' X y) : Recs sz El' Xs D := ⟨h.len, h.sz, h.one, fun i X y hX hy => hm _ _ (h.el i X y hX hy)⟩
theorem Recs.push (h : Recs sz El Xs D) {X : List Value} {y : α} (h1 : X.length = sz) (h2 : ∀ u ∈ X, u.oneCell' = true) (h3 : El X y) : Recs sz El (Xs ++ [X]) (D ++ [y]) := by
  refine ⟨by simp [h.len], ?_, ?_, ?_⟩
  · intro Y hY
    rcases List.mem_append.1 hY with hY | hY
    · exact h.sz Y hY
    · rw [List.mem_singleton] at hY
      rw [hY]
      exact h1
  · intro Y hY
    rcases List.mem_append.1 hY with hY | hY
    · exact h.one Y hY
    · rw [List.mem_singleton] at hY
      rw [hY]
      exact h2
  · intro i Y z hY hz
    rcases Nat.lt_trichotomy i Xs.length with hi | hi | hi
    · rw [List.getElem?_append_left hi] at hY
      rw [List.getElem?_append_left (by rw [← h.len]; exact hi)] at hz
      exact h.el i Y z hY hz
    · subst hi
      rw [h.len] at hz
      simp at hY hz
      rw [← hY, ← hz]
      exact h3
    · rw [List.getElem?_eq_none (by simp; omega)] at hY
      cases hY
theorem Recs.take (h : Recs sz El Xs D) (k : Nat) : Recs sz El (Xs.take k) (D.take k) := by
  refine ⟨by simp [h.len], fun X hX => h.sz X (List.mem_of_mem_take hX), fun X hX => h.one X (List.mem_of_mem_take hX), fun i X y hX hy => ?_⟩
  rw [List.getElem?_take] at hX hy
  split at hX
  · rename_i hk
    rw [if_pos hk] at hy
    exact h.el i X y hX hy
  · cases hX
theorem Recs.drop (h : Recs sz El Xs D) (k : Nat) : Recs sz El (Xs.drop k) (D.drop k) := by
  refine ⟨by simp [h.len], fun X hX => h.sz X (List.mem_of_mem_drop hX), fun X hX => h.one X (List.mem_of_mem_drop hX), fun i X y hX hy => ?_⟩
  rw [List.getElem?_drop] at hX hy
  exact h.el _ X y hX hy
theorem Recs.app {Ys : List (List Value)} {E : List α} (h : Recs sz El Xs D) (k : Recs sz El Ys E) : Recs sz El (Xs ++ Ys) (D ++ E) := by
  refine ⟨by simp [h.len, k.len], ?_, ?_, ?_⟩
  · intro Y hY
    rcases List.mem_append.1 hY with hY | hY
    · exact h.sz Y hY
    · exact k.sz Y hY
  · intro Y hY
    rcases List.mem_append.1 hY with hY | hY
    · exact h.one Y hY
    · exact k.one Y hY
  · intro i Y z hY hz
    by_cases hi : i < Xs.length
    · rw [List.getElem?_append_left hi] at hY
      rw [List.getElem?_append_left (by rw [← h.len]; exact hi)] at hz
      exact h.el i Y z hY hz
    · rw [List.getElem?_append_right (by omega)] at hY
      rw [List.getElem?_append_right (by rw [← h.len]; omega), ← h.len] at hz
      exact k.el _ Y z hY hz
theorem Recs.set (h : Recs sz El Xs D) (i : Nat) {X : List Value} {y : α} (h1 : X.length = sz) (h2 : ∀ u ∈ X, u.oneCell' = true) (h3 : El X y) : Recs sz El (Xs.set i X) (D.set i y) := by
  refine ⟨by simp [h.len], ?_, ?_, ?_⟩
  · intro Y hY
    rcases List.mem_or_eq_of_mem_set hY with hY | rfl
    · exact h.sz Y hY
    · exact h1
  · intro Y hY
    rcases List.mem_or_eq_of_mem_set hY with hY | rfl
    · exact h.one Y hY
    · exact h2
  · intro j Y z hY hz
    by_cases hij : i = j
    · subst hij
      rw [List.getElem?_set] at hY hz
      simp only [if_true] at hY hz
      split at hY
      · split at hz
        · cases hY
          cases hz
          exact h3
        · cases hz
      · cases hY
    · rw [List.getElem?_set_ne hij] at hY hz
      exact h.el j Y z hY hz
theorem Recs.flen (h : Recs sz El Xs D) : Xs.flatten.length = D.length * sz := by rw [flat_len h.sz, h.len]
end

/-- A row of structs that can be read. -/
def RowR {α : Type} (sz : Nat) (El : World → List Value → α → Prop) (w : World) (v : Value) (D : List α) : Prop := ∃ Xs, Recs sz (El w) Xs D ∧ RowV w v D.length sz Xs.flatten
/-- .. of one's own. -/
def RowO {α : Type} (e : TypeId) (sz : Nat) (El : World → List Value → α → Prop) (w : World) (B : Nat) (v : Value) (D : List α) : Prop := ∃ Xs, Recs sz (El w) Xs D ∧ w.ownsRow B e sz v D.length Xs.flatten
section
variable {α : Type} {sz : Nat} {El : World → List Value → α → Prop} {w w' : World} {v : Value} {D : List α}
theorem RowR.val (h : RowR sz El w v D) : ∃ a c, v = .slice a D.length c := by
  obtain ⟨Xs, _, h2⟩ := h
  exact h2.val
theorem RowR.new (h : RowR sz El w v D) (hEl : ∀ X y, El w X y → El w' X y) (f : Fr [] w w') : RowR sz El w' v D := by
  obtain ⟨Xs, h1, h2⟩ := h
  exact ⟨Xs, h1.mono hEl, h2.new f⟩
theorem RowR.lies (h : RowR sz El w v D) {i : Nat} {y : α} (hy : D[i]? = some y) : ∃ g off c X, v = .slice (some ⟨g, off, none⟩) D.length c ∧ g < w.heap.size ∧ X.length = sz ∧ LiesAt w g (off + i * sz) X ∧ El w X y := by
  obtain ⟨Xs, h1, h2⟩ := h
  have hi := (List.getElem?_eq_some_iff.1 hy).1
  have hX := List.getElem?_eq_getElem (l := Xs) (i := i) (by rw [h1.len]; exact hi)
  obtain ⟨g, off, c, rfl, hg, hl⟩ := h2.at hi
  rw [flat_at h1.sz hX] at hl
  exact ⟨g, off, c, _, rfl, hg, h1.sz _ (List.getElem_mem _), hl, h1.el i _ y hX hy⟩
theorem RowR.nil (w : World) (a : Option Addr) (c : Nat) : RowR sz El w (.slice a 0 c) ([] : List α) := ⟨[], Recs.nil, RowV.nil w sz a c⟩
end

/-- A listener's cells. -/
def lsC (x : PN.PL) (q : Sli) : List Value := [.int .i64 x.ref, .string x.s, .int .i64 x.p, .int .i64 x.most, .slice q.1 q.2.1 q.2.2]
theorem lsC_one (x : PN.PL) (q : Sli) : ∀ u ∈ lsC x q, u.oneCell' = true := by
  intro u hu
  simp only [lsC, List.mem_cons, List.not_mem_nil, or_false] at hu
  rcases hu with rfl | rfl | rfl | rfl | rfl <;> rfl
def intsV (l : List Int) : List Value := l.map (Value.int .i64)
theorem intsV_one (l : List Int) : ∀ u ∈ intsV l, u.oneCell' = true := by
  intro u hu
  obtain ⟨x, _, rfl⟩ := List.mem_map.1 hu
  rfl
/-- A connection with its number. -/
structure PG where
  ref : Nat
  c : CC
def pgC (y : PG) (q : Q4) : List Value := .int .i64 y.ref :: cnC y.c q
theorem pgC_one (y : PG) (q : Q4) : ∀ u ∈ pgC y q, u.oneCell' = true := by
  intro u hu
  rcases List.mem_cons.1 hu with rfl | hu
  · rfl
  · exact cnC_one _ _ u hu
def ElL (w : World) (X : List Value) (y : PN.PL) : Prop := ∃ q : Sli, X = lsC y q ∧ RowV w (slv q) y.l.length 1 (intsV y.l)
def ElC (w : World) (X : List Value) (y : PG) : Prop := ∃ q : Q4, X = pgC y q ∧ CnB w y.c q
def ElLO (B : Nat) (w : World) (X : List Value) (y : PN.PL) : Prop := ∃ q : Sli, X = lsC y q ∧ w.ownsRow B 3 1 (slv q) y.l.length (intsV y.l)
def ElCO (B : Nat) (w : World) (X : List Value) (y : PG) : Prop := ∃ q : Q4, X = pgC y q ∧ CnO w B y.c q
theorem ElL.new {w w' : World} {X : List Value} {y : PN.PL} (h : ElL w X y) (f : Fr [] w w') : ElL w' X y := by
  obtain ⟨q, h1, h2⟩ := h
  exact ⟨q, h1, h2.new f⟩
theorem ElC.new {w w' : World} {X : List Value} {y : PG} (h : ElC w X y) (f : Fr [] w w') : ElC w' X y := by
  obtain ⟨q, h1, h2⟩ := h
  exact ⟨q, h1, h2.new f⟩
theorem ElLO.el {B : Nat} {w : World} {X : List Value} {y : PN.PL} (h : ElLO B w X y) : ElL w X y := by
  obtain ⟨q, h1, h2⟩ := h
  exact ⟨q, h1, RowV.of_own h2⟩
theorem ElCO.el {B : Nat} {w : World} {X : List Value} {y : PG} (h : ElCO B w X y) : ElC w X y := by
  obtain ⟨q, h1, h2⟩ := h
  exact ⟨q, h1, h2.b⟩
abbrev LRow : World → Value → List PN.PL → Prop := RowR 5 ElL
abbrev CRow : World → Value → List PG → Prop := RowR 17 ElC
/-- The block of a listener's queue. -/
def qBlk (X : List Value) : Option Nat := (X[4]?).bind Value.ownBlock
def Sep (Xs : List (List Value)) : Prop := Xs.Pairwise fun X Y => ∀ g, qBlk X = some g → qBlk Y ≠ some g
def LOwn (w : World) (B : Nat) (v : Value) (D : List PN.PL) : Prop := ∃ Xs, Recs 5 (ElLO B w) Xs D ∧ w.ownsRow B 100 5 v D.length Xs.flatten ∧ Sep Xs
theorem Sep.ne {Xs : List (List Value)} (h : Sep Xs) {i j : Nat} {X Y : List Value} (hij : i ≠ j) (hX : Xs[i]? = some X) (hY : Xs[j]? = some Y) : ∀ g, qBlk X = some g → qBlk Y ≠ some g := by
  obtain ⟨hi, rfl⟩ := List.getElem?_eq_some_iff.1 hX
  obtain ⟨hj, rfl⟩ := List.getElem?_eq_some_iff.1 hY
  have hp := List.pairwise_iff_getElem.1 h
  rcases Nat.lt_or_gt_of_ne hij with hl | hl
  · exact hp i j hi hj hl
  · intro g h1 h2
    exact hp j i hj hi hl g h2 h1
abbrev COwn (w : World) (B : Nat) : Value → List PG → Prop := RowO 96 17 (ElCO B) w B
section
variable {w w' : World} {B : Nat} {v : Value} {D : List PN.PL} {C : List PG}
theorem LRow.next (h : LRow w v D) (f : Fr [] w w') : LRow w' v D := RowR.new h (fun X y h => ElL.new h f) f
theorem CRow.next (h : CRow w v C) (f : Fr [] w w') : CRow w' v C := RowR.new h (fun X y h => ElC.new h f) f
theorem LOwn.row (h : LOwn w B v D) : LRow w v D := by
  obtain ⟨Xs, h1, h2, _⟩ := h
  exact ⟨Xs, h1.mono (fun X y h => h.el), RowV.of_own h2⟩
theorem COwn.row (h : COwn w B v C) : CRow w v C := by
  obtain ⟨Xs, h1, h2⟩ := h
  exact ⟨Xs, h1.mono (fun X y h => h.el), RowV.of_own h2⟩
theorem LOwn.next (h : LOwn w B v D) (f : Fr [] w w') : LOwn w' B v D := by
  obtain ⟨Xs, h1, h2, h3⟩ := h
  exact ⟨Xs, h1.mono (fun X y ⟨q, e1, e2⟩ => ⟨q, e1, rowNew e2 f⟩), rowNew h2 f, h3⟩
theorem COwn.next (h : COwn w B v C) (f : Fr [] w w') : COwn w' B v C := by
  obtain ⟨Xs, h1, h2⟩ := h
  exact ⟨Xs, h1.mono (fun X y ⟨q, e1, e2⟩ => ⟨q, e1, e2.new f⟩), rowNew h2 f⟩
theorem LOwn.base {B' : Nat} (h : LOwn w B v D) (hb : B' ≤ B) : LOwn w B' v D := by
  obtain ⟨Xs, h1, h2, h3⟩ := h
  exact ⟨Xs, h1.mono (fun X y ⟨q, e1, e2⟩ => ⟨q, e1, rowBase e2 hb⟩), rowBase h2 hb, h3⟩
theorem COwn.base {B' : Nat} (h : COwn w B v C) (hb : B' ≤ B) : COwn w B' v C := by
  obtain ⟨Xs, h1, h2⟩ := h
  exact ⟨Xs, h1.mono (fun X y ⟨q, e1, e2⟩ => ⟨q, e1, e2.base hb⟩), rowBase h2 hb⟩
/-- A step that turns only a block of another kind. -/
theorem LOwn.far {b : Nat} {t : TypeId} {ys : List Value} (h : LOwn w B v D) (hb : Blk w b t ys) (f : Fr [b] w w') (h1 : t ≠ 100) (h2 : t ≠ 3) : LOwn w' B v D := by
  obtain ⟨Xs, r1, r2, r3⟩ := h
  exact ⟨Xs, r1.mono (fun X y ⟨q, e1, e2⟩ => ⟨q, e1, rowFr' e2 f (fun g hg hm => by rw [List.mem_singleton] at hm; subst hm; exact blkNe hb e2 h2 hg)⟩), rowFr' r2 f (fun g hg hm => by rw [List.mem_singleton] at hm; subst hm; exact blkNe hb r2 h1 hg), r3⟩
theorem COwn.far {b : Nat} {t : TypeId} {ys : List Value} (h : COwn w B v C) (hb : Blk w b t ys) (f : Fr [b] w w') (h1 : t ≠ 96) (h2 : t ≠ 5) : COwn w' B v C := by
  obtain ⟨Xs, r1, r2⟩ := h
  exact ⟨Xs, r1.mono (fun X y ⟨q, e1, e2⟩ => ⟨q, e1, e2.store hb f h2⟩), rowFr' r2 f (fun g hg hm => by rw [List.mem_singleton] at hm; subst hm; exact blkNe hb r2 h1 hg)⟩
theorem rowFar {w w' : World} {B B' n m sz sz' : Nat} {t e : TypeId} {v u : Value} {xs ys : List Value} (h : w.ownsRow B e sz v n xs) (hu : w.ownsRow B' t sz' u m ys) (f : Fr u.ownBlock.toList w w') (hne : t ≠ e) : w'.ownsRow B e sz v n xs :=
  rowFr' h f (fun g hg hm => by
    have : u.ownBlock = some g := by simpa using hm
    exact rowApart hu h hne g hg this)
theorem LOwn.farRow {B' n sz : Nat} {e : TypeId} {u : Value} {xs : List Value} (h : LOwn w B v D) (hu : w.ownsRow B' e sz u n xs) (f : Fr u.ownBlock.toList w w') (h1 : e ≠ 100) (h2 : e ≠ 3) : LOwn w' B v D := by
  obtain ⟨Xs, r1, r2, r3⟩ := h
  exact ⟨Xs, r1.mono (fun X y ⟨q, e1, e2⟩ => ⟨q, e1, rowFar e2 hu f h2⟩), rowFar r2 hu f h1, r3⟩
theorem COwn.farRow {B' n sz : Nat} {e : TypeId} {u : Value} {xs : List Value} (h : COwn w B v C) (hu : w.ownsRow B' e sz u n xs) (f : Fr u.ownBlock.toList w w') (h1 : e ≠ 96) (h2 : e ≠ 5) : COwn w' B v C := by
  obtain ⟨Xs, r1, r2⟩ := h
  exact ⟨Xs, r1.mono (fun X y ⟨q, e1, e2⟩ => ⟨q, e1, ⟨rowFar e2.b0 hu f h2, rowFar e2.r0 hu f h2, rowFar e2.b1 hu f h2, rowFar e2.r1 hu f h2⟩⟩), rowFar r2 hu f h1⟩
end
theorem agg96g : ∀ w, (isAgg 96).run Tryz.prog w = .ok true w := fun w => by kernel_rfl
theorem agg100 : ∀ w, (isAgg 100).run Tryz.prog w = .ok true w := fun w => by kernel_rfl
theorem size100 : ∀ w, (sizeOf 100).run Tryz.prog w = .ok 5 w := fun w => by kernel_rfl
theorem agg34 : ∀ w, (isAgg 34).run Tryz.prog w = .ok true w := fun w => by kernel_rfl
theorem size34 : ∀ w, (sizeOf 34).run Tryz.prog w = .ok 2 w := fun w => by kernel_rfl
theorem size31 : ∀ w, (sizeOf 31).run Tryz.prog w = .ok 1 w := fun w => by kernel_rfl
theorem size32 : ∀ w, (sizeOf 32).run Tryz.prog w = .ok 1 w := fun w => by kernel_rfl
theorem size75 : ∀ w, (sizeOf 75).run Tryz.prog w = .ok 1 w := fun w => by kernel_rfl
section
variable {P : Program} {ops : Array Oper} {rest : List Oper} {o : Oper} {a : Act} {w w' : World} {Q : Exit → Act → World → Prop} {v : Value}
theorem exec_bsl {t : TypeId} {x : Operand} {V : Value} (ho : o.op = .buildSlice t 1 #[(0, x)]) (hx : a.eval x = V) (hrun : (Instr.buildSlice t 1 #[(0, V)]).run P w = .ok v w') : (execOp a.eval o).run P w = .ok (.value v) w' := by
  simp [execOp, ho, hx, hrun]
theorem exec_bld2 {t : TypeId} {x y : Operand} {V U : Value} (ho : o.op = .build t #[(0, x), (1, y)]) (hx : a.eval x = V) (hy : a.eval y = U) (hrun : (Instr.build t #[(0, V), (1, U)]).run P w = .ok v w') : (execOp a.eval o).run P w = .ok (.value v) w' := by
  simp [execOp, ho, hx, hy, hrun]
end
theorem bldConn (y : PG) (q : Q4) : ∀ w, (Instr.build 96 #[(0, .int .i64 y.ref), (1, .agg (cnC y.c q).toArray)]).run Tryz.prog w = .ok (.agg (pgC y q).toArray) w := fun w => by kernel_rfl
theorem bslConn (y : PG) (q : Q4) : ∀ w : World, (Instr.buildSlice 32 1 #[(0, .agg (pgC y q).toArray)]).run Tryz.prog w = .ok (.slice (some ⟨w.heap.size, 0, none⟩) 1 1) (w.alloc (.cells (pgC y q).toArray 96)) := fun w => by kernel_rfl
theorem bslLis (y : PN.PL) (q : Sli) : ∀ w : World, (Instr.buildSlice 31 1 #[(0, .agg (lsC y q).toArray)]).run Tryz.prog w = .ok (.slice (some ⟨w.heap.size, 0, none⟩) 1 1) (w.alloc (.cells (lsC y q).toArray 100)) := fun w => by kernel_rfl
end Go.Proofs.YtmdhlodafjpnmaaGreat
