/- Nil and zero engines; Load of bytes that are no snapshot; the reference's Same of zero states. -/
import Derived.Test.YtemihaijhcpnfaaGreatDoorE14
namespace Go.Proofs.YtemihaijhcpnfaaGreatDoor
open Go.RowKit
open Go.Maps (Keyed)
set_option linter.unusedVariables false
set_option linter.unusedSimpArgs false
set_option maxRecDepth 100000
set_option maxHeartbeats 4000000

def NoEng (w : World) (v : Value) : Prop := v = .pointer none ∨ ∃ e, v = .pointer (some ⟨e, 0, none⟩) ∧ w.cell? ⟨e, 6, none⟩ = some (.pointer none)
theorem engNone_no (v : Value) (w : World) (h : NoEng w v) : Calls Tryz.prog 47 #[v] w fun e w' => e = .returned (.bool true) ∧ w = w' := by
  rcases h with rfl | ⟨e, rfl, c6⟩
  · go_enter Tryz.func47, Tryz.ntmps47
    go_wp2
    go_ret
    exact ⟨rfl, rfl⟩
  · go_enter Tryz.func47, Tryz.ntmps47
    go_wp2
    go_ret
    exact ⟨rfl, rfl⟩
theorem copy_no (v : Value) (w : World) (h : NoEng w v) : Calls Tryz.prog 59 #[v] w fun e w' => e = .returned (.pointer none) ∧ w = w' := by
  have HN := Lib.hid (engNone_no v w h)
  clear h
  go_enter Tryz.func59, Tryz.ntmps59
  go_wp2_with fail
  refine HN.out.mono ?_
  rintro e w' ⟨rfl, rfl⟩
  go_wp2
  go_ret
  exact ⟨rfl, rfl⟩
theorem save_no (v : Value) (w : World) (h : NoEng w v) : Calls Tryz.prog 22 #[v] w fun e w' => e = .returned (.tuple #[.slice none 0 0, .int .i64 1]) ∧ w = w' := by
  have HN := Lib.hid (copy_no v w h)
  clear h
  go_enter Tryz.func22, Tryz.ntmps22
  go_wp2_with fail
  refine HN.out.mono ?_
  rintro e w' ⟨rfl, rfl⟩
  go_wp2
  go_ret2
  exact ⟨rfl, rfl⟩
theorem ints0 (w : World) : Calls Tryz.prog 35 #[.slice none 0 0, .slice none 0 0] w fun e w' => e = .returned (.bool true) ∧ w = w' := by
  go_enter Tryz.func35, Tryz.ntmps35
  go_wp2
  refine wp_loop_rounds 1 ?_
  rw [rounds_succ]
  go_wp2
  go_ret
  exact ⟨rfl, rfl⟩
theorem rconns0 (w : World) : Calls Tryz.prog 36 #[.slice none 0 0, .slice none 0 0] w fun e w' => e = .returned (.bool true) ∧ w = w' := by
  go_enter Tryz.func36, Tryz.ntmps36
  go_wp2
  refine wp_loop_rounds 1 ?_
  rw [rounds_succ]
  go_wp2
  go_ret
  exact ⟨rfl, rfl⟩
theorem rlis0 (w : World) : Calls Tryz.prog 37 #[.slice none 0 0, .slice none 0 0] w fun e w' => e = .returned (.bool true) ∧ w = w' := by
  go_enter Tryz.func37, Tryz.ntmps37
  go_wp2
  refine wp_loop_rounds 1 ?_
  rw [rounds_succ]
  go_wp2
  go_ret
  exact ⟨rfl, rfl⟩
theorem same0 (w : World) : Calls Tryz.prog 16 #[.agg mach0.toArray, .agg mach0.toArray] w fun e w' => e = .returned (.bool true) ∧ Fr [] w w' := by
  obtain ⟨B, hB⟩ : ∃ B, w.heap.size = B := ⟨_, rfl⟩
  obtain ⟨wA, hwA⟩ : ∃ z, (w.alloc (.cells mach0.toArray 36)).alloc (.cells mach0.toArray 36) = z := ⟨_, rfl⟩
  have hb1 : Blk wA B 36 mach0 := by
    rw [← hwA, ← hB]
    exact (Blk.made w _ mach0).keep ((Fr.refl [] _).alloc _) (by simp)
  have hr1 : Blk wA (B + 1) 36 mach0 := by
    have h := Blk.made (w.alloc (.cells mach0.toArray 36)) 36 mach0
    rw [show (w.alloc (.cells mach0.toArray 36)).heap.size = B + 1 from by rw [← hB]; simp] at h
    rw [← hwA]
    exact h
  have hf : Fr [] w wA := by rw [← hwA]; exact ((Fr.refl [] w).alloc _).alloc _
  have HF := Lib.hid hf
  have HBS := Lib.hid hB
  have HWA := Lib.hid hwA
  have c0 : wA.cell? ⟨B, 0, none⟩ = some (.int .u64 0) := hb1.at 0 _ rfl
  have c1 : wA.cell? ⟨B, 1, none⟩ = some (.slice none 0 0) := hb1.at 1 _ rfl
  have c2 : wA.cell? ⟨B, 2, none⟩ = some (.slice none 0 0) := hb1.at 2 _ rfl
  have c3 : wA.cell? ⟨B, 3, none⟩ = some (.slice none 0 0) := hb1.at 3 _ rfl
  have c4 : wA.cell? ⟨B, 4, none⟩ = some (.slice none 0 0) := hb1.at 4 _ rfl
  have c5 : wA.cell? ⟨B, 5, none⟩ = some (.slice none 0 0) := hb1.at 5 _ rfl
  have c6 : wA.cell? ⟨B, 6, none⟩ = some (.slice none 0 0) := hb1.at 6 _ rfl
  have c7 : wA.cell? ⟨B, 7, none⟩ = some (.slice none 0 0) := hb1.at 7 _ rfl
  have d0 : wA.cell? ⟨B + 1, 0, none⟩ = some (.int .u64 0) := hr1.at 0 _ rfl
  have d1 : wA.cell? ⟨B + 1, 1, none⟩ = some (.slice none 0 0) := hr1.at 1 _ rfl
  have d2 : wA.cell? ⟨B + 1, 2, none⟩ = some (.slice none 0 0) := hr1.at 2 _ rfl
  have d3 : wA.cell? ⟨B + 1, 3, none⟩ = some (.slice none 0 0) := hr1.at 3 _ rfl
  have d4 : wA.cell? ⟨B + 1, 4, none⟩ = some (.slice none 0 0) := hr1.at 4 _ rfl
  have d5 : wA.cell? ⟨B + 1, 5, none⟩ = some (.slice none 0 0) := hr1.at 5 _ rfl
  have d6 : wA.cell? ⟨B + 1, 6, none⟩ = some (.slice none 0 0) := hr1.at 6 _ rfl
  have d7 : wA.cell? ⟨B + 1, 7, none⟩ = some (.slice none 0 0) := hr1.at 7 _ rfl
  clear hb1 hr1 hf hB hwA
  go_enter Tryz.func16, Tryz.ntmps16
  go_upto_region 1 with fail
  rw [HWA.out]
  simp only [HBS.out]
  go_wp2_with fail
  refine (ints0 _).mono ?_
  rintro e w' ⟨rfl, rfl⟩
  go_wp2_with fail
  refine (ints0 _).mono ?_
  rintro e w' ⟨rfl, rfl⟩
  go_wp2_with fail
  refine (rconns0 _).mono ?_
  rintro e w' ⟨rfl, rfl⟩
  go_wp2_with fail
  refine (rlis0 _).mono ?_
  rintro e w' ⟨rfl, rfl⟩
  go_wp2
  refine wp_loop_rounds 1 ?_
  rw [rounds_succ]
  go_wp2
  refine wp_loop_rounds 1 ?_
  rw [rounds_succ]
  go_wp2
  refine wp_loop_rounds 1 ?_
  rw [rounds_succ]
  go_wp2
  go_ret
  exact ⟨rfl, HF.out⟩
theorem load_bad (k : Int) (v : Value) (w : World) (hk : k ≠ 0) (h : Calls Tryz.prog 15 #[v] w (ReadBad k w)) : Calls Tryz.prog 20 #[v] w fun e w' => e = .returned (.tuple #[.pointer none, .int .i64 k]) ∧ Fr [] w w' := by
  have HR := Lib.hid h
  have hk1 : (k == 0) = false := beq_eq_false_iff_ne.2 hk
  have hk2 : decide (k = 0) = false := decide_eq_false hk
  clear h hk
  go_enter Tryz.func20, Tryz.ntmps20
  go_upto_region 1 with fail
  refine wp_region_lit ?_
  refine wpList_plain rfl (fun K hK => ?_)
  go_simp
  refine hK _ _ ?_
  clear hK K
  try simp only [Act.put, List.getElem_toArray, List.getElem_cons_succ, List.getElem_cons_zero, List.setIfInBounds_toArray, List.set_cons_zero, List.set_cons_succ]
  refine wpList_plain rfl (fun K hK => ?_)
  go_simp
  refine HR.out.mono ?_
  rintro e w1 ⟨rfl, f1⟩
  refine hK _ _ ?_
  clear hK K
  have HF1 := Lib.hid f1
  clear f1
  try simp only [Act.put, List.getElem_toArray, List.getElem_cons_succ, List.getElem_cons_zero, List.setIfInBounds_toArray, List.set_cons_zero, List.set_cons_succ]
  refine wpList_plain rfl (fun K hK => ?_)
  go_simp
  refine hK _ _ ?_
  clear hK K
  refine wpList_plain rfl (fun K hK => ?_)
  go_simp
  refine hK _ _ ?_
  clear hK K
  refine wpList_plain rfl (fun K hK => ?_)
  go_simp
  refine hK _ _ ?_
  clear hK K
  refine wpList_plain rfl (fun K hK => ?_)
  go_simp
  refine hK _ _ ?_
  clear hK K
  try simp only [Act.put, List.getElem_toArray, List.getElem_cons_succ, List.getElem_cons_zero, List.setIfInBounds_toArray, List.set_cons_zero, List.set_cons_succ]
  obtain ⟨C, hC⟩ : ∃ z, w1.heap.size = z := ⟨_, rfl⟩
  obtain ⟨wx, hwx⟩ : ∃ z, w1.alloc (.cells mach0.toArray 36) = z := ⟨_, rfl⟩
  have hbx : Blk wx C 36 mach0 := by rw [← hwx, ← hC]; exact Blk.made w1 _ _
  have fx : Fr [] w1 wx := by rw [← hwx]; exact (Fr.refl [] w1).alloc _
  rw [show w1.alloc (.cells #[.int .u64 0, .slice none 0 0, .slice none 0 0, .slice none 0 0, .slice none 0 0, .slice none 0 0, .slice none 0 0, .slice none 0 0] 36) = wx from hwx]
  simp only [hC]
  have HXX := Lib.hid hbx
  have HFX := Lib.hid fx
  have HCC := Lib.hid hC
  clear hwx hbx fx hC
  obtain ⟨w2, hst, hb_, hf_⟩ := store_all (t := 36) mach0 sizeMa rfl mach0_one HXX.out rfl
  refine wpList_skp rfl (w' := w2) ?_ ?_
  · show Sem.run Tryz.prog ((Instr.storeAt 36 (.pointer (some ⟨C, 0, none⟩)) (.agg mach0.toArray)) >>= fun _ => pure Next.skip) _ = _
    rw [Sem.run_bind, hst]
    rfl
  clear hst
  try simp only [Act.put, List.getElem_toArray, List.getElem_cons_succ, List.getElem_cons_zero, List.setIfInBounds_toArray, List.set_cons_zero, List.set_cons_succ]
  have HF2 := Lib.hid (HF1.out.step (HFX.out.own1 (S := []) (B := 0) hf_ (by have := HCC.out; omega)))
  have HCV := Lib.hid (show Blk w2 C 36 mach0 from hb_)
  have HCF := Lib.hid (show Fr [] w1 w2 from HFX.out.own1 (S := []) (B := 0) hf_ (by have := HCC.out; omega))
  clear hb_ hf_ HXX HFX HCC
  refine wpList_plain rfl (fun K hK => ?_)
  go_simp
  refine hK _ _ ?_
  clear hK K
  refine wpList_nil ?_
  try simp only [Act.put, List.getElem_toArray, List.getElem_cons_succ, List.getElem_cons_zero, List.setIfInBounds_toArray, List.set_cons_zero, List.set_cons_succ]
  go_wp2
  go_ret2
  exact ⟨rfl, HF2.out⟩
end Go.Proofs.YtemihaijhcpnfaaGreatDoor
