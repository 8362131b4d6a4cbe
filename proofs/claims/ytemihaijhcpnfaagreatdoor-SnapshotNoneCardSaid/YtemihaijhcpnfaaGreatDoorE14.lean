/- Read of bytes that are no snapshot: none, too many, without the head, with a wrong sum, without a body. -/
import Derived.Test.YtemihaijhcpnfaaGreatDoorE13
import Derived.Test.YtemihaijhcpnfaaGreatDoorE11
import Derived.Laws.IdiomStrings
import Derived.Deep.RegionHeld3
namespace Go.Proofs.YtemihaijhcpnfaaGreatDoor
open Go.RowKit
open Go.Maps (Keyed)
set_option linter.unusedVariables false
set_option linter.unusedSimpArgs false
set_option maxRecDepth 100000
set_option maxHeartbeats 4000000

def ReadBad (k : Int) (w : World) (e : Ending) (w' : World) : Prop := e = .returned (.tuple #[.agg mach0.toArray, .int .i64 k]) ∧ Fr [] w w'
theorem read_short (w : World) : Calls Tryz.prog 15 #[.slice none 0 0] w (ReadBad 4 w) := by
  obtain ⟨R, hR⟩ : ∃ R, w.heap.size = R := ⟨_, rfl⟩
  obtain ⟨w0, hw0⟩ : ∃ z, w.alloc (.cells mach0.toArray 36) = z := ⟨_, rfl⟩
  have hr0 : Blk w0 R 36 mach0 := by rw [← hw0, ← hR]; exact Blk.made w _ mach0
  have hf : Fr [] w w0 := by rw [← hw0]; exact (Fr.refl [] w).alloc _
  have HR0 := Lib.hid hr0
  have HF0 := Lib.hid hf
  have HRS := Lib.hid hR
  have HW0 := Lib.hid hw0
  
  clear hr0 hf hR hw0
  go_enter Tryz.func15, Tryz.ntmps15
  go_upto_region 1 with fail
  rw [show w.alloc (.cells #[.int .u64 0, .slice none 0 0, .slice none 0 0, .slice none 0 0, .slice none 0 0, .slice none 0 0, .slice none 0 0, .slice none 0 0] 36) = w0 from HW0.out]
  simp only [HRS.out]
  go_upto_region 4 with fail
  refine wp_region_lit ?_
  refine wpList_val rfl (v := .agg mach0.toArray) (w' := w0) (exec_bld0 rfl (bldM0 w0)) ?_
  try simp only [Act.put, List.getElem_toArray, List.getElem_cons_succ, List.getElem_cons_zero, List.setIfInBounds_toArray, List.set_cons_zero, List.set_cons_succ]
  obtain ⟨wz, hst, hb_, hf_⟩ := store_all (t := 36) mach0 sizeMa rfl mach0_one HR0.out rfl
  refine wpList_skp rfl (w' := wz) ?_ ?_
  · show Sem.run Tryz.prog ((Instr.storeAt 36 (.pointer (some ⟨R, 0, none⟩)) (.agg mach0.toArray)) >>= fun _ => pure Next.skip) _ = _
    rw [Sem.run_bind, hst]
    rfl
  clear hst
  try simp only [Act.put, List.getElem_toArray, List.getElem_cons_succ, List.getElem_cons_zero, List.setIfInBounds_toArray, List.set_cons_zero, List.set_cons_succ]
  refine wpList_plain rfl (fun K hK => ?_)
  go_simp
  refine hK _ _ ?_
  clear hK K
  refine wpList_nil ?_
  try simp only [Act.put, List.getElem_toArray, List.getElem_cons_succ, List.getElem_cons_zero, List.setIfInBounds_toArray, List.set_cons_zero, List.set_cons_succ]
  have HRZ := Lib.hid (show Blk wz R 36 mach0 from hb_)
  have HFZ := Lib.hid (HF0.out.own1 (S := []) (B := 0) hf_ (by have := HRS.out; omega))
  clear hb_ hf_
  go_wp2
  have hl := load_var aggMa sizeMa (xs := mach0) rfl HRZ.out.at
  first
    | refine bodyPost_ret (v := .tuple #[.agg mach0.toArray, .int .i64 4]) (by simp [results, Tryz.results15, as_addr, hl]) rfl ?_
    | (rw [Exit.noGoto_ret]; refine bodyPost_ret (v := .tuple #[.agg mach0.toArray, .int .i64 4]) (by simp [results, Tryz.results15, as_addr, hl]) rfl ?_)
  exact ⟨rfl, HFZ.out⟩
theorem read_long (E n c : Nat) (w : World) (hn : 16777216 < n) : Calls Tryz.prog 15 #[.slice (some ⟨E, 0, none⟩) n c] w (ReadBad 5 w) := by
  have hn' : (16777216 : Int) < (n : Int) := by omega
  obtain ⟨R, hR⟩ : ∃ R, w.heap.size = R := ⟨_, rfl⟩
  obtain ⟨w0, hw0⟩ : ∃ z, w.alloc (.cells mach0.toArray 36) = z := ⟨_, rfl⟩
  have hr0 : Blk w0 R 36 mach0 := by rw [← hw0, ← hR]; exact Blk.made w _ mach0
  have hf : Fr [] w w0 := by rw [← hw0]; exact (Fr.refl [] w).alloc _
  have HR0 := Lib.hid hr0
  have HF0 := Lib.hid hf
  have HRS := Lib.hid hR
  have HW0 := Lib.hid hw0
  
  clear hr0 hf hR hw0
  go_enter Tryz.func15, Tryz.ntmps15
  go_upto_region 1 with fail
  rw [show w.alloc (.cells #[.int .u64 0, .slice none 0 0, .slice none 0 0, .slice none 0 0, .slice none 0 0, .slice none 0 0, .slice none 0 0, .slice none 0 0] 36) = w0 from HW0.out]
  simp only [HRS.out]
  go_upto_region 2 with fail
  refine wp_region_lit ?_
  refine wpList_val rfl (v := .agg mach0.toArray) (w' := w0) (exec_bld0 rfl (bldM0 w0)) ?_
  try simp only [Act.put, List.getElem_toArray, List.getElem_cons_succ, List.getElem_cons_zero, List.setIfInBounds_toArray, List.set_cons_zero, List.set_cons_succ]
  obtain ⟨wz, hst, hb_, hf_⟩ := store_all (t := 36) mach0 sizeMa rfl mach0_one HR0.out rfl
  refine wpList_skp rfl (w' := wz) ?_ ?_
  · show Sem.run Tryz.prog ((Instr.storeAt 36 (.pointer (some ⟨R, 0, none⟩)) (.agg mach0.toArray)) >>= fun _ => pure Next.skip) _ = _
    rw [Sem.run_bind, hst]
    rfl
  clear hst
  try simp only [Act.put, List.getElem_toArray, List.getElem_cons_succ, List.getElem_cons_zero, List.setIfInBounds_toArray, List.set_cons_zero, List.set_cons_succ]
  refine wpList_plain rfl (fun K hK => ?_)
  go_simp
  refine hK _ _ ?_
  clear hK K
  refine wpList_nil ?_
  try simp only [Act.put, List.getElem_toArray, List.getElem_cons_succ, List.getElem_cons_zero, List.setIfInBounds_toArray, List.set_cons_zero, List.set_cons_succ]
  have HRZ := Lib.hid (show Blk wz R 36 mach0 from hb_)
  have HFZ := Lib.hid (HF0.out.own1 (S := []) (B := 0) hf_ (by have := HRS.out; omega))
  clear hb_ hf_
  go_wp2
  have hl := load_var aggMa sizeMa (xs := mach0) rfl HRZ.out.at
  first
    | refine bodyPost_ret (v := .tuple #[.agg mach0.toArray, .int .i64 5]) (by simp [results, Tryz.results15, as_addr, hl]) rfl ?_
    | (rw [Exit.noGoto_ret]; refine bodyPost_ret (v := .tuple #[.agg mach0.toArray, .int .i64 5]) (by simp [results, Tryz.results15, as_addr, hl]) rfl ?_)
  exact ⟨rfl, HFZ.out⟩
theorem read_zeros (E n c : Nat) (w : World) (h1 : 8 ≤ n) (h2 : n ≤ 16777216) (h3 : n ≤ c) (hz : LiesAt w E 0 (bsV [0, 0, 0, 0])) : Calls Tryz.prog 15 #[.slice (some ⟨E, 0, none⟩) n c] w (ReadBad 6 w) := by
  have hn1 : ¬ (16777216 : Int) < (n : Int) := by omega
  have hn2 : ¬ ((n : Int) < 8) := by omega
  have hc1 : (4 : Int) ≤ (c : Int) := by omega
  obtain ⟨R, hR⟩ : ∃ R, w.heap.size = R := ⟨_, rfl⟩
  obtain ⟨w0, hw0⟩ : ∃ z, w.alloc (.cells mach0.toArray 36) = z := ⟨_, rfl⟩
  have hr0 : Blk w0 R 36 mach0 := by rw [← hw0, ← hR]; exact Blk.made w _ mach0
  have hf : Fr [] w w0 := by rw [← hw0]; exact (Fr.refl [] w).alloc _
  have HR0 := Lib.hid hr0
  have HF0 := Lib.hid hf
  have HRS := Lib.hid hR
  have HW0 := Lib.hid hw0
  have hz0 : LiesAt w0 E 0 (bsV [0, 0, 0, 0]) := hz.keep hf (by simp)
  have hcv : (convert 22 9 (.slice (some ⟨E, 0, none⟩) 4 c)).run Tryz.prog w0 = .ok (.string ⟨#[0, 0, 0, 0]⟩) w0 := run_convert_bytes_back w0 22 9 5 ⟨E, 0, none⟩ c [0, 0, 0, 0] Tryz.underlying22 Tryz.underlying5 Tryz.underlying9 (fun j hj => by
    rw [Addr.add_lit]
    match j, hj with
    | 0, _ => exact hz0 0 _ rfl
    | 1, _ => exact hz0 1 _ rfl
    | 2, _ => exact hz0 2 _ rfl
    | 3, _ => exact hz0 3 _ rfl
    | k + 4, h => exact absurd h (by simp))
  have hq : ∀ W : World, (binOp .neq 9 (.string ⟨#[0, 0, 0, 0]⟩) (.string ⟨#[65, 81, 83, 1]⟩)).run Tryz.prog W = .ok (.bool true) W := fun W => by kernel_rfl
  clear hz hz0
  clear hr0 hf hR hw0
  go_enter Tryz.func15, Tryz.ntmps15
  go_upto_region 1 with fail
  rw [show w.alloc (.cells #[.int .u64 0, .slice none 0 0, .slice none 0 0, .slice none 0 0, .slice none 0 0, .slice none 0 0, .slice none 0 0, .slice none 0 0] 36) = w0 from HW0.out]
  simp only [HRS.out]
  go_upto_region 6 with fail
  refine wp_region_lit ?_
  refine wpList_val rfl (v := .agg mach0.toArray) (w' := w0) (exec_bld0 rfl (bldM0 w0)) ?_
  try simp only [Act.put, List.getElem_toArray, List.getElem_cons_succ, List.getElem_cons_zero, List.setIfInBounds_toArray, List.set_cons_zero, List.set_cons_succ]
  obtain ⟨wz, hst, hb_, hf_⟩ := store_all (t := 36) mach0 sizeMa rfl mach0_one HR0.out rfl
  refine wpList_skp rfl (w' := wz) ?_ ?_
  · show Sem.run Tryz.prog ((Instr.storeAt 36 (.pointer (some ⟨R, 0, none⟩)) (.agg mach0.toArray)) >>= fun _ => pure Next.skip) _ = _
    rw [Sem.run_bind, hst]
    rfl
  clear hst
  try simp only [Act.put, List.getElem_toArray, List.getElem_cons_succ, List.getElem_cons_zero, List.setIfInBounds_toArray, List.set_cons_zero, List.set_cons_succ]
  refine wpList_plain rfl (fun K hK => ?_)
  go_simp
  refine hK _ _ ?_
  clear hK K
  refine wpList_nil ?_
  try simp only [Act.put, List.getElem_toArray, List.getElem_cons_succ, List.getElem_cons_zero, List.setIfInBounds_toArray, List.set_cons_zero, List.set_cons_succ]
  have HRZ := Lib.hid (show Blk wz R 36 mach0 from hb_)
  have HFZ := Lib.hid (HF0.out.own1 (S := []) (B := 0) hf_ (by have := HRS.out; omega))
  clear hb_ hf_
  go_wp2
  have hl := load_var aggMa sizeMa (xs := mach0) rfl HRZ.out.at
  first
    | refine bodyPost_ret (v := .tuple #[.agg mach0.toArray, .int .i64 6]) (by simp [results, Tryz.results15, as_addr, hl]) rfl ?_
    | (rw [Exit.noGoto_ret]; refine bodyPost_ret (v := .tuple #[.agg mach0.toArray, .int .i64 6]) (by simp [results, Tryz.results15, as_addr, hl]) rfl ?_)
  exact ⟨rfl, HFZ.out⟩
theorem read_check (E : Nat) (w : World) (hb : Blk w E 5 (bsV [65, 81, 83, 1, 0, 0, 0, 0])) : Calls Tryz.prog 15 #[.slice (some ⟨E, 0, none⟩) 8 8] w (ReadBad 10 w) := by
  obtain ⟨R, hR⟩ : ∃ R, w.heap.size = R := ⟨_, rfl⟩
  obtain ⟨w0, hw0⟩ : ∃ z, w.alloc (.cells mach0.toArray 36) = z := ⟨_, rfl⟩
  have hr0 : Blk w0 R 36 mach0 := by rw [← hw0, ← hR]; exact Blk.made w _ mach0
  have hf : Fr [] w w0 := by rw [← hw0]; exact (Fr.refl [] w).alloc _
  have HR0 := Lib.hid hr0
  have HF0 := Lib.hid hf
  have HRS := Lib.hid hR
  have HW0 := Lib.hid hw0
  have hb0 := hb.keep hf (by simp)
  have hcv : (convert 22 9 (.slice (some ⟨E, 0, none⟩) 4 8)).run Tryz.prog w0 = .ok (.string ⟨#[65, 81, 83, 1]⟩) w0 := run_convert_bytes_back w0 22 9 5 ⟨E, 0, none⟩ 8 [65, 81, 83, 1] Tryz.underlying22 Tryz.underlying5 Tryz.underlying9 (fun j hj => by
    rw [Addr.add_lit]
    have h4 : LiesAt w0 E 0 (bsV [65, 81, 83, 1]) := hb0.at.part (k := 0) (n := 4) rfl
    match j, hj with
    | 0, _ => exact h4 0 _ rfl
    | 1, _ => exact h4 1 _ rfl
    | 2, _ => exact h4 2 _ rfl
    | 3, _ => exact h4 3 _ rfl
    | k + 4, h => exact absurd h (by simp))
  have hq : ∀ W : World, (binOp .neq 9 (.string ⟨#[65, 81, 83, 1]⟩) (.string ⟨#[65, 81, 83, 1]⟩)).run Tryz.prog W = .ok (.bool false) W := fun W => by kernel_rfl
  have HB0 := Lib.hid hb0
  clear hb hb0
  clear hr0 hf hR hw0
  go_enter Tryz.func15, Tryz.ntmps15
  go_upto_region 1 with fail
  rw [show w.alloc (.cells #[.int .u64 0, .slice none 0 0, .slice none 0 0, .slice none 0 0, .slice none 0 0, .slice none 0 0, .slice none 0 0, .slice none 0 0] 36) = w0 from HW0.out]
  simp only [HRS.out]
  obtain ⟨w1, hw1⟩ : ∃ z, w0.drew = z := ⟨_, rfl⟩
  have f1 : Fr [] w0 w1 := by rw [← hw1]; exact (Fr.refl [] w0).drew
  have HB1 := Lib.hid (HB0.out.keep f1 (by simp))
  have HR1 := Lib.hid (HR0.out.keep f1 (by simp))
  have HF1 := Lib.hid (HF0.out.step f1)
  have HW1 := Lib.hid hw1
  clear f1 hw1
  go_upto_region 9 with fail
  clear hcv hq
  refine wp_region_held_drew (S := fun W => W.cell? ⟨E, 4, none⟩ = some (.int .u8 0) ∧ W.cell? ⟨E, 5, none⟩ = some (.int .u8 0) ∧ W.cell? ⟨E, 6, none⟩ = some (.int .u8 0) ∧ W.cell? ⟨E, 7, none⟩ = some (.int .u8 0)) (by kernel_rfl) (by rw [HW1.out]; exact ⟨HB1.out.at 4 _ rfl, HB1.out.at 5 _ rfl, HB1.out.at 6 _ rfl, HB1.out.at 7 _ rfl⟩) (fun hHeld => ?_)
  rw [HW1.out] at hHeld ⊢
  refine wpAnyH_take (i := 0) (oi := _) (v := ?_) rfl (by kernel_rfl) (by kernel_rfl) (by kernel_rfl) (fun _ _ _ h => h) (Or.inl ⟨by rfl, ?_⟩) (by first | assumption | trivial) ?_
  rotate_left
  · intro w hSw
    try dsimp only at hSw
    go_simp
    try with_reducible rfl
  try simp only [Act.put, List.getElem_toArray, List.getElem_cons_succ, List.getElem_cons_zero, List.setIfInBounds_toArray, List.set_cons_zero, List.set_cons_succ]
  refine wpAnyH_take (i := 1) (oi := _) (v := ?_) rfl (by kernel_rfl) (by kernel_rfl) (by kernel_rfl) (fun _ _ _ h => h) (Or.inl ⟨by rfl, ?_⟩) (by first | assumption | trivial) ?_
  rotate_left
  · intro w hSw
    try dsimp only at hSw
    go_simp
    try with_reducible rfl
  try simp only [Act.put, List.getElem_toArray, List.getElem_cons_succ, List.getElem_cons_zero, List.setIfInBounds_toArray, List.set_cons_zero, List.set_cons_succ]
  refine wpAnyH_take (i := 2) (oi := _) (v := ?_) rfl (by kernel_rfl) (by kernel_rfl) (by kernel_rfl) (fun _ _ _ h => h) (Or.inl ⟨by rfl, ?_⟩) (by first | assumption | trivial) ?_
  rotate_left
  · intro w hSw
    try dsimp only at hSw
    go_simp
    try with_reducible rfl
  try simp only [Act.put, List.getElem_toArray, List.getElem_cons_succ, List.getElem_cons_zero, List.setIfInBounds_toArray, List.set_cons_zero, List.set_cons_succ]
  refine wpAnyH_take (i := 3) (oi := _) (v := ?_) rfl (by kernel_rfl) (by kernel_rfl) (by kernel_rfl) (fun _ _ _ h => h) (Or.inl ⟨by rfl, ?_⟩) (by first | assumption | trivial) ?_
  rotate_left
  · intro w hSw
    try dsimp only at hSw
    go_simp
    try with_reducible rfl
  try simp only [Act.put, List.getElem_toArray, List.getElem_cons_succ, List.getElem_cons_zero, List.setIfInBounds_toArray, List.set_cons_zero, List.set_cons_succ]
  refine wpAnyH_take (i := 4) (oi := _) (v := .int .u32 0) rfl (by kernel_rfl) (by kernel_rfl) (by kernel_rfl) (fun _ _ _ h => h) (Or.inl ⟨by rfl, ?_⟩) (by first | assumption | trivial) ?_
  · intro w hSw
    try dsimp only at hSw
    first
      | (go_simp; done)
      | (go_simp; rfl)
      | (go_simp; kernel_rfl)
  try simp only [Act.put, List.getElem_toArray, List.getElem_cons_succ, List.getElem_cons_zero, List.setIfInBounds_toArray, List.set_cons_zero, List.set_cons_succ]
  refine wpAnyH_take (i := 5) (oi := _) (v := .int .u32 0) rfl (by kernel_rfl) (by kernel_rfl) (by kernel_rfl) (fun _ _ _ h => h) (Or.inl ⟨by rfl, ?_⟩) (by first | assumption | trivial) ?_
  · intro w hSw
    try dsimp only at hSw
    first
      | (go_simp; done)
      | (go_simp; rfl)
      | (go_simp; kernel_rfl)
  try simp only [Act.put, List.getElem_toArray, List.getElem_cons_succ, List.getElem_cons_zero, List.setIfInBounds_toArray, List.set_cons_zero, List.set_cons_succ]
  refine wpAnyH_take (i := 6) (oi := _) (v := ?_) rfl (by kernel_rfl) (by kernel_rfl) (by kernel_rfl) (fun _ _ _ h => h) (Or.inl ⟨by rfl, ?_⟩) (by first | assumption | trivial) ?_
  rotate_left
  · intro w hSw
    try dsimp only at hSw
    go_simp
    try with_reducible rfl
  try simp only [Act.put, List.getElem_toArray, List.getElem_cons_succ, List.getElem_cons_zero, List.setIfInBounds_toArray, List.set_cons_zero, List.set_cons_succ]
  refine wpAnyH_take (i := 7) (oi := _) (v := ?_) rfl (by kernel_rfl) (by kernel_rfl) (by kernel_rfl) (fun _ _ _ h => h) (Or.inl ⟨by rfl, ?_⟩) (by first | assumption | trivial) ?_
  rotate_left
  · intro w hSw
    try dsimp only at hSw
    go_simp
    try with_reducible rfl
  try simp only [Act.put, List.getElem_toArray, List.getElem_cons_succ, List.getElem_cons_zero, List.setIfInBounds_toArray, List.set_cons_zero, List.set_cons_succ]
  refine wpAnyH_take (i := 8) (oi := _) (v := .int .i64 5) rfl (by kernel_rfl) (by kernel_rfl) (by kernel_rfl) (fun _ _ _ h => h) (Or.inl ⟨by rfl, ?_⟩) (by first | assumption | trivial) ?_
  · intro w hSw
    try dsimp only at hSw
    first
      | (go_simp; done)
      | (go_simp; rfl)
      | (go_simp; kernel_rfl)
  try simp only [Act.put, List.getElem_toArray, List.getElem_cons_succ, List.getElem_cons_zero, List.setIfInBounds_toArray, List.set_cons_zero, List.set_cons_succ]
  refine wpAnyH_take (i := 9) (oi := _) (v := ?_) rfl (by kernel_rfl) (by kernel_rfl) (by kernel_rfl) (fun _ _ _ h => h) (Or.inl ⟨by rfl, ?_⟩) (by first | assumption | trivial) ?_
  rotate_left
  · intro w hSw
    try dsimp only at hSw
    go_simp
    try with_reducible rfl
  try simp only [Act.put, List.getElem_toArray, List.getElem_cons_succ, List.getElem_cons_zero, List.setIfInBounds_toArray, List.set_cons_zero, List.set_cons_succ]
  refine wpAnyH_take (i := 10) (oi := _) (v := ?_) rfl (by kernel_rfl) (by kernel_rfl) (by kernel_rfl) (fun _ _ _ h => h) (Or.inl ⟨by rfl, ?_⟩) (by first | assumption | trivial) ?_
  rotate_left
  · intro w hSw
    try dsimp only at hSw
    go_simp
    try with_reducible rfl
  try simp only [Act.put, List.getElem_toArray, List.getElem_cons_succ, List.getElem_cons_zero, List.setIfInBounds_toArray, List.set_cons_zero, List.set_cons_succ]
  refine wpAnyH_take (i := 11) (oi := _) (v := .int .u32 0) rfl (by kernel_rfl) (by kernel_rfl) (by kernel_rfl) (fun _ _ _ h => h) (Or.inl ⟨by rfl, ?_⟩) (by first | assumption | trivial) ?_
  · intro w hSw
    try dsimp only at hSw
    first
      | (go_simp; done)
      | (go_simp; rfl)
      | (go_simp; kernel_rfl)
  try simp only [Act.put, List.getElem_toArray, List.getElem_cons_succ, List.getElem_cons_zero, List.setIfInBounds_toArray, List.set_cons_zero, List.set_cons_succ]
  refine wpAnyH_take (i := 12) (oi := _) (v := .int .u32 0) rfl (by kernel_rfl) (by kernel_rfl) (by kernel_rfl) (fun _ _ _ h => h) (Or.inl ⟨by rfl, ?_⟩) (by first | assumption | trivial) ?_
  · intro w hSw
    try dsimp only at hSw
    first
      | (go_simp; done)
      | (go_simp; rfl)
      | (go_simp; kernel_rfl)
  try simp only [Act.put, List.getElem_toArray, List.getElem_cons_succ, List.getElem_cons_zero, List.setIfInBounds_toArray, List.set_cons_zero, List.set_cons_succ]
  refine wpAnyH_take (i := 13) (oi := _) (v := .int .u32 0) rfl (by kernel_rfl) (by kernel_rfl) (by kernel_rfl) (fun _ _ _ h => h) (Or.inl ⟨by rfl, ?_⟩) (by first | assumption | trivial) ?_
  · intro w hSw
    try dsimp only at hSw
    first
      | (go_simp; done)
      | (go_simp; rfl)
      | (go_simp; kernel_rfl)
  try simp only [Act.put, List.getElem_toArray, List.getElem_cons_succ, List.getElem_cons_zero, List.setIfInBounds_toArray, List.set_cons_zero, List.set_cons_succ]
  refine wpAnyH_take (i := 14) (oi := _) (v := ?_) rfl (by kernel_rfl) (by kernel_rfl) (by kernel_rfl) (fun _ _ _ h => h) (Or.inl ⟨by rfl, ?_⟩) (by first | assumption | trivial) ?_
  rotate_left
  · intro w hSw
    try dsimp only at hSw
    go_simp
    try with_reducible rfl
  try simp only [Act.put, List.getElem_toArray, List.getElem_cons_succ, List.getElem_cons_zero, List.setIfInBounds_toArray, List.set_cons_zero, List.set_cons_succ]
  refine wpAnyH_take (i := 15) (oi := _) (v := ?_) rfl (by kernel_rfl) (by kernel_rfl) (by kernel_rfl) (fun _ _ _ h => h) (Or.inl ⟨by rfl, ?_⟩) (by first | assumption | trivial) ?_
  rotate_left
  · intro w hSw
    try dsimp only at hSw
    go_simp
    try with_reducible rfl
  try simp only [Act.put, List.getElem_toArray, List.getElem_cons_succ, List.getElem_cons_zero, List.setIfInBounds_toArray, List.set_cons_zero, List.set_cons_succ]
  refine wpAnyH_take (i := 16) (oi := _) (v := .int .i64 6) rfl (by kernel_rfl) (by kernel_rfl) (by kernel_rfl) (fun _ _ _ h => h) (Or.inl ⟨by rfl, ?_⟩) (by first | assumption | trivial) ?_
  · intro w hSw
    try dsimp only at hSw
    first
      | (go_simp; done)
      | (go_simp; rfl)
      | (go_simp; kernel_rfl)
  try simp only [Act.put, List.getElem_toArray, List.getElem_cons_succ, List.getElem_cons_zero, List.setIfInBounds_toArray, List.set_cons_zero, List.set_cons_succ]
  refine wpAnyH_take (i := 17) (oi := _) (v := ?_) rfl (by kernel_rfl) (by kernel_rfl) (by kernel_rfl) (fun _ _ _ h => h) (Or.inl ⟨by rfl, ?_⟩) (by first | assumption | trivial) ?_
  rotate_left
  · intro w hSw
    try dsimp only at hSw
    go_simp
    try with_reducible rfl
  try simp only [Act.put, List.getElem_toArray, List.getElem_cons_succ, List.getElem_cons_zero, List.setIfInBounds_toArray, List.set_cons_zero, List.set_cons_succ]
  refine wpAnyH_take (i := 18) (oi := _) (v := ?_) rfl (by kernel_rfl) (by kernel_rfl) (by kernel_rfl) (fun _ _ _ h => h) (Or.inl ⟨by rfl, ?_⟩) (by first | assumption | trivial) ?_
  rotate_left
  · intro w hSw
    try dsimp only at hSw
    go_simp
    try with_reducible rfl
  try simp only [Act.put, List.getElem_toArray, List.getElem_cons_succ, List.getElem_cons_zero, List.setIfInBounds_toArray, List.set_cons_zero, List.set_cons_succ]
  refine wpAnyH_take (i := 19) (oi := _) (v := .int .u32 0) rfl (by kernel_rfl) (by kernel_rfl) (by kernel_rfl) (fun _ _ _ h => h) (Or.inl ⟨by rfl, ?_⟩) (by first | assumption | trivial) ?_
  · intro w hSw
    try dsimp only at hSw
    first
      | (go_simp; done)
      | (go_simp; rfl)
      | (go_simp; kernel_rfl)
  try simp only [Act.put, List.getElem_toArray, List.getElem_cons_succ, List.getElem_cons_zero, List.setIfInBounds_toArray, List.set_cons_zero, List.set_cons_succ]
  refine wpAnyH_take (i := 20) (oi := _) (v := .int .u32 0) rfl (by kernel_rfl) (by kernel_rfl) (by kernel_rfl) (fun _ _ _ h => h) (Or.inl ⟨by rfl, ?_⟩) (by first | assumption | trivial) ?_
  · intro w hSw
    try dsimp only at hSw
    first
      | (go_simp; done)
      | (go_simp; rfl)
      | (go_simp; kernel_rfl)
  try simp only [Act.put, List.getElem_toArray, List.getElem_cons_succ, List.getElem_cons_zero, List.setIfInBounds_toArray, List.set_cons_zero, List.set_cons_succ]
  refine wpAnyH_take (i := 21) (oi := _) (v := .int .u32 0) rfl (by kernel_rfl) (by kernel_rfl) (by kernel_rfl) (fun _ _ _ h => h) (Or.inl ⟨by rfl, ?_⟩) (by first | assumption | trivial) ?_
  · intro w hSw
    try dsimp only at hSw
    first
      | (go_simp; done)
      | (go_simp; rfl)
      | (go_simp; kernel_rfl)
  try simp only [Act.put, List.getElem_toArray, List.getElem_cons_succ, List.getElem_cons_zero, List.setIfInBounds_toArray, List.set_cons_zero, List.set_cons_succ]
  refine wpAnyH_take (i := 22) (oi := _) (v := ?_) rfl (by kernel_rfl) (by kernel_rfl) (by kernel_rfl) (fun _ _ _ h => h) (Or.inl ⟨by rfl, ?_⟩) (by first | assumption | trivial) ?_
  rotate_left
  · intro w hSw
    try dsimp only at hSw
    go_simp
    try with_reducible rfl
  try simp only [Act.put, List.getElem_toArray, List.getElem_cons_succ, List.getElem_cons_zero, List.setIfInBounds_toArray, List.set_cons_zero, List.set_cons_succ]
  refine wpAnyH_take (i := 23) (oi := _) (v := ?_) rfl (by kernel_rfl) (by kernel_rfl) (by kernel_rfl) (fun _ _ _ h => h) (Or.inl ⟨by rfl, ?_⟩) (by first | assumption | trivial) ?_
  rotate_left
  · intro w hSw
    try dsimp only at hSw
    go_simp
    try with_reducible rfl
  try simp only [Act.put, List.getElem_toArray, List.getElem_cons_succ, List.getElem_cons_zero, List.setIfInBounds_toArray, List.set_cons_zero, List.set_cons_succ]
  refine wpAnyH_take (i := 24) (oi := _) (v := .int .i64 7) rfl (by kernel_rfl) (by kernel_rfl) (by kernel_rfl) (fun _ _ _ h => h) (Or.inl ⟨by rfl, ?_⟩) (by first | assumption | trivial) ?_
  · intro w hSw
    try dsimp only at hSw
    first
      | (go_simp; done)
      | (go_simp; rfl)
      | (go_simp; kernel_rfl)
  try simp only [Act.put, List.getElem_toArray, List.getElem_cons_succ, List.getElem_cons_zero, List.setIfInBounds_toArray, List.set_cons_zero, List.set_cons_succ]
  refine wpAnyH_take (i := 25) (oi := _) (v := ?_) rfl (by kernel_rfl) (by kernel_rfl) (by kernel_rfl) (fun _ _ _ h => h) (Or.inl ⟨by rfl, ?_⟩) (by first | assumption | trivial) ?_
  rotate_left
  · intro w hSw
    try dsimp only at hSw
    go_simp
    try with_reducible rfl
  try simp only [Act.put, List.getElem_toArray, List.getElem_cons_succ, List.getElem_cons_zero, List.setIfInBounds_toArray, List.set_cons_zero, List.set_cons_succ]
  refine wpAnyH_take (i := 26) (oi := _) (v := ?_) rfl (by kernel_rfl) (by kernel_rfl) (by kernel_rfl) (fun _ _ _ h => h) (Or.inl ⟨by rfl, ?_⟩) (by first | assumption | trivial) ?_
  rotate_left
  · intro w hSw
    try dsimp only at hSw
    go_simp
    try with_reducible rfl
  try simp only [Act.put, List.getElem_toArray, List.getElem_cons_succ, List.getElem_cons_zero, List.setIfInBounds_toArray, List.set_cons_zero, List.set_cons_succ]
  refine wpAnyH_take (i := 27) (oi := _) (v := .int .u32 0) rfl (by kernel_rfl) (by kernel_rfl) (by kernel_rfl) (fun _ _ _ h => h) (Or.inl ⟨by rfl, ?_⟩) (by first | assumption | trivial) ?_
  · intro w hSw
    try dsimp only at hSw
    first
      | (go_simp; done)
      | (go_simp; rfl)
      | (go_simp; kernel_rfl)
  try simp only [Act.put, List.getElem_toArray, List.getElem_cons_succ, List.getElem_cons_zero, List.setIfInBounds_toArray, List.set_cons_zero, List.set_cons_succ]
  refine wpAnyH_take (i := 28) (oi := _) (v := .int .u32 0) rfl (by kernel_rfl) (by kernel_rfl) (by kernel_rfl) (fun _ _ _ h => h) (Or.inl ⟨by rfl, ?_⟩) (by first | assumption | trivial) ?_
  · intro w hSw
    try dsimp only at hSw
    first
      | (go_simp; done)
      | (go_simp; rfl)
      | (go_simp; kernel_rfl)
  try simp only [Act.put, List.getElem_toArray, List.getElem_cons_succ, List.getElem_cons_zero, List.setIfInBounds_toArray, List.set_cons_zero, List.set_cons_succ]
  refine wpAnyH_take (i := 29) (oi := _) (v := ?_) rfl (by kernel_rfl) (by kernel_rfl) (by kernel_rfl) (fun _ _ _ h => h) (Or.inl ⟨by rfl, ?_⟩) (by first | assumption | trivial) ?_
  rotate_left
  · intro w hSw
    try dsimp only at hSw
    go_simp
    try with_reducible rfl
  try simp only [Act.put, List.getElem_toArray, List.getElem_cons_succ, List.getElem_cons_zero, List.setIfInBounds_toArray, List.set_cons_zero, List.set_cons_succ]
  refine wpAnyH_done (by kernel_rfl) ?_ _
  clear hHeld HW1
  have HSU := Lib.hid (sum_any [] (.slice (some ⟨E, 4, none⟩) 0 4) w1 (RowV.nil _ 1 _ _) (by decide))
  rw [sum_nil] at HSU
  go_wp2_with fail
  refine HSU.out.mono ?_
  rintro e w' ⟨rfl, rfl⟩
  go_upto_region 11 with fail
  refine wp_region_lit ?_
  refine wpList_val rfl (v := .agg mach0.toArray) (w' := w1) (exec_bld0 rfl (bldM0 w1)) ?_
  try simp only [Act.put, List.getElem_toArray, List.getElem_cons_succ, List.getElem_cons_zero, List.setIfInBounds_toArray, List.set_cons_zero, List.set_cons_succ]
  obtain ⟨wz, hst, hb_, hf_⟩ := store_all (t := 36) mach0 sizeMa rfl mach0_one HR1.out rfl
  refine wpList_skp rfl (w' := wz) ?_ ?_
  · show Sem.run Tryz.prog ((Instr.storeAt 36 (.pointer (some ⟨R, 0, none⟩)) (.agg mach0.toArray)) >>= fun _ => pure Next.skip) _ = _
    rw [Sem.run_bind, hst]
    rfl
  clear hst
  try simp only [Act.put, List.getElem_toArray, List.getElem_cons_succ, List.getElem_cons_zero, List.setIfInBounds_toArray, List.set_cons_zero, List.set_cons_succ]
  refine wpList_plain rfl (fun K hK => ?_)
  go_simp
  refine hK _ _ ?_
  clear hK K
  refine wpList_nil ?_
  try simp only [Act.put, List.getElem_toArray, List.getElem_cons_succ, List.getElem_cons_zero, List.setIfInBounds_toArray, List.set_cons_zero, List.set_cons_succ]
  have HRZ := Lib.hid (show Blk wz R 36 mach0 from hb_)
  have HFZ := Lib.hid (HF1.out.own1 (S := []) (B := 0) hf_ (by have := HRS.out; omega))
  clear hb_ hf_
  go_wp2
  have hl := load_var aggMa sizeMa (xs := mach0) rfl HRZ.out.at
  first
    | refine bodyPost_ret (v := .tuple #[.agg mach0.toArray, .int .i64 10]) (by simp [results, Tryz.results15, as_addr, hl]) rfl ?_
    | (rw [Exit.noGoto_ret]; refine bodyPost_ret (v := .tuple #[.agg mach0.toArray, .int .i64 10]) (by simp [results, Tryz.results15, as_addr, hl]) rfl ?_)
  exact ⟨rfl, HFZ.out⟩
theorem read_format (E : Nat) (w : World) (hb : Blk w E 5 (bsV [65, 81, 83, 1, 0, 0, 21, 5])) : Calls Tryz.prog 15 #[.slice (some ⟨E, 0, none⟩) 8 8] w (ReadBad 6 w) := by
  obtain ⟨R, hR⟩ : ∃ R, w.heap.size = R := ⟨_, rfl⟩
  obtain ⟨w0, hw0⟩ : ∃ z, w.alloc (.cells mach0.toArray 36) = z := ⟨_, rfl⟩
  have hr0 : Blk w0 R 36 mach0 := by rw [← hw0, ← hR]; exact Blk.made w _ mach0
  have hf : Fr [] w w0 := by rw [← hw0]; exact (Fr.refl [] w).alloc _
  have HR0 := Lib.hid hr0
  have HF0 := Lib.hid hf
  have HRS := Lib.hid hR
  have HW0 := Lib.hid hw0
  have hb0 := hb.keep hf (by simp)
  have hcv : (convert 22 9 (.slice (some ⟨E, 0, none⟩) 4 8)).run Tryz.prog w0 = .ok (.string ⟨#[65, 81, 83, 1]⟩) w0 := run_convert_bytes_back w0 22 9 5 ⟨E, 0, none⟩ 8 [65, 81, 83, 1] Tryz.underlying22 Tryz.underlying5 Tryz.underlying9 (fun j hj => by
    rw [Addr.add_lit]
    have h4 : LiesAt w0 E 0 (bsV [65, 81, 83, 1]) := hb0.at.part (k := 0) (n := 4) rfl
    match j, hj with
    | 0, _ => exact h4 0 _ rfl
    | 1, _ => exact h4 1 _ rfl
    | 2, _ => exact h4 2 _ rfl
    | 3, _ => exact h4 3 _ rfl
    | k + 4, h => exact absurd h (by simp))
  have hq : ∀ W : World, (binOp .neq 9 (.string ⟨#[65, 81, 83, 1]⟩) (.string ⟨#[65, 81, 83, 1]⟩)).run Tryz.prog W = .ok (.bool false) W := fun W => by kernel_rfl
  have HB0 := Lib.hid hb0
  clear hb hb0
  clear hr0 hf hR hw0
  go_enter Tryz.func15, Tryz.ntmps15
  go_upto_region 1 with fail
  rw [show w.alloc (.cells #[.int .u64 0, .slice none 0 0, .slice none 0 0, .slice none 0 0, .slice none 0 0, .slice none 0 0, .slice none 0 0, .slice none 0 0] 36) = w0 from HW0.out]
  simp only [HRS.out]
  obtain ⟨w1, hw1⟩ : ∃ z, w0.drew = z := ⟨_, rfl⟩
  have f1 : Fr [] w0 w1 := by rw [← hw1]; exact (Fr.refl [] w0).drew
  have HB1 := Lib.hid (HB0.out.keep f1 (by simp))
  have HR1 := Lib.hid (HR0.out.keep f1 (by simp))
  have HF1 := Lib.hid (HF0.out.step f1)
  have HW1 := Lib.hid hw1
  clear f1 hw1
  go_upto_region 9 with fail
  clear hcv hq
  refine wp_region_held_drew (S := fun W => W.cell? ⟨E, 4, none⟩ = some (.int .u8 0) ∧ W.cell? ⟨E, 5, none⟩ = some (.int .u8 0) ∧ W.cell? ⟨E, 6, none⟩ = some (.int .u8 21) ∧ W.cell? ⟨E, 7, none⟩ = some (.int .u8 5)) (by kernel_rfl) (by rw [HW1.out]; exact ⟨HB1.out.at 4 _ rfl, HB1.out.at 5 _ rfl, HB1.out.at 6 _ rfl, HB1.out.at 7 _ rfl⟩) (fun hHeld => ?_)
  rw [HW1.out] at hHeld ⊢
  refine wpAnyH_take (i := 0) (oi := _) (v := ?_) rfl (by kernel_rfl) (by kernel_rfl) (by kernel_rfl) (fun _ _ _ h => h) (Or.inl ⟨by rfl, ?_⟩) (by first | assumption | trivial) ?_
  rotate_left
  · intro w hSw
    try dsimp only at hSw
    go_simp
    try with_reducible rfl
  try simp only [Act.put, List.getElem_toArray, List.getElem_cons_succ, List.getElem_cons_zero, List.setIfInBounds_toArray, List.set_cons_zero, List.set_cons_succ]
  refine wpAnyH_take (i := 1) (oi := _) (v := ?_) rfl (by kernel_rfl) (by kernel_rfl) (by kernel_rfl) (fun _ _ _ h => h) (Or.inl ⟨by rfl, ?_⟩) (by first | assumption | trivial) ?_
  rotate_left
  · intro w hSw
    try dsimp only at hSw
    go_simp
    try with_reducible rfl
  try simp only [Act.put, List.getElem_toArray, List.getElem_cons_succ, List.getElem_cons_zero, List.setIfInBounds_toArray, List.set_cons_zero, List.set_cons_succ]
  refine wpAnyH_take (i := 2) (oi := _) (v := ?_) rfl (by kernel_rfl) (by kernel_rfl) (by kernel_rfl) (fun _ _ _ h => h) (Or.inl ⟨by rfl, ?_⟩) (by first | assumption | trivial) ?_
  rotate_left
  · intro w hSw
    try dsimp only at hSw
    go_simp
    try with_reducible rfl
  try simp only [Act.put, List.getElem_toArray, List.getElem_cons_succ, List.getElem_cons_zero, List.setIfInBounds_toArray, List.set_cons_zero, List.set_cons_succ]
  refine wpAnyH_take (i := 3) (oi := _) (v := ?_) rfl (by kernel_rfl) (by kernel_rfl) (by kernel_rfl) (fun _ _ _ h => h) (Or.inl ⟨by rfl, ?_⟩) (by first | assumption | trivial) ?_
  rotate_left
  · intro w hSw
    try dsimp only at hSw
    go_simp
    try with_reducible rfl
  try simp only [Act.put, List.getElem_toArray, List.getElem_cons_succ, List.getElem_cons_zero, List.setIfInBounds_toArray, List.set_cons_zero, List.set_cons_succ]
  refine wpAnyH_take (i := 4) (oi := _) (v := .int .u32 0) rfl (by kernel_rfl) (by kernel_rfl) (by kernel_rfl) (fun _ _ _ h => h) (Or.inl ⟨by rfl, ?_⟩) (by first | assumption | trivial) ?_
  · intro w hSw
    try dsimp only at hSw
    first
      | (go_simp; done)
      | (go_simp; rfl)
      | (go_simp; kernel_rfl)
  try simp only [Act.put, List.getElem_toArray, List.getElem_cons_succ, List.getElem_cons_zero, List.setIfInBounds_toArray, List.set_cons_zero, List.set_cons_succ]
  refine wpAnyH_take (i := 5) (oi := _) (v := .int .u32 0) rfl (by kernel_rfl) (by kernel_rfl) (by kernel_rfl) (fun _ _ _ h => h) (Or.inl ⟨by rfl, ?_⟩) (by first | assumption | trivial) ?_
  · intro w hSw
    try dsimp only at hSw
    first
      | (go_simp; done)
      | (go_simp; rfl)
      | (go_simp; kernel_rfl)
  try simp only [Act.put, List.getElem_toArray, List.getElem_cons_succ, List.getElem_cons_zero, List.setIfInBounds_toArray, List.set_cons_zero, List.set_cons_succ]
  refine wpAnyH_take (i := 6) (oi := _) (v := ?_) rfl (by kernel_rfl) (by kernel_rfl) (by kernel_rfl) (fun _ _ _ h => h) (Or.inl ⟨by rfl, ?_⟩) (by first | assumption | trivial) ?_
  rotate_left
  · intro w hSw
    try dsimp only at hSw
    go_simp
    try with_reducible rfl
  try simp only [Act.put, List.getElem_toArray, List.getElem_cons_succ, List.getElem_cons_zero, List.setIfInBounds_toArray, List.set_cons_zero, List.set_cons_succ]
  refine wpAnyH_take (i := 7) (oi := _) (v := ?_) rfl (by kernel_rfl) (by kernel_rfl) (by kernel_rfl) (fun _ _ _ h => h) (Or.inl ⟨by rfl, ?_⟩) (by first | assumption | trivial) ?_
  rotate_left
  · intro w hSw
    try dsimp only at hSw
    go_simp
    try with_reducible rfl
  try simp only [Act.put, List.getElem_toArray, List.getElem_cons_succ, List.getElem_cons_zero, List.setIfInBounds_toArray, List.set_cons_zero, List.set_cons_succ]
  refine wpAnyH_take (i := 8) (oi := _) (v := .int .i64 5) rfl (by kernel_rfl) (by kernel_rfl) (by kernel_rfl) (fun _ _ _ h => h) (Or.inl ⟨by rfl, ?_⟩) (by first | assumption | trivial) ?_
  · intro w hSw
    try dsimp only at hSw
    first
      | (go_simp; done)
      | (go_simp; rfl)
      | (go_simp; kernel_rfl)
  try simp only [Act.put, List.getElem_toArray, List.getElem_cons_succ, List.getElem_cons_zero, List.setIfInBounds_toArray, List.set_cons_zero, List.set_cons_succ]
  refine wpAnyH_take (i := 9) (oi := _) (v := ?_) rfl (by kernel_rfl) (by kernel_rfl) (by kernel_rfl) (fun _ _ _ h => h) (Or.inl ⟨by rfl, ?_⟩) (by first | assumption | trivial) ?_
  rotate_left
  · intro w hSw
    try dsimp only at hSw
    go_simp
    try with_reducible rfl
  try simp only [Act.put, List.getElem_toArray, List.getElem_cons_succ, List.getElem_cons_zero, List.setIfInBounds_toArray, List.set_cons_zero, List.set_cons_succ]
  refine wpAnyH_take (i := 10) (oi := _) (v := ?_) rfl (by kernel_rfl) (by kernel_rfl) (by kernel_rfl) (fun _ _ _ h => h) (Or.inl ⟨by rfl, ?_⟩) (by first | assumption | trivial) ?_
  rotate_left
  · intro w hSw
    try dsimp only at hSw
    go_simp
    try with_reducible rfl
  try simp only [Act.put, List.getElem_toArray, List.getElem_cons_succ, List.getElem_cons_zero, List.setIfInBounds_toArray, List.set_cons_zero, List.set_cons_succ]
  refine wpAnyH_take (i := 11) (oi := _) (v := .int .u32 0) rfl (by kernel_rfl) (by kernel_rfl) (by kernel_rfl) (fun _ _ _ h => h) (Or.inl ⟨by rfl, ?_⟩) (by first | assumption | trivial) ?_
  · intro w hSw
    try dsimp only at hSw
    first
      | (go_simp; done)
      | (go_simp; rfl)
      | (go_simp; kernel_rfl)
  try simp only [Act.put, List.getElem_toArray, List.getElem_cons_succ, List.getElem_cons_zero, List.setIfInBounds_toArray, List.set_cons_zero, List.set_cons_succ]
  refine wpAnyH_take (i := 12) (oi := _) (v := .int .u32 0) rfl (by kernel_rfl) (by kernel_rfl) (by kernel_rfl) (fun _ _ _ h => h) (Or.inl ⟨by rfl, ?_⟩) (by first | assumption | trivial) ?_
  · intro w hSw
    try dsimp only at hSw
    first
      | (go_simp; done)
      | (go_simp; rfl)
      | (go_simp; kernel_rfl)
  try simp only [Act.put, List.getElem_toArray, List.getElem_cons_succ, List.getElem_cons_zero, List.setIfInBounds_toArray, List.set_cons_zero, List.set_cons_succ]
  refine wpAnyH_take (i := 13) (oi := _) (v := .int .u32 0) rfl (by kernel_rfl) (by kernel_rfl) (by kernel_rfl) (fun _ _ _ h => h) (Or.inl ⟨by rfl, ?_⟩) (by first | assumption | trivial) ?_
  · intro w hSw
    try dsimp only at hSw
    first
      | (go_simp; done)
      | (go_simp; rfl)
      | (go_simp; kernel_rfl)
  try simp only [Act.put, List.getElem_toArray, List.getElem_cons_succ, List.getElem_cons_zero, List.setIfInBounds_toArray, List.set_cons_zero, List.set_cons_succ]
  refine wpAnyH_take (i := 14) (oi := _) (v := ?_) rfl (by kernel_rfl) (by kernel_rfl) (by kernel_rfl) (fun _ _ _ h => h) (Or.inl ⟨by rfl, ?_⟩) (by first | assumption | trivial) ?_
  rotate_left
  · intro w hSw
    try dsimp only at hSw
    go_simp
    try with_reducible rfl
  try simp only [Act.put, List.getElem_toArray, List.getElem_cons_succ, List.getElem_cons_zero, List.setIfInBounds_toArray, List.set_cons_zero, List.set_cons_succ]
  refine wpAnyH_take (i := 15) (oi := _) (v := ?_) rfl (by kernel_rfl) (by kernel_rfl) (by kernel_rfl) (fun _ _ _ h => h) (Or.inl ⟨by rfl, ?_⟩) (by first | assumption | trivial) ?_
  rotate_left
  · intro w hSw
    try dsimp only at hSw
    go_simp
    try with_reducible rfl
  try simp only [Act.put, List.getElem_toArray, List.getElem_cons_succ, List.getElem_cons_zero, List.setIfInBounds_toArray, List.set_cons_zero, List.set_cons_succ]
  refine wpAnyH_take (i := 16) (oi := _) (v := .int .i64 6) rfl (by kernel_rfl) (by kernel_rfl) (by kernel_rfl) (fun _ _ _ h => h) (Or.inl ⟨by rfl, ?_⟩) (by first | assumption | trivial) ?_
  · intro w hSw
    try dsimp only at hSw
    first
      | (go_simp; done)
      | (go_simp; rfl)
      | (go_simp; kernel_rfl)
  try simp only [Act.put, List.getElem_toArray, List.getElem_cons_succ, List.getElem_cons_zero, List.setIfInBounds_toArray, List.set_cons_zero, List.set_cons_succ]
  refine wpAnyH_take (i := 17) (oi := _) (v := ?_) rfl (by kernel_rfl) (by kernel_rfl) (by kernel_rfl) (fun _ _ _ h => h) (Or.inl ⟨by rfl, ?_⟩) (by first | assumption | trivial) ?_
  rotate_left
  · intro w hSw
    try dsimp only at hSw
    go_simp
    try with_reducible rfl
  try simp only [Act.put, List.getElem_toArray, List.getElem_cons_succ, List.getElem_cons_zero, List.setIfInBounds_toArray, List.set_cons_zero, List.set_cons_succ]
  refine wpAnyH_take (i := 18) (oi := _) (v := ?_) rfl (by kernel_rfl) (by kernel_rfl) (by kernel_rfl) (fun _ _ _ h => h) (Or.inl ⟨by rfl, ?_⟩) (by first | assumption | trivial) ?_
  rotate_left
  · intro w hSw
    try dsimp only at hSw
    go_simp
    try with_reducible rfl
  try simp only [Act.put, List.getElem_toArray, List.getElem_cons_succ, List.getElem_cons_zero, List.setIfInBounds_toArray, List.set_cons_zero, List.set_cons_succ]
  refine wpAnyH_take (i := 19) (oi := _) (v := .int .u32 21) rfl (by kernel_rfl) (by kernel_rfl) (by kernel_rfl) (fun _ _ _ h => h) (Or.inl ⟨by rfl, ?_⟩) (by first | assumption | trivial) ?_
  · intro w hSw
    try dsimp only at hSw
    first
      | (go_simp; done)
      | (go_simp; rfl)
      | (go_simp; kernel_rfl)
  try simp only [Act.put, List.getElem_toArray, List.getElem_cons_succ, List.getElem_cons_zero, List.setIfInBounds_toArray, List.set_cons_zero, List.set_cons_succ]
  refine wpAnyH_take (i := 20) (oi := _) (v := .int .u32 5376) rfl (by kernel_rfl) (by kernel_rfl) (by kernel_rfl) (fun _ _ _ h => h) (Or.inl ⟨by rfl, ?_⟩) (by first | assumption | trivial) ?_
  · intro w hSw
    try dsimp only at hSw
    first
      | (go_simp; done)
      | (go_simp; rfl)
      | (go_simp; kernel_rfl)
  try simp only [Act.put, List.getElem_toArray, List.getElem_cons_succ, List.getElem_cons_zero, List.setIfInBounds_toArray, List.set_cons_zero, List.set_cons_succ]
  refine wpAnyH_take (i := 21) (oi := _) (v := .int .u32 5376) rfl (by kernel_rfl) (by kernel_rfl) (by kernel_rfl) (fun _ _ _ h => h) (Or.inl ⟨by rfl, ?_⟩) (by first | assumption | trivial) ?_
  · intro w hSw
    try dsimp only at hSw
    first
      | (go_simp; done)
      | (go_simp; rfl)
      | (go_simp; kernel_rfl)
  try simp only [Act.put, List.getElem_toArray, List.getElem_cons_succ, List.getElem_cons_zero, List.setIfInBounds_toArray, List.set_cons_zero, List.set_cons_succ]
  refine wpAnyH_take (i := 22) (oi := _) (v := ?_) rfl (by kernel_rfl) (by kernel_rfl) (by kernel_rfl) (fun _ _ _ h => h) (Or.inl ⟨by rfl, ?_⟩) (by first | assumption | trivial) ?_
  rotate_left
  · intro w hSw
    try dsimp only at hSw
    go_simp
    try with_reducible rfl
  try simp only [Act.put, List.getElem_toArray, List.getElem_cons_succ, List.getElem_cons_zero, List.setIfInBounds_toArray, List.set_cons_zero, List.set_cons_succ]
  refine wpAnyH_take (i := 23) (oi := _) (v := ?_) rfl (by kernel_rfl) (by kernel_rfl) (by kernel_rfl) (fun _ _ _ h => h) (Or.inl ⟨by rfl, ?_⟩) (by first | assumption | trivial) ?_
  rotate_left
  · intro w hSw
    try dsimp only at hSw
    go_simp
    try with_reducible rfl
  try simp only [Act.put, List.getElem_toArray, List.getElem_cons_succ, List.getElem_cons_zero, List.setIfInBounds_toArray, List.set_cons_zero, List.set_cons_succ]
  refine wpAnyH_take (i := 24) (oi := _) (v := .int .i64 7) rfl (by kernel_rfl) (by kernel_rfl) (by kernel_rfl) (fun _ _ _ h => h) (Or.inl ⟨by rfl, ?_⟩) (by first | assumption | trivial) ?_
  · intro w hSw
    try dsimp only at hSw
    first
      | (go_simp; done)
      | (go_simp; rfl)
      | (go_simp; kernel_rfl)
  try simp only [Act.put, List.getElem_toArray, List.getElem_cons_succ, List.getElem_cons_zero, List.setIfInBounds_toArray, List.set_cons_zero, List.set_cons_succ]
  refine wpAnyH_take (i := 25) (oi := _) (v := ?_) rfl (by kernel_rfl) (by kernel_rfl) (by kernel_rfl) (fun _ _ _ h => h) (Or.inl ⟨by rfl, ?_⟩) (by first | assumption | trivial) ?_
  rotate_left
  · intro w hSw
    try dsimp only at hSw
    go_simp
    try with_reducible rfl
  try simp only [Act.put, List.getElem_toArray, List.getElem_cons_succ, List.getElem_cons_zero, List.setIfInBounds_toArray, List.set_cons_zero, List.set_cons_succ]
  refine wpAnyH_take (i := 26) (oi := _) (v := ?_) rfl (by kernel_rfl) (by kernel_rfl) (by kernel_rfl) (fun _ _ _ h => h) (Or.inl ⟨by rfl, ?_⟩) (by first | assumption | trivial) ?_
  rotate_left
  · intro w hSw
    try dsimp only at hSw
    go_simp
    try with_reducible rfl
  try simp only [Act.put, List.getElem_toArray, List.getElem_cons_succ, List.getElem_cons_zero, List.setIfInBounds_toArray, List.set_cons_zero, List.set_cons_succ]
  refine wpAnyH_take (i := 27) (oi := _) (v := .int .u32 5) rfl (by kernel_rfl) (by kernel_rfl) (by kernel_rfl) (fun _ _ _ h => h) (Or.inl ⟨by rfl, ?_⟩) (by first | assumption | trivial) ?_
  · intro w hSw
    try dsimp only at hSw
    first
      | (go_simp; done)
      | (go_simp; rfl)
      | (go_simp; kernel_rfl)
  try simp only [Act.put, List.getElem_toArray, List.getElem_cons_succ, List.getElem_cons_zero, List.setIfInBounds_toArray, List.set_cons_zero, List.set_cons_succ]
  refine wpAnyH_take (i := 28) (oi := _) (v := .int .u32 5381) rfl (by kernel_rfl) (by kernel_rfl) (by kernel_rfl) (fun _ _ _ h => h) (Or.inl ⟨by rfl, ?_⟩) (by first | assumption | trivial) ?_
  · intro w hSw
    try dsimp only at hSw
    first
      | (go_simp; done)
      | (go_simp; rfl)
      | (go_simp; kernel_rfl)
  try simp only [Act.put, List.getElem_toArray, List.getElem_cons_succ, List.getElem_cons_zero, List.setIfInBounds_toArray, List.set_cons_zero, List.set_cons_succ]
  refine wpAnyH_take (i := 29) (oi := _) (v := ?_) rfl (by kernel_rfl) (by kernel_rfl) (by kernel_rfl) (fun _ _ _ h => h) (Or.inl ⟨by rfl, ?_⟩) (by first | assumption | trivial) ?_
  rotate_left
  · intro w hSw
    try dsimp only at hSw
    go_simp
    try with_reducible rfl
  try simp only [Act.put, List.getElem_toArray, List.getElem_cons_succ, List.getElem_cons_zero, List.setIfInBounds_toArray, List.set_cons_zero, List.set_cons_succ]
  refine wpAnyH_done (by kernel_rfl) ?_ _
  clear hHeld HW1
  have HSU := Lib.hid (sum_any [] (.slice (some ⟨E, 4, none⟩) 0 4) w1 (RowV.nil _ 1 _ _) (by decide))
  rw [sum_nil] at HSU
  go_wp2_with fail
  refine HSU.out.mono ?_
  rintro e w' ⟨rfl, rfl⟩
  go_upto_region 12 with fail
  refine wp_region_lit ?_
  refine wpList_plain rfl (fun K hK => ?_)
  go_simp
  refine hK _ _ ?_
  clear hK K
  try simp only [Act.put, List.getElem_toArray, List.getElem_cons_succ, List.getElem_cons_zero, List.setIfInBounds_toArray, List.set_cons_zero, List.set_cons_succ]
  refine wpList_plain rfl (fun K hK => ?_)
  go_simp
  refine (state_bad _ _ _).mono ?_
  rintro e w2 ⟨rfl, f2⟩
  refine hK _ _ ?_
  clear hK K
  have HR2 := Lib.hid (HR1.out.keep f2 (by simp))
  have HF2 := Lib.hid (HF1.out.step f2)
  clear f2
  try simp only [Act.put, List.getElem_toArray, List.getElem_cons_succ, List.getElem_cons_zero, List.setIfInBounds_toArray, List.set_cons_zero, List.set_cons_succ]
  refine wpList_plain rfl (fun K hK => ?_)
  go_simp
  refine hK _ _ ?_
  clear hK K
  refine wpList_plain rfl (fun K hK => ?_)
  go_simp
  refine hK _ _ ?_
  clear hK K
  refine wpList_plain rfl (fun K hK => ?_)
  go_simp
  refine hK _ _ ?_
  clear hK K
  refine wpList_plain rfl (fun K hK => ?_)
  go_simp
  refine hK _ _ ?_
  clear hK K
  try simp only [Act.put, List.getElem_toArray, List.getElem_cons_succ, List.getElem_cons_zero, List.setIfInBounds_toArray, List.set_cons_zero, List.set_cons_succ]
  obtain ⟨C, hC⟩ : ∃ z, w2.heap.size = z := ⟨_, rfl⟩
  obtain ⟨wx, hwx⟩ : ∃ z, w2.alloc (.cells mach0.toArray 36) = z := ⟨_, rfl⟩
  have hbx : Blk wx C 36 mach0 := by rw [← hwx, ← hC]; exact Blk.made w2 _ _
  have fx : Fr [] w2 wx := by rw [← hwx]; exact (Fr.refl [] w2).alloc _
  rw [show w2.alloc (.cells #[.int .u64 0, .slice none 0 0, .slice none 0 0, .slice none 0 0, .slice none 0 0, .slice none 0 0, .slice none 0 0, .slice none 0 0] 36) = wx from hwx]
  simp only [hC]
  have HXX := Lib.hid hbx
  have HFX := Lib.hid fx
  have HCC := Lib.hid hC
  have HRX := Lib.hid (show ∀ W, Fr [C] wx W → Blk W R 36 mach0 from fun W f => (HR2.out.keep fx (by simp)).keep f (by
    have := HR2.out.lt
    simp only [List.mem_singleton]
    omega))
  clear hwx hbx fx hC
  obtain ⟨w3, hst, hb_, hf_⟩ := store_all (t := 36) mach0 sizeMa rfl mach0_one HXX.out rfl
  refine wpList_skp rfl (w' := w3) ?_ ?_
  · show Sem.run Tryz.prog ((Instr.storeAt 36 (.pointer (some ⟨C, 0, none⟩)) (.agg mach0.toArray)) >>= fun _ => pure Next.skip) _ = _
    rw [Sem.run_bind, hst]
    rfl
  clear hst
  try simp only [Act.put, List.getElem_toArray, List.getElem_cons_succ, List.getElem_cons_zero, List.setIfInBounds_toArray, List.set_cons_zero, List.set_cons_succ]
  have HR3 := Lib.hid (HRX.out _ hf_)
  have HF3 := Lib.hid (HF2.out.step (HFX.out.own1 (S := []) (B := 0) hf_ (by have := HCC.out; omega)))
  clear hb_ hf_ HXX HFX HRX HCC
  refine wpList_plain rfl (fun K hK => ?_)
  go_simp
  refine hK _ _ ?_
  clear hK K
  refine wpList_nil ?_
  try simp only [Act.put, List.getElem_toArray, List.getElem_cons_succ, List.getElem_cons_zero, List.setIfInBounds_toArray, List.set_cons_zero, List.set_cons_succ]
  go_upto_region 14 with fail
  refine wp_region_lit ?_
  refine wpList_val rfl (v := .agg mach0.toArray) (w' := w3) (exec_bld0 rfl (bldM0 w3)) ?_
  try simp only [Act.put, List.getElem_toArray, List.getElem_cons_succ, List.getElem_cons_zero, List.setIfInBounds_toArray, List.set_cons_zero, List.set_cons_succ]
  obtain ⟨wz, hst, hb_, hf_⟩ := store_all (t := 36) mach0 sizeMa rfl mach0_one HR3.out rfl
  refine wpList_skp rfl (w' := wz) ?_ ?_
  · show Sem.run Tryz.prog ((Instr.storeAt 36 (.pointer (some ⟨R, 0, none⟩)) (.agg mach0.toArray)) >>= fun _ => pure Next.skip) _ = _
    rw [Sem.run_bind, hst]
    rfl
  clear hst
  try simp only [Act.put, List.getElem_toArray, List.getElem_cons_succ, List.getElem_cons_zero, List.setIfInBounds_toArray, List.set_cons_zero, List.set_cons_succ]
  refine wpList_plain rfl (fun K hK => ?_)
  go_simp
  refine hK _ _ ?_
  clear hK K
  refine wpList_nil ?_
  try simp only [Act.put, List.getElem_toArray, List.getElem_cons_succ, List.getElem_cons_zero, List.setIfInBounds_toArray, List.set_cons_zero, List.set_cons_succ]
  have HRZ := Lib.hid (show Blk wz R 36 mach0 from hb_)
  have HFZ := Lib.hid (HF3.out.own1 (S := []) (B := 0) hf_ (by have := HRS.out; omega))
  clear hb_ hf_
  go_wp2
  have hl := load_var aggMa sizeMa (xs := mach0) rfl HRZ.out.at
  first
    | refine bodyPost_ret (v := .tuple #[.agg mach0.toArray, .int .i64 6]) (by simp [results, Tryz.results15, as_addr, hl]) rfl ?_
    | (rw [Exit.noGoto_ret]; refine bodyPost_ret (v := .tuple #[.agg mach0.toArray, .int .i64 6]) (by simp [results, Tryz.results15, as_addr, hl]) rfl ?_)
  exact ⟨rfl, HFZ.out⟩
end Go.Proofs.YtemihaijhcpnfaaGreatDoor
