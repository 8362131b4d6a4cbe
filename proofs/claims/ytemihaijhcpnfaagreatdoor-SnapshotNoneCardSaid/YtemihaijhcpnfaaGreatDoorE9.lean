/- ValidMachine of a machine of one task that does nothing. -/
import Derived.Test.YtemihaijhcpnfaaGreatDoorE8
namespace Go.Proofs.YtemihaijhcpnfaaGreatDoor
open Go.RowKit
open Go.Maps (Keyed)
set_option linter.unusedVariables false
set_option linter.unusedSimpArgs false
set_option maxRecDepth 100000
set_option maxHeartbeats 8000000

section
variable {P : Program} {ops : Array Oper} {rest : List Oper} {o : Oper} {a : Act} {w : World} {Q : Exit → Act → World → Prop}
theorem wpList_want (hw : Region.wanted o (yielded ops a.tmps) = true) (h : ∀ K : Act → World → Prop, (∀ a w, wpList P ops Q rest a w → K a w) → o.wp P a w K Q) : wpList P ops Q (o :: rest) a w := by
  unfold wpList
  rw [if_pos hw]
  exact .inl (h _ (fun _ _ h => h))
end
theorem eqFunc0 (f : Value) (w : World) : Calls Tryz.prog 328 #[.slice none 0 0, .slice none 0 0, f] w fun e w' => e = .returned (.bool true) ∧ w = w' := by
  go_enter Tryz.func328, Tryz.ntmps328
  go_wp2
  refine wp_loop_rounds 1 ?_
  rw [rounds_succ]
  go_wp2
  go_ret
  exact ⟨rfl, rfl⟩
theorem eqFd : ∀ W : World, (binOp .eql 71 (.agg #[.int .i64 0, .int .i64 0]) (.agg #[.int .i64 0, .int .i64 0])).run Tryz.prog W = .ok (.bool true) W := fun W => by kernel_rfl
theorem eqAd : ∀ W : World, (binOp .eql 73 (.agg #[.string ⟨#[]⟩, .int .i64 0]) (.agg #[.string ⟨#[]⟩, .int .i64 0])).run Tryz.prog W = .ok (.bool true) W := fun W => by kernel_rfl
theorem eqSp : ∀ W : World, (binOp .eql 87 (.agg #[.int .i64 (-1), .int .i64 0]) (.agg #[.int .i64 (-1), .int .i64 0])).run Tryz.prog W = .ok (.bool true) W := fun W => by kernel_rfl
theorem same_z (w : World) : Calls Tryz.prog 270 #[.agg callZ.toArray, .agg callZ.toArray] w fun e w' => e = .returned (.bool true) ∧ Fr [] w w' := by
  obtain ⟨B, hB⟩ : ∃ B, w.heap.size = B := ⟨_, rfl⟩
  obtain ⟨wA, hwA⟩ : ∃ z, (w.alloc (.cells callZ.toArray 84)).alloc (.cells callZ.toArray 84) = z := ⟨_, rfl⟩
  have hb1 : Blk wA B 84 callZ := by
    rw [← hwA, ← hB]
    exact (Blk.made w _ callZ).keep ((Fr.refl [] _).alloc _) (by simp)
  have hr1 : Blk wA (B + 1) 84 callZ := by
    have h := Blk.made (w.alloc (.cells callZ.toArray 84)) 84 callZ
    rw [show (w.alloc (.cells callZ.toArray 84)).heap.size = B + 1 from by rw [← hB]; simp] at h
    rw [← hwA]
    exact h
  have hf : Fr [] w wA := by rw [← hwA]; exact ((Fr.refl [] w).alloc _).alloc _
  have HF := Lib.hid hf
  have HBS := Lib.hid hB
  have HWA := Lib.hid hwA
  have c0 : wA.cell? ⟨B, 0, none⟩ = some (.int .i64 0) := hb1.at 0 _ rfl
  have c1 : wA.cell? ⟨B, 1, none⟩ = some (.int .i64 0) := hb1.at 1 _ rfl
  have c2 : wA.cell? ⟨B, 2, none⟩ = some (.int .i64 0) := hb1.at 2 _ rfl
  have c3 : wA.cell? ⟨B, 3, none⟩ = some (.int .i64 0) := hb1.at 3 _ rfl
  have c4 : wA.cell? ⟨B, 4, none⟩ = some (.int .i64 0) := hb1.at 4 _ rfl
  have c5 : wA.cell? ⟨B, 5, none⟩ = some (.string ⟨#[]⟩) := hb1.at 5 _ rfl
  have c6 : wA.cell? ⟨B, 6, none⟩ = some (.int .i64 0) := hb1.at 6 _ rfl
  have c7 : wA.cell? ⟨B, 7, none⟩ = some (.slice none 0 0) := hb1.at 7 _ rfl
  have c8 : wA.cell? ⟨B, 8, none⟩ = some (.int .i64 0) := hb1.at 8 _ rfl
  have c9 : wA.cell? ⟨B, 9, none⟩ = some (.int .i64 0) := hb1.at 9 _ rfl
  have c10 : wA.cell? ⟨B, 10, none⟩ = some (.int .i64 0) := hb1.at 10 _ rfl
  have c11 : wA.cell? ⟨B, 11, none⟩ = some (.int .u64 0) := hb1.at 11 _ rfl
  have d0 : wA.cell? ⟨B + 1, 0, none⟩ = some (.int .i64 0) := hr1.at 0 _ rfl
  have d1 : wA.cell? ⟨B + 1, 1, none⟩ = some (.int .i64 0) := hr1.at 1 _ rfl
  have d2 : wA.cell? ⟨B + 1, 2, none⟩ = some (.int .i64 0) := hr1.at 2 _ rfl
  have d3 : wA.cell? ⟨B + 1, 3, none⟩ = some (.int .i64 0) := hr1.at 3 _ rfl
  have d4 : wA.cell? ⟨B + 1, 4, none⟩ = some (.int .i64 0) := hr1.at 4 _ rfl
  have d5 : wA.cell? ⟨B + 1, 5, none⟩ = some (.string ⟨#[]⟩) := hr1.at 5 _ rfl
  have d6 : wA.cell? ⟨B + 1, 6, none⟩ = some (.int .i64 0) := hr1.at 6 _ rfl
  have d7 : wA.cell? ⟨B + 1, 7, none⟩ = some (.slice none 0 0) := hr1.at 7 _ rfl
  have d8 : wA.cell? ⟨B + 1, 8, none⟩ = some (.int .i64 0) := hr1.at 8 _ rfl
  have d9 : wA.cell? ⟨B + 1, 9, none⟩ = some (.int .i64 0) := hr1.at 9 _ rfl
  have d10 : wA.cell? ⟨B + 1, 10, none⟩ = some (.int .i64 0) := hr1.at 10 _ rfl
  have d11 : wA.cell? ⟨B + 1, 11, none⟩ = some (.int .u64 0) := hr1.at 11 _ rfl
  have q1 := eqFd
  have q2 := eqAd
  clear hb1 hr1 hf hB hwA
  go_enter Tryz.func270, Tryz.ntmps270
  go_upto_region 1 with fail
  rw [HWA.out]
  simp only [HBS.out]
  go_wp2_with fail
  refine (eqFunc0 _ _).mono ?_
  rintro e w' ⟨rfl, rfl⟩
  go_wp2
  go_ret
  exact ⟨rfl, HF.out⟩
theorem fine_z (w : World) (hE : EnvE w) : Calls Tryz.prog 177 #[.agg cellZ.toArray] w fun e w' => e = .returned (.bool true) ∧ Fr [] w w' := by
  obtain ⟨B, hB⟩ : ∃ B, w.heap.size = B := ⟨_, rfl⟩
  obtain ⟨wA, hwA⟩ : ∃ z, w.alloc (.cells cellZ.toArray 90) = z := ⟨_, rfl⟩
  have hb1 : Blk wA B 90 cellZ := by rw [← hwA, ← hB]; exact Blk.made w _ _
  have hf : Fr [] w wA := by rw [← hwA]; exact (Fr.refl [] w).alloc _
  have HF := Lib.hid hf
  have HB := Lib.hid hb1
  have HG := Lib.hid (hE.new hf)
  have HBS := Lib.hid hB
  have HWA := Lib.hid hwA
  have q3 := eqSp
  have c0 : wA.cell? ⟨B, 0, none⟩ = some (.int .i64 0) := hb1.at 0 _ rfl
  have c1 : wA.cell? ⟨B, 1, none⟩ = some (.int .i64 0) := hb1.at 1 _ rfl
  have c2 : wA.cell? ⟨B, 2, none⟩ = some (.int .i64 0) := hb1.at 2 _ rfl
  have c3 : wA.cell? ⟨B, 3, none⟩ = some (.int .i64 0) := hb1.at 3 _ rfl
  have c4 : wA.cell? ⟨B, 4, none⟩ = some (.int .i64 0) := hb1.at 4 _ rfl
  have c5 : wA.cell? ⟨B, 5, none⟩ = some (.int .i64 0) := hb1.at 5 _ rfl
  have c6 : wA.cell? ⟨B, 6, none⟩ = some (.string ⟨#[]⟩) := hb1.at 6 _ rfl
  have c7 : wA.cell? ⟨B, 7, none⟩ = some (.int .i64 0) := hb1.at 7 _ rfl
  have c8 : wA.cell? ⟨B, 8, none⟩ = some (.slice none 0 0) := hb1.at 8 _ rfl
  have c9 : wA.cell? ⟨B, 9, none⟩ = some (.int .i64 0) := hb1.at 9 _ rfl
  have c10 : wA.cell? ⟨B, 10, none⟩ = some (.int .i64 0) := hb1.at 10 _ rfl
  have c11 : wA.cell? ⟨B, 11, none⟩ = some (.int .i64 0) := hb1.at 11 _ rfl
  have c12 : wA.cell? ⟨B, 12, none⟩ = some (.int .u64 0) := hb1.at 12 _ rfl
  have c13 : wA.cell? ⟨B, 13, none⟩ = some (.bool false) := hb1.at 13 _ rfl
  have c14 : wA.cell? ⟨B, 14, none⟩ = some (.int .i64 0) := hb1.at 14 _ rfl
  have c15 : wA.cell? ⟨B, 15, none⟩ = some (.slice none 0 0) := hb1.at 15 _ rfl
  have c16 : wA.cell? ⟨B, 16, none⟩ = some (.int .i64 0) := hb1.at 16 _ rfl
  have c17 : wA.cell? ⟨B, 17, none⟩ = some (.int .i64 (-1)) := hb1.at 17 _ rfl
  have c18 : wA.cell? ⟨B, 18, none⟩ = some (.int .i64 0) := hb1.at 18 _ rfl
  have c19 : wA.cell? ⟨B, 19, none⟩ = some (.int .i64 0) := hb1.at 19 _ rfl
  clear hb1 hf hB hwA hE
  go_enter Tryz.func177, Tryz.ntmps177
  go_upto_region 1 with fail
  rw [HWA.out]
  simp only [HBS.out]
  go_wp2_with fail
  refine (same_z _).mono ?_
  rintro e w1 ⟨rfl, f1⟩
  have HF1 := Lib.hid (HF.out.step f1)
  have hb2 := HB.out.keep f1 (by simp)
  have g0 : w1.cell? ⟨0, 0, none⟩ = some (.int .i64 (-1)) := (HG.out.new f1) 0 _ rfl
  have g1 : w1.cell? ⟨0, 1, none⟩ = some (.int .i64 0) := (HG.out.new f1) 1 _ rfl
  clear c0 c1 c2 c3 c4 c5 c6 c7 c8 c9 c10 c11 c12 c13 c14 c15 c16 c17 c18 c19 f1
  have d12 : w1.cell? ⟨B, 12, none⟩ = some (.int .u64 0) := hb2.at 12 _ rfl
  have d13 : w1.cell? ⟨B, 13, none⟩ = some (.bool false) := hb2.at 13 _ rfl
  have d14 : w1.cell? ⟨B, 14, none⟩ = some (.int .i64 0) := hb2.at 14 _ rfl
  have d15 : w1.cell? ⟨B, 15, none⟩ = some (.slice none 0 0) := hb2.at 15 _ rfl
  have d16 : w1.cell? ⟨B, 16, none⟩ = some (.int .i64 0) := hb2.at 16 _ rfl
  have d17 : w1.cell? ⟨B, 17, none⟩ = some (.int .i64 (-1)) := hb2.at 17 _ rfl
  have d18 : w1.cell? ⟨B, 18, none⟩ = some (.int .i64 0) := hb2.at 18 _ rfl
  have d19 : w1.cell? ⟨B, 19, none⟩ = some (.int .i64 0) := hb2.at 19 _ rfl
  clear hb2
  go_wp2
  go_ret
  exact ⟨rfl, HF1.out⟩
theorem cut_z (g c : Nat) (w : World) : Calls Tryz.prog 178 #[.agg (machZ g c).toArray, .agg cellZ.toArray] w fun e w' => e = .returned (.bool false) ∧ Fr [] w w' := by
  obtain ⟨B, hB⟩ : ∃ B, w.heap.size = B := ⟨_, rfl⟩
  obtain ⟨wA, hwA⟩ : ∃ z, (w.alloc (.cells (machZ g c).toArray 36)).alloc (.cells cellZ.toArray 90) = z := ⟨_, rfl⟩
  have hr1 : Blk wA (B + 1) 90 cellZ := by
    have h := Blk.made (w.alloc (.cells (machZ g c).toArray 36)) 90 cellZ
    rw [show (w.alloc (.cells (machZ g c).toArray 36)).heap.size = B + 1 from by rw [← hB]; simp] at h
    rw [← hwA]
    exact h
  have hf : Fr [] w wA := by rw [← hwA]; exact ((Fr.refl [] w).alloc _).alloc _
  have HF := Lib.hid hf
  have HBS := Lib.hid hB
  have HWA := Lib.hid hwA
  have c1 : wA.cell? ⟨B + 1, 1, none⟩ = some (.int .i64 0) := hr1.at 1 _ rfl
  have c2 : wA.cell? ⟨B + 1, 2, none⟩ = some (.int .i64 0) := hr1.at 2 _ rfl
  have c3 : wA.cell? ⟨B + 1, 3, none⟩ = some (.int .i64 0) := hr1.at 3 _ rfl
  have c14 : wA.cell? ⟨B + 1, 14, none⟩ = some (.int .i64 0) := hr1.at 14 _ rfl
  clear hr1 hf hB hwA
  go_enter Tryz.func178, Tryz.ntmps178
  go_upto_region 1 with fail
  rw [HWA.out]
  simp only [HBS.out]
  go_upto_region 2 with fail
  have f2 : Fr [] wA (wA.alloc (.cells #[.int .i64 0, .int .i64 0] 71)) := (Fr.refl [] wA).alloc _
  have d1 := f2.keep c1 (by simp)
  have d14 := f2.keep c14 (by simp)
  have HF2 := Lib.hid (HF.out.step f2)
  obtain ⟨w2, hw2⟩ : ∃ z, wA.alloc (.cells #[.int .i64 0, .int .i64 0] 71) = z := ⟨_, rfl⟩
  rw [hw2] at d1 d14 HF2 ⊢
  clear hw2 f2 c1 c2 c3 c14
  go_wp2
  go_ret
  exact ⟨rfl, HF2.out⟩
theorem tasks1_z (g c M : Nat) (w : World) (hE : EnvE w) (hM : Blk w M 36 (machZ g c)) : Calls Tryz.prog 176 #[.agg cellZ.toArray, .pointer (some ⟨M, 0, none⟩)] w fun e w' => e = .returned (.bool false) ∧ Fr [] w w' := by
  obtain ⟨B, hB⟩ : ∃ B, w.heap.size = B := ⟨_, rfl⟩
  obtain ⟨wA, hwA⟩ : ∃ z, w.alloc (.cells cellZ.toArray 90) = z := ⟨_, rfl⟩
  have hb1 : Blk wA B 90 cellZ := by rw [← hwA, ← hB]; exact Blk.made w _ _
  have hf : Fr [] w wA := by rw [← hwA]; exact (Fr.refl [] w).alloc _
  have HF := Lib.hid hf
  have HB := Lib.hid hb1
  have HM := Lib.hid (hM.keep hf (by simp))
  have HG := Lib.hid (hE.new hf)
  have HBS := Lib.hid hB
  have HWA := Lib.hid hwA
  clear hb1 hf hB hwA hE hM
  go_enter Tryz.func176, Tryz.ntmps176
  go_upto_region 1 with fail
  rw [HWA.out]
  simp only [HBS.out]
  refine wp_region_lit ?_
  refine wpList_val rfl (v := .agg (cellZ).toArray) (w' := wA) ?_ ?_
  · show Sem.run Tryz.prog ((Instr.loadAt 90 (.pointer (some ⟨B, 0, none⟩))) >>= fun x => pure (Next.value x)) wA = _
    rw [Sem.run_bind, load_all aggCe sizeCe (xs := cellZ) rfl HB.out.at]
    rfl
  try simp only [Act.put, List.getElem_toArray, List.getElem_cons_succ, List.getElem_cons_zero, List.setIfInBounds_toArray, List.set_cons_zero, List.set_cons_succ]
  refine wpList_plain rfl (fun K hK => ?_)
  go_simp
  refine (fine_z _ HG.out).mono ?_
  rintro e w1 ⟨rfl, f1⟩
  refine hK _ _ ?_
  clear hK K
  try simp only [Act.put, List.getElem_toArray, List.getElem_cons_succ, List.getElem_cons_zero, List.setIfInBounds_toArray, List.set_cons_zero, List.set_cons_succ]
  have HF1 := Lib.hid (HF.out.step f1)
  have HB1 := Lib.hid (HB.out.keep f1 (by simp))
  have HM1 := Lib.hid (HM.out.keep f1 (by simp))
  clear f1
  refine wpList_plain rfl (fun K hK => ?_)
  go_simp
  refine hK _ _ ?_
  clear hK K
  refine wpList_plain rfl (fun K hK => ?_)
  go_simp
  refine hK _ _ ?_
  clear hK K
  try simp only [Act.put, List.getElem_toArray, List.getElem_cons_succ, List.getElem_cons_zero, List.setIfInBounds_toArray, List.set_cons_zero, List.set_cons_succ]
  refine wpList_want (by rfl) (fun K hK => ?_)
  refine wp_vl (v := .agg (machZ g c).toArray) (w' := w1) ?_ ?_
  · show Sem.run Tryz.prog ((Instr.loadAt 36 (.pointer (some ⟨M, 0, none⟩))) >>= fun x => pure (Next.value x)) w1 = _
    rw [Sem.run_bind, load_all aggMa sizeMa (xs := machZ g c) rfl HM1.out.at]
    rfl
  refine hK _ _ ?_
  clear hK K
  try simp only [Act.put, List.getElem_toArray, List.getElem_cons_succ, List.getElem_cons_zero, List.setIfInBounds_toArray, List.set_cons_zero, List.set_cons_succ]
  refine wpList_want (by rfl) (fun K hK => ?_)
  refine wp_vl (v := .agg (cellZ).toArray) (w' := w1) ?_ ?_
  · show Sem.run Tryz.prog ((Instr.loadAt 90 (.pointer (some ⟨B, 0, none⟩))) >>= fun x => pure (Next.value x)) w1 = _
    rw [Sem.run_bind, load_all aggCe sizeCe (xs := cellZ) rfl HB1.out.at]
    rfl
  refine hK _ _ ?_
  clear hK K
  try simp only [Act.put, List.getElem_toArray, List.getElem_cons_succ, List.getElem_cons_zero, List.setIfInBounds_toArray, List.set_cons_zero, List.set_cons_succ]
  refine wpList_want (by rfl) (fun K hK => ?_)
  go_simp
  refine (cut_z g c _).mono ?_
  rintro e w2 ⟨rfl, f2⟩
  refine hK _ _ ?_
  clear hK K
  have HF2 := Lib.hid (HF1.out.step f2)
  clear f2
  try simp only [Act.put, List.getElem_toArray, List.getElem_cons_succ, List.getElem_cons_zero, List.setIfInBounds_toArray, List.set_cons_zero, List.set_cons_succ]
  refine wpList_plain rfl (fun K hK => ?_)
  go_simp
  refine hK _ _ ?_
  clear hK K
  refine wpList_plain rfl (fun K hK => ?_)
  go_simp
  refine hK _ _ ?_
  clear hK K
  refine wpList_nil ?_
  try simp only [Act.put, List.getElem_toArray, List.getElem_cons_succ, List.getElem_cons_zero, List.setIfInBounds_toArray, List.set_cons_zero, List.set_cons_succ]
  go_wp2
  go_ret
  exact ⟨rfl, HF2.out⟩
theorem index_z (g c c0 M : Nat) (w : World) (hE : EnvE w) (hM : Blk w M 36 (machZ g c)) (hT : Task1 w g) : Calls Tryz.prog 269 #[.slice (some ⟨g, 0, none⟩) 1 c0, .func (.func 176) #[] #[.pointer (some ⟨M, 0, none⟩)]] w fun e w' => e = .returned (.int .i64 (-1)) ∧ Fr [] w w' := by
  obtain ⟨XT, hT, hX⟩ := hT
  have HX := Lib.hid hX
  have HT := Lib.hid hT
  have HC := Lib.hid (tasks1_z g c M w hE hM)
  clear hT hX hE hM
  go_enter Tryz.func269, Tryz.ntmps269
  go_wp2
  refine wp_loop_rounds 2 ?_
  rw [rounds_succ]
  go_upto_region 4 with fail
  refine wp_region_lit ?_
  refine wpList_plain rfl (fun K hK => ?_)
  go_simp
  refine hK _ _ ?_
  clear hK K
  refine wpList_plain rfl (fun K hK => ?_)
  go_simp
  refine hK _ _ ?_
  clear hK K
  refine wpList_plain rfl (fun K hK => ?_)
  go_simp
  refine hK _ _ ?_
  clear hK K
  refine wpList_plain rfl (fun K hK => ?_)
  go_simp
  refine hK _ _ ?_
  clear hK K
  try simp only [Act.put, List.getElem_toArray, List.getElem_cons_succ, List.getElem_cons_zero, List.setIfInBounds_toArray, List.set_cons_zero, List.set_cons_succ]
  refine wpList_val rfl (v := .agg (cellZ).toArray) (w' := w) ?_ ?_
  · show Sem.run Tryz.prog ((Instr.loadAt 90 (.pointer (some ⟨g, 0, none⟩))) >>= fun x => pure (Next.value x)) w = _
    rw [Sem.run_bind, load_all aggCe sizeCe (xs := cellZ) rfl (HT.out.at.part (k := 0) (n := 20) HX.out)]
    rfl
  try simp only [Act.put, List.getElem_toArray, List.getElem_cons_succ, List.getElem_cons_zero, List.setIfInBounds_toArray, List.set_cons_zero, List.set_cons_succ]
  refine wpList_plain rfl (fun K hK => ?_)
  go_simp
  refine HC.out.mono ?_
  rintro e w1 ⟨rfl, f1⟩
  refine hK _ _ ?_
  clear hK K
  try simp only [Act.put, List.getElem_toArray, List.getElem_cons_succ, List.getElem_cons_zero, List.setIfInBounds_toArray, List.set_cons_zero, List.set_cons_succ]
  refine wpList_nil ?_
  try simp only [Act.put, List.getElem_toArray, List.getElem_cons_succ, List.getElem_cons_zero, List.setIfInBounds_toArray, List.set_cons_zero, List.set_cons_succ]
  go_wp2
  rw [rounds_succ]
  go_wp2
  go_ret
  exact ⟨rfl, f1⟩
theorem contains_z (g c c0 M : Nat) (w : World) (hE : EnvE w) (hM : Blk w M 36 (machZ g c)) (hT : Task1 w g) : Calls Tryz.prog 175 #[.slice (some ⟨g, 0, none⟩) 1 c0, .func (.func 176) #[] #[.pointer (some ⟨M, 0, none⟩)]] w fun e w' => e = .returned (.bool false) ∧ Fr [] w w' := by
  have HI := Lib.hid (index_z g c c0 M w hE hM hT)
  clear hE hM hT
  go_enter Tryz.func175, Tryz.ntmps175
  go_wp2_with fail
  refine HI.out.mono ?_
  rintro e w1 ⟨rfl, f1⟩
  go_wp2
  go_ret
  exact ⟨rfl, f1⟩
end Go.Proofs.YtemihaijhcpnfaaGreatDoor
