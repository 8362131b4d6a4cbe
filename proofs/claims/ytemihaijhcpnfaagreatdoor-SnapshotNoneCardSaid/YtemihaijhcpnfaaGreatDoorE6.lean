/- An engine of one idle task: New, and Machine, which copies its state. -/
import Derived.Test.YtemihaijhcpnfaaGreatDoorE4
import Derived.Test.YtemihaijhcpnfaaGreatDoorE5
import Derived.Deep.CutRange
namespace Go.Proofs.YtemihaijhcpnfaaGreatDoor
open Go.RowKit
open Go.Maps (Keyed)
set_option linter.unusedVariables false
set_option linter.unusedSimpArgs false
set_option maxRecDepth 100000
set_option maxHeartbeats 8000000

/-- What the package's variable nowhere holds. -/
def EnvE (w : World) : Prop := LiesAt w 0 0 [.int .i64 (-1), .int .i64 0]
theorem EnvE.new {w w' : World} (h : EnvE w) (f : Fr [] w w') : EnvE w' := h.keep f (by simp)
theorem sizeBB : ∀ w, (sizeOf 81).run Tryz.prog w = .ok 1 w := fun w => by kernel_rfl
theorem aggSp : ∀ w, (isAgg 87).run Tryz.prog w = .ok true w := fun w => by kernel_rfl
theorem sizeSp : ∀ w, (sizeOf 87).run Tryz.prog w = .ok 2 w := fun w => by kernel_rfl
theorem aggMa : ∀ w, (isAgg 36).run Tryz.prog w = .ok true w := fun w => by kernel_rfl
theorem sizeMa : ∀ w, (sizeOf 36).run Tryz.prog w = .ok 8 w := fun w => by kernel_rfl
theorem elemCell : Elem Tryz.prog 29 90 20 200 := Elem.mk' Tryz.underlying29 (z := .agg cell0.toArray) (by kernel_rfl) rfl (by decide)
theorem Fr.own1 {S : List Nat} {B b : Nat} {w w1 w2 : World} (h : Fr [] w w1) (f : Fr [b] w1 w2) (hb : w.heap.size ≤ b) : Fr [] w w2 := h.trans f (fun x hx hl => by rw [List.mem_singleton] at hx; omega)
theorem callZ_one : ∀ u ∈ callZ, u.oneCell' = true := by
  intro u hu
  simp only [callZ, List.mem_cons, List.not_mem_nil, or_false] at hu
  rcases hu with rfl | rfl | rfl | rfl | rfl | rfl | rfl | rfl | rfl | rfl | rfl | rfl <;> rfl
/-- A row of one task that does nothing. -/
def Task1 (w : World) (T : Nat) : Prop := ∃ XT, Blk w T 90 XT ∧ (XT.drop 0).take 20 = cellZ
theorem Task1.new {w w' : World} {T : Nat} (h : Task1 w T) (f : Fr [] w w') : Task1 w' T := by
  obtain ⟨X, h1, h2⟩ := h
  exact ⟨X, h1.keep f (by simp), h2⟩
theorem cloneInts0 (w : World) : Calls Tryz.prog 50 #[.slice none 0 0] w fun e w' => e = .returned (.slice none 0 0) ∧ w = w' := by
  have hq : ∀ W : World, (binOp .eql 30 (.slice none 0 0) (.slice none 0 0)).run Tryz.prog W = .ok (.bool true) W := fun W => by kernel_rfl
  go_enter Tryz.func50, Tryz.ntmps50
  go_wp2
  go_ret
  exact ⟨rfl, rfl⟩
theorem cloneFiles0 (w : World) : Calls Tryz.prog 51 #[.slice none 0 0] w fun e w' => e = .returned (.slice none 0 0) ∧ w = w' := by
  have hq : ∀ W : World, (binOp .eql 31 (.slice none 0 0) (.slice none 0 0)).run Tryz.prog W = .ok (.bool true) W := fun W => by kernel_rfl
  go_enter Tryz.func51, Tryz.ntmps51
  go_wp2
  go_ret
  exact ⟨rfl, rfl⟩
theorem cloneBytes0 (w : World) : Calls Tryz.prog 119 #[.slice none 0 0] w fun e w' => e = .returned (.slice none 0 0) ∧ w = w' := by
  have hq : ∀ W : World, (binOp .eql 22 (.slice none 0 0) (.slice none 0 0)).run Tryz.prog W = .ok (.bool true) W := fun W => by kernel_rfl
  go_enter Tryz.func119, Tryz.ntmps119
  go_wp2
  go_ret
  exact ⟨rfl, rfl⟩
theorem eachBytes0 (f : Value) (w : World) : Calls Tryz.prog 198 #[.slice none 0 0, f] w fun e w' => e = .returned (.slice none 0 0) ∧ w = w' := by
  go_enter Tryz.func198, Tryz.ntmps198
  go_wp2
  refine wp_loop_rounds 1 ?_
  rw [rounds_succ]
  go_wp2
  go_ret
  exact ⟨rfl, rfl⟩
theorem own_z (w : World) : Calls Tryz.prog 118 #[.agg callZ.toArray] w fun e w' => e = .returned (.agg callZ.toArray) ∧ Fr [] w w' := by
  obtain ⟨B, hB⟩ : ∃ B, w.heap.size = B := ⟨_, rfl⟩
  obtain ⟨wA, hwA⟩ : ∃ z, (w.alloc (.cells callZ.toArray 84)).alloc (.cells callZ.toArray 84) = z := ⟨_, rfl⟩
  have hb1 : Blk wA B 84 callZ := by
    rw [← hwA, ← hB]
    exact (Blk.made w _ callZ).keep ((Fr.refl [] _).alloc _) (by simp)
  have hr1 : Blk wA (B + 1) 84 callZ := by
    have h := Blk.made (w.alloc (.cells callZ.toArray 84)) 84 callZ
    rw [show (w.alloc (.cells callZ.toArray 84)).heap.size = B + 1 from by rw [← hB]; simp] at h
    rw [← hwA]
    exact h
  have hf : Fr [] w wA := by rw [← hwA]; exact ((Fr.refl [] w).alloc _).alloc _
  have HB := Lib.hid hb1
  have HR := Lib.hid hr1
  have HF := Lib.hid hf
  have HBS := Lib.hid hB
  have HWA := Lib.hid hwA
  clear hb1 hr1 hf hB hwA
  go_enter Tryz.func118, Tryz.ntmps118
  go_upto_region 1 with fail
  rw [show (w.alloc (.cells callZ.toArray 84)).alloc (.cells #[.int .i64 0, .int .i64 0, .int .i64 0, .int .i64 0, .int .i64 0, .string ⟨#[]⟩, .int .i64 0, .slice none 0 0, .int .i64 0, .int .i64 0, .int .i64 0, .int .u64 0] 84) = wA from HWA.out]
  simp only [HBS.out]
  have c7 : wA.cell? ⟨B, 7, none⟩ = some (.slice none 0 0) := HB.out.at 7 _ rfl
  refine wp_region_lit ?_
  refine wpList_plain rfl (fun K hK => ?_)
  go_simp
  refine hK _ _ ?_
  clear hK K
  refine wpList_plain rfl (fun K hK => ?_)
  go_simp
  refine hK _ _ ?_
  clear hK K
  refine wpList_plain rfl (fun K hK => ?_)
  go_simp
  refine (eachBytes0 _ _).mono ?_
  rintro e w1 ⟨rfl, rfl⟩
  refine hK _ _ ?_
  clear hK K
  try simp only [Act.put, List.getElem_toArray, List.getElem_cons_succ, List.getElem_cons_zero, List.setIfInBounds_toArray, List.set_cons_zero, List.set_cons_succ]
  refine wpList_plain rfl (fun K hK => ?_)
  go_simp
  refine hK _ _ ?_
  clear hK K
  try simp only [Act.put, List.getElem_toArray, List.getElem_cons_succ, List.getElem_cons_zero, List.setIfInBounds_toArray, List.set_cons_zero, List.set_cons_succ]
  obtain ⟨w2, hst, hb_, hf_⟩ := store_cell (t := 81) (o := 7) (.slice none 0 0) sizeBB rfl rfl HB.out (by show 7 + 1 ≤ 12; omega)
  refine wpList_skp rfl (w' := w2) ?_ ?_
  · show Sem.run Tryz.prog ((Instr.storeAt 81 (.pointer (some ⟨B, 7, none⟩)) (.slice none 0 0)) >>= fun _ => pure Next.skip) _ = _
    rw [Sem.run_bind, hst]
    rfl
  clear hst
  try simp only [Act.put, List.getElem_toArray, List.getElem_cons_succ, List.getElem_cons_zero, List.setIfInBounds_toArray, List.set_cons_zero, List.set_cons_succ]
  refine wpList_nil ?_
  try simp only [Act.put, List.getElem_toArray, List.getElem_cons_succ, List.getElem_cons_zero, List.setIfInBounds_toArray, List.set_cons_zero, List.set_cons_succ]
  have HB2 := Lib.hid (show Blk w2 B 84 callZ from hb_)
  have HR2 := Lib.hid (HR.out.keep hf_ (by simp))
  have HF2 := Lib.hid (HF.out.own1 (S := []) (B := 0) hf_ (by have := HBS.out; omega))
  clear hb_ hf_ c7
  go_upto_region 2 with fail
  refine wp_region_lit ?_
  refine wpList_val rfl (v := .agg (callZ).toArray) (w' := w2) ?_ ?_
  · show Sem.run Tryz.prog ((Instr.loadAt 84 (.pointer (some ⟨B, 0, none⟩))) >>= fun x => pure (Next.value x)) w2 = _
    rw [Sem.run_bind, load_all aggCl sizeCl (xs := callZ) rfl HB2.out.at]
    rfl
  try simp only [Act.put, List.getElem_toArray, List.getElem_cons_succ, List.getElem_cons_zero, List.setIfInBounds_toArray, List.set_cons_zero, List.set_cons_succ]
  obtain ⟨w3, hst, hb_, hf_⟩ := store_all (t := 84) callZ sizeCl rfl callZ_one HR2.out rfl
  refine wpList_skp rfl (w' := w3) ?_ ?_
  · show Sem.run Tryz.prog ((Instr.storeAt 84 (.pointer (some ⟨B + 1, 0, none⟩)) (.agg callZ.toArray)) >>= fun _ => pure Next.skip) _ = _
    rw [Sem.run_bind, hst]
    rfl
  clear hst
  try simp only [Act.put, List.getElem_toArray, List.getElem_cons_succ, List.getElem_cons_zero, List.setIfInBounds_toArray, List.set_cons_zero, List.set_cons_succ]
  refine wpList_nil ?_
  try simp only [Act.put, List.getElem_toArray, List.getElem_cons_succ, List.getElem_cons_zero, List.setIfInBounds_toArray, List.set_cons_zero, List.set_cons_succ]
  have HR3 := Lib.hid hb_
  have HF3 := Lib.hid (HF2.out.own1 (S := []) (B := 0) hf_ (by have := HBS.out; omega))
  clear hb_ hf_
  go_wp2
  have hl := load_var aggCl sizeCl (xs := callZ) rfl HR3.out.at
  refine bodyPost_ret (v := .agg callZ.toArray) (by simp [results, Tryz.results118, as_addr, hl]) rfl ?_
  exact ⟨rfl, HF3.out⟩
theorem cell_z (w : World) : Calls Tryz.prog 49 #[.agg cellZ.toArray] w fun e w' => e = .returned (.agg cellZ.toArray) ∧ Fr [] w w' := by
  obtain ⟨B, hB⟩ : ∃ B, w.heap.size = B := ⟨_, rfl⟩
  obtain ⟨wA, hwA⟩ : ∃ z, (w.alloc (.cells cellZ.toArray 90)).alloc (.cells cell0.toArray 90) = z := ⟨_, rfl⟩
  have hb1 : Blk wA B 90 cellZ := by
    rw [← hwA, ← hB]
    exact (Blk.made w _ cellZ).keep ((Fr.refl [] _).alloc _) (by simp)
  have hr1 : Blk wA (B + 1) 90 cell0 := by
    have h := Blk.made (w.alloc (.cells cellZ.toArray 90)) 90 cell0
    rw [show (w.alloc (.cells cellZ.toArray 90)).heap.size = B + 1 from by rw [← hB]; simp] at h
    rw [← hwA]
    exact h
  have hf : Fr [] w wA := by rw [← hwA]; exact ((Fr.refl [] w).alloc _).alloc _
  have HB := Lib.hid hb1
  have HR := Lib.hid hr1
  have HF := Lib.hid hf
  have HBS := Lib.hid hB
  have HWA := Lib.hid hwA
  clear hb1 hr1 hf hB hwA
  obtain ⟨w1, hw1⟩ : ∃ z, wA.drew = z := ⟨_, rfl⟩
  have f1 : Fr [] wA w1 := by rw [← hw1]; exact (Fr.refl [] wA).drew
  have HB1 := Lib.hid (HB.out.keep f1 (by simp))
  have HR1 := Lib.hid (HR.out.keep f1 (by simp))
  have HF1 := Lib.hid (HF.out.step f1)
  have HW1 := Lib.hid hw1
  clear f1 hw1
  go_enter Tryz.func49, Tryz.ntmps49
  go_upto_region 1 with fail
  rw [show (w.alloc (.cells cellZ.toArray 90)).alloc (.cells #[.int .i64 0, .int .i64 0, .int .i64 0, .int .i64 0, .int .i64 0, .int .i64 0, .string ⟨#[]⟩, .int .i64 0, .slice none 0 0, .int .i64 0, .int .i64 0, .int .i64 0, .int .u64 0, .bool false, .int .i64 0, .slice none 0 0, .int .i64 0, .int .i64 0, .int .i64 0, .int .i64 0] 90) = wA from HWA.out]
  simp only [HBS.out]
  refine wp_region_held_drew (S := fun W => Blk W B 90 cellZ ∧ W.cell? ⟨B, 15, none⟩ = some (.slice none 0 0)) (by kernel_rfl) (by rw [HW1.out]; exact ⟨HB1.out, HB1.out.at 15 _ rfl⟩) (fun hHeld => ?_)
  rw [HW1.out] at hHeld ⊢
  refine wpAnyH_take (i := 0) (oi := _) (v := ?_) rfl (by kernel_rfl) (by kernel_rfl) (by kernel_rfl) (fun _ _ _ h => h) (Or.inl ⟨by rfl, ?_⟩) (by first | assumption | trivial) ?_
  rotate_left
  · intro w hSw
    try dsimp only at hSw
    go_simp
    try with_reducible rfl
  try simp only [Act.put, List.getElem_toArray, List.getElem_cons_succ, List.getElem_cons_zero, List.setIfInBounds_toArray, List.set_cons_zero, List.set_cons_succ]
  refine wpAnyH_take (i := 1) (oi := _) (v := .agg callZ.toArray) rfl (by kernel_rfl) (by kernel_rfl) (by kernel_rfl) (fun _ _ _ h => h) (Or.inl ⟨by rfl, ?_⟩) (by first | assumption | trivial) ?_
  · intro w hSw
    try dsimp only at hSw
    show Sem.run Tryz.prog ((Instr.loadAt 84 (.pointer (some ⟨B, 1, none⟩))) >>= fun x => pure (Next.value x)) w = _
    rw [Sem.run_bind, load_all aggCl sizeCl (xs := callZ) rfl (hSw.1.at.part (k := 1) (n := 12) rfl)]
    rfl
  try simp only [Act.put, List.getElem_toArray, List.getElem_cons_succ, List.getElem_cons_zero, List.setIfInBounds_toArray, List.set_cons_zero, List.set_cons_succ]
  refine wpAnyH_take (i := 3) (oi := _) (v := ?_) rfl (by kernel_rfl) (by kernel_rfl) (by kernel_rfl) (fun _ _ _ h => h) (Or.inl ⟨by rfl, ?_⟩) (by first | assumption | trivial) ?_
  rotate_left
  · intro w hSw
    try dsimp only at hSw
    go_simp
    try with_reducible rfl
  try simp only [Act.put, List.getElem_toArray, List.getElem_cons_succ, List.getElem_cons_zero, List.setIfInBounds_toArray, List.set_cons_zero, List.set_cons_succ]
  refine wpAnyH_take (i := 4) (oi := _) (v := ?_) rfl (by kernel_rfl) (by kernel_rfl) (by kernel_rfl) (fun _ _ _ h => h) (Or.inl ⟨by rfl, ?_⟩) (by first | assumption | trivial) ?_
  rotate_left
  · intro w hSw
    try dsimp only at hSw
    go_simp
    try with_reducible rfl
  try simp only [Act.put, List.getElem_toArray, List.getElem_cons_succ, List.getElem_cons_zero, List.setIfInBounds_toArray, List.set_cons_zero, List.set_cons_succ]
  refine wpAnyH_ready (rs := [2]) (by kernel_rfl) (by simp) ?_
  refine AllReadyH.cons (o := _) rfl (fun K hK => ?_) AllReadyH.nil
  go_simp
  refine (own_z _).mono ?_
  rintro e w2 ⟨rfl, f2⟩
  have HB2 := Lib.hid (HB1.out.keep f2 (by simp))
  have HR2 := Lib.hid (HR1.out.keep f2 (by simp))
  have HF2 := Lib.hid (HF1.out.step f2)
  clear f2
  refine hK.out _ _ (⟨HB2.out, HB2.out.at 15 _ rfl⟩) (fun hHeld => ?_)
  clear hK K
  try simp only [Act.put, List.getElem_toArray, List.getElem_cons_succ, List.getElem_cons_zero, List.setIfInBounds_toArray, List.set_cons_zero, List.set_cons_succ]
  refine wpAnyH_take (i := 6) (oi := _) (v := ?_) rfl (by kernel_rfl) (by kernel_rfl) (by kernel_rfl) (fun _ _ _ h => h) (Or.inl ⟨by rfl, ?_⟩) (by first | assumption | trivial) ?_
  rotate_left
  · intro w hSw
    try dsimp only at hSw
    go_simp
    try with_reducible rfl
  try simp only [Act.put, List.getElem_toArray, List.getElem_cons_succ, List.getElem_cons_zero, List.setIfInBounds_toArray, List.set_cons_zero, List.set_cons_succ]
  refine wpAnyH_ready (rs := [5]) (by kernel_rfl) (by simp) ?_
  refine AllReadyH.cons (o := _) rfl (fun K hK => ?_) AllReadyH.nil
  go_simp
  refine (cloneBytes0 _).mono ?_
  rintro e w' ⟨rfl, rfl⟩
  refine hK.out _ _ (⟨HB2.out, HB2.out.at 15 _ rfl⟩) (fun hHeld => ?_)
  clear hK K
  try simp only [Act.put, List.getElem_toArray, List.getElem_cons_succ, List.getElem_cons_zero, List.setIfInBounds_toArray, List.set_cons_zero, List.set_cons_succ]
  refine wpAnyH_ready (rs := [7]) (by kernel_rfl) (by simp) ?_
  refine AllReadyH.cons (o := _) rfl (fun K hK => ?_) AllReadyH.nil
  obtain ⟨w3, hst, hb_, hf_⟩ := store_part (t := 84) (o := 1) callZ sizeCl rfl callZ_one HB2.out (by show 1 + 12 ≤ 20; omega)
  split
  rotate_left
  · rename_i hno
    exact absurd rfl hno
  refine wp_skp (w' := w3) ?_ ?_
  · show Sem.run Tryz.prog ((Instr.storeAt 84 (.pointer (some ⟨B, 1, none⟩)) (.agg callZ.toArray)) >>= fun _ => pure Next.skip) _ = _
    rw [Sem.run_bind, hst]
    rfl
  clear hst
  have HB3 := Lib.hid (show Blk w3 B 90 cellZ from hb_)
  have HR3 := Lib.hid (HR2.out.keep hf_ (by simp))
  have HF3 := Lib.hid (HF2.out.own1 (S := []) (B := 0) hf_ (by have := HBS.out; omega))
  clear hb_ hf_
  refine hK.out _ _ (⟨HB3.out, HB3.out.at 15 _ rfl⟩) (fun hHeld => ?_)
  clear hK K
  try simp only [Act.put, List.getElem_toArray, List.getElem_cons_succ, List.getElem_cons_zero, List.setIfInBounds_toArray, List.set_cons_zero, List.set_cons_succ]
  refine wpAnyH_take (i := 8) (oi := _) (v := ?_) rfl (by kernel_rfl) (by kernel_rfl) (by kernel_rfl) (fun _ _ _ h => h) (Or.inl ⟨by rfl, ?_⟩) (by first | assumption | trivial) ?_
  rotate_left
  · intro w hSw
    try dsimp only at hSw
    go_simp
    try with_reducible rfl
  try simp only [Act.put, List.getElem_toArray, List.getElem_cons_succ, List.getElem_cons_zero, List.setIfInBounds_toArray, List.set_cons_zero, List.set_cons_succ]
  refine wpAnyH_ready (rs := [9]) (by kernel_rfl) (by simp) ?_
  refine AllReadyH.cons (o := _) rfl (fun K hK => ?_) AllReadyH.nil
  obtain ⟨w4, hst, hb_, hf_⟩ := store_cell (t := 22) (o := 15) (.slice none 0 0) size22 rfl rfl HB3.out (by show 15 + 1 ≤ 20; omega)
  split
  rotate_left
  · rename_i hno
    exact absurd rfl hno
  refine wp_skp (w' := w4) ?_ ?_
  · show Sem.run Tryz.prog ((Instr.storeAt 22 (.pointer (some ⟨B, 15, none⟩)) (.slice none 0 0)) >>= fun _ => pure Next.skip) _ = _
    rw [Sem.run_bind, hst]
    rfl
  clear hst
  have HB4 := Lib.hid (show Blk w4 B 90 cellZ from hb_)
  have HR4 := Lib.hid (HR3.out.keep hf_ (by simp))
  have HF4 := Lib.hid (HF3.out.own1 (S := []) (B := 0) hf_ (by have := HBS.out; omega))
  clear hb_ hf_
  refine hK.out _ _ (⟨HB4.out, HB4.out.at 15 _ rfl⟩) (fun hHeld => ?_)
  clear hK K
  try simp only [Act.put, List.getElem_toArray, List.getElem_cons_succ, List.getElem_cons_zero, List.setIfInBounds_toArray, List.set_cons_zero, List.set_cons_succ]
  refine wpAnyH_done (by kernel_rfl) ?_ _
  clear hHeld
  go_upto_region 2 with fail
  refine wp_region_lit ?_
  refine wpList_val rfl (v := .agg (cellZ).toArray) (w' := w4) ?_ ?_
  · show Sem.run Tryz.prog ((Instr.loadAt 90 (.pointer (some ⟨B, 0, none⟩))) >>= fun x => pure (Next.value x)) w4 = _
    rw [Sem.run_bind, load_all aggCe sizeCe (xs := cellZ) rfl HB4.out.at]
    rfl
  try simp only [Act.put, List.getElem_toArray, List.getElem_cons_succ, List.getElem_cons_zero, List.setIfInBounds_toArray, List.set_cons_zero, List.set_cons_succ]
  obtain ⟨w5, hst, hb_, hf_⟩ := store_all (t := 90) cellZ sizeCe rfl cellZ_one HR4.out rfl
  refine wpList_skp rfl (w' := w5) ?_ ?_
  · show Sem.run Tryz.prog ((Instr.storeAt 90 (.pointer (some ⟨B + 1, 0, none⟩)) (.agg cellZ.toArray)) >>= fun _ => pure Next.skip) _ = _
    rw [Sem.run_bind, hst]
    rfl
  clear hst
  try simp only [Act.put, List.getElem_toArray, List.getElem_cons_succ, List.getElem_cons_zero, List.setIfInBounds_toArray, List.set_cons_zero, List.set_cons_succ]
  refine wpList_nil ?_
  try simp only [Act.put, List.getElem_toArray, List.getElem_cons_succ, List.getElem_cons_zero, List.setIfInBounds_toArray, List.set_cons_zero, List.set_cons_succ]
  have HR5 := Lib.hid hb_
  have HF5 := Lib.hid (HF4.out.own1 (S := []) (B := 0) hf_ (by have := HBS.out; omega))
  clear hb_ hf_
  go_wp2
  have hl := load_var aggCe sizeCe (xs := cellZ) rfl HR5.out.at
  refine bodyPost_ret (v := .agg cellZ.toArray) (by simp [results, Tryz.results49, as_addr, hl]) rfl ?_
  exact ⟨rfl, HF5.out⟩
theorem bslCe : ∀ w : World, (Instr.buildSlice 29 1 #[(0, .agg cellZ.toArray)]).run Tryz.prog w = .ok (.slice (some ⟨w.heap.size, 0, none⟩) 1 1) (w.alloc (.cells cellZ.toArray 90)) := fun w => by kernel_rfl
theorem each_z (T c0 : Nat) (w : World) (hT : Task1 w T) : Calls Tryz.prog 48 #[.slice (some ⟨T, 0, none⟩) 1 c0, .func (.func 49) #[] #[]] w fun e w' => ∃ g c, e = .returned (.slice (some ⟨g, 0, none⟩) 1 c) ∧ Task1 w' g ∧ Fr [] w w' := by
  obtain ⟨XT, hT, hX⟩ := hT
  have HX := Lib.hid hX
  have HT := Lib.hid hT
  clear hT hX
  go_enter Tryz.func48, Tryz.ntmps48
  go_wp2
  refine wp_loop_rounds 2 ?_
  rw [rounds_succ]
  go_upto_region 4 with fail
  refine wp_region_lit ?_
  refine wpList_plain rfl (fun K hK => ?_)
  go_simp
  refine hK _ _ ?_
  clear hK K
  try simp only [Act.put, List.getElem_toArray, List.getElem_cons_succ, List.getElem_cons_zero, List.setIfInBounds_toArray, List.set_cons_zero, List.set_cons_succ]
  refine wpList_val rfl (v := .agg (cellZ).toArray) (w' := w) ?_ ?_
  · show Sem.run Tryz.prog ((Instr.loadAt 90 (.pointer (some ⟨T, 0, none⟩))) >>= fun x => pure (Next.value x)) w = _
    rw [Sem.run_bind, load_all aggCe sizeCe (xs := cellZ) rfl (HT.out.at.part (k := 0) (n := 20) HX.out)]
    rfl
  try simp only [Act.put, List.getElem_toArray, List.getElem_cons_succ, List.getElem_cons_zero, List.setIfInBounds_toArray, List.set_cons_zero, List.set_cons_succ]
  refine wpList_plain rfl (fun K hK => ?_)
  go_simp
  refine hK _ _ ?_
  clear hK K
  try simp only [Act.put, List.getElem_toArray, List.getElem_cons_succ, List.getElem_cons_zero, List.setIfInBounds_toArray, List.set_cons_zero, List.set_cons_succ]
  obtain ⟨C, hC⟩ : ∃ z, w.heap.size = z := ⟨_, rfl⟩
  obtain ⟨wx, hwx⟩ : ∃ z, w.alloc (.cells cell0.toArray 90) = z := ⟨_, rfl⟩
  have hbx : Blk wx C 90 cell0 := by rw [← hwx, ← hC]; exact Blk.made w _ _
  have fx : Fr [] w wx := by rw [← hwx]; exact (Fr.refl [] w).alloc _
  rw [show w.alloc (.cells #[.int .i64 0, .int .i64 0, .int .i64 0, .int .i64 0, .int .i64 0, .int .i64 0, .string ⟨#[]⟩, .int .i64 0, .slice none 0 0, .int .i64 0, .int .i64 0, .int .i64 0, .int .u64 0, .bool false, .int .i64 0, .slice none 0 0, .int .i64 0, .int .i64 0, .int .i64 0, .int .i64 0] 90) = wx from hwx]
  simp only [hC]
  have HXX := Lib.hid hbx
  have HFX := Lib.hid fx
  have HCC := Lib.hid hC
  clear hwx hbx fx hC
  obtain ⟨w1, hst, hb_, hf_⟩ := store_all (t := 90) cellZ sizeCe rfl cellZ_one HXX.out rfl
  refine wpList_skp rfl (w' := w1) ?_ ?_
  · show Sem.run Tryz.prog ((Instr.storeAt 90 (.pointer (some ⟨C, 0, none⟩)) (.agg cellZ.toArray)) >>= fun _ => pure Next.skip) _ = _
    rw [Sem.run_bind, hst]
    rfl
  clear hst
  try simp only [Act.put, List.getElem_toArray, List.getElem_cons_succ, List.getElem_cons_zero, List.setIfInBounds_toArray, List.set_cons_zero, List.set_cons_succ]
  refine wpList_nil ?_
  try simp only [Act.put, List.getElem_toArray, List.getElem_cons_succ, List.getElem_cons_zero, List.setIfInBounds_toArray, List.set_cons_zero, List.set_cons_succ]
  have HC1 := Lib.hid hb_
  have HF1 := Lib.hid (HFX.out.own1 (S := []) (B := 0) hf_ (by have := HCC.out; omega))
  clear hb_ hf_ HXX HFX
  go_upto_region 5 with fail
  refine wp_region_lit ?_
  refine wpList_plain rfl (fun K hK => ?_)
  go_simp
  refine hK _ _ ?_
  clear hK K
  refine wpList_plain rfl (fun K hK => ?_)
  go_simp
  refine hK _ _ ?_
  clear hK K
  try simp only [Act.put, List.getElem_toArray, List.getElem_cons_succ, List.getElem_cons_zero, List.setIfInBounds_toArray, List.set_cons_zero, List.set_cons_succ]
  refine wpList_val rfl (v := .agg (cellZ).toArray) (w' := w1) ?_ ?_
  · show Sem.run Tryz.prog ((Instr.loadAt 90 (.pointer (some ⟨C, 0, none⟩))) >>= fun x => pure (Next.value x)) w1 = _
    rw [Sem.run_bind, load_all aggCe sizeCe (xs := cellZ) rfl HC1.out.at]
    rfl
  try simp only [Act.put, List.getElem_toArray, List.getElem_cons_succ, List.getElem_cons_zero, List.setIfInBounds_toArray, List.set_cons_zero, List.set_cons_succ]
  refine wpList_plain rfl (fun K hK => ?_)
  go_simp
  refine (cell_z _).mono ?_
  rintro e w2 ⟨rfl, f2⟩
  refine hK _ _ ?_
  clear hK K
  try simp only [Act.put, List.getElem_toArray, List.getElem_cons_succ, List.getElem_cons_zero, List.setIfInBounds_toArray, List.set_cons_zero, List.set_cons_succ]
  obtain ⟨w3, hw3⟩ : ∃ z, w2.alloc (.cells cellZ.toArray 90) = z := ⟨_, rfl⟩
  obtain ⟨E3, hE3⟩ : ∃ z, w2.heap.size = z := ⟨_, rfl⟩
  have hb3 : Blk w3 E3 90 cellZ := by rw [← hw3, ← hE3]; exact Blk.made w2 _ _
  have f3 : Fr [] w2 w3 := by rw [← hw3]; exact (Fr.refl [] w2).alloc _
  refine wpList_val rfl (v := .slice (some ⟨E3, 0, none⟩) 1 1) (w' := w3) ?_ ?_
  · refine exec_bsl (V := .agg cellZ.toArray) rfl rfl ?_
    rw [bslCe, hw3, hE3]
  try simp only [Act.put, List.getElem_toArray, List.getElem_cons_succ, List.getElem_cons_zero, List.setIfInBounds_toArray, List.set_cons_zero, List.set_cons_succ]
  have HR3 := Lib.hid (show RowV w3 (.slice (some ⟨E3, 0, none⟩) 1 1) 1 20 cellZ from ⟨rfl, .inr ⟨E3, 0, 1, rfl, hb3.lt, hb3.at⟩⟩)
  have HF3 := Lib.hid ((HF1.out.step f2).step f3)
  clear hw3 hE3 hb3 f2 f3
  refine wpList_append_any elemCell rfl _ _ rfl 0 (v := .slice none 0 0) (n := 0) (xs := []) rfl (World.ownsRow_nil _ _ _ _) (X := .slice (some ⟨E3, 0, none⟩) 1 1) (m := 1) (news := cellZ) rfl HR3.out cellZ_one (by decide) (by decide) (Nat.zero_le _) ?_
  intro s4 w4 ho4 f4
  try simp only [Act.put, List.getElem_toArray, List.getElem_cons_succ, List.getElem_cons_zero, List.setIfInBounds_toArray, List.set_cons_zero, List.set_cons_succ]
  refine wpList_plain rfl (fun K hK => ?_)
  go_simp
  refine hK _ _ ?_
  clear hK K
  refine wpList_nil ?_
  try simp only [Act.put, List.getElem_toArray, List.getElem_cons_succ, List.getElem_cons_zero, List.setIfInBounds_toArray, List.set_cons_zero, List.set_cons_succ]
  have f4 : Fr [] w3 w4 := f4
  obtain ⟨g, c, XO, hg1, hg2⟩ : ∃ g c XO, slv s4 = .slice (some ⟨g, 0, none⟩) 1 c ∧ Blk w4 g 90 XO ∧ (XO.drop 0).take 20 = cellZ := by
    rcases ho4.2 with ⟨h0, _⟩ | ⟨g, cap, cur, h1, h2, h3, h4, h5, h6, h7⟩
    · omega
    · refine ⟨g, cap, cur.toList, h1, ?_, ?_⟩
      · unfold Blk
        simpa using h3
      · simpa using h7
  rw [hg1]
  have HTO := Lib.hid (show Task1 w4 g from ⟨XO, hg2⟩)
  have HF4 := Lib.hid (HF3.out.step f4)
  clear hg1 hg2 ho4 f4
  go_wp2
  rw [rounds_succ]
  go_wp2
  go_ret
  exact ⟨g, c, rfl, HTO.out, HF4.out⟩
end Go.Proofs.YtemihaijhcpnfaaGreatDoor
