/- The reference's nets in memory: Listen; Bind of an empty table. -/
import Derived.Test.YtmdhlodafjpnmaaGreatG12
namespace Go.Proofs.YtmdhlodafjpnmaaGreat
open Go.RowKit
set_option linter.unusedVariables false
set_option linter.unusedSimpArgs false
set_option maxRecDepth 100000
set_option maxHeartbeats 8000000

theorem elemBd : Elem Tryz.prog 106 167 3 32 := Elem.mk' Tryz.underlying106 (z := .agg #[.string ⟨#[]⟩, .int .i64 0, .int .i64 0]) (by kernel_rfl) rfl (by decide)
theorem bldBd (s : ByteArray) (p v : Int) : ∀ w, (Instr.build 167 #[(0, .agg #[.string s, .int .i64 p]), (1, .int .i64 v)]).run Tryz.prog w = .ok (.agg #[.string s, .int .i64 p, .int .i64 v]) w := fun w => by kernel_rfl
theorem bslBd (s : ByteArray) (p v : Int) : ∀ w : World, (Instr.buildSlice 106 1 #[(0, .agg #[.string s, .int .i64 p, .int .i64 v])]).run Tryz.prog w = .ok (.slice (some ⟨w.heap.size, 0, none⟩) 1 1) (w.alloc (.cells #[.string s, .int .i64 p, .int .i64 v] 167)) := fun w => by kernel_rfl
theorem findNil (s : ByteArray) (p : Int) (w : World) :
    Calls Tryz.prog 96 #[.slice none 0 0, .agg #[.string s, .int .i64 p]] w fun e w' => e = .returned (.int .i64 (-1)) ∧ Fr [] w w' := by
  go_enter Tryz.func96, Tryz.ntmps96
  go_wp2
  refine wp_loop_rounds 1 ?_
  rw [rounds_succ]
  go_wp2
  go_ret
  exact ⟨rfl, (Fr.refl [] w).alloc _⟩
theorem boundNil (vC : Value) (w : World) :
    Calls Tryz.prog 47 #[.agg #[.slice none 0 0, vC]] w fun e w' => e = .returned (.slice none 0 0) ∧ Fr [] w w' := by
  have hc : (w.alloc (.cells #[.slice none 0 0, vC] 34)).cell? ⟨w.heap.size, 0, none⟩ = some (.slice none 0 0) := netCell _ _ _ 0 rfl rfl rfl
  go_enter Tryz.func47, Tryz.ntmps47
  go_wp2
  refine wp_loop_rounds 1 ?_
  rw [rounds_succ]
  go_wp2
  go_ret
  exact ⟨rfl, (Fr.refl [] w).alloc _⟩
theorem bindNil (s : ByteArray) (p v : Int) (w : World) (hs : s.size ≤ 1000000) (hv : addrB s.data.toList p = true) (hp : p ≠ 0) (h0 : 0 ≤ v) :
    Calls Tryz.prog 46 #[.slice none 0 0, .agg #[.string s, .int .i64 p], .int .i64 v] w fun e w' => (∃ l, e = .returned (.tuple #[l, .agg #[.string s, .int .i64 p], .int .i64 0])) ∧ Fr [] w w' := by
  obtain ⟨B, hB⟩ : ∃ B, w.heap.size = B := ⟨_, rfl⟩
  obtain ⟨wA, hwA⟩ : ∃ z, (w.alloc (.cells #[.string s, .int .i64 p] 28)).alloc (.cells #[.string ⟨#[]⟩, .int .i64 0] 28) = z := ⟨_, rfl⟩
  have f2 := (Fr.refl [] (w.alloc (.cells #[.string s, .int .i64 p] 28))).alloc (.cells #[.string ⟨#[]⟩, .int .i64 0] 28)
  have hb0 : Blk wA B 28 [.string s, .int .i64 p] := by
    rw [← hwA, ← hB]
    exact (Blk.made w 28 [.string s, .int .i64 p]).keep f2 (by simp)
  have hb1 : Blk wA (B + 1) 28 [.string ⟨#[]⟩, .int .i64 0] := by
    have h := Blk.made (w.alloc (.cells #[.string s, .int .i64 p] 28)) 28 [.string ⟨#[]⟩, .int .i64 0]
    rw [show (w.alloc (.cells #[.string s, .int .i64 p] 28)).heap.size = B + 1 from by rw [← hB]; simp] at h
    rw [← hwA]
    exact h
  have hf : Fr [] w wA := by rw [← hwA]; exact ((Fr.refl [] w).alloc _).step f2
  have HF := Lib.hid hf
  have HBS := Lib.hid hB
  have HWA := Lib.hid hwA
  have HB0 := Lib.hid hb0
  have HB1 := Lib.hid hb1
  have HAV := Lib.hid (fun W : World => by
    have h := refValid_any s p hs W
    rw [hv] at h
    exact h)
  have e0 : wA.cell? ⟨B, 0, none⟩ = some (.string s) := hb0.at 0 _ rfl
  have e1 : wA.cell? ⟨B, 1, none⟩ = some (.int .i64 p) := hb0.at 1 _ rfl
  have dv : decide (v < 0) = false := decide_eq_false (by omega)
  have dp : (p == 0) = false := beq_eq_false_iff_ne.2 hp
  have dp2 : decide (p = 0) = false := decide_eq_false hp
  clear hb0 hb1 hf hB hwA f2 hv hp
  go_enter Tryz.func46, Tryz.ntmps46
  go_upto_region 1 with fail
  rw [HWA.out]
  simp only [HBS.out]
  go_wp2_with fail
  refine (HAV.out _).mono ?_
  rintro e w1 ⟨rfl, f1⟩
  have HF1 := Lib.hid (HF.out.step f1)
  have HB01 := Lib.hid (HB0.out.keep f1 (by simp))
  have HB11 := Lib.hid (HB1.out.keep f1 (by simp))
  clear f1 HF HB0 HB1 HAV HWA e0 e1
  have e0 : w1.cell? ⟨B, 0, none⟩ = some (.string s) := HB01.out.at 0 _ rfl
  have e1 : w1.cell? ⟨B, 1, none⟩ = some (.int .i64 p) := HB01.out.at 1 _ rfl
  go_wp2_with fail
  refine (findNil s p _).mono ?_
  rintro e w2 ⟨rfl, f2⟩
  have HF2 := Lib.hid (HF1.out.step f2)
  have HB02 := Lib.hid (HB01.out.keep f2 (by simp))
  have HB12 := Lib.hid (HB11.out.keep f2 (by simp))
  clear f2 HF1 HB01 HB11 e0 e1
  go_wp2_with fail
  refine wp_loop_rounds 1 ?_
  rw [rounds_succ]
  obtain ⟨w3, hw3⟩ : ∃ z, w2.drew = z := ⟨_, rfl⟩
  have f3 : Fr [] w2 w3 := by rw [← hw3]; exact (Fr.refl [] w2).drew
  have HF3 := Lib.hid (HF2.out.step f3)
  have HB03 := Lib.hid (HB02.out.keep f3 (by simp))
  have HB13 := Lib.hid (HB12.out.keep f3 (by simp))
  have HW3 := Lib.hid hw3
  clear f3 hw3 HF2 HB02 HB12
  go_upto_region 10 with fail
  refine wp_region_held_drew (S := fun _ => True) (by kernel_rfl) (trivial) (fun hHeld => ?_)
  clear hHeld
  rw [HW3.out]
  refine wpAnyH_take (i := 0) (oi := _) (v := ?_) rfl (by kernel_rfl) (by kernel_rfl) (by kernel_rfl) (fun _ _ _ h => h) (Or.inl ⟨by rfl, ?_⟩) (by first | assumption | trivial) ?_
  rotate_left
  · intro w hSw; (try dsimp only at hSw); go_simp; try with_reducible rfl
  try simp only [Act.put, List.getElem_toArray, List.getElem_cons_succ, List.getElem_cons_zero, List.setIfInBounds_toArray, List.set_cons_zero, List.set_cons_succ]
  refine wpAnyH_take (i := 1) (oi := _) (v := ?_) rfl (by kernel_rfl) (by kernel_rfl) (by kernel_rfl) (fun _ _ _ h => h) (Or.inl ⟨by rfl, ?_⟩) (by first | assumption | trivial) ?_
  rotate_left
  · intro w hSw; (try dsimp only at hSw); go_simp; try with_reducible rfl
  try simp only [Act.put, List.getElem_toArray, List.getElem_cons_succ, List.getElem_cons_zero, List.setIfInBounds_toArray, List.set_cons_zero, List.set_cons_succ]
  refine wpAnyH_take (i := 2) (oi := _) (v := ?_) rfl (by kernel_rfl) (by kernel_rfl) (by kernel_rfl) (fun _ _ _ h => h) (Or.inl ⟨by rfl, ?_⟩) (by first | assumption | trivial) ?_
  rotate_left
  · intro w hSw; (try dsimp only at hSw); go_simp; try with_reducible rfl
  try simp only [Act.put, List.getElem_toArray, List.getElem_cons_succ, List.getElem_cons_zero, List.setIfInBounds_toArray, List.set_cons_zero, List.set_cons_succ]
  refine wpAnyH_take (i := 3) (oi := _) (v := ?_) rfl (by kernel_rfl) (by kernel_rfl) (by kernel_rfl) (fun _ _ _ h => h) (Or.inl ⟨by rfl, ?_⟩) (by first | assumption | trivial) ?_
  rotate_left
  · intro w hSw; (try dsimp only at hSw); go_simp; try with_reducible rfl
  try simp only [Act.put, List.getElem_toArray, List.getElem_cons_succ, List.getElem_cons_zero, List.setIfInBounds_toArray, List.set_cons_zero, List.set_cons_succ]
  refine wpAnyH_take (i := 4) (oi := _) (v := ?_) rfl (by kernel_rfl) (by kernel_rfl) (by kernel_rfl) (fun _ _ _ h => h) (Or.inl ⟨by rfl, ?_⟩) (by first | assumption | trivial) ?_
  rotate_left
  · intro w hSw; (try dsimp only at hSw); go_simp; try with_reducible rfl
  try simp only [Act.put, List.getElem_toArray, List.getElem_cons_succ, List.getElem_cons_zero, List.setIfInBounds_toArray, List.set_cons_zero, List.set_cons_succ]
  refine wpAnyH_take (i := 5) (oi := _) (v := undef) rfl (by kernel_rfl) (by kernel_rfl) (by kernel_rfl) (fun _ _ _ h => h) (Or.inr ⟨by rfl, rfl⟩) (by first | assumption | trivial) ?_
  try simp only [Act.put, List.getElem_toArray, List.getElem_cons_succ, List.getElem_cons_zero, List.setIfInBounds_toArray, List.set_cons_zero, List.set_cons_succ]
  refine wpAnyH_take (i := 6) (oi := _) (v := undef) rfl (by kernel_rfl) (by kernel_rfl) (by kernel_rfl) (fun _ _ _ h => h) (Or.inr ⟨by rfl, rfl⟩) (by first | assumption | trivial) ?_
  try simp only [Act.put, List.getElem_toArray, List.getElem_cons_succ, List.getElem_cons_zero, List.setIfInBounds_toArray, List.set_cons_zero, List.set_cons_succ]
  refine wpAnyH_take (i := 7) (oi := _) (v := undef) rfl (by kernel_rfl) (by kernel_rfl) (by kernel_rfl) (fun _ _ _ h => h) (Or.inr ⟨by rfl, rfl⟩) (by first | assumption | trivial) ?_
  try simp only [Act.put, List.getElem_toArray, List.getElem_cons_succ, List.getElem_cons_zero, List.setIfInBounds_toArray, List.set_cons_zero, List.set_cons_succ]
  refine wpAnyH_take (i := 8) (oi := _) (v := undef) rfl (by kernel_rfl) (by kernel_rfl) (by kernel_rfl) (fun _ _ _ h => h) (Or.inr ⟨by rfl, rfl⟩) (by first | assumption | trivial) ?_
  try simp only [Act.put, List.getElem_toArray, List.getElem_cons_succ, List.getElem_cons_zero, List.setIfInBounds_toArray, List.set_cons_zero, List.set_cons_succ]
  refine wpAnyH_take (i := 9) (oi := _) (v := undef) rfl (by kernel_rfl) (by kernel_rfl) (by kernel_rfl) (fun _ _ _ h => h) (Or.inr ⟨by rfl, rfl⟩) (by first | assumption | trivial) ?_
  try simp only [Act.put, List.getElem_toArray, List.getElem_cons_succ, List.getElem_cons_zero, List.setIfInBounds_toArray, List.set_cons_zero, List.set_cons_succ]
  refine wpAnyH_take (i := 10) (oi := _) (v := undef) rfl (by kernel_rfl) (by kernel_rfl) (by kernel_rfl) (fun _ _ _ h => h) (Or.inr ⟨by rfl, rfl⟩) (by first | assumption | trivial) ?_
  try simp only [Act.put, List.getElem_toArray, List.getElem_cons_succ, List.getElem_cons_zero, List.setIfInBounds_toArray, List.set_cons_zero, List.set_cons_succ]
  refine wpAnyH_take (i := 11) (oi := _) (v := undef) rfl (by kernel_rfl) (by kernel_rfl) (by kernel_rfl) (fun _ _ _ h => h) (Or.inr ⟨by rfl, rfl⟩) (by first | assumption | trivial) ?_
  try simp only [Act.put, List.getElem_toArray, List.getElem_cons_succ, List.getElem_cons_zero, List.setIfInBounds_toArray, List.set_cons_zero, List.set_cons_succ]
  refine wpAnyH_take (i := 12) (oi := _) (v := undef) rfl (by kernel_rfl) (by kernel_rfl) (by kernel_rfl) (fun _ _ _ h => h) (Or.inr ⟨by rfl, rfl⟩) (by first | assumption | trivial) ?_
  try simp only [Act.put, List.getElem_toArray, List.getElem_cons_succ, List.getElem_cons_zero, List.setIfInBounds_toArray, List.set_cons_zero, List.set_cons_succ]
  refine wpAnyH_take (i := 13) (oi := _) (v := ?_) rfl (by kernel_rfl) (by kernel_rfl) (by kernel_rfl) (fun _ _ _ h => h) (Or.inl ⟨by rfl, ?_⟩) (by first | assumption | trivial) ?_
  rotate_left
  · intro w hSw; (try dsimp only at hSw); go_simp; try with_reducible rfl
  try simp only [Act.put, List.getElem_toArray, List.getElem_cons_succ, List.getElem_cons_zero, List.setIfInBounds_toArray, List.set_cons_zero, List.set_cons_succ]
  refine wpAnyH_done (by kernel_rfl) ?_ _
  obtain ⟨w4, hw4⟩ : ∃ z, w3.drew = z := ⟨_, rfl⟩
  have f4 : Fr [] w3 w4 := by rw [← hw4]; exact (Fr.refl [] w3).drew
  have HF4 := Lib.hid (HF3.out.step f4)
  have HB04 := Lib.hid (HB03.out.keep f4 (by simp))
  have HB14 := Lib.hid (HB13.out.keep f4 (by simp))
  have HW4 := Lib.hid hw4
  clear f4 hw4 HF3 HB03 HB13
  go_upto_region 12 with fail
  refine wp_region_held_drew (S := fun w' => w'.cell? ⟨B, 0, none⟩ = some (.string s) ∧ w'.cell? ⟨B, 1, none⟩ = some (.int .i64 p)) (by kernel_rfl) (by rw [HW4.out]; exact ⟨HB04.out.at 0 _ rfl, HB04.out.at 1 _ rfl⟩) (fun hHeld => ?_)
  rw [HW4.out] at hHeld ⊢
  refine wpAnyH_take (i := 0) (oi := _) (v := .agg #[.string s, .int .i64 p]) rfl (by kernel_rfl) (by kernel_rfl) (by kernel_rfl) (fun _ _ _ h => h) (Or.inl ⟨by rfl, ?_⟩) (by first | assumption | trivial) ?_
  · intro w hSw
    try dsimp only at hSw
    show Sem.run Tryz.prog ((Instr.loadAt 28 (.pointer (some ⟨B, 0, none⟩))) >>= fun x => pure (Next.value x)) w = _
    rw [Sem.run_bind, load_all agg28 size28 (xs := [.string s, .int .i64 p]) rfl (fun j u hj => by
      rw [Nat.zero_add]
      match j with
      | 0 => cases hj; exact hSw.1
      | 1 => cases hj; exact hSw.2)]
    rfl
  try simp only [Act.put, List.getElem_toArray, List.getElem_cons_succ, List.getElem_cons_zero, List.setIfInBounds_toArray, List.set_cons_zero, List.set_cons_succ]
  refine wpAnyH_take (i := 1) (oi := _) (v := ?_) rfl (by kernel_rfl) (by kernel_rfl) (by kernel_rfl) (fun _ _ _ h => h) (Or.inl ⟨by rfl, ?_⟩) (by first | assumption | trivial) ?_
  rotate_left
  · intro w hSw; (try dsimp only at hSw); go_simp; try with_reducible rfl
  try simp only [Act.put, List.getElem_toArray, List.getElem_cons_succ, List.getElem_cons_zero, List.setIfInBounds_toArray, List.set_cons_zero, List.set_cons_succ]
  refine wpAnyH_take (i := 2) (oi := _) (v := .agg #[.string s, .int .i64 p, .int .i64 v]) rfl (by kernel_rfl) (by kernel_rfl) (by kernel_rfl) (fun _ _ _ h => h) (Or.inl ⟨by rfl, ?_⟩) (by first | assumption | trivial) ?_
  · intro w hSw
    try dsimp only at hSw
    exact exec_bld2 (V := .agg #[.string s, .int .i64 p]) (U := .int .i64 v) rfl rfl rfl (bldBd s p v w)
  try simp only [Act.put, List.getElem_toArray, List.getElem_cons_succ, List.getElem_cons_zero, List.setIfInBounds_toArray, List.set_cons_zero, List.set_cons_succ]
  refine wpAnyH_take (i := 4) (oi := _) (v := ?_) rfl (by kernel_rfl) (by kernel_rfl) (by kernel_rfl) (fun _ _ _ h => h) (Or.inl ⟨by rfl, ?_⟩) (by first | assumption | trivial) ?_
  rotate_left
  · intro w hSw; (try dsimp only at hSw); go_simp; try with_reducible rfl
  try simp only [Act.put, List.getElem_toArray, List.getElem_cons_succ, List.getElem_cons_zero, List.setIfInBounds_toArray, List.set_cons_zero, List.set_cons_succ]
  refine wpAnyH_take (i := 5) (oi := _) (v := ?_) rfl (by kernel_rfl) (by kernel_rfl) (by kernel_rfl) (fun _ _ _ h => h) (Or.inl ⟨by rfl, ?_⟩) (by first | assumption | trivial) ?_
  rotate_left
  · intro w hSw; (try dsimp only at hSw); go_simp; try with_reducible rfl
  try simp only [Act.put, List.getElem_toArray, List.getElem_cons_succ, List.getElem_cons_zero, List.setIfInBounds_toArray, List.set_cons_zero, List.set_cons_succ]
  refine wpAnyH_take (i := 6) (oi := _) (v := ?_) rfl (by kernel_rfl) (by kernel_rfl) (by kernel_rfl) (fun _ _ _ h => h) (Or.inl ⟨by rfl, ?_⟩) (by first | assumption | trivial) ?_
  rotate_left
  · intro w hSw; (try dsimp only at hSw); go_simp; try with_reducible rfl
  try simp only [Act.put, List.getElem_toArray, List.getElem_cons_succ, List.getElem_cons_zero, List.setIfInBounds_toArray, List.set_cons_zero, List.set_cons_succ]
  refine wpAnyH_ready (rs := [3]) (by kernel_rfl) (by simp) ?_
  refine AllReadyH.cons (o := _) rfl (fun K hK => ?_) AllReadyH.nil
  obtain ⟨w5, hw5⟩ : ∃ z, w4.alloc (.cells #[.string s, .int .i64 p, .int .i64 v] 167) = z := ⟨_, rfl⟩
  obtain ⟨E5, hE5⟩ : ∃ z, w4.heap.size = z := ⟨_, rfl⟩
  have hown : w5.ownsRow B 167 3 (.slice (some ⟨E5, 0, none⟩) 1 1) 1 [.string s, .int .i64 p, .int .i64 v] := by
    rw [← hw5, ← hE5]
    exact World.ownsRow_lit w4 #[.string s, .int .i64 p, .int .i64 v] 1 (by rw [← HBS.out]; exact HF4.out.size) (by unfold maxLen; omega) rfl
  have f5 : Fr [] w4 w5 := by rw [← hw5]; exact (Fr.refl [] w4).alloc _
  have HE5 := Lib.hid hE5
  split
  rotate_left
  · rename_i hno
    exact absurd rfl hno
  refine wp_vl (v := .slice (some ⟨E5, 0, none⟩) 1 1) (w' := w5) ?_ ?_
  · refine exec_bsl (V := .agg #[.string s, .int .i64 p, .int .i64 v]) rfl rfl ?_
    rw [bslBd, hw5, hE5]
  have HOWN5 := Lib.hid hown
  have HF5 := Lib.hid f5
  clear hw5 hE5 hown f5
  refine hK.out _ _ (⟨HF5.out.keep hHeld.1 (by simp), HF5.out.keep hHeld.2 (by simp)⟩) (fun hHeld => ?_)
  clear hK K
  try simp only [Act.put, List.getElem_toArray, List.getElem_cons_succ, List.getElem_cons_zero, List.setIfInBounds_toArray, List.set_cons_zero, List.set_cons_succ]
  refine wpAnyH_ready (rs := [7]) (by kernel_rfl) (by simp) ?_
  refine AllReadyH.cons (o := _) rfl (fun K hK => ?_) AllReadyH.nil
  split
  rotate_left
  · rename_i hno
    exact absurd rfl hno
  refine wp_append_any elemBd _ _ rfl B (v := .slice (some ⟨E5, 0, none⟩) 1 1) (n := 1) (xs := [.string s, .int .i64 p, .int .i64 v]) rfl HOWN5.out (X := .slice none 0 0) (m := 0) (news := []) rfl (RowV.nil _ _ _ _) (fun u hu => by cases hu) (by omega) (by decide) (by have := HBS.out; have := (HF4.out.step HF5.out).size; omega) ?_
  intro sR w6 ho6 f6
  have HF6 := Lib.hid (show Fr [] w4 w6 from HF5.out.trans f6 (fun x hx hl => by
    simp only [Value.ownBlock, Option.toList_some, List.mem_singleton] at hx
    have := HE5.out
    omega))
  have HO6 := Lib.hid ho6
  clear ho6 f6
  refine hK.out _ _ (⟨HF6.out.keep (HB04.out.at 0 _ rfl) (by simp), HF6.out.keep (HB04.out.at 1 _ rfl) (by simp)⟩) (fun hHeld => ?_)
  clear hK K
  try simp only [Act.put, List.getElem_toArray, List.getElem_cons_succ, List.getElem_cons_zero, List.setIfInBounds_toArray, List.set_cons_zero, List.set_cons_succ]
  refine wpAnyH_take (i := 8) (oi := _) (v := ?_) rfl (by kernel_rfl) (by kernel_rfl) (by kernel_rfl) (fun _ _ _ h => h) (Or.inl ⟨by rfl, ?_⟩) (by first | assumption | trivial) ?_
  rotate_left
  · intro w hSw; (try dsimp only at hSw); go_simp; try with_reducible rfl
  try simp only [Act.put, List.getElem_toArray, List.getElem_cons_succ, List.getElem_cons_zero, List.setIfInBounds_toArray, List.set_cons_zero, List.set_cons_succ]
  refine wpAnyH_done (by kernel_rfl) ?_ _
  clear hHeld
  obtain ⟨w7, hw7⟩ : ∃ z, w6.drew = z := ⟨_, rfl⟩
  have f7 : Fr [] w4 w7 := by rw [← hw7]; exact HF6.out.drew
  have HF7 := Lib.hid (HF4.out.step f7)
  have HB07 := Lib.hid (HB04.out.keep f7 (by simp))
  have HB17 := Lib.hid (HB14.out.keep f7 (by simp))
  have HO7 := Lib.hid (show w7.ownsRow B 167 3 (slv sR) 1 [.string s, .int .i64 p, .int .i64 v] from by
    have h := HO6.out
    rw [← hw7]
    exact rowNew (by simpa using h) ((Fr.refl [] w6).drew))
  have HW7 := Lib.hid hw7
  clear f7 hw7 HF4 HB04 HB14 HO6 HF6 HF5 HOWN5 HE5
  go_upto_region 13 with fail
  refine wp_region_held_drew (S := fun w' => w'.cell? ⟨B, 0, none⟩ = some (.string s) ∧ w'.cell? ⟨B, 1, none⟩ = some (.int .i64 p)) (by kernel_rfl) (by rw [HW7.out]; exact ⟨HB07.out.at 0 _ rfl, HB07.out.at 1 _ rfl⟩) (fun hHeld => ?_)
  rw [HW7.out] at hHeld ⊢
  refine wpAnyH_take (i := 0) (oi := _) (v := ?_) rfl (by kernel_rfl) (by kernel_rfl) (by kernel_rfl) (fun _ _ _ h => h) (Or.inl ⟨by rfl, ?_⟩) (by first | assumption | trivial) ?_
  rotate_left
  · intro w hSw; (try dsimp only at hSw); go_simp; try with_reducible rfl
  try simp only [Act.put, List.getElem_toArray, List.getElem_cons_succ, List.getElem_cons_zero, List.setIfInBounds_toArray, List.set_cons_zero, List.set_cons_succ]
  refine wpAnyH_take (i := 1) (oi := _) (v := ?_) rfl (by kernel_rfl) (by kernel_rfl) (by kernel_rfl) (fun _ _ _ h => h) (Or.inl ⟨by rfl, ?_⟩) (by first | assumption | trivial) ?_
  rotate_left
  · intro w hSw; (try dsimp only at hSw); go_simp; try with_reducible rfl
  try simp only [Act.put, List.getElem_toArray, List.getElem_cons_succ, List.getElem_cons_zero, List.setIfInBounds_toArray, List.set_cons_zero, List.set_cons_succ]
  refine wpAnyH_take (i := 2) (oi := _) (v := ?_) rfl (by kernel_rfl) (by kernel_rfl) (by kernel_rfl) (fun _ _ _ h => h) (Or.inl ⟨by rfl, ?_⟩) (by first | assumption | trivial) ?_
  rotate_left
  · intro w hSw; (try dsimp only at hSw); go_simp; try with_reducible rfl
  try simp only [Act.put, List.getElem_toArray, List.getElem_cons_succ, List.getElem_cons_zero, List.setIfInBounds_toArray, List.set_cons_zero, List.set_cons_succ]
  refine wpAnyH_take (i := 4) (oi := _) (v := ?_) rfl (by kernel_rfl) (by kernel_rfl) (by kernel_rfl) (fun _ _ _ h => h) (Or.inl ⟨by rfl, ?_⟩) (by first | assumption | trivial) ?_
  rotate_left
  · intro w hSw; (try dsimp only at hSw); go_simp; try with_reducible rfl
  try simp only [Act.put, List.getElem_toArray, List.getElem_cons_succ, List.getElem_cons_zero, List.setIfInBounds_toArray, List.set_cons_zero, List.set_cons_succ]
  refine wpAnyH_take (i := 6) (oi := _) (v := .agg #[.string s, .int .i64 p]) rfl (by kernel_rfl) (by kernel_rfl) (by kernel_rfl) (fun _ _ _ h => h) (Or.inl ⟨by rfl, ?_⟩) (by first | assumption | trivial) ?_
  · intro w hSw
    try dsimp only at hSw
    show Sem.run Tryz.prog ((Instr.loadAt 28 (.pointer (some ⟨B, 0, none⟩))) >>= fun x => pure (Next.value x)) w = _
    rw [Sem.run_bind, load_all agg28 size28 (xs := [.string s, .int .i64 p]) rfl (fun j u hj => by
      rw [Nat.zero_add]
      match j with
      | 0 => cases hj; exact hSw.1
      | 1 => cases hj; exact hSw.2)]
    rfl
  try simp only [Act.put, List.getElem_toArray, List.getElem_cons_succ, List.getElem_cons_zero, List.setIfInBounds_toArray, List.set_cons_zero, List.set_cons_succ]
  refine wpAnyH_ready (rs := [3]) (by kernel_rfl) (by simp) ?_
  refine AllReadyH.cons (o := _) rfl (fun K hK => ?_) AllReadyH.nil
  split
  rotate_left
  · rename_i hno
    exact absurd rfl hno
  refine wp_append_any elemBd _ _ rfl B (v := .slice none 0 0) (n := 0) (xs := []) rfl (World.ownsRow_nil _ _ _ _) (X := .slice none 0 0) (m := 0) (news := []) rfl (RowV.nil _ _ _ _) (fun u hu => by cases hu) (by omega) (by decide) (by have := HBS.out; have := HF7.out.size; omega) ?_
  intro sT w8 ho8 f8
  have f8 : Fr [] w7 w8 := f8
  have HF8 := Lib.hid (HF7.out.step f8)
  have HB08 := Lib.hid (HB07.out.keep f8 (by simp))
  have HB18 := Lib.hid (HB17.out.keep f8 (by simp))
  have HO8 := Lib.hid ho8
  have HP8 := Lib.hid (rowNew HO7.out f8)
  clear ho8 f8
  refine hK.out _ _ (⟨HB08.out.at 0 _ rfl, HB08.out.at 1 _ rfl⟩) (fun hHeld => ?_)
  clear hK K
  try simp only [Act.put, List.getElem_toArray, List.getElem_cons_succ, List.getElem_cons_zero, List.setIfInBounds_toArray, List.set_cons_zero, List.set_cons_succ]
  refine wpAnyH_ready (rs := [5]) (by kernel_rfl) (by simp) ?_
  refine AllReadyH.cons (o := _) rfl (fun K hK => ?_) AllReadyH.nil
  split
  rotate_left
  · rename_i hno
    exact absurd rfl hno
  refine wp_append_any elemBd _ _ rfl B (v := slv sT) (n := 0 + 0) (xs := [] ++ []) rfl HO8.out (X := slv sR) (m := 1) (news := [.string s, .int .i64 p, .int .i64 v]) rfl (RowV.of_own HP8.out) (by intro u hu; simp only [List.mem_cons, List.not_mem_nil, or_false] at hu; rcases hu with rfl | rfl | rfl <;> rfl) (by omega) (by decide) (by have := HBS.out; have := HF8.out.size; omega) ?_
  intro sU w9 ho9 f9
  have HB09 := Lib.hid (HB08.out.farRow HO8.out f9 (by decide))
  have HB19 := Lib.hid (HB18.out.farRow HO8.out f9 (by decide))
  have HF9 := Lib.hid (HF8.out.ownRow HO8.out f9 (by rw [HBS.out]; exact Nat.le_refl _))
  clear ho9 f9
  refine hK.out _ _ (⟨HB09.out.at 0 _ rfl, HB09.out.at 1 _ rfl⟩) (fun hHeld => ?_)
  clear hK K
  try simp only [Act.put, List.getElem_toArray, List.getElem_cons_succ, List.getElem_cons_zero, List.setIfInBounds_toArray, List.set_cons_zero, List.set_cons_succ]
  refine wpAnyH_take (i := 7) (oi := _) (v := ?_) rfl (by kernel_rfl) (by kernel_rfl) (by kernel_rfl) (fun _ _ _ h => h) (Or.inl ⟨by rfl, ?_⟩) (by first | assumption | trivial) ?_
  rotate_left
  · intro w hSw; (try dsimp only at hSw); go_simp; try with_reducible rfl
  try simp only [Act.put, List.getElem_toArray, List.getElem_cons_succ, List.getElem_cons_zero, List.setIfInBounds_toArray, List.set_cons_zero, List.set_cons_succ]
  refine wpAnyH_ready (rs := [8]) (by kernel_rfl) (by simp) ?_
  refine AllReadyH.cons (o := _) rfl (fun K hK => ?_) AllReadyH.nil
  obtain ⟨w10, hst, hb_, hf_⟩ := store_all (t := 28) [.string s, .int .i64 p] size28 rfl (by intro u hu; simp only [List.mem_cons, List.not_mem_nil, or_false] at hu; rcases hu with rfl | rfl <;> rfl) HB19.out rfl
  split
  rotate_left
  · rename_i hno
    exact absurd rfl hno
  refine wp_skp (w' := w10) ?_ ?_
  · show Sem.run Tryz.prog ((Instr.storeAt 28 (.pointer (some ⟨B + 1, 0, none⟩)) (.agg [.string s, .int .i64 p].toArray)) >>= fun _ => pure Next.skip) _ = _
    rw [Sem.run_bind, hst]
    rfl
  clear hst
  have HB110 := Lib.hid hb_
  have HF10 := Lib.hid (HF9.out.own1 (S := []) (B := 0) hf_ (by have := HBS.out; omega))
  have HS10 := Lib.hid (show _ ∧ _ from ⟨(HB09.out.keep hf_ (by simp)).at 0 _ rfl, (HB09.out.keep hf_ (by simp)).at 1 _ rfl⟩)
  clear hb_ hf_
  refine hK.out _ _ (HS10.out) (fun hHeld => ?_)
  clear hK K
  try simp only [Act.put, List.getElem_toArray, List.getElem_cons_succ, List.getElem_cons_zero, List.setIfInBounds_toArray, List.set_cons_zero, List.set_cons_succ]
  refine wpAnyH_take (i := 9) (oi := _) (v := ?_) rfl (by kernel_rfl) (by kernel_rfl) (by kernel_rfl) (fun _ _ _ h => h) (Or.inl ⟨by rfl, ?_⟩) (by first | assumption | trivial) ?_
  rotate_left
  · intro w hSw; (try dsimp only at hSw); go_simp; try with_reducible rfl
  try simp only [Act.put, List.getElem_toArray, List.getElem_cons_succ, List.getElem_cons_zero, List.setIfInBounds_toArray, List.set_cons_zero, List.set_cons_succ]
  refine wpAnyH_done (by kernel_rfl) ?_ _
  clear hHeld
  go_wp2
  have hl := load_var agg28 size28 (xs := [.string s, .int .i64 p]) rfl HB110.out.at
  refine bodyPost_ret (v := .tuple #[slv sU, .agg [.string s, .int .i64 p].toArray, .int .i64 0]) (by simp [results, Tryz.results46, as_addr, hl]) rfl ?_
  exact ⟨⟨_, rfl⟩, HF10.out⟩
end Go.Proofs.YtmdhlodafjpnmaaGreat
