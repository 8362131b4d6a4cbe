/- An engine of one task, made. -/
import Derived.Test.YtemihaijhcpnfaaGreatDoorE6
import Derived.Laws.CopyRow
namespace Go.Proofs.YtemihaijhcpnfaaGreatDoor
open Go.RowKit
open Go.Maps (Keyed)
set_option linter.unusedVariables false
set_option linter.unusedSimpArgs false
set_option maxRecDepth 100000
set_option maxHeartbeats 8000000

theorem mul1 (w : World) : Calls Tryz.prog 169 #[.int .u64 1, .int .u64 1] w fun e w' => e = .returned (.tuple #[.int .u64 0, .int .u64 1]) ∧ w = w' := by
  have h6 : ∀ W, Calls Tryz.prog 266 #[.int .u64 1, .int .u64 1] W fun e w' => e = .returned (.tuple #[.int .u64 0, .int .u64 1]) ∧ W = w' := by
    intro W
    go_enter Tryz.func266, Tryz.ntmps266
    go_wp2
    go_ret2
    exact ⟨rfl, rfl⟩
  go_enter Tryz.func169, Tryz.ntmps169
  go_wp2_with (go_at_call 266; refine (h6 _).mono ?_; rintro e w' ⟨rfl, rfl⟩)
  go_ret2
  exact ⟨rfl, rfl⟩
theorem mkCell : ∀ w : World, (Instr.makeSlice 29 (.int .i64 1) (.int .i64 1)).run Tryz.prog w = .ok (.slice (some ⟨w.heap.size, 0, none⟩) 1 1) (w.alloc (.cells cell0.toArray 90)) := fun w => by kernel_rfl
theorem copyCell {w : World} {g E : Nat} (ty : TypeId) (hg : Blk w g 90 cell0) (hE : Blk w E 90 cellZ) :
    ∃ w', (Builtin.copy_ #[29, 29] ty #[.slice (some ⟨g, 0, none⟩) 1 1, .slice (some ⟨E, 0, none⟩) 1 1]).run Tryz.prog w = .ok (goInt 1) w' ∧ Blk w' g 90 cellZ ∧ Fr [g] w w' := by
  have hl := run_loadCells_list (P := Tryz.prog) w ⟨E, 0, none⟩ cellZ (fun j v hj => by rw [Addr.add_lit]; exact hE.at j v hj)
  have hst := run_storeCells_at Tryz.prog g 0 90 cellZ 0 cell0.toArray w hg (by decide) cellZ_one
  have hr : (List.take (0 + 0) cell0.toArray.toList ++ cellZ ++ List.drop (0 + 0 + cellZ.length) cell0.toArray.toList).toArray = cellZ.toArray := rfl
  rw [hr] at hst
  have hS := sizeCe
  have hl' : (loadCells ⟨E, 0, none⟩ 20).run Tryz.prog w = .ok cellZ.toArray w := hl
  refine ⟨_, ?_, setRow_heap w g cell0.toArray _ _ _ hg, ⟨rfl, rfl, rfl, by simp [World.setRow], fun k hk hn => setRow_other w g k _ (by simpa using hn)⟩⟩
  simp [Builtin.copy_, run_underlying Tryz.underlying29, Builtin.lenOf, Builtin.firstCells, hS, hl', hst]
theorem repeat_z (E : Nat) (w : World) (h : Blk w E 90 cellZ) : Calls Tryz.prog 77 #[.slice (some ⟨E, 0, none⟩) 1 1, .int .i64 1] w fun e w' => ∃ T, e = .returned (.slice (some ⟨T, 0, none⟩) 1 1) ∧ Blk w' T 90 cellZ ∧ Fr [] w w' := by
  have HE := Lib.hid h
  have hmk := mkCell
  clear h
  go_enter Tryz.func77, Tryz.ntmps77
  go_wp2_with fail
  refine (mul1 _).mono ?_
  rintro e w' ⟨rfl, rfl⟩
  go_upto_region 7 with fail
  obtain ⟨g, hg⟩ : ∃ z, w.heap.size = z := ⟨_, rfl⟩
  obtain ⟨w1, hw1⟩ : ∃ z, w.alloc (.cells cell0.toArray 90) = z := ⟨_, rfl⟩
  have hb1 : Blk w1 g 90 cell0 := by rw [← hw1, ← hg]; exact Blk.made w _ _
  have f1 : Fr [] w w1 := by rw [← hw1]; exact (Fr.refl [] w).alloc _
  rw [hw1]
  simp only [hg]
  obtain ⟨w2, hcp, hb2, f2⟩ := copyCell 3 hb1 (HE.out.keep f1 (by simp))
  have HB2 := Lib.hid hb2
  have HF2 := Lib.hid (f1.own1 (S := []) (B := 0) f2 (by omega))
  clear hb1 f1 hb2 f2 hw1 hg hmk
  go_wp2
  refine wp_loop_rounds 1 ?_
  rw [rounds_succ]
  go_wp2
  go_ret
  exact ⟨g, rfl, HB2.out, HF2.out⟩
section
variable {P : Program} {o : Oper} {a : Act} {w w' : World} {v : Value}
theorem exec_bld1 {t : TypeId} {k : Nat} {x : Operand} {V : Value} (ho : o.op = .build t #[(k, x)]) (hx : a.eval x = V) (hrun : (Instr.build t #[(k, V)]).run P w = .ok v w') : (execOp a.eval o).run P w = .ok (.value v) w' := by
  simp [execOp, ho, hx, hrun]
theorem exec_bld4 {t : TypeId} {k0 k1 k2 k3 : Nat} {x0 x1 x2 x3 : Operand} {v0 v1 v2 v3 : Value} (ho : o.op = .build t #[(k0, x0), (k1, x1), (k2, x2), (k3, x3)]) (h0 : a.eval x0 = v0) (h1 : a.eval x1 = v1) (h2 : a.eval x2 = v2) (h3 : a.eval x3 = v3) (hrun : (Instr.build t #[(k0, v0), (k1, v1), (k2, v2), (k3, v3)]).run P w = .ok v w') : (execOp a.eval o).run P w = .ok (.value v) w' := by
  simp [execOp, ho, h0, h1, h2, h3, hrun]
end
def engC (T m n : Nat) : List Value := [.slice none 0 0, .slice none 0 0, .int .u64 3, .slice (some ⟨T, 0, none⟩) 1 1, .slice none 0 0, .map (some m), .pointer (some ⟨n, 0, none⟩)]
theorem bldCe : ∀ w, (Instr.build 90 #[(6, .agg #[.int .i64 (-1), .int .i64 0])]).run Tryz.prog w = .ok (.agg cellZ.toArray) w := fun w => by kernel_rfl
theorem bldEn (T m n : Nat) : ∀ w, (Instr.build 62 #[(1, .int .u64 3), (2, .slice (some ⟨T, 0, none⟩) 1 1), (4, .map (some m)), (5, .pointer (some ⟨n, 0, none⟩))]).run Tryz.prog w = .ok (.agg (engC T m n).toArray) w := fun w => by kernel_rfl
/-- An engine of one task that does nothing, at the time 3. -/
def EngZ (w : World) (e : Nat) : Prop := ∃ T m n r rm lm cm, Blk w e 62 (engC T m n) ∧ Blk w T 90 cellZ ∧ MapIs Tryz.prog 87 w m [] ∧ Net0 w n r rm lm cm
theorem EngZ.new {w w' : World} {e : Nat} (h : EngZ w e) (f : Fr [] w w') : EngZ w' e := by
  obtain ⟨T, m, n, r, rm, lm, cm, h1, h2, h3, h4⟩ := h
  exact ⟨T, m, n, r, rm, lm, cm, h1.keep f (by simp), h2.keep f (by simp), h3.keep f (by simp), h4.new f⟩
theorem engNew_z (w : World) (hE : EnvE w) : Calls Tryz.prog 31 #[.int .i64 1, .int .u64 3] w fun e w' => ∃ en, e = .returned (.tuple #[.pointer (some ⟨en, 0, none⟩), .int .i64 0]) ∧ EngZ w' en ∧ Fr [] w w' := by
  have hmm := @run_makeMap Tryz.prog
  have HE := Lib.hid hE
  clear hE
  go_enter Tryz.func31, Tryz.ntmps31
  go_upto_region 3 with fail
  refine wp_region_lit ?_
  refine wpList_plain rfl (fun K hK => ?_)
  go_simp
  refine hK _ _ ?_
  clear hK K
  try simp only [Act.put, List.getElem_toArray, List.getElem_cons_succ, List.getElem_cons_zero, List.setIfInBounds_toArray, List.set_cons_zero, List.set_cons_succ]
  refine wpList_val rfl (v := .agg ([.int .i64 (-1), .int .i64 0]).toArray) (w' := w) ?_ ?_
  · show Sem.run Tryz.prog ((Instr.loadAt 87 (.pointer (some ⟨0, 0, none⟩))) >>= fun x => pure (Next.value x)) w = _
    rw [Sem.run_bind, load_all aggSp sizeSp (xs := [.int .i64 (-1), .int .i64 0]) rfl HE.out]
    rfl
  try simp only [Act.put, List.getElem_toArray, List.getElem_cons_succ, List.getElem_cons_zero, List.setIfInBounds_toArray, List.set_cons_zero, List.set_cons_succ]
  refine wpList_val rfl (v := .agg cellZ.toArray) (w' := w) (exec_bld1 (V := .agg #[.int .i64 (-1), .int .i64 0]) rfl rfl (bldCe w)) ?_
  try simp only [Act.put, List.getElem_toArray, List.getElem_cons_succ, List.getElem_cons_zero, List.setIfInBounds_toArray, List.set_cons_zero, List.set_cons_succ]
  obtain ⟨w1, hw1⟩ : ∃ z, w.alloc (.cells cellZ.toArray 90) = z := ⟨_, rfl⟩
  obtain ⟨E1, hE1⟩ : ∃ z, w.heap.size = z := ⟨_, rfl⟩
  have hb1 : Blk w1 E1 90 cellZ := by rw [← hw1, ← hE1]; exact Blk.made w _ _
  have f1 : Fr [] w w1 := by rw [← hw1]; exact (Fr.refl [] w).alloc _
  refine wpList_val rfl (v := .slice (some ⟨E1, 0, none⟩) 1 1) (w' := w1) ?_ ?_
  · refine exec_bsl (V := .agg cellZ.toArray) rfl rfl ?_
    rw [bslCe, hw1, hE1]
  try simp only [Act.put, List.getElem_toArray, List.getElem_cons_succ, List.getElem_cons_zero, List.setIfInBounds_toArray, List.set_cons_zero, List.set_cons_succ]
  refine wpList_plain rfl (fun K hK => ?_)
  go_simp
  refine hK _ _ ?_
  clear hK K
  try simp only [Act.put, List.getElem_toArray, List.getElem_cons_succ, List.getElem_cons_zero, List.setIfInBounds_toArray, List.set_cons_zero, List.set_cons_succ]
  refine wpList_plain rfl (fun K hK => ?_)
  go_simp
  refine (repeat_z _ _ hb1).mono ?_
  rintro e w2 ⟨T, rfl, hT, f2⟩
  refine hK _ _ ?_
  clear hK K
  try simp only [Act.put, List.getElem_toArray, List.getElem_cons_succ, List.getElem_cons_zero, List.setIfInBounds_toArray, List.set_cons_zero, List.set_cons_succ]
  have HT2 := Lib.hid hT
  have HF2 := Lib.hid (f1.step f2)
  clear hT f1 f2 hw1 hE1 hb1
  refine wpList_plain rfl (fun K hK => ?_)
  go_simp
  refine hK _ _ ?_
  clear hK K
  try simp only [Act.put, List.getElem_toArray, List.getElem_cons_succ, List.getElem_cons_zero, List.setIfInBounds_toArray, List.set_cons_zero, List.set_cons_succ]
  obtain ⟨w3, hw3⟩ : ∃ z, w2.alloc (.map #[] 0) = z := ⟨_, rfl⟩
  obtain ⟨m, hm⟩ : ∃ z, w2.heap.size = z := ⟨_, rfl⟩
  have hb3 : MapIs Tryz.prog 87 w3 m [] := by rw [← hw3, ← hm]; exact MapIs.made _ _ w2
  have f3 : Fr [] w2 w3 := by rw [← hw3]; exact (Fr.refl [] w2).alloc _
  rw [hw3]
  simp only [hm]
  have HT3 := Lib.hid (HT2.out.keep f3 (by simp))
  have HF3 := Lib.hid (HF2.out.step f3)
  have HM3 := Lib.hid hb3
  clear hw3 hm hb3 f3
  refine wpList_plain rfl (fun K hK => ?_)
  go_simp
  refine (netNew0 _).mono ?_
  rintro e w4 ⟨n, r, rm, lm, cm, rfl, hn, f4⟩
  refine hK _ _ ?_
  clear hK K
  try simp only [Act.put, List.getElem_toArray, List.getElem_cons_succ, List.getElem_cons_zero, List.setIfInBounds_toArray, List.set_cons_zero, List.set_cons_succ]
  have HT4 := Lib.hid (HT3.out.keep f4 (by simp))
  have HF4 := Lib.hid (HF3.out.step f4)
  have HM4 := Lib.hid (HM3.out.keep f4 (by simp))
  have HN4 := Lib.hid hn
  clear hn f4
  refine wpList_val rfl (v := .agg (engC T m n).toArray) (w' := w4) (exec_bld4 (v0 := .int .u64 3) (v1 := .slice (some ⟨T, 0, none⟩) 1 1) (v2 := .map (some m)) (v3 := .pointer (some ⟨n, 0, none⟩)) rfl rfl rfl rfl rfl (bldEn T m n w4)) ?_
  try simp only [Act.put, List.getElem_toArray, List.getElem_cons_succ, List.getElem_cons_zero, List.setIfInBounds_toArray, List.set_cons_zero, List.set_cons_succ]
  refine wpList_plain rfl (fun K hK => ?_)
  go_simp
  refine hK _ _ ?_
  clear hK K
  try simp only [Act.put, List.getElem_toArray, List.getElem_cons_succ, List.getElem_cons_zero, List.setIfInBounds_toArray, List.set_cons_zero, List.set_cons_succ]
  obtain ⟨w5, hw5⟩ : ∃ z, w4.alloc (.cells (engC T m n).toArray 62) = z := ⟨_, rfl⟩
  obtain ⟨en, hen⟩ : ∃ z, w4.heap.size = z := ⟨_, rfl⟩
  have hb5 : Blk w5 en 62 (engC T m n) := by rw [← hw5, ← hen]; exact Blk.made w4 _ _
  have f5 : Fr [] w4 w5 := by rw [← hw5]; exact (Fr.refl [] w4).alloc _
  rw [hw5]
  simp only [hen]
  have HX := Lib.hid (show EngZ w5 en from ⟨T, m, n, r, rm, lm, cm, hb5, HT4.out.keep f5 (by simp), HM4.out.keep f5 (by simp), HN4.out.new f5⟩)
  have HF5 := Lib.hid (HF4.out.step f5)
  clear hw5 hen hb5 f5
  refine wpList_plain rfl (fun K hK => ?_)
  go_simp
  refine hK _ _ ?_
  clear hK K
  refine wpList_plain rfl (fun K hK => ?_)
  go_simp
  refine hK _ _ ?_
  clear hK K
  refine wpList_nil ?_
  try simp only [Act.put, List.getElem_toArray, List.getElem_cons_succ, List.getElem_cons_zero, List.setIfInBounds_toArray, List.set_cons_zero, List.set_cons_succ]
  go_wp2
  go_ret2
  exact ⟨en, rfl, HX.out, HF5.out⟩
end Go.Proofs.YtemihaijhcpnfaaGreatDoor
