/- The snapshot's writer: an address and a call that are empty, the state of a machine whose one task does nothing. -/
import Derived.Test.YtemihaijhcpnfaaGreatDoorE2
import Derived.Lib.ConvBytes
import Derived.Deep.RegionHeld3
namespace Go.Proofs.YtemihaijhcpnfaaGreatDoor
open Go.RowKit
set_option linter.unusedVariables false
set_option linter.unusedSimpArgs false
set_option maxRecDepth 100000
set_option maxHeartbeats 8000000

theorem bslI1 (z0 : Int) : ∀ w : World, (Instr.buildSlice 30 1 #[(0, .int .i64 z0)]).run Tryz.prog w = .ok (.slice (some ⟨w.heap.size, 0, none⟩) 1 1) (w.alloc (.cells #[.int .i64 z0] 3)) := fun w => by kernel_rfl
theorem bslI2 (z0 z1 : Int) : ∀ w : World, (Instr.buildSlice 30 2 #[(0, .int .i64 z0), (1, .int .i64 z1)]).run Tryz.prog w = .ok (.slice (some ⟨w.heap.size, 0, none⟩) 2 2) (w.alloc (.cells #[.int .i64 z0, .int .i64 z1] 3)) := fun w => by kernel_rfl
theorem bslI3 (z0 z1 z2 : Int) : ∀ w : World, (Instr.buildSlice 30 3 #[(0, .int .i64 z0), (1, .int .i64 z1), (2, .int .i64 z2)]).run Tryz.prog w = .ok (.slice (some ⟨w.heap.size, 0, none⟩) 3 3) (w.alloc (.cells #[.int .i64 z0, .int .i64 z1, .int .i64 z2] 3)) := fun w => by kernel_rfl
theorem bslI4 (z0 z1 z2 z3 : Int) : ∀ w : World, (Instr.buildSlice 30 4 #[(0, .int .i64 z0), (1, .int .i64 z1), (2, .int .i64 z2), (3, .int .i64 z3)]).run Tryz.prog w = .ok (.slice (some ⟨w.heap.size, 0, none⟩) 4 4) (w.alloc (.cells #[.int .i64 z0, .int .i64 z1, .int .i64 z2, .int .i64 z3] 3)) := fun w => by kernel_rfl
theorem bslI5 (z0 z1 z2 z3 z4 : Int) : ∀ w : World, (Instr.buildSlice 30 5 #[(0, .int .i64 z0), (1, .int .i64 z1), (2, .int .i64 z2), (3, .int .i64 z3), (4, .int .i64 z4)]).run Tryz.prog w = .ok (.slice (some ⟨w.heap.size, 0, none⟩) 5 5) (w.alloc (.cells #[.int .i64 z0, .int .i64 z1, .int .i64 z2, .int .i64 z3, .int .i64 z4] 3)) := fun w => by kernel_rfl
theorem bslB1 (b : Bool) : ∀ w : World, (Instr.buildSlice 265 1 #[(0, .bool b)]).run Tryz.prog w = .ok (.slice (some ⟨w.heap.size, 0, none⟩) 1 1) (w.alloc (.cells #[.bool b] 4)) := fun w => by kernel_rfl
section
variable {P : Program} {o : Oper} {a : Act} {w w' : World} {v : Value}
theorem exec_bsl2 {t : TypeId} {x0 x1 : Operand} {V0 V1 : Value} (ho : o.op = .buildSlice t 2 #[(0, x0), (1, x1)]) (h0 : a.eval x0 = V0) (h1 : a.eval x1 = V1) (hrun : (Instr.buildSlice t 2 #[(0, V0), (1, V1)]).run P w = .ok v w') : (execOp a.eval o).run P w = .ok (.value v) w' := by
  simp [execOp, ho, h0, h1, hrun]
theorem exec_bsl3 {t : TypeId} {x0 x1 x2 : Operand} {V0 V1 V2 : Value} (ho : o.op = .buildSlice t 3 #[(0, x0), (1, x1), (2, x2)]) (h0 : a.eval x0 = V0) (h1 : a.eval x1 = V1) (h2 : a.eval x2 = V2) (hrun : (Instr.buildSlice t 3 #[(0, V0), (1, V1), (2, V2)]).run P w = .ok v w') : (execOp a.eval o).run P w = .ok (.value v) w' := by
  simp [execOp, ho, h0, h1, h2, hrun]
theorem exec_bsl4 {t : TypeId} {x0 x1 x2 x3 : Operand} {V0 V1 V2 V3 : Value} (ho : o.op = .buildSlice t 4 #[(0, x0), (1, x1), (2, x2), (3, x3)]) (h0 : a.eval x0 = V0) (h1 : a.eval x1 = V1) (h2 : a.eval x2 = V2) (h3 : a.eval x3 = V3) (hrun : (Instr.buildSlice t 4 #[(0, V0), (1, V1), (2, V2), (3, V3)]).run P w = .ok v w') : (execOp a.eval o).run P w = .ok (.value v) w' := by
  simp [execOp, ho, h0, h1, h2, h3, hrun]
theorem exec_bsl5 {t : TypeId} {x0 x1 x2 x3 x4 : Operand} {V0 V1 V2 V3 V4 : Value} (ho : o.op = .buildSlice t 5 #[(0, x0), (1, x1), (2, x2), (3, x3), (4, x4)]) (h0 : a.eval x0 = V0) (h1 : a.eval x1 = V1) (h2 : a.eval x2 = V2) (h3 : a.eval x3 = V3) (h4 : a.eval x4 = V4) (hrun : (Instr.buildSlice t 5 #[(0, V0), (1, V1), (2, V2), (3, V3), (4, V4)]).run P w = .ok v w') : (execOp a.eval o).run P w = .ok (.value v) w' := by
  simp [execOp, ho, h0, h1, h2, h3, h4, hrun]
end
theorem Buf.ne {B p : Nat} {s : Sli} {bs : List UInt8} {w : World} {v : Nat} {t : TypeId} {xs : List Value} (h : Buf B w p s bs) (hb : Blk w v t xs) (ht : t ≠ 109) : v ≠ p := by
  intro e
  subst e
  have h1 := h.blk
  unfold Blk at h1 hb
  rw [hb] at h1
  simp only [Option.some.injEq, Obj.cells.injEq] at h1
  exact ht h1.2.1
theorem wp_vl {P : Program} {o : Oper} {a : Act} {w w' : World} {Q : Exit → Act → World → Prop} {K : Act → World → Prop} {v : Value} (hrun : (execOp a.eval o).run P w = .ok (.value v) w') (hK : K (a.put o.dst v) w') : o.wp P a w K Q := by
  unfold Oper.wp
  rw [hrun]
  exact hK
theorem exec_conv {P : Program} {o : Oper} {a : Act} {w w' : World} {v : Value} {s d : TypeId} {x : Operand} {X : Value} (ho : o.op = .convert s d x) (hx : a.eval x = X) (hrun : (convert s d X).run P w = .ok v w') : (execOp a.eval o).run P w = .ok (.value v) w' := by
  simp [execOp, ho, hx, hrun]
theorem convEmpty (w : World) : ∃ c w', (convert 9 22 (.string ⟨#[]⟩)).run Tryz.prog w = .ok (.slice (some ⟨w.heap.size, 0, none⟩) 0 c) w' ∧ Fr [] w w' :=
  ⟨_, _, Lib.run_convert_string_bytes w _ _ 5 ⟨#[]⟩ Tryz.underlying9 Tryz.underlying22 Tryz.underlying5,
    ⟨rfl, rfl, rfl, by rw [Lib.bytesWorld_size]; omega, fun k hk _ => Lib.bytesWorld_at_old _ _ _ k hk⟩⟩
theorem addr_z {B p : Nat} {s : Sli} {bs : List UInt8} (w : World) (h : Buf B w p s bs) (hn : bs.length ≤ 80000) :
    Calls Tryz.prog 89 #[.pointer (some ⟨p, 0, none⟩), .agg #[.string ⟨#[]⟩, .int .i64 0]] w (BufOut B w p (bs ++ [0, 0])) := by
  obtain ⟨M, hV⟩ : ∃ z, w.heap.size = z := ⟨_, rfl⟩
  obtain ⟨w0, hw0⟩ : ∃ z, w.alloc (.cells ([.string ⟨#[]⟩, .int .i64 0] : List Value).toArray 73) = z := ⟨_, rfl⟩
  have hv0 : Blk w0 M 73 [.string ⟨#[]⟩, .int .i64 0] := by rw [← hw0, ← hV]; exact Blk.made w _ _
  have f0 : Fr [] w w0 := by rw [← hw0]; exact (Fr.refl [] w).alloc _
  have HB0 := Lib.hid (h.new f0)
  have HK0 := Lib.hid (Kp.of (B := B) (p := p) f0)
  have HM0 := Lib.hid hv0
  have HV := Lib.hid hV
  have HW0 := Lib.hid hw0
  clear hV hw0 hv0 f0 h
  go_enter Tryz.func89, Tryz.ntmps89
  go_upto_region 1 with fail
  simp only [HV.out]
  rw [show w.alloc (.cells #[.string ⟨#[]⟩, .int .i64 0] 73) = w0 from HW0.out]
  obtain ⟨w1, hwd⟩ : ∃ z, w0.drew = z := ⟨_, rfl⟩
  have fd : Fr [] w0 w1 := by rw [← hwd]; exact (Fr.refl [] w0).drew
  have HB1 := Lib.hid (HB0.out.new fd)
  have HK1 := Lib.hid (HK0.out.trans (Kp.of fd))
  have HM1 := Lib.hid (HM0.out.keep fd (by simp))
  have HWD := Lib.hid hwd
  clear fd hwd
  refine wp_region_held_drew (S := fun W => W.cell? ⟨M, 0, none⟩ = some (.string ⟨#[]⟩)) (by kernel_rfl) (by rw [HWD.out]; exact HM1.out.at 0 _ rfl) (fun hHeld => ?_)
  rw [HWD.out] at hHeld ⊢
  refine wpAnyH_take (i := 0) (oi := _) (v := ?_) rfl (by kernel_rfl) (by kernel_rfl) (by kernel_rfl) (fun _ _ _ h => h) (Or.inl ⟨by rfl, ?_⟩) (by first | assumption | trivial) ?_
  rotate_left
  · intro w hSw
    try dsimp only at hSw
    go_simp
    try with_reducible rfl
  try simp only [Act.put, List.getElem_toArray, List.getElem_cons_succ, List.getElem_cons_zero, List.setIfInBounds_toArray, List.set_cons_zero, List.set_cons_succ]
  refine wpAnyH_take (i := 1) (oi := _) (v := ?_) rfl (by kernel_rfl) (by kernel_rfl) (by kernel_rfl) (fun _ _ _ h => h) (Or.inl ⟨by rfl, ?_⟩) (by first | assumption | trivial) ?_
  rotate_left
  · intro w hSw
    try dsimp only at hSw
    go_simp
    try with_reducible rfl
  try simp only [Act.put, List.getElem_toArray, List.getElem_cons_succ, List.getElem_cons_zero, List.setIfInBounds_toArray, List.set_cons_zero, List.set_cons_succ]
  refine wpAnyH_take (i := 2) (oi := _) (v := ?_) rfl (by kernel_rfl) (by kernel_rfl) (by kernel_rfl) (fun _ _ _ h => h) (Or.inl ⟨by rfl, ?_⟩) (by first | assumption | trivial) ?_
  rotate_left
  · intro w hSw
    try dsimp only at hSw
    go_simp
    try with_reducible rfl
  try simp only [Act.put, List.getElem_toArray, List.getElem_cons_succ, List.getElem_cons_zero, List.setIfInBounds_toArray, List.set_cons_zero, List.set_cons_succ]
  refine wpAnyH_take (i := 3) (oi := _) (v := ?_) rfl (by kernel_rfl) (by kernel_rfl) (by kernel_rfl) (fun _ _ _ h => h) (Or.inl ⟨by rfl, ?_⟩) (by first | assumption | trivial) ?_
  rotate_left
  · intro w hSw
    try dsimp only at hSw
    go_simp
    try with_reducible rfl
  try simp only [Act.put, List.getElem_toArray, List.getElem_cons_succ, List.getElem_cons_zero, List.setIfInBounds_toArray, List.set_cons_zero, List.set_cons_succ]
  refine wpAnyH_take (i := 4) (oi := _) (v := ?_) rfl (by kernel_rfl) (by kernel_rfl) (by kernel_rfl) (fun _ _ _ h => h) (Or.inl ⟨by rfl, ?_⟩) (by first | assumption | trivial) ?_
  rotate_left
  · intro w hSw
    try dsimp only at hSw
    go_simp
    try with_reducible rfl
  try simp only [Act.put, List.getElem_toArray, List.getElem_cons_succ, List.getElem_cons_zero, List.setIfInBounds_toArray, List.set_cons_zero, List.set_cons_succ]
  refine wpAnyH_ready (rs := [5]) (by kernel_rfl) (by simp) ?_
  refine AllReadyH.cons (o := _) rfl (fun K hK => ?_) AllReadyH.nil
  split
  rotate_left
  · rename_i hno
    exact absurd rfl hno
  obtain ⟨cv, w2, hcv, fcv⟩ := convEmpty w1
  obtain ⟨Ec, hEc⟩ : ∃ z, w1.heap.size = z := ⟨_, rfl⟩
  rw [hEc] at hcv
  refine wp_vl (v := .slice (some ⟨Ec, 0, none⟩) 0 cv) (w' := w2) (exec_conv rfl rfl hcv) ?_
  have HB2 := Lib.hid (HB1.out.new fcv)
  have HK2 := Lib.hid (HK1.out.trans (Kp.of fcv))
  have HM2 := Lib.hid (HM1.out.keep fcv (by simp))
  clear hcv fcv hEc
  refine hK.out _ _ (HM2.out.at 0 _ rfl) (fun hHeld => ?_)
  clear hK K
  try simp only [Act.put, List.getElem_toArray, List.getElem_cons_succ, List.getElem_cons_zero, List.setIfInBounds_toArray, List.set_cons_zero, List.set_cons_succ]
  refine wpAnyH_ready (rs := [6]) (by kernel_rfl) (by simp) ?_
  refine AllReadyH.cons (o := _) rfl (fun K hK => ?_) AllReadyH.nil
  go_simp
  refine (text_no _ _ _ HB2.out (by (try simp only [List.length_append, List.length_map, List.length_cons, List.length_nil]); omega)).mono ?_
  rintro e w3 ⟨rfl, ⟨s3, hb_⟩, k_⟩
  have HB3 := Lib.hid hb_
  have HK3 := Lib.hid (HK2.out.trans k_)
  have HM3 := Lib.hid (HM2.out.kp k_ (HB2.out.ne HM2.out (by decide)) (by decide))
  clear hb_ k_
  refine hK.out _ _ (HM3.out.at 0 _ rfl) (fun hHeld => ?_)
  clear hK K
  try simp only [Act.put, List.getElem_toArray, List.getElem_cons_succ, List.getElem_cons_zero, List.setIfInBounds_toArray, List.set_cons_zero, List.set_cons_succ]
  refine wpAnyH_done (by kernel_rfl) ?_ _
  clear hHeld HWD
  clear HB0 HK0 HM0 HB1 HK1 HM1 HB2 HK2 HM2
  obtain ⟨w4, hwd⟩ : ∃ z, w3.drew = z := ⟨_, rfl⟩
  have fd : Fr [] w3 w4 := by rw [← hwd]; exact (Fr.refl [] w3).drew
  have HB4 := Lib.hid (HB3.out.new fd)
  have HK4 := Lib.hid (HK3.out.trans (Kp.of fd))
  have HM4 := Lib.hid (HM3.out.keep fd (by simp))
  have HWD := Lib.hid hwd
  clear fd hwd
  go_upto_region 2 with fail
  refine wp_region_held_drew (S := fun W => W.cell? ⟨M, 1, none⟩ = some (.int .i64 0)) (by kernel_rfl) (by rw [HWD.out]; exact HM4.out.at 1 _ rfl) (fun hHeld => ?_)
  rw [HWD.out] at hHeld ⊢
  refine wpAnyH_take (i := 0) (oi := _) (v := ?_) rfl (by kernel_rfl) (by kernel_rfl) (by kernel_rfl) (fun _ _ _ h => h) (Or.inl ⟨by rfl, ?_⟩) (by first | assumption | trivial) ?_
  rotate_left
  · intro w hSw
    try dsimp only at hSw
    go_simp
    try with_reducible rfl
  try simp only [Act.put, List.getElem_toArray, List.getElem_cons_succ, List.getElem_cons_zero, List.setIfInBounds_toArray, List.set_cons_zero, List.set_cons_succ]
  refine wpAnyH_take (i := 1) (oi := _) (v := ?_) rfl (by kernel_rfl) (by kernel_rfl) (by kernel_rfl) (fun _ _ _ h => h) (Or.inl ⟨by rfl, ?_⟩) (by first | assumption | trivial) ?_
  rotate_left
  · intro w hSw
    try dsimp only at hSw
    go_simp
    try with_reducible rfl
  try simp only [Act.put, List.getElem_toArray, List.getElem_cons_succ, List.getElem_cons_zero, List.setIfInBounds_toArray, List.set_cons_zero, List.set_cons_succ]
  refine wpAnyH_take (i := 2) (oi := _) (v := ?_) rfl (by kernel_rfl) (by kernel_rfl) (by kernel_rfl) (fun _ _ _ h => h) (Or.inl ⟨by rfl, ?_⟩) (by first | assumption | trivial) ?_
  rotate_left
  · intro w hSw
    try dsimp only at hSw
    go_simp
    try with_reducible rfl
  try simp only [Act.put, List.getElem_toArray, List.getElem_cons_succ, List.getElem_cons_zero, List.setIfInBounds_toArray, List.set_cons_zero, List.set_cons_succ]
  refine wpAnyH_take (i := 3) (oi := _) (v := ?_) rfl (by kernel_rfl) (by kernel_rfl) (by kernel_rfl) (fun _ _ _ h => h) (Or.inl ⟨by rfl, ?_⟩) (by first | assumption | trivial) ?_
  rotate_left
  · intro w hSw
    try dsimp only at hSw
    go_simp
    try with_reducible rfl
  try simp only [Act.put, List.getElem_toArray, List.getElem_cons_succ, List.getElem_cons_zero, List.setIfInBounds_toArray, List.set_cons_zero, List.set_cons_succ]
  refine wpAnyH_take (i := 4) (oi := _) (v := ?_) rfl (by kernel_rfl) (by kernel_rfl) (by kernel_rfl) (fun _ _ _ h => h) (Or.inl ⟨by rfl, ?_⟩) (by first | assumption | trivial) ?_
  rotate_left
  · intro w hSw
    try dsimp only at hSw
    go_simp
    try with_reducible rfl
  try simp only [Act.put, List.getElem_toArray, List.getElem_cons_succ, List.getElem_cons_zero, List.setIfInBounds_toArray, List.set_cons_zero, List.set_cons_succ]
  refine wpAnyH_ready (rs := [5]) (by kernel_rfl) (by simp) ?_
  refine AllReadyH.cons (o := _) rfl (fun K hK => ?_) AllReadyH.nil
  obtain ⟨w5, hwb⟩ : ∃ zz, w4.alloc (.cells ([.int .i64 0] : List Value).toArray 3) = zz := ⟨_, rfl⟩
  obtain ⟨Eb, hEb⟩ : ∃ z, w4.heap.size = z := ⟨_, rfl⟩
  have hbb : Blk w5 Eb 3 [.int .i64 0] := by rw [← hwb, ← hEb]; exact Blk.made w4 3 _
  have fb : Fr [] w4 w5 := by rw [← hwb]; exact (Fr.refl [] w4).alloc _
  split
  rotate_left
  · rename_i hno
    exact absurd rfl hno
  refine wp_vl (v := .slice (some ⟨Eb, 0, none⟩) 1 1) (w' := w5) ?_ ?_
  · refine exec_bsl (V := .int .i64 0) rfl rfl ?_
    rw [bslI1]
    rw [show (w4.alloc (.cells #[.int .i64 0] 3)) = w5 from hwb, hEb]
  have HB5 := Lib.hid (HB4.out.new fb)
  have HK5 := Lib.hid (HK4.out.trans (Kp.of fb))
  have HM5 := Lib.hid (HM4.out.keep fb (by simp))
  have HEB := Lib.hid hbb
  clear hwb hEb hbb fb
  refine hK.out _ _ (HM5.out.at 1 _ rfl) (fun hHeld => ?_)
  clear hK K
  try simp only [Act.put, List.getElem_toArray, List.getElem_cons_succ, List.getElem_cons_zero, List.setIfInBounds_toArray, List.set_cons_zero, List.set_cons_succ]
  refine wpAnyH_ready (rs := [6]) (by kernel_rfl) (by simp) ?_
  refine AllReadyH.cons (o := _) rfl (fun K hK => ?_) AllReadyH.nil
  go_simp
  refine (ints_any _ [0] _ HB5.out (by (try simp only [List.length_append, List.length_map, List.length_cons, List.length_nil]); omega) (by simp) (.inr ⟨Eb, 1, rfl, rfl, HEB.out, HB5.out.ne HEB.out (by decide)⟩)).mono ?_
  rintro e w6 ⟨rfl, ⟨s6, hb_⟩, k_⟩
  have HB6 := Lib.hid hb_
  have HK6 := Lib.hid (HK5.out.trans k_)
  have HM6 := Lib.hid (HM5.out.kp k_ (HB5.out.ne HM5.out (by decide)) (by decide))
  clear hb_ k_
  refine hK.out _ _ (HM6.out.at 1 _ rfl) (fun hHeld => ?_)
  clear hK K
  try simp only [Act.put, List.getElem_toArray, List.getElem_cons_succ, List.getElem_cons_zero, List.setIfInBounds_toArray, List.set_cons_zero, List.set_cons_succ]
  refine wpAnyH_done (by kernel_rfl) ?_ _
  clear hHeld HWD HEB
  clear HB3 HK3 HM3 HB4 HK4 HM4 HB5 HK5 HM5
  go_wp2
  go_end0
  exact ⟨rfl, ⟨_, by simpa [zz] using HB6.out⟩, HK6.out⟩
theorem aggCl : ∀ w, (isAgg 84).run Tryz.prog w = .ok true w := fun w => by kernel_rfl
theorem sizeCl : ∀ w, (sizeOf 84).run Tryz.prog w = .ok 12 w := fun w => by kernel_rfl
theorem aggCe : ∀ w, (isAgg 90).run Tryz.prog w = .ok true w := fun w => by kernel_rfl
theorem sizeCe : ∀ w, (sizeOf 90).run Tryz.prog w = .ok 20 w := fun w => by kernel_rfl
def callZ : List Value := [.int .i64 0, .int .i64 0, .int .i64 0, .int .i64 0, .int .i64 0, .string ⟨#[]⟩, .int .i64 0, .slice none 0 0, .int .i64 0, .int .i64 0, .int .i64 0, .int .u64 0]
def cellZ : List Value := [.int .i64 0, .int .i64 0, .int .i64 0, .int .i64 0, .int .i64 0, .int .i64 0, .string ⟨#[]⟩, .int .i64 0, .slice none 0 0, .int .i64 0, .int .i64 0, .int .i64 0, .int .u64 0, .bool false, .int .i64 0, .slice none 0 0, .int .i64 0, .int .i64 (-1), .int .i64 0, .int .i64 0]
def cell0 : List Value := [.int .i64 0, .int .i64 0, .int .i64 0, .int .i64 0, .int .i64 0, .int .i64 0, .string ⟨#[]⟩, .int .i64 0, .slice none 0 0, .int .i64 0, .int .i64 0, .int .i64 0, .int .u64 0, .bool false, .int .i64 0, .slice none 0 0, .int .i64 0, .int .i64 0, .int .i64 0, .int .i64 0]
theorem cellZ_one : ∀ u ∈ cellZ, u.oneCell' = true := by
  intro u hu
  simp only [cellZ, List.mem_cons, List.not_mem_nil, or_false] at hu
  rcases hu with rfl | rfl | rfl | rfl | rfl | rfl | rfl | rfl | rfl | rfl | rfl | rfl | rfl | rfl | rfl | rfl | rfl | rfl | rfl | rfl <;> rfl
theorem call_z {B p : Nat} {s : Sli} {bs : List UInt8} (w : World) (h : Buf B w p s bs) (hn : bs.length ≤ 70000) :
    Calls Tryz.prog 84 #[.pointer (some ⟨p, 0, none⟩), .agg callZ.toArray] w (BufOut B w p (bs ++ [0, 0, 0, 0, 0, 0, 0, 0, 0, 0, 0, 0])) := by
  obtain ⟨M, hV⟩ : ∃ z, w.heap.size = z := ⟨_, rfl⟩
  obtain ⟨w0, hw0⟩ : ∃ z, w.alloc (.cells (callZ).toArray 84) = z := ⟨_, rfl⟩
  have hv0 : Blk w0 M 84 (callZ) := by rw [← hw0, ← hV]; exact Blk.made w _ _
  have f0 : Fr [] w w0 := by rw [← hw0]; exact (Fr.refl [] w).alloc _
  have HB0 := Lib.hid (h.new f0)
  have HK0 := Lib.hid (Kp.of (B := B) (p := p) f0)
  have HM0 := Lib.hid hv0
  
  have HV := Lib.hid hV
  have HW0 := Lib.hid hw0
  clear hV hw0 hv0 f0 h
  go_enter Tryz.func84, Tryz.ntmps84
  go_upto_region 1 with fail
  simp only [HV.out]
  rw [HW0.out]
  obtain ⟨w1, hwd⟩ : ∃ z, w0.drew = z := ⟨_, rfl⟩
  have fd : Fr [] w0 w1 := by rw [← hwd]; exact (Fr.refl [] w0).drew
  have HB1 := Lib.hid (HB0.out.new fd)
  have HK1 := Lib.hid (HK0.out.trans (Kp.of fd))
  have HM1 := Lib.hid (HM0.out.keep fd (by simp))
  have HWD := Lib.hid hwd
  clear fd hwd
  go_upto_region 1 with fail
  refine wp_region_held_drew (S := fun W => W.cell? ⟨M, 0, none⟩ = some (.int .i64 0) ∧ W.cell? ⟨M, 1, none⟩ = some (.int .i64 0) ∧ W.cell? ⟨M, 2, none⟩ = some (.int .i64 0) ∧ W.cell? ⟨M, 3, none⟩ = some (.int .i64 0) ∧ W.cell? ⟨M, 4, none⟩ = some (.int .i64 0)) (by kernel_rfl) (by rw [HWD.out]; exact ⟨HM1.out.at 0 _ rfl, HM1.out.at 1 _ rfl, HM1.out.at 2 _ rfl, HM1.out.at 3 _ rfl, HM1.out.at 4 _ rfl⟩) (fun hHeld => ?_)
  rw [HWD.out] at hHeld ⊢
  refine wpAnyH_take (i := 0) (oi := _) (v := ?_) rfl (by kernel_rfl) (by kernel_rfl) (by kernel_rfl) (fun _ _ _ h => h) (Or.inl ⟨by rfl, ?_⟩) (by first | assumption | trivial) ?_
  rotate_left
  · intro w hSw
    try dsimp only at hSw
    go_simp
    try with_reducible rfl
  try simp only [Act.put, List.getElem_toArray, List.getElem_cons_succ, List.getElem_cons_zero, List.setIfInBounds_toArray, List.set_cons_zero, List.set_cons_succ]
  refine wpAnyH_take (i := 1) (oi := _) (v := ?_) rfl (by kernel_rfl) (by kernel_rfl) (by kernel_rfl) (fun _ _ _ h => h) (Or.inl ⟨by rfl, ?_⟩) (by first | assumption | trivial) ?_
  rotate_left
  · intro w hSw
    try dsimp only at hSw
    go_simp
    try with_reducible rfl
  try simp only [Act.put, List.getElem_toArray, List.getElem_cons_succ, List.getElem_cons_zero, List.setIfInBounds_toArray, List.set_cons_zero, List.set_cons_succ]
  refine wpAnyH_take (i := 2) (oi := _) (v := ?_) rfl (by kernel_rfl) (by kernel_rfl) (by kernel_rfl) (fun _ _ _ h => h) (Or.inl ⟨by rfl, ?_⟩) (by first | assumption | trivial) ?_
  rotate_left
  · intro w hSw
    try dsimp only at hSw
    go_simp
    try with_reducible rfl
  try simp only [Act.put, List.getElem_toArray, List.getElem_cons_succ, List.getElem_cons_zero, List.setIfInBounds_toArray, List.set_cons_zero, List.set_cons_succ]
  refine wpAnyH_take (i := 3) (oi := _) (v := ?_) rfl (by kernel_rfl) (by kernel_rfl) (by kernel_rfl) (fun _ _ _ h => h) (Or.inl ⟨by rfl, ?_⟩) (by first | assumption | trivial) ?_
  rotate_left
  · intro w hSw
    try dsimp only at hSw
    go_simp
    try with_reducible rfl
  try simp only [Act.put, List.getElem_toArray, List.getElem_cons_succ, List.getElem_cons_zero, List.setIfInBounds_toArray, List.set_cons_zero, List.set_cons_succ]
  refine wpAnyH_take (i := 4) (oi := _) (v := ?_) rfl (by kernel_rfl) (by kernel_rfl) (by kernel_rfl) (fun _ _ _ h => h) (Or.inl ⟨by rfl, ?_⟩) (by first | assumption | trivial) ?_
  rotate_left
  · intro w hSw
    try dsimp only at hSw
    go_simp
    try with_reducible rfl
  try simp only [Act.put, List.getElem_toArray, List.getElem_cons_succ, List.getElem_cons_zero, List.setIfInBounds_toArray, List.set_cons_zero, List.set_cons_succ]
  refine wpAnyH_take (i := 5) (oi := _) (v := ?_) rfl (by kernel_rfl) (by kernel_rfl) (by kernel_rfl) (fun _ _ _ h => h) (Or.inl ⟨by rfl, ?_⟩) (by first | assumption | trivial) ?_
  rotate_left
  · intro w hSw
    try dsimp only at hSw
    go_simp
    try with_reducible rfl
  try simp only [Act.put, List.getElem_toArray, List.getElem_cons_succ, List.getElem_cons_zero, List.setIfInBounds_toArray, List.set_cons_zero, List.set_cons_succ]
  refine wpAnyH_take (i := 6) (oi := _) (v := ?_) rfl (by kernel_rfl) (by kernel_rfl) (by kernel_rfl) (fun _ _ _ h => h) (Or.inl ⟨by rfl, ?_⟩) (by first | assumption | trivial) ?_
  rotate_left
  · intro w hSw
    try dsimp only at hSw
    go_simp
    try with_reducible rfl
  try simp only [Act.put, List.getElem_toArray, List.getElem_cons_succ, List.getElem_cons_zero, List.setIfInBounds_toArray, List.set_cons_zero, List.set_cons_succ]
  refine wpAnyH_take (i := 7) (oi := _) (v := ?_) rfl (by kernel_rfl) (by kernel_rfl) (by kernel_rfl) (fun _ _ _ h => h) (Or.inl ⟨by rfl, ?_⟩) (by first | assumption | trivial) ?_
  rotate_left
  · intro w hSw
    try dsimp only at hSw
    go_simp
    try with_reducible rfl
  try simp only [Act.put, List.getElem_toArray, List.getElem_cons_succ, List.getElem_cons_zero, List.setIfInBounds_toArray, List.set_cons_zero, List.set_cons_succ]
  refine wpAnyH_take (i := 8) (oi := _) (v := ?_) rfl (by kernel_rfl) (by kernel_rfl) (by kernel_rfl) (fun _ _ _ h => h) (Or.inl ⟨by rfl, ?_⟩) (by first | assumption | trivial) ?_
  rotate_left
  · intro w hSw
    try dsimp only at hSw
    go_simp
    try with_reducible rfl
  try simp only [Act.put, List.getElem_toArray, List.getElem_cons_succ, List.getElem_cons_zero, List.setIfInBounds_toArray, List.set_cons_zero, List.set_cons_succ]
  refine wpAnyH_take (i := 9) (oi := _) (v := ?_) rfl (by kernel_rfl) (by kernel_rfl) (by kernel_rfl) (fun _ _ _ h => h) (Or.inl ⟨by rfl, ?_⟩) (by first | assumption | trivial) ?_
  rotate_left
  · intro w hSw
    try dsimp only at hSw
    go_simp
    try with_reducible rfl
  try simp only [Act.put, List.getElem_toArray, List.getElem_cons_succ, List.getElem_cons_zero, List.setIfInBounds_toArray, List.set_cons_zero, List.set_cons_succ]
  refine wpAnyH_take (i := 10) (oi := _) (v := ?_) rfl (by kernel_rfl) (by kernel_rfl) (by kernel_rfl) (fun _ _ _ h => h) (Or.inl ⟨by rfl, ?_⟩) (by first | assumption | trivial) ?_
  rotate_left
  · intro w hSw
    try dsimp only at hSw
    go_simp
    try with_reducible rfl
  try simp only [Act.put, List.getElem_toArray, List.getElem_cons_succ, List.getElem_cons_zero, List.setIfInBounds_toArray, List.set_cons_zero, List.set_cons_succ]
  refine wpAnyH_take (i := 11) (oi := _) (v := ?_) rfl (by kernel_rfl) (by kernel_rfl) (by kernel_rfl) (fun _ _ _ h => h) (Or.inl ⟨by rfl, ?_⟩) (by first | assumption | trivial) ?_
  rotate_left
  · intro w hSw
    try dsimp only at hSw
    go_simp
    try with_reducible rfl
  try simp only [Act.put, List.getElem_toArray, List.getElem_cons_succ, List.getElem_cons_zero, List.setIfInBounds_toArray, List.set_cons_zero, List.set_cons_succ]
  refine wpAnyH_take (i := 12) (oi := _) (v := ?_) rfl (by kernel_rfl) (by kernel_rfl) (by kernel_rfl) (fun _ _ _ h => h) (Or.inl ⟨by rfl, ?_⟩) (by first | assumption | trivial) ?_
  rotate_left
  · intro w hSw
    try dsimp only at hSw
    go_simp
    try with_reducible rfl
  try simp only [Act.put, List.getElem_toArray, List.getElem_cons_succ, List.getElem_cons_zero, List.setIfInBounds_toArray, List.set_cons_zero, List.set_cons_succ]
  refine wpAnyH_take (i := 13) (oi := _) (v := ?_) rfl (by kernel_rfl) (by kernel_rfl) (by kernel_rfl) (fun _ _ _ h => h) (Or.inl ⟨by rfl, ?_⟩) (by first | assumption | trivial) ?_
  rotate_left
  · intro w hSw
    try dsimp only at hSw
    go_simp
    try with_reducible rfl
  try simp only [Act.put, List.getElem_toArray, List.getElem_cons_succ, List.getElem_cons_zero, List.setIfInBounds_toArray, List.set_cons_zero, List.set_cons_succ]
  refine wpAnyH_take (i := 14) (oi := _) (v := ?_) rfl (by kernel_rfl) (by kernel_rfl) (by kernel_rfl) (fun _ _ _ h => h) (Or.inl ⟨by rfl, ?_⟩) (by first | assumption | trivial) ?_
  rotate_left
  · intro w hSw
    try dsimp only at hSw
    go_simp
    try with_reducible rfl
  try simp only [Act.put, List.getElem_toArray, List.getElem_cons_succ, List.getElem_cons_zero, List.setIfInBounds_toArray, List.set_cons_zero, List.set_cons_succ]
  refine wpAnyH_take (i := 15) (oi := _) (v := ?_) rfl (by kernel_rfl) (by kernel_rfl) (by kernel_rfl) (fun _ _ _ h => h) (Or.inl ⟨by rfl, ?_⟩) (by first | assumption | trivial) ?_
  rotate_left
  · intro w hSw
    try dsimp only at hSw
    go_simp
    try with_reducible rfl
  try simp only [Act.put, List.getElem_toArray, List.getElem_cons_succ, List.getElem_cons_zero, List.setIfInBounds_toArray, List.set_cons_zero, List.set_cons_succ]
  refine wpAnyH_take (i := 16) (oi := _) (v := ?_) rfl (by kernel_rfl) (by kernel_rfl) (by kernel_rfl) (fun _ _ _ h => h) (Or.inl ⟨by rfl, ?_⟩) (by first | assumption | trivial) ?_
  rotate_left
  · intro w hSw
    try dsimp only at hSw
    go_simp
    try with_reducible rfl
  try simp only [Act.put, List.getElem_toArray, List.getElem_cons_succ, List.getElem_cons_zero, List.setIfInBounds_toArray, List.set_cons_zero, List.set_cons_succ]
  refine wpAnyH_ready (rs := [17]) (by kernel_rfl) (by simp) ?_
  refine AllReadyH.cons (o := _) rfl (fun K hK => ?_) AllReadyH.nil
  obtain ⟨w2, hwb⟩ : ∃ zz, w1.alloc (.cells ([.int .i64 0, .int .i64 0, .int .i64 0, .int .i64 0, .int .i64 0] : List Value).toArray 3) = zz := ⟨_, rfl⟩
  obtain ⟨Eb, hEb⟩ : ∃ z, w1.heap.size = z := ⟨_, rfl⟩
  have hbb : Blk w2 Eb 3 [.int .i64 0, .int .i64 0, .int .i64 0, .int .i64 0, .int .i64 0] := by rw [← hwb, ← hEb]; exact Blk.made w1 3 _
  have fb : Fr [] w1 w2 := by rw [← hwb]; exact (Fr.refl [] w1).alloc _
  split
  rotate_left
  · rename_i hno
    exact absurd rfl hno
  refine wp_vl (v := .slice (some ⟨Eb, 0, none⟩) 5 5) (w' := w2) ?_ ?_
  · refine exec_bsl5 (V0 := .int .i64 0) (V1 := .int .i64 0) (V2 := .int .i64 0) (V3 := .int .i64 0) (V4 := .int .i64 0) rfl rfl rfl rfl rfl rfl ?_
    rw [bslI5]
    rw [show (w1.alloc (.cells #[.int .i64 0, .int .i64 0, .int .i64 0, .int .i64 0, .int .i64 0] 3)) = w2 from hwb, hEb]
  have HB2 := Lib.hid (HB1.out.new fb)
  have HK2 := Lib.hid (HK1.out.trans (Kp.of fb))
  have HM2 := Lib.hid (HM1.out.keep fb (by simp))
  have HEB := Lib.hid hbb
  clear hwb hEb hbb fb
  refine hK.out _ _ (⟨HM2.out.at 0 _ rfl, HM2.out.at 1 _ rfl, HM2.out.at 2 _ rfl, HM2.out.at 3 _ rfl, HM2.out.at 4 _ rfl⟩) (fun hHeld => ?_)
  clear hK K
  try simp only [Act.put, List.getElem_toArray, List.getElem_cons_succ, List.getElem_cons_zero, List.setIfInBounds_toArray, List.set_cons_zero, List.set_cons_succ]
  refine wpAnyH_ready (rs := [18]) (by kernel_rfl) (by simp) ?_
  refine AllReadyH.cons (o := _) rfl (fun K hK => ?_) AllReadyH.nil
  go_simp
  refine (ints_any _ [0, 0, 0, 0, 0] _ HB2.out (by (try simp only [List.length_append, List.length_map, List.length_cons, List.length_nil]); omega) (by simp) (.inr ⟨Eb, 5, rfl, rfl, HEB.out, HB2.out.ne HEB.out (by decide)⟩)).mono ?_
  rintro e w3 ⟨rfl, ⟨s3, hb_⟩, k_⟩
  have HB3 := Lib.hid hb_
  have HK3 := Lib.hid (HK2.out.trans k_)
  have HM3 := Lib.hid (HM2.out.kp k_ (HB2.out.ne HM2.out (by decide)) (by decide))
  clear hb_ k_
  refine hK.out _ _ (⟨HM3.out.at 0 _ rfl, HM3.out.at 1 _ rfl, HM3.out.at 2 _ rfl, HM3.out.at 3 _ rfl, HM3.out.at 4 _ rfl⟩) (fun hHeld => ?_)
  clear hK K
  try simp only [Act.put, List.getElem_toArray, List.getElem_cons_succ, List.getElem_cons_zero, List.setIfInBounds_toArray, List.set_cons_zero, List.set_cons_succ]
  refine wpAnyH_done (by kernel_rfl) ?_ _
  clear hHeld HWD HEB
  clear HB0 HK0 HM0 HB1 HK1 HM1 HB2 HK2 HM2
  have c5 : w3.cell? ⟨M, 5, none⟩ = some (.string ⟨#[]⟩) := HM3.out.at 5 _ rfl
  have c6 : w3.cell? ⟨M, 6, none⟩ = some (.int .i64 0) := HM3.out.at 6 _ rfl
  go_wp2_with fail
  refine (addr_z _ HB3.out (by (try simp only [List.length_append, List.length_map, List.length_cons, List.length_nil]); omega)).mono ?_
  rintro e w4 ⟨rfl, ⟨s4, hb_⟩, k_⟩
  have HB4 := Lib.hid hb_
  have HK4 := Lib.hid (HK3.out.trans k_)
  have HM4 := Lib.hid (HM3.out.kp k_ (HB3.out.ne HM3.out (by decide)) (by decide))
  clear hb_ k_
  clear HB3 HK3 HM3
  clear c5 c6
  obtain ⟨w5, hwd⟩ : ∃ z, w4.drew = z := ⟨_, rfl⟩
  have fd : Fr [] w4 w5 := by rw [← hwd]; exact (Fr.refl [] w4).drew
  have HB5 := Lib.hid (HB4.out.new fd)
  have HK5 := Lib.hid (HK4.out.trans (Kp.of fd))
  have HM5 := Lib.hid (HM4.out.keep fd (by simp))
  have HWD := Lib.hid hwd
  clear fd hwd
  go_upto_region 3 with fail
  refine wp_region_held_drew (S := fun W => W.cell? ⟨M, 7, none⟩ = some (.slice none 0 0)) (by kernel_rfl) (by rw [HWD.out]; exact HM5.out.at 7 _ rfl) (fun hHeld => ?_)
  rw [HWD.out] at hHeld ⊢
  refine wpAnyH_take (i := 0) (oi := _) (v := ?_) rfl (by kernel_rfl) (by kernel_rfl) (by kernel_rfl) (fun _ _ _ h => h) (Or.inl ⟨by rfl, ?_⟩) (by first | assumption | trivial) ?_
  rotate_left
  · intro w hSw
    try dsimp only at hSw
    go_simp
    try with_reducible rfl
  try simp only [Act.put, List.getElem_toArray, List.getElem_cons_succ, List.getElem_cons_zero, List.setIfInBounds_toArray, List.set_cons_zero, List.set_cons_succ]
  refine wpAnyH_take (i := 1) (oi := _) (v := ?_) rfl (by kernel_rfl) (by kernel_rfl) (by kernel_rfl) (fun _ _ _ h => h) (Or.inl ⟨by rfl, ?_⟩) (by first | assumption | trivial) ?_
  rotate_left
  · intro w hSw
    try dsimp only at hSw
    go_simp
    try with_reducible rfl
  try simp only [Act.put, List.getElem_toArray, List.getElem_cons_succ, List.getElem_cons_zero, List.setIfInBounds_toArray, List.set_cons_zero, List.set_cons_succ]
  refine wpAnyH_take (i := 2) (oi := _) (v := ?_) rfl (by kernel_rfl) (by kernel_rfl) (by kernel_rfl) (fun _ _ _ h => h) (Or.inl ⟨by rfl, ?_⟩) (by first | assumption | trivial) ?_
  rotate_left
  · intro w hSw
    try dsimp only at hSw
    go_simp
    try with_reducible rfl
  try simp only [Act.put, List.getElem_toArray, List.getElem_cons_succ, List.getElem_cons_zero, List.setIfInBounds_toArray, List.set_cons_zero, List.set_cons_succ]
  refine wpAnyH_take (i := 3) (oi := _) (v := ?_) rfl (by kernel_rfl) (by kernel_rfl) (by kernel_rfl) (fun _ _ _ h => h) (Or.inl ⟨by rfl, ?_⟩) (by first | assumption | trivial) ?_
  rotate_left
  · intro w hSw
    try dsimp only at hSw
    go_simp
    try with_reducible rfl
  try simp only [Act.put, List.getElem_toArray, List.getElem_cons_succ, List.getElem_cons_zero, List.setIfInBounds_toArray, List.set_cons_zero, List.set_cons_succ]
  refine wpAnyH_take (i := 4) (oi := _) (v := ?_) rfl (by kernel_rfl) (by kernel_rfl) (by kernel_rfl) (fun _ _ _ h => h) (Or.inl ⟨by rfl, ?_⟩) (by first | assumption | trivial) ?_
  rotate_left
  · intro w hSw
    try dsimp only at hSw
    go_simp
    try with_reducible rfl
  try simp only [Act.put, List.getElem_toArray, List.getElem_cons_succ, List.getElem_cons_zero, List.setIfInBounds_toArray, List.set_cons_zero, List.set_cons_succ]
  refine wpAnyH_take (i := 5) (oi := _) (v := ?_) rfl (by kernel_rfl) (by kernel_rfl) (by kernel_rfl) (fun _ _ _ h => h) (Or.inl ⟨by rfl, ?_⟩) (by first | assumption | trivial) ?_
  rotate_left
  · intro w hSw
    try dsimp only at hSw
    go_simp
    try with_reducible rfl
  try simp only [Act.put, List.getElem_toArray, List.getElem_cons_succ, List.getElem_cons_zero, List.setIfInBounds_toArray, List.set_cons_zero, List.set_cons_succ]
  refine wpAnyH_take (i := 6) (oi := _) (v := ?_) rfl (by kernel_rfl) (by kernel_rfl) (by kernel_rfl) (fun _ _ _ h => h) (Or.inl ⟨by rfl, ?_⟩) (by first | assumption | trivial) ?_
  rotate_left
  · intro w hSw
    try dsimp only at hSw
    go_simp
    try with_reducible rfl
  try simp only [Act.put, List.getElem_toArray, List.getElem_cons_succ, List.getElem_cons_zero, List.setIfInBounds_toArray, List.set_cons_zero, List.set_cons_succ]
  refine wpAnyH_ready (rs := [7]) (by kernel_rfl) (by simp) ?_
  refine AllReadyH.cons (o := _) rfl (fun K hK => ?_) AllReadyH.nil
  go_simp
  refine (number_any 0 (by decide) _ HB5.out (by (try simp only [List.length_append, List.length_map, List.length_cons, List.length_nil]); omega)).mono ?_
  rintro e w6 ⟨rfl, ⟨s6, hb_⟩, k_⟩
  have HB6 := Lib.hid hb_
  have HK6 := Lib.hid (HK5.out.trans k_)
  have HM6 := Lib.hid (HM5.out.kp k_ (HB5.out.ne HM5.out (by decide)) (by decide))
  clear hb_ k_
  refine hK.out _ _ (HM6.out.at 7 _ rfl) (fun hHeld => ?_)
  clear hK K
  try simp only [Act.put, List.getElem_toArray, List.getElem_cons_succ, List.getElem_cons_zero, List.setIfInBounds_toArray, List.set_cons_zero, List.set_cons_succ]
  refine wpAnyH_done (by kernel_rfl) ?_ _
  clear hHeld HWD
  clear HB4 HK4 HM4 HB5 HK5 HM5
  have c7 : w6.cell? ⟨M, 7, none⟩ = some (.slice none 0 0) := HM6.out.at 7 _ rfl
  go_wp2
  refine wp_loop_rounds 1 ?_
  rw [rounds_succ]
  go_upto_region 9 with fail
  clear c7
  obtain ⟨w7, hwd⟩ : ∃ z, w6.drew = z := ⟨_, rfl⟩
  have fd : Fr [] w6 w7 := by rw [← hwd]; exact (Fr.refl [] w6).drew
  have HB7 := Lib.hid (HB6.out.new fd)
  have HK7 := Lib.hid (HK6.out.trans (Kp.of fd))
  have HM7 := Lib.hid (HM6.out.keep fd (by simp))
  have HWD := Lib.hid hwd
  clear fd hwd
  go_upto_region 9 with fail
  refine wp_region_held_drew (S := fun W => W.cell? ⟨M, 8, none⟩ = some (.int .i64 0) ∧ W.cell? ⟨M, 9, none⟩ = some (.int .i64 0) ∧ W.cell? ⟨M, 10, none⟩ = some (.int .i64 0)) (by kernel_rfl) (by rw [HWD.out]; exact ⟨HM7.out.at 8 _ rfl, HM7.out.at 9 _ rfl, HM7.out.at 10 _ rfl⟩) (fun hHeld => ?_)
  rw [HWD.out] at hHeld ⊢
  refine wpAnyH_take (i := 0) (oi := _) (v := ?_) rfl (by kernel_rfl) (by kernel_rfl) (by kernel_rfl) (fun _ _ _ h => h) (Or.inl ⟨by rfl, ?_⟩) (by first | assumption | trivial) ?_
  rotate_left
  · intro w hSw
    try dsimp only at hSw
    go_simp
    try with_reducible rfl
  try simp only [Act.put, List.getElem_toArray, List.getElem_cons_succ, List.getElem_cons_zero, List.setIfInBounds_toArray, List.set_cons_zero, List.set_cons_succ]
  refine wpAnyH_take (i := 1) (oi := _) (v := ?_) rfl (by kernel_rfl) (by kernel_rfl) (by kernel_rfl) (fun _ _ _ h => h) (Or.inl ⟨by rfl, ?_⟩) (by first | assumption | trivial) ?_
  rotate_left
  · intro w hSw
    try dsimp only at hSw
    go_simp
    try with_reducible rfl
  try simp only [Act.put, List.getElem_toArray, List.getElem_cons_succ, List.getElem_cons_zero, List.setIfInBounds_toArray, List.set_cons_zero, List.set_cons_succ]
  refine wpAnyH_take (i := 2) (oi := _) (v := ?_) rfl (by kernel_rfl) (by kernel_rfl) (by kernel_rfl) (fun _ _ _ h => h) (Or.inl ⟨by rfl, ?_⟩) (by first | assumption | trivial) ?_
  rotate_left
  · intro w hSw
    try dsimp only at hSw
    go_simp
    try with_reducible rfl
  try simp only [Act.put, List.getElem_toArray, List.getElem_cons_succ, List.getElem_cons_zero, List.setIfInBounds_toArray, List.set_cons_zero, List.set_cons_succ]
  refine wpAnyH_take (i := 3) (oi := _) (v := ?_) rfl (by kernel_rfl) (by kernel_rfl) (by kernel_rfl) (fun _ _ _ h => h) (Or.inl ⟨by rfl, ?_⟩) (by first | assumption | trivial) ?_
  rotate_left
  · intro w hSw
    try dsimp only at hSw
    go_simp
    try with_reducible rfl
  try simp only [Act.put, List.getElem_toArray, List.getElem_cons_succ, List.getElem_cons_zero, List.setIfInBounds_toArray, List.set_cons_zero, List.set_cons_succ]
  refine wpAnyH_take (i := 4) (oi := _) (v := ?_) rfl (by kernel_rfl) (by kernel_rfl) (by kernel_rfl) (fun _ _ _ h => h) (Or.inl ⟨by rfl, ?_⟩) (by first | assumption | trivial) ?_
  rotate_left
  · intro w hSw
    try dsimp only at hSw
    go_simp
    try with_reducible rfl
  try simp only [Act.put, List.getElem_toArray, List.getElem_cons_succ, List.getElem_cons_zero, List.setIfInBounds_toArray, List.set_cons_zero, List.set_cons_succ]
  refine wpAnyH_take (i := 5) (oi := _) (v := ?_) rfl (by kernel_rfl) (by kernel_rfl) (by kernel_rfl) (fun _ _ _ h => h) (Or.inl ⟨by rfl, ?_⟩) (by first | assumption | trivial) ?_
  rotate_left
  · intro w hSw
    try dsimp only at hSw
    go_simp
    try with_reducible rfl
  try simp only [Act.put, List.getElem_toArray, List.getElem_cons_succ, List.getElem_cons_zero, List.setIfInBounds_toArray, List.set_cons_zero, List.set_cons_succ]
  refine wpAnyH_take (i := 6) (oi := _) (v := ?_) rfl (by kernel_rfl) (by kernel_rfl) (by kernel_rfl) (fun _ _ _ h => h) (Or.inl ⟨by rfl, ?_⟩) (by first | assumption | trivial) ?_
  rotate_left
  · intro w hSw
    try dsimp only at hSw
    go_simp
    try with_reducible rfl
  try simp only [Act.put, List.getElem_toArray, List.getElem_cons_succ, List.getElem_cons_zero, List.setIfInBounds_toArray, List.set_cons_zero, List.set_cons_succ]
  refine wpAnyH_take (i := 7) (oi := _) (v := ?_) rfl (by kernel_rfl) (by kernel_rfl) (by kernel_rfl) (fun _ _ _ h => h) (Or.inl ⟨by rfl, ?_⟩) (by first | assumption | trivial) ?_
  rotate_left
  · intro w hSw
    try dsimp only at hSw
    go_simp
    try with_reducible rfl
  try simp only [Act.put, List.getElem_toArray, List.getElem_cons_succ, List.getElem_cons_zero, List.setIfInBounds_toArray, List.set_cons_zero, List.set_cons_succ]
  refine wpAnyH_take (i := 8) (oi := _) (v := ?_) rfl (by kernel_rfl) (by kernel_rfl) (by kernel_rfl) (fun _ _ _ h => h) (Or.inl ⟨by rfl, ?_⟩) (by first | assumption | trivial) ?_
  rotate_left
  · intro w hSw
    try dsimp only at hSw
    go_simp
    try with_reducible rfl
  try simp only [Act.put, List.getElem_toArray, List.getElem_cons_succ, List.getElem_cons_zero, List.setIfInBounds_toArray, List.set_cons_zero, List.set_cons_succ]
  refine wpAnyH_ready (rs := [9]) (by kernel_rfl) (by simp) ?_
  refine AllReadyH.cons (o := _) rfl (fun K hK => ?_) AllReadyH.nil
  obtain ⟨w8, hwb⟩ : ∃ zz, w7.alloc (.cells ([.int .i64 0, .int .i64 0, .int .i64 0] : List Value).toArray 3) = zz := ⟨_, rfl⟩
  obtain ⟨Eb, hEb⟩ : ∃ z, w7.heap.size = z := ⟨_, rfl⟩
  have hbb : Blk w8 Eb 3 [.int .i64 0, .int .i64 0, .int .i64 0] := by rw [← hwb, ← hEb]; exact Blk.made w7 3 _
  have fb : Fr [] w7 w8 := by rw [← hwb]; exact (Fr.refl [] w7).alloc _
  split
  rotate_left
  · rename_i hno
    exact absurd rfl hno
  refine wp_vl (v := .slice (some ⟨Eb, 0, none⟩) 3 3) (w' := w8) ?_ ?_
  · refine exec_bsl3 (V0 := .int .i64 0) (V1 := .int .i64 0) (V2 := .int .i64 0) rfl rfl rfl rfl ?_
    rw [bslI3]
    rw [show (w7.alloc (.cells #[.int .i64 0, .int .i64 0, .int .i64 0] 3)) = w8 from hwb, hEb]
  have HB8 := Lib.hid (HB7.out.new fb)
  have HK8 := Lib.hid (HK7.out.trans (Kp.of fb))
  have HM8 := Lib.hid (HM7.out.keep fb (by simp))
  have HEB := Lib.hid hbb
  clear hwb hEb hbb fb
  refine hK.out _ _ (⟨HM8.out.at 8 _ rfl, HM8.out.at 9 _ rfl, HM8.out.at 10 _ rfl⟩) (fun hHeld => ?_)
  clear hK K
  try simp only [Act.put, List.getElem_toArray, List.getElem_cons_succ, List.getElem_cons_zero, List.setIfInBounds_toArray, List.set_cons_zero, List.set_cons_succ]
  refine wpAnyH_ready (rs := [10]) (by kernel_rfl) (by simp) ?_
  refine AllReadyH.cons (o := _) rfl (fun K hK => ?_) AllReadyH.nil
  go_simp
  refine (ints_any _ [0, 0, 0] _ HB8.out (by (try simp only [List.length_append, List.length_map, List.length_cons, List.length_nil]); omega) (by simp) (.inr ⟨Eb, 3, rfl, rfl, HEB.out, HB8.out.ne HEB.out (by decide)⟩)).mono ?_
  rintro e w9 ⟨rfl, ⟨s9, hb_⟩, k_⟩
  have HB9 := Lib.hid hb_
  have HK9 := Lib.hid (HK8.out.trans k_)
  have HM9 := Lib.hid (HM8.out.kp k_ (HB8.out.ne HM8.out (by decide)) (by decide))
  clear hb_ k_
  refine hK.out _ _ (⟨HM9.out.at 8 _ rfl, HM9.out.at 9 _ rfl, HM9.out.at 10 _ rfl⟩) (fun hHeld => ?_)
  clear hK K
  try simp only [Act.put, List.getElem_toArray, List.getElem_cons_succ, List.getElem_cons_zero, List.setIfInBounds_toArray, List.set_cons_zero, List.set_cons_succ]
  refine wpAnyH_done (by kernel_rfl) ?_ _
  clear hHeld HWD HEB
  clear HB6 HK6 HM6 HB7 HK7 HM7 HB8 HK8 HM8
  obtain ⟨w10, hwd⟩ : ∃ z, w9.drew = z := ⟨_, rfl⟩
  have fd : Fr [] w9 w10 := by rw [← hwd]; exact (Fr.refl [] w9).drew
  have HB10 := Lib.hid (HB9.out.new fd)
  have HK10 := Lib.hid (HK9.out.trans (Kp.of fd))
  have HM10 := Lib.hid (HM9.out.keep fd (by simp))
  have HWD := Lib.hid hwd
  clear fd hwd
  go_upto_region 10 with fail
  refine wp_region_held_drew (S := fun W => W.cell? ⟨M, 11, none⟩ = some (.int .u64 0)) (by kernel_rfl) (by rw [HWD.out]; exact HM10.out.at 11 _ rfl) (fun hHeld => ?_)
  rw [HWD.out] at hHeld ⊢
  refine wpAnyH_take (i := 0) (oi := _) (v := ?_) rfl (by kernel_rfl) (by kernel_rfl) (by kernel_rfl) (fun _ _ _ h => h) (Or.inl ⟨by rfl, ?_⟩) (by first | assumption | trivial) ?_
  rotate_left
  · intro w hSw
    try dsimp only at hSw
    go_simp
    try with_reducible rfl
  try simp only [Act.put, List.getElem_toArray, List.getElem_cons_succ, List.getElem_cons_zero, List.setIfInBounds_toArray, List.set_cons_zero, List.set_cons_succ]
  refine wpAnyH_take (i := 1) (oi := _) (v := ?_) rfl (by kernel_rfl) (by kernel_rfl) (by kernel_rfl) (fun _ _ _ h => h) (Or.inl ⟨by rfl, ?_⟩) (by first | assumption | trivial) ?_
  rotate_left
  · intro w hSw
    try dsimp only at hSw
    go_simp
    try with_reducible rfl
  try simp only [Act.put, List.getElem_toArray, List.getElem_cons_succ, List.getElem_cons_zero, List.setIfInBounds_toArray, List.set_cons_zero, List.set_cons_succ]
  refine wpAnyH_take (i := 2) (oi := _) (v := ?_) rfl (by kernel_rfl) (by kernel_rfl) (by kernel_rfl) (fun _ _ _ h => h) (Or.inl ⟨by rfl, ?_⟩) (by first | assumption | trivial) ?_
  rotate_left
  · intro w hSw
    try dsimp only at hSw
    go_simp
    try with_reducible rfl
  try simp only [Act.put, List.getElem_toArray, List.getElem_cons_succ, List.getElem_cons_zero, List.setIfInBounds_toArray, List.set_cons_zero, List.set_cons_succ]
  refine wpAnyH_take (i := 3) (oi := _) (v := ?_) rfl (by kernel_rfl) (by kernel_rfl) (by kernel_rfl) (fun _ _ _ h => h) (Or.inl ⟨by rfl, ?_⟩) (by first | assumption | trivial) ?_
  rotate_left
  · intro w hSw
    try dsimp only at hSw
    go_simp
    try with_reducible rfl
  try simp only [Act.put, List.getElem_toArray, List.getElem_cons_succ, List.getElem_cons_zero, List.setIfInBounds_toArray, List.set_cons_zero, List.set_cons_succ]
  refine wpAnyH_take (i := 4) (oi := _) (v := ?_) rfl (by kernel_rfl) (by kernel_rfl) (by kernel_rfl) (fun _ _ _ h => h) (Or.inl ⟨by rfl, ?_⟩) (by first | assumption | trivial) ?_
  rotate_left
  · intro w hSw
    try dsimp only at hSw
    go_simp
    try with_reducible rfl
  try simp only [Act.put, List.getElem_toArray, List.getElem_cons_succ, List.getElem_cons_zero, List.setIfInBounds_toArray, List.set_cons_zero, List.set_cons_succ]
  refine wpAnyH_ready (rs := [5]) (by kernel_rfl) (by simp) ?_
  refine AllReadyH.cons (o := _) rfl (fun K hK => ?_) AllReadyH.nil
  go_simp
  refine (number_any 0 (by decide) _ HB10.out (by (try simp only [List.length_append, List.length_map, List.length_cons, List.length_nil]); omega)).mono ?_
  rintro e w11 ⟨rfl, ⟨s11, hb_⟩, k_⟩
  have HB11 := Lib.hid hb_
  have HK11 := Lib.hid (HK10.out.trans k_)
  have HM11 := Lib.hid (HM10.out.kp k_ (HB10.out.ne HM10.out (by decide)) (by decide))
  clear hb_ k_
  refine hK.out _ _ (HM11.out.at 11 _ rfl) (fun hHeld => ?_)
  clear hK K
  try simp only [Act.put, List.getElem_toArray, List.getElem_cons_succ, List.getElem_cons_zero, List.setIfInBounds_toArray, List.set_cons_zero, List.set_cons_succ]
  refine wpAnyH_done (by kernel_rfl) ?_ _
  clear hHeld HWD
  clear HB9 HK9 HM9 HB10 HK10 HM10
  go_wp2
  go_end0
  exact ⟨rfl, ⟨_, by simpa [zz] using HB11.out⟩, HK11.out⟩
end Go.Proofs.YtemihaijhcpnfaaGreatDoor
