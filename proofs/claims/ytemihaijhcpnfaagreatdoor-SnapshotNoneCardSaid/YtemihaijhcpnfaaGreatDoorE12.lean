/- Write of a machine of one task that does nothing. -/
import Derived.Test.YtemihaijhcpnfaaGreatDoorE10
import Derived.Test.YtemihaijhcpnfaaGreatDoorE11
import Derived.Lib.SlBytesConst
namespace Go.Proofs.YtemihaijhcpnfaaGreatDoor
open Go.RowKit
open Go.Maps (Keyed)
set_option linter.unusedVariables false
set_option linter.unusedSimpArgs false
set_option maxRecDepth 100000
set_option maxHeartbeats 8000000

theorem Kp.old {B p : Nat} {w wa wb : World} (f : Fr [] w wa) (h : Kp B p wa wb) (hB : w.heap.size ≤ B) (hp : w.heap.size ≤ p) : Fr [] w wb :=
  ⟨h.os.trans f.os, h.tape.trans f.tape, h.output.trans f.output, Nat.le_trans f.size h.size, fun k hk _ => (h.block k (Nat.lt_of_lt_of_le hk f.size) (by omega) (.inl (by omega))).trans (f.block k hk (by simp))⟩
theorem bsl4U (z0 z1 z2 z3 : Int) : ∀ w : World, (Instr.buildSlice 22 4 #[(0, .int .u8 z0), (1, .int .u8 z1), (2, .int .u8 z2), (3, .int .u8 z3)]).run Tryz.prog w = .ok (.slice (some ⟨w.heap.size, 0, none⟩) 4 4) (w.alloc (.cells #[.int .u8 z0, .int .u8 z1, .int .u8 z2, .int .u8 z3] 5)) := fun w => by kernel_rfl
theorem rowMarked {W : World} {C : List Value} (fz : Nat × Nat) : LiesAt (W.alloc (.cells C.toArray 5 fz)) W.heap.size 0 C := fun j u hj => by
  have h := heap_alloc_new W (.cells C.toArray 5 fz)
  rw [Nat.zero_add]
  unfold World.cell?
  rw [h]
  simpa using hj
theorem rowFour {w : World} {E : Nat} {t : TypeId} {a b c d : Value} (h : Blk w E t [a, b, c, d]) : RowV w (.slice (some ⟨E, 0, none⟩) 4 4) 4 1 [a, b, c, d] := ⟨rfl, .inr ⟨E, 0, 4, rfl, h.lt, h.at⟩⟩
section
variable {ops : Array Oper} {rest : List Oper} {o : Oper} {a : Act} {w : World} {Q : Exit → Act → World → Prop}
theorem wpList_four {x0 x1 x2 x3 : Operand} {z0 z1 z2 z3 : Int} (hgd : o.guard = none) (ho : o.op = .buildSlice 22 4 #[(0, x0), (1, x1), (2, x2), (3, x3)]) (h0 : a.eval x0 = .int .u8 z0) (h1 : a.eval x1 = .int .u8 z1) (h2 : a.eval x2 = .int .u8 z2) (h3 : a.eval x3 = .int .u8 z3)
    (h : ∀ E w', Blk w' E 5 [.int .u8 z0, .int .u8 z1, .int .u8 z2, .int .u8 z3] → Fr [] w w' → wpList Tryz.prog ops Q rest (a.put o.dst (.slice (some ⟨E, 0, none⟩) 4 4)) w') : wpList Tryz.prog ops Q (o :: rest) a w :=
  wpList_val hgd (exec_bsl4 ho h0 h1 h2 h3 (bsl4U z0 z1 z2 z3 w)) (h _ _ (Blk.made w _ [.int .u8 z0, .int .u8 z1, .int .u8 z2, .int .u8 z3]) ((Fr.refl [] w).alloc _))
end
def headZ : List UInt8 := [65, 81, 83, 1]
theorem bldWr : ∀ w, (Instr.build 109 #[]).run Tryz.prog w = .ok (.agg #[.slice none 0 0]) w := fun w => by kernel_rfl
theorem exec_bld0 {P : Program} {o : Oper} {a : Act} {w w' : World} {v : Value} {t : TypeId} (ho : o.op = .build t #[]) (hrun : (Instr.build t #[]).run P w = .ok v w') : (execOp a.eval o).run P w = .ok (.value v) w' := by
  simp [execOp, ho, hrun]
/-- 36 bytes: the head, the body, four others. -/
def OutZ (w : World) (v : Value) : Prop := ∃ (z0 z1 z2 z3 : Int) (g c : Nat), v = .slice (some ⟨g, 0, none⟩) 36 c ∧ 36 ≤ c ∧ LiesAt w g 0 (bsV (headZ ++ bodyZ) ++ [.int .u8 z0, .int .u8 z1, .int .u8 z2, .int .u8 z3])
theorem OutZ.own {w : World} {b : Nat} {v : Value} {z0 z1 z2 z3 : Int} (h : w.ownsRow b 5 1 v 36 (bsV (headZ ++ bodyZ) ++ [.int .u8 z0, .int .u8 z1, .int .u8 z2, .int .u8 z3])) : OutZ w v := by
  have h' := h
  rcases h.2 with ⟨_, h0⟩ | ⟨g, cap, cur, rfl, h1, h2, h3, _⟩
  · exact absurd h0 (by decide)
  · exact ⟨z0, z1, z2, z3, g, cap, rfl, h3, fun j u hj => by
      have := World.ownsRow.cells h' (g := g) rfl j u hj
      rw [Addr.add_lit] at this
      exact this⟩
theorem write_z (g c : Nat) (w : World) (hE : EnvE w) (hT : Task1 w g) : Calls Tryz.prog 13 #[.agg (machZ g c).toArray] w fun e w' => ∃ s : Sli, e = .returned (.tuple #[slv s, .int .i64 0]) ∧ OutZ w' (slv s) ∧ Fr [] w w' := by
  obtain ⟨M, hV⟩ : ∃ z, w.heap.size = z := ⟨_, rfl⟩
  obtain ⟨w0, hw0⟩ : ∃ z, w.alloc (.cells (machZ g c).toArray 36) = z := ⟨_, rfl⟩
  have hv0 : Blk w0 M 36 (machZ g c) := by rw [← hw0, ← hV]; exact Blk.made w _ _
  have f0 : Fr [] w w0 := by rw [← hw0]; exact (Fr.refl [] w).alloc _
  have HF0 := Lib.hid f0
  have HM0 := Lib.hid hv0
  have HV := Lib.hid hV
  have HW0 := Lib.hid hw0
  have HG0 := Lib.hid (hE.new f0)
  have HT0 := Lib.hid (hT.new f0)
  clear hE hT
  clear hV hw0 hv0 f0
  go_enter Tryz.func13, Tryz.ntmps13
  go_upto_region 1 with fail
  simp only [HV.out]
  rw [HW0.out]
  refine wp_region_lit ?_
  refine wpList_val rfl (v := .agg (machZ g c).toArray) (w' := w0) ?_ ?_
  · show Sem.run Tryz.prog ((Instr.loadAt 36 (.pointer (some ⟨M, 0, none⟩))) >>= fun x => pure (Next.value x)) w0 = _
    rw [Sem.run_bind, load_all aggMa sizeMa (xs := machZ g c) rfl HM0.out.at]
    rfl
  try simp only [Act.put, List.getElem_toArray, List.getElem_cons_succ, List.getElem_cons_zero, List.setIfInBounds_toArray, List.set_cons_zero, List.set_cons_succ]
  refine wpList_plain rfl (fun K hK => ?_)
  go_simp
  refine (valid_z g c _ HG0.out HT0.out).mono ?_
  rintro e w1 ⟨rfl, f1⟩
  refine hK _ _ ?_
  clear hK K
  have HF1 := Lib.hid (HF0.out.step f1)
  have HM1 := Lib.hid (HM0.out.keep f1 (by simp))
  have HT1 := Lib.hid (HT0.out.new f1)
  clear f1
  try simp only [Act.put, List.getElem_toArray, List.getElem_cons_succ, List.getElem_cons_zero, List.setIfInBounds_toArray, List.set_cons_zero, List.set_cons_succ]
  refine wpList_plain rfl (fun K hK => ?_)
  go_simp
  refine hK _ _ ?_
  clear hK K
  refine wpList_nil ?_
  try simp only [Act.put, List.getElem_toArray, List.getElem_cons_succ, List.getElem_cons_zero, List.setIfInBounds_toArray, List.set_cons_zero, List.set_cons_succ]
  go_upto_region 3 with fail
  refine wp_region_lit ?_
  refine wpList_val rfl (v := .agg #[.slice none 0 0]) (w' := w1) (exec_bld0 rfl (bldWr w1)) ?_
  try simp only [Act.put, List.getElem_toArray, List.getElem_cons_succ, List.getElem_cons_zero, List.setIfInBounds_toArray, List.set_cons_zero, List.set_cons_succ]
  refine wpList_plain rfl (fun K hK => ?_)
  go_simp
  refine hK _ _ ?_
  clear hK K
  try simp only [Act.put, List.getElem_toArray, List.getElem_cons_succ, List.getElem_cons_zero, List.setIfInBounds_toArray, List.set_cons_zero, List.set_cons_succ]
  obtain ⟨p, hp⟩ : ∃ z, w1.heap.size = z := ⟨_, rfl⟩
  obtain ⟨w2, hw2⟩ : ∃ z, w1.alloc (.cells #[.slice none 0 0] 109) = z := ⟨_, rfl⟩
  have hb2 : Blk w2 p 109 [.slice none 0 0] := by rw [← hw2, ← hp]; exact Blk.made w1 _ _
  have f2 : Fr [] w1 w2 := by rw [← hw2]; exact (Fr.refl [] w1).alloc _
  rw [hw2]
  simp only [hp]
  have HF2 := Lib.hid (HF1.out.step f2)
  have HM2 := Lib.hid (HM1.out.keep f2 (by simp))
  have HT2 := Lib.hid (HT1.out.new f2)
  have HPS := Lib.hid (show w.heap.size ≤ p from by rw [← hp]; exact HF1.out.size)
  have HB2 := Lib.hid (show Buf w.heap.size w2 p (none, 0, 0) [] from ⟨hb2, World.ownsRow_nil _ _ _ _, HF2.out.size⟩)
  clear hp hw2 hb2 f2
  refine wpList_plain rfl (fun K hK => ?_)
  go_simp
  refine hK _ _ ?_
  clear hK K
  refine wpList_nil ?_
  try simp only [Act.put, List.getElem_toArray, List.getElem_cons_succ, List.getElem_cons_zero, List.setIfInBounds_toArray, List.set_cons_zero, List.set_cons_succ]
  go_upto_region 4 with fail
  refine wp_region_lit ?_
  refine wpList_plain rfl (fun K hK => ?_)
  go_simp
  refine hK _ _ ?_
  clear hK K
  try simp only [Act.put, List.getElem_toArray, List.getElem_cons_succ, List.getElem_cons_zero, List.setIfInBounds_toArray, List.set_cons_zero, List.set_cons_succ]
  refine wpList_val rfl (v := .agg (machZ g c).toArray) (w' := w2) ?_ ?_
  · show Sem.run Tryz.prog ((Instr.loadAt 36 (.pointer (some ⟨M, 0, none⟩))) >>= fun x => pure (Next.value x)) w2 = _
    rw [Sem.run_bind, load_all aggMa sizeMa (xs := machZ g c) rfl HM2.out.at]
    rfl
  try simp only [Act.put, List.getElem_toArray, List.getElem_cons_succ, List.getElem_cons_zero, List.setIfInBounds_toArray, List.set_cons_zero, List.set_cons_succ]
  obtain ⟨XT, hT, hX⟩ := HT2.out
  refine wpList_plain rfl (fun K hK => ?_)
  go_simp
  refine (state_z g c XT hX _ HB2.out (by decide) hT).mono ?_
  rintro e w3 ⟨rfl, ⟨s, hb3⟩, k3⟩
  refine hK _ _ ?_
  clear hK K
  rw [List.nil_append] at hb3
  have HB3 := Lib.hid hb3
  have HF3 := Lib.hid (Kp.old HF2.out k3 (Nat.le_refl _) HPS.out)
  clear hT hX hb3 k3 HB2 HT2 HM2
  try simp only [Act.put, List.getElem_toArray, List.getElem_cons_succ, List.getElem_cons_zero, List.setIfInBounds_toArray, List.set_cons_zero, List.set_cons_succ]
  refine wpList_nil ?_
  try simp only [Act.put, List.getElem_toArray, List.getElem_cons_succ, List.getElem_cons_zero, List.setIfInBounds_toArray, List.set_cons_zero, List.set_cons_succ]
  go_upto_region 5 with fail
  obtain ⟨ks, hks⟩ : ∃ k, sumI bodyZ = k := ⟨_, rfl⟩
  have HSU := Lib.hid (sum_any bodyZ (slv s) w3 (RowV.of_own HB3.out.row) (by decide))
  rw [hks] at HSU
  clear hks
  have c0 : w3.cell? ⟨p, 0, none⟩ = some (.slice s.1 s.2.1 s.2.2) := HB3.out.blk.at 0 _ rfl
  refine wp_region_lit ?_
  refine wpList_plain rfl (fun K hK => ?_)
  go_simp
  refine hK _ _ ?_
  clear hK K
  refine wpList_plain rfl (fun K hK => ?_)
  go_simp
  refine hK _ _ ?_
  clear hK K
  refine wpList_plain rfl (fun K hK => ?_)
  go_simp
  refine hK _ _ ?_
  clear hK K
  refine wpList_plain rfl (fun K hK => ?_)
  go_simp
  refine hK _ _ ?_
  clear hK K
  refine wpList_plain rfl (fun K hK => ?_)
  go_simp
  refine hK _ _ ?_
  clear hK K
  refine wpList_plain rfl (fun K hK => ?_)
  go_simp
  refine HSU.out.mono ?_
  rintro e w' ⟨rfl, rfl⟩
  refine hK _ _ ?_
  clear hK K
  try simp only [Act.put, List.getElem_toArray, List.getElem_cons_succ, List.getElem_cons_zero, List.setIfInBounds_toArray, List.set_cons_zero, List.set_cons_succ]
  refine wpList_plain rfl (fun K hK => ?_)
  go_simp
  refine hK _ _ ?_
  clear hK K
  refine wpList_nil ?_
  try simp only [Act.put, List.getElem_toArray, List.getElem_cons_succ, List.getElem_cons_zero, List.setIfInBounds_toArray, List.set_cons_zero, List.set_cons_succ]
  clear c0 HSU
  go_upto_region 6 with fail
  refine wp_region_lit ?_
  obtain ⟨E4, hE4⟩ : ∃ z, w3.heap.size = z := ⟨_, rfl⟩
  refine wpList_val rfl (v := .slice (some ⟨w3.heap.size, 0, none⟩) 4 4) (w' := w3.alloc (.cells (bsV headZ).toArray 5)) ?_ ?_
  · refine exec_bsl4 (V0 := .int .u8 65) (V1 := .int .u8 81) (V2 := .int .u8 83) (V3 := .int .u8 1) rfl rfl rfl rfl rfl ?_
    exact bsl4U 65 81 83 1 w3
  try simp only [Act.put, List.getElem_toArray, List.getElem_cons_succ, List.getElem_cons_zero, List.setIfInBounds_toArray, List.set_cons_zero, List.set_cons_succ]
  refine wpList_val rfl (v := .slice (some ⟨w3.heap.size, 0, none⟩) 4 4) (w' := w3.alloc (.cells (bsV headZ).toArray 5 (4, 5))) (exec_conv rfl rfl (Lib.run_convert_bytes_const (P := Tryz.prog) w3 22 5 (bsV headZ).toArray 4 4 Tryz.underlying22 Tryz.underlying5)) ?_
  try simp only [Act.put, List.getElem_toArray, List.getElem_cons_succ, List.getElem_cons_zero, List.setIfInBounds_toArray, List.set_cons_zero, List.set_cons_succ]
  obtain ⟨w4, hw4⟩ : ∃ z, w3.alloc (.cells (bsV headZ).toArray 5 (4, 5)) = z := ⟨_, rfl⟩
  have hb4 : LiesAt w4 w3.heap.size 0 (bsV headZ) := by rw [← hw4]; exact rowMarked _
  have f4 : Fr [] w3 w4 := by rw [← hw4]; exact (Fr.refl [] w3).alloc _
  have hlt : w3.heap.size < w4.heap.size := by rw [← hw4]; simp
  rw [hE4] at hb4 hlt ⊢
  rw [hw4]
  have HR4 := Lib.hid (show RowV w4 (.slice (some ⟨E4, 0, none⟩) 4 4) 4 1 (bsV headZ) from ⟨rfl, .inr ⟨E4, 0, 4, rfl, hlt, hb4⟩⟩)
  have HB4 := Lib.hid (HB3.out.new f4)
  have HF4 := Lib.hid (HF3.out.step f4)
  have c0 : w4.cell? ⟨p, 0, none⟩ = some (.slice s.1 s.2.1 s.2.2) := HB4.out.blk.at 0 _ rfl
  clear hw4 hE4 hb4 f4 hlt
  refine wpList_plain rfl (fun K hK => ?_)
  go_simp
  refine hK _ _ ?_
  clear hK K
  refine wpList_plain rfl (fun K hK => ?_)
  go_simp
  refine hK _ _ ?_
  clear hK K
  refine wpList_plain rfl (fun K hK => ?_)
  go_simp
  refine hK _ _ ?_
  clear hK K
  refine wpList_plain rfl (fun K hK => ?_)
  go_simp
  refine hK _ _ ?_
  clear hK K
  refine wpList_plain rfl (fun K hK => ?_)
  go_simp
  refine hK _ _ ?_
  clear hK K
  try simp only [Act.put, List.getElem_toArray, List.getElem_cons_succ, List.getElem_cons_zero, List.setIfInBounds_toArray, List.set_cons_zero, List.set_cons_succ]
  refine wpList_append_cap elemU8 rfl _ _ rfl (a0 := some ⟨E4, 0, none⟩) (n := 4) (xs := bsV headZ) rfl HR4.out (X := slv s) (m := bodyZ.length) (news := bsV bodyZ) rfl (RowV.of_own HB4.out.row) (by decide) (by decide) (by decide) ?_
  intro s5 w5 ho5 f5
  have HO5 := Lib.hid ho5
  have HF5 := Lib.hid (HF4.out.step f5)
  have HL5 := Lib.hid f5.size
  clear ho5 f5 c0
  try simp only [Act.put, List.getElem_toArray, List.getElem_cons_succ, List.getElem_cons_zero, List.setIfInBounds_toArray, List.set_cons_zero, List.set_cons_succ]
  refine wpList_plain rfl (fun K hK => ?_)
  go_simp
  refine hK _ _ ?_
  clear hK K
  refine wpList_nil ?_
  try simp only [Act.put, List.getElem_toArray, List.getElem_cons_succ, List.getElem_cons_zero, List.setIfInBounds_toArray, List.set_cons_zero, List.set_cons_succ]
  go_upto_region 7 with fail
  refine wp_region_lit ?_
  refine wpList_plain rfl (fun K hK => ?_)
  go_simp
  refine hK _ _ ?_
  clear hK K
  refine wpList_plain rfl (fun K hK => ?_)
  go_simp
  refine hK _ _ ?_
  clear hK K
  refine wpList_plain rfl (fun K hK => ?_)
  go_simp
  refine hK _ _ ?_
  clear hK K
  refine wpList_plain rfl (fun K hK => ?_)
  go_simp
  refine hK _ _ ?_
  clear hK K
  refine wpList_plain rfl (fun K hK => ?_)
  go_simp
  refine hK _ _ ?_
  clear hK K
  refine wpList_plain rfl (fun K hK => ?_)
  go_simp
  refine hK _ _ ?_
  clear hK K
  refine wpList_plain rfl (fun K hK => ?_)
  go_simp
  refine hK _ _ ?_
  clear hK K
  refine wpList_plain rfl (fun K hK => ?_)
  go_simp
  refine hK _ _ ?_
  clear hK K
  refine wpList_plain rfl (fun K hK => ?_)
  go_simp
  refine hK _ _ ?_
  clear hK K
  refine wpList_plain rfl (fun K hK => ?_)
  go_simp
  refine hK _ _ ?_
  clear hK K
  refine wpList_plain rfl (fun K hK => ?_)
  go_simp
  refine hK _ _ ?_
  clear hK K
  refine wpList_plain rfl (fun K hK => ?_)
  go_simp
  refine hK _ _ ?_
  clear hK K
  try simp only [Act.put, List.getElem_toArray, List.getElem_cons_succ, List.getElem_cons_zero, List.setIfInBounds_toArray, List.set_cons_zero, List.set_cons_succ]
  refine wpList_four rfl rfl rfl rfl rfl rfl (fun E6 w6 hb6 f6 => ?_)
  have HR6 := Lib.hid (rowFour hb6)
  have HO6 := Lib.hid (rowNew HO5.out f6)
  have HF6 := Lib.hid (HF5.out.step f6)
  have HL6 := Lib.hid (Nat.le_trans HL5.out f6.size)
  clear hb6 f6
  
  try simp only [Act.put, List.getElem_toArray, List.getElem_cons_succ, List.getElem_cons_zero, List.setIfInBounds_toArray, List.set_cons_zero, List.set_cons_succ]
  refine wpList_append_any elemU8 rfl _ _ rfl w4.heap.size (v := slv s5) (n := 4 + bodyZ.length) (xs := bsV headZ ++ bsV bodyZ) rfl HO6.out (X := .slice (some ⟨E6, 0, none⟩) 4 4) (m := 4) rfl HR6.out (by intro u hu; simp only [List.mem_cons, List.not_mem_nil, or_false] at hu; rcases hu with rfl | rfl | rfl | rfl <;> rfl) (by decide) (by decide) HL6.out ?_
  intro s7 w7 ho7 f7
  rw [bsV_add] at ho7
  have HR7 := Lib.hid (show OutZ w7 (slv s7) from OutZ.own ho7)
  have HF7 := Lib.hid (HF6.out.trans f7 (fun x hx hl => by
    rcases HO6.out.2 with ⟨_, h0⟩ | ⟨g1, cap, cur, h1, h2, _⟩
    · exact absurd h0 (by decide)
    · rw [h1] at hx
      simp [Value.ownBlock] at hx
      have := HF4.out.size
      omega))
  clear ho7 f7
  try simp only [Act.put, List.getElem_toArray, List.getElem_cons_succ, List.getElem_cons_zero, List.setIfInBounds_toArray, List.set_cons_zero, List.set_cons_succ]
  refine wpList_plain rfl (fun K hK => ?_)
  go_simp
  refine hK _ _ ?_
  clear hK K
  refine wpList_plain rfl (fun K hK => ?_)
  go_simp
  refine hK _ _ ?_
  clear hK K
  refine wpList_nil ?_
  try simp only [Act.put, List.getElem_toArray, List.getElem_cons_succ, List.getElem_cons_zero, List.setIfInBounds_toArray, List.set_cons_zero, List.set_cons_succ]
  go_wp2
  go_ret2
  exact ⟨s7, rfl, HR7.out, HF7.out⟩
end Go.Proofs.YtemihaijhcpnfaaGreatDoor
