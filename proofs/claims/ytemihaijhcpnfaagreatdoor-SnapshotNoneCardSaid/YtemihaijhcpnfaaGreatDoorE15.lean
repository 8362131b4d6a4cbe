/- The law's known: the examples of the chapter. -/
import Derived.Test.YtemihaijhcpnfaaGreatDoorE12
import Derived.Test.YtemihaijhcpnfaaGreatDoorE14
namespace Go.Proofs.YtemihaijhcpnfaaGreatDoor
open Go.RowKit
open Go.Maps (Keyed)
set_option linter.unusedVariables false
set_option linter.unusedSimpArgs false
set_option maxRecDepth 100000
set_option maxHeartbeats 4000000

theorem bsl8U (z0 z1 z2 z3 z4 z5 z6 z7 : Int) : ∀ w : World, (Instr.buildSlice 22 8 #[(0, .int .u8 z0), (1, .int .u8 z1), (2, .int .u8 z2), (3, .int .u8 z3), (4, .int .u8 z4), (5, .int .u8 z5), (6, .int .u8 z6), (7, .int .u8 z7)]).run Tryz.prog w = .ok (.slice (some ⟨w.heap.size, 0, none⟩) 8 8) (w.alloc (.cells #[.int .u8 z0, .int .u8 z1, .int .u8 z2, .int .u8 z3, .int .u8 z4, .int .u8 z5, .int .u8 z6, .int .u8 z7] 5)) := fun w => by kernel_rfl
theorem exec_bsl8 {P : Program} {o : Oper} {a : Act} {w w' : World} {v : Value} {t : TypeId} {x0 x1 x2 x3 x4 x5 x6 x7 : Operand} {V0 V1 V2 V3 V4 V5 V6 V7 : Value} (ho : o.op = .buildSlice t 8 #[(0, x0), (1, x1), (2, x2), (3, x3), (4, x4), (5, x5), (6, x6), (7, x7)]) (h0 : a.eval x0 = V0) (h1 : a.eval x1 = V1) (h2 : a.eval x2 = V2) (h3 : a.eval x3 = V3) (h4 : a.eval x4 = V4) (h5 : a.eval x5 = V5) (h6 : a.eval x6 = V6) (h7 : a.eval x7 = V7) (hrun : (Instr.buildSlice t 8 #[(0, V0), (1, V1), (2, V2), (3, V3), (4, V4), (5, V5), (6, V6), (7, V7)]).run P w = .ok v w') : (execOp a.eval o).run P w = .ok (.value v) w' := by
  simp [execOp, ho, h0, h1, h2, h3, h4, h5, h6, h7, hrun]
theorem bsl9U (z0 z1 z2 z3 z4 z5 z6 z7 z8 : Int) : ∀ w : World, (Instr.buildSlice 22 9 #[(0, .int .u8 z0), (1, .int .u8 z1), (2, .int .u8 z2), (3, .int .u8 z3), (4, .int .u8 z4), (5, .int .u8 z5), (6, .int .u8 z6), (7, .int .u8 z7), (8, .int .u8 z8)]).run Tryz.prog w = .ok (.slice (some ⟨w.heap.size, 0, none⟩) 9 9) (w.alloc (.cells #[.int .u8 z0, .int .u8 z1, .int .u8 z2, .int .u8 z3, .int .u8 z4, .int .u8 z5, .int .u8 z6, .int .u8 z7, .int .u8 z8] 5)) := fun w => by kernel_rfl
theorem exec_bsl9 {P : Program} {o : Oper} {a : Act} {w w' : World} {v : Value} {t : TypeId} {x0 x1 x2 x3 x4 x5 x6 x7 x8 : Operand} {V0 V1 V2 V3 V4 V5 V6 V7 V8 : Value} (ho : o.op = .buildSlice t 9 #[(0, x0), (1, x1), (2, x2), (3, x3), (4, x4), (5, x5), (6, x6), (7, x7), (8, x8)]) (h0 : a.eval x0 = V0) (h1 : a.eval x1 = V1) (h2 : a.eval x2 = V2) (h3 : a.eval x3 = V3) (h4 : a.eval x4 = V4) (h5 : a.eval x5 = V5) (h6 : a.eval x6 = V6) (h7 : a.eval x7 = V7) (h8 : a.eval x8 = V8) (hrun : (Instr.buildSlice t 9 #[(0, V0), (1, V1), (2, V2), (3, V3), (4, V4), (5, V5), (6, V6), (7, V7), (8, V8)]).run P w = .ok v w') : (execOp a.eval o).run P w = .ok (.value v) w' := by
  simp [execOp, ho, h0, h1, h2, h3, h4, h5, h6, h7, h8, hrun]
theorem sumNil (w : World) : Calls Tryz.prog 10 #[.slice none 0 0] w fun e w' => e = .returned (.int .u32 5381) ∧ w = w' := sum_any [] _ w (RowV.nil _ 1 _ _) (by decide)
theorem sumA (w : World) : Calls Tryz.prog 10 #[.slice (some ⟨w.heap.size, 0, none⟩) 1 1] (w.alloc (.cells #[.int .u8 97] 5 (1, 2))) fun e w' => e = .returned (.int .u32 177604) ∧ w.alloc (.cells #[.int .u8 97] 5 (1, 2)) = w' := by
  have h := sum_any [97] (.slice (some ⟨w.heap.size, 0, none⟩) 1 1) (w.alloc (.cells #[.int .u8 97] 5 (1, 2))) ⟨rfl, .inr ⟨_, 0, 1, rfl, by simp, fun j u hj => rowMarked (C := [.int .u8 97]) (1, 2) j u hj⟩⟩ (by decide)
  rw [sum_a] at h
  exact h
theorem cells9 {W : World} {b : Nat} (h : LiesAt W b 0 (bsV [65, 81, 83, 1, 3, 1, 0, 0, 0])) (j : Nat) (hj : j < ([65, 81, 83, 1, 3, 1, 0, 0, 0] : List UInt8).length) : W.cell? ⟨b, 0 + j, none⟩ = some (.int .u8 (((([65, 81, 83, 1, 3, 1, 0, 0, 0] : List UInt8)[j]).toNat : Nat) : Int)) := by
  match j, hj with
  | 0, _ => exact h 0 _ rfl
  | 1, _ => exact h 1 _ rfl
  | 2, _ => exact h 2 _ rfl
  | 3, _ => exact h 3 _ rfl
  | 4, _ => exact h 4 _ rfl
  | 5, _ => exact h 5 _ rfl
  | 6, _ => exact h 6 _ rfl
  | 7, _ => exact h 7 _ rfl
  | 8, _ => exact h 8 _ rfl
  | k + 9, h => exact absurd h (by simp)
theorem neq9 : ∀ W : World, (binOp .neq 9 (.string ⟨#[65, 81, 83, 1, 3, 1, 0, 0, 0]⟩) (.string ⟨#[65, 81, 83, 1, 3, 1, 0, 0, 0]⟩)).run Tryz.prog W = .ok (.bool false) W := fun W => by kernel_rfl
theorem known_true (w : World) (hE : EnvE w) : Calls Tryz.prog 9 #[] w fun e w' => e = .returned (.bool true) ∧ Fr [] w w' := by
  have HE := Lib.hid hE
  clear hE
  go_enter Tryz.func9, Tryz.ntmps9
  go_wp2_with fail
  refine (engNew_z _ HE.out).mono ?_
  rintro e w1 ⟨en, rfl, hen, f1⟩
  have HEN := Lib.hid hen
  have HF1 := Lib.hid f1
  clear hen f1
  have kc := fun (w : World) (C : Array Value) (n c : Nat) => Lib.run_convert_bytes_const (P := Tryz.prog) w 22 5 C n c Tryz.underlying22 Tryz.underlying5
  go_wp2_with fail
  refine (sumNil _).mono ?_
  rintro e w' ⟨rfl, rfl⟩
  go_wp2_with fail
  refine (sumA _).mono ?_
  rintro e w' ⟨rfl, rfl⟩
  clear kc
  have f2 : Fr [] w1 (w1.alloc (.cells #[.int .u8 97] 5 (1, 2))) := (Fr.refl [] w1).alloc _
  obtain ⟨w2, hw2⟩ : ∃ z, w1.alloc (.cells #[.int .u8 97] 5 (1, 2)) = z := ⟨_, rfl⟩
  rw [hw2] at f2 ⊢
  have HF2 := Lib.hid (HF1.out.step f2)
  have HEN2 := Lib.hid (HEN.out.new f2)
  clear hw2 f2
  go_wp2_with fail
  refine (machine_z _ _ HEN2.out).mono ?_
  rintro e w3 ⟨g, c, rfl, hg, f3⟩
  have HF3 := Lib.hid (HF2.out.step f3)
  have HG3 := Lib.hid hg
  clear hg f3
  go_wp2_with fail
  refine (write_z g c _ (HE.out.new HF3.out) HG3.out).mono ?_
  rintro e w4 ⟨s, rfl, ho, f4⟩
  have HF4 := Lib.hid (HF3.out.step f4)
  obtain ⟨z0, z1, z2, z3, o, oc, hs, hoc, hl⟩ := ho
  have HO4 := Lib.hid (show LiesAt w4 o 0 (bsV [65, 81, 83, 1, 3, 1, 0, 0, 0]) from hl.part (k := 0) (n := 9) rfl)
  have h23 : w4.cell? ⟨o, 23, none⟩ = some (.int .u8 1) := by
    have := hl 23 (.int .u8 1) rfl
    rwa [Nat.zero_add] at this
  have H23 := Lib.hid h23
  have hoc9 : (9 : Int) ≤ (oc : Int) := by omega
  clear f4 hl h23
  rw [hs]
  clear hs
  obtain ⟨w5, hw5⟩ : ∃ z, w4.drew = z := ⟨_, rfl⟩
  have f5 : Fr [] w4 w5 := by rw [← hw5]; exact (Fr.refl [] w4).drew
  have HO5 := Lib.hid (show LiesAt w5 o 0 (bsV [65, 81, 83, 1, 3, 1, 0, 0, 0]) ∧ w5.cell? ⟨o, 23, none⟩ = some (.int .u8 1) from ⟨HO4.out.keep f5 (by simp), f5.keep H23.out (by simp)⟩)
  have HF5 := Lib.hid (HF4.out.step f5)
  have HW5 := Lib.hid hw5
  clear f5 hw5
  go_upto_region 5 with fail
  refine wp_region_held_drew (S := fun W => LiesAt W o 0 (bsV [65, 81, 83, 1, 3, 1, 0, 0, 0]) ∧ W.cell? ⟨o, 23, none⟩ = some (.int .u8 1)) (by kernel_rfl) (by rw [HW5.out]; exact HO5.out) (fun hHeld => ?_)
  rw [HW5.out] at hHeld ⊢
  refine wpAnyH_take (i := 0) (oi := _) (v := ?_) rfl (by kernel_rfl) (by kernel_rfl) (by kernel_rfl) (fun _ _ _ h => h) (Or.inl ⟨by rfl, ?_⟩) (by first | assumption | trivial) ?_
  rotate_left
  · intro w hSw
    try dsimp only at hSw
    go_simp
    try with_reducible rfl
  try simp only [Act.put, List.getElem_toArray, List.getElem_cons_succ, List.getElem_cons_zero, List.setIfInBounds_toArray, List.set_cons_zero, List.set_cons_succ]
  refine wpAnyH_take (i := 1) (oi := _) (v := ?_) rfl (by kernel_rfl) (by kernel_rfl) (by kernel_rfl) (fun _ _ _ h => h) (Or.inl ⟨by rfl, ?_⟩) (by first | assumption | trivial) ?_
  rotate_left
  · intro w hSw
    try dsimp only at hSw
    go_simp
    try with_reducible rfl
  try simp only [Act.put, List.getElem_toArray, List.getElem_cons_succ, List.getElem_cons_zero, List.setIfInBounds_toArray, List.set_cons_zero, List.set_cons_succ]
  refine wpAnyH_take (i := 2) (oi := _) (v := ?_) rfl (by kernel_rfl) (by kernel_rfl) (by kernel_rfl) (fun _ _ _ h => h) (Or.inl ⟨by rfl, ?_⟩) (by first | assumption | trivial) ?_
  rotate_left
  · intro w hSw
    try dsimp only at hSw
    go_simp
    try with_reducible rfl
  try simp only [Act.put, List.getElem_toArray, List.getElem_cons_succ, List.getElem_cons_zero, List.setIfInBounds_toArray, List.set_cons_zero, List.set_cons_succ]
  refine wpAnyH_take (i := 3) (oi := _) (v := ?_) rfl (by kernel_rfl) (by kernel_rfl) (by kernel_rfl) (fun _ _ _ h => h) (Or.inl ⟨by rfl, ?_⟩) (by first | assumption | trivial) ?_
  rotate_left
  · intro w hSw
    try dsimp only at hSw
    go_simp
    try with_reducible rfl
  try simp only [Act.put, List.getElem_toArray, List.getElem_cons_succ, List.getElem_cons_zero, List.setIfInBounds_toArray, List.set_cons_zero, List.set_cons_succ]
  refine wpAnyH_take (i := 4) (oi := _) (v := ?_) rfl (by kernel_rfl) (by kernel_rfl) (by kernel_rfl) (fun _ _ _ h => h) (Or.inl ⟨by rfl, ?_⟩) (by first | assumption | trivial) ?_
  rotate_left
  · intro w hSw
    try dsimp only at hSw
    go_simp
    try with_reducible rfl
  try simp only [Act.put, List.getElem_toArray, List.getElem_cons_succ, List.getElem_cons_zero, List.setIfInBounds_toArray, List.set_cons_zero, List.set_cons_succ]
  refine wpAnyH_take (i := 5) (oi := _) (v := ?_) rfl (by kernel_rfl) (by kernel_rfl) (by kernel_rfl) (fun _ _ _ h => h) (Or.inl ⟨by rfl, ?_⟩) (by first | assumption | trivial) ?_
  rotate_left
  · intro w hSw
    try dsimp only at hSw
    go_simp
    try with_reducible rfl
  try simp only [Act.put, List.getElem_toArray, List.getElem_cons_succ, List.getElem_cons_zero, List.setIfInBounds_toArray, List.set_cons_zero, List.set_cons_succ]
  refine wpAnyH_take (i := 6) (oi := _) (v := ?_) rfl (by kernel_rfl) (by kernel_rfl) (by kernel_rfl) (fun _ _ _ h => h) (Or.inl ⟨by rfl, ?_⟩) (by first | assumption | trivial) ?_
  rotate_left
  · intro w hSw
    try dsimp only at hSw
    go_simp
    try with_reducible rfl
  try simp only [Act.put, List.getElem_toArray, List.getElem_cons_succ, List.getElem_cons_zero, List.setIfInBounds_toArray, List.set_cons_zero, List.set_cons_succ]
  refine wpAnyH_take (i := 7) (oi := _) (v := ?_) rfl (by kernel_rfl) (by kernel_rfl) (by kernel_rfl) (fun _ _ _ h => h) (Or.inl ⟨by rfl, ?_⟩) (by first | assumption | trivial) ?_
  rotate_left
  · intro w hSw
    try dsimp only at hSw
    go_simp
    try with_reducible rfl
  try simp only [Act.put, List.getElem_toArray, List.getElem_cons_succ, List.getElem_cons_zero, List.setIfInBounds_toArray, List.set_cons_zero, List.set_cons_succ]
  refine wpAnyH_take (i := 8) (oi := _) (v := ?_) rfl (by kernel_rfl) (by kernel_rfl) (by kernel_rfl) (fun _ _ _ h => h) (Or.inl ⟨by rfl, ?_⟩) (by first | assumption | trivial) ?_
  rotate_left
  · intro w hSw
    try dsimp only at hSw
    go_simp
    try with_reducible rfl
  try simp only [Act.put, List.getElem_toArray, List.getElem_cons_succ, List.getElem_cons_zero, List.setIfInBounds_toArray, List.set_cons_zero, List.set_cons_succ]
  refine wpAnyH_take (i := 9) (oi := _) (v := .slice (some ⟨o, 0, none⟩) 9 oc) rfl (by kernel_rfl) (by kernel_rfl) (by kernel_rfl) (fun _ _ _ h => h) (Or.inl ⟨by rfl, ?_⟩) (by first | assumption | trivial) ?_
  · intro w hSw
    try dsimp only at hSw
    first
      | (go_simp; done)
      | (go_simp; rfl)
  try simp only [Act.put, List.getElem_toArray, List.getElem_cons_succ, List.getElem_cons_zero, List.setIfInBounds_toArray, List.set_cons_zero, List.set_cons_succ]
  refine wpAnyH_take (i := 10) (oi := _) (v := .string ⟨#[65, 81, 83, 1, 3, 1, 0, 0, 0]⟩) rfl (by kernel_rfl) (by kernel_rfl) (by kernel_rfl) (fun _ _ _ h => h) (Or.inl ⟨by rfl, ?_⟩) (by first | assumption | trivial) ?_
  · intro w hSw
    try dsimp only at hSw
    exact exec_conv rfl rfl (run_convert_bytes_back w 22 9 5 ⟨o, 0, none⟩ oc [65, 81, 83, 1, 3, 1, 0, 0, 0] Tryz.underlying22 Tryz.underlying5 Tryz.underlying9 (fun j hj => by
      rw [Addr.add_lit]
      exact cells9 hSw.1 j hj))
  try simp only [Act.put, List.getElem_toArray, List.getElem_cons_succ, List.getElem_cons_zero, List.setIfInBounds_toArray, List.set_cons_zero, List.set_cons_succ]
  refine wpAnyH_ready (rs := [11]) (by kernel_rfl) (by simp) ?_
  refine AllReadyH.cons (o := _) rfl (fun K hK => ?_) AllReadyH.nil
  obtain ⟨w6, hw6⟩ : ∃ z, w5.alloc (.cells (bsV [65, 81, 83, 1, 3, 1, 0, 0, 0]).toArray 5) = z := ⟨_, rfl⟩
  obtain ⟨E6, hE6⟩ : ∃ z, w5.heap.size = z := ⟨_, rfl⟩
  have hb6 : Blk w6 E6 5 (bsV [65, 81, 83, 1, 3, 1, 0, 0, 0]) := by rw [← hw6, ← hE6]; exact Blk.made w5 _ _
  have f6 : Fr [] w5 w6 := by rw [← hw6]; exact (Fr.refl [] w5).alloc _
  split
  rotate_left
  · rename_i hno
    exact absurd rfl hno
  refine wp_vl (v := .slice (some ⟨E6, 0, none⟩) 9 9) (w' := w6) ?_ ?_
  · refine exec_bsl9 (V0 := .int .u8 65) (V1 := .int .u8 81) (V2 := .int .u8 83) (V3 := .int .u8 1) (V4 := .int .u8 3) (V5 := .int .u8 1) (V6 := .int .u8 0) (V7 := .int .u8 0) (V8 := .int .u8 0) rfl rfl rfl rfl rfl rfl rfl rfl rfl rfl ?_
    rw [bsl9U]
    rw [show w5.alloc (.cells #[.int .u8 65, .int .u8 81, .int .u8 83, .int .u8 1, .int .u8 3, .int .u8 1, .int .u8 0, .int .u8 0, .int .u8 0] 5) = w6 from hw6, hE6]
  have HB6 := Lib.hid hb6
  have HF6 := Lib.hid (HF5.out.step f6)
  have HO6 := Lib.hid (show LiesAt w6 o 0 (bsV [65, 81, 83, 1, 3, 1, 0, 0, 0]) ∧ w6.cell? ⟨o, 23, none⟩ = some (.int .u8 1) from ⟨HO5.out.1.keep f6 (by simp), f6.keep HO5.out.2 (by simp)⟩)
  clear hw6 hE6 hb6 f6
  refine hK.out _ _ (HO6.out) (fun hHeld => ?_)
  clear hK K
  try simp only [Act.put, List.getElem_toArray, List.getElem_cons_succ, List.getElem_cons_zero, List.setIfInBounds_toArray, List.set_cons_zero, List.set_cons_succ]
  refine wpAnyH_ready (rs := [12]) (by kernel_rfl) (by simp) ?_
  refine AllReadyH.cons (o := _) rfl (fun K hK => ?_) AllReadyH.nil
  split
  rotate_left
  · rename_i hno
    exact absurd rfl hno
  refine wp_vl (v := .string ⟨#[65, 81, 83, 1, 3, 1, 0, 0, 0]⟩) (w' := w6) (exec_conv rfl rfl (run_convert_bytes_back w6 22 9 5 ⟨E6, 0, none⟩ 9 [65, 81, 83, 1, 3, 1, 0, 0, 0] Tryz.underlying22 Tryz.underlying5 Tryz.underlying9 (fun j hj => by
    rw [Addr.add_lit]
    exact cells9 HB6.out.at j hj))) ?_
  refine hK.out _ _ (HO6.out) (fun hHeld => ?_)
  clear hK K
  try simp only [Act.put, List.getElem_toArray, List.getElem_cons_succ, List.getElem_cons_zero, List.setIfInBounds_toArray, List.set_cons_zero, List.set_cons_succ]
  refine wpAnyH_take (i := 13) (oi := _) (v := .bool false) rfl (by kernel_rfl) (by kernel_rfl) (by kernel_rfl) (fun _ _ _ h => h) (Or.inl ⟨by rfl, ?_⟩) (by first | assumption | trivial) ?_
  · intro w hSw
    try dsimp only at hSw
    have hq := neq9
    first
      | (go_simp; done)
      | (go_simp; rfl)
  try simp only [Act.put, List.getElem_toArray, List.getElem_cons_succ, List.getElem_cons_zero, List.setIfInBounds_toArray, List.set_cons_zero, List.set_cons_succ]
  refine wpAnyH_take (i := 14) (oi := _) (v := ?_) rfl (by kernel_rfl) (by kernel_rfl) (by kernel_rfl) (fun _ _ _ h => h) (Or.inl ⟨by rfl, ?_⟩) (by first | assumption | trivial) ?_
  rotate_left
  · intro w hSw
    try dsimp only at hSw
    go_simp
    try with_reducible rfl
  try simp only [Act.put, List.getElem_toArray, List.getElem_cons_succ, List.getElem_cons_zero, List.setIfInBounds_toArray, List.set_cons_zero, List.set_cons_succ]
  refine wpAnyH_take (i := 15) (oi := _) (v := ?_) rfl (by kernel_rfl) (by kernel_rfl) (by kernel_rfl) (fun _ _ _ h => h) (Or.inl ⟨by rfl, ?_⟩) (by first | assumption | trivial) ?_
  rotate_left
  · intro w hSw
    try dsimp only at hSw
    go_simp
    try with_reducible rfl
  try simp only [Act.put, List.getElem_toArray, List.getElem_cons_succ, List.getElem_cons_zero, List.setIfInBounds_toArray, List.set_cons_zero, List.set_cons_succ]
  refine wpAnyH_take (i := 16) (oi := _) (v := ?_) rfl (by kernel_rfl) (by kernel_rfl) (by kernel_rfl) (fun _ _ _ h => h) (Or.inl ⟨by rfl, ?_⟩) (by first | assumption | trivial) ?_
  rotate_left
  · intro w hSw
    try dsimp only at hSw
    go_simp
    try with_reducible rfl
  try simp only [Act.put, List.getElem_toArray, List.getElem_cons_succ, List.getElem_cons_zero, List.setIfInBounds_toArray, List.set_cons_zero, List.set_cons_succ]
  refine wpAnyH_take (i := 17) (oi := _) (v := ?_) rfl (by kernel_rfl) (by kernel_rfl) (by kernel_rfl) (fun _ _ _ h => h) (Or.inl ⟨by rfl, ?_⟩) (by first | assumption | trivial) ?_
  rotate_left
  · intro w hSw
    try dsimp only at hSw
    go_simp
    try with_reducible rfl
  try simp only [Act.put, List.getElem_toArray, List.getElem_cons_succ, List.getElem_cons_zero, List.setIfInBounds_toArray, List.set_cons_zero, List.set_cons_succ]
  refine wpAnyH_take (i := 18) (oi := _) (v := ?_) rfl (by kernel_rfl) (by kernel_rfl) (by kernel_rfl) (fun _ _ _ h => h) (Or.inl ⟨by rfl, ?_⟩) (by first | assumption | trivial) ?_
  rotate_left
  · intro w hSw
    try dsimp only at hSw
    go_simp
    try with_reducible rfl
  try simp only [Act.put, List.getElem_toArray, List.getElem_cons_succ, List.getElem_cons_zero, List.setIfInBounds_toArray, List.set_cons_zero, List.set_cons_succ]
  refine wpAnyH_take (i := 19) (oi := _) (v := ?_) rfl (by kernel_rfl) (by kernel_rfl) (by kernel_rfl) (fun _ _ _ h => h) (Or.inl ⟨by rfl, ?_⟩) (by first | assumption | trivial) ?_
  rotate_left
  · intro w hSw
    try dsimp only at hSw
    go_simp
    try with_reducible rfl
  try simp only [Act.put, List.getElem_toArray, List.getElem_cons_succ, List.getElem_cons_zero, List.setIfInBounds_toArray, List.set_cons_zero, List.set_cons_succ]
  refine wpAnyH_take (i := 20) (oi := _) (v := ?_) rfl (by kernel_rfl) (by kernel_rfl) (by kernel_rfl) (fun _ _ _ h => h) (Or.inl ⟨by rfl, ?_⟩) (by first | assumption | trivial) ?_
  rotate_left
  · intro w hSw
    try dsimp only at hSw
    go_simp
    try with_reducible rfl
  try simp only [Act.put, List.getElem_toArray, List.getElem_cons_succ, List.getElem_cons_zero, List.setIfInBounds_toArray, List.set_cons_zero, List.set_cons_succ]
  refine wpAnyH_done (by kernel_rfl) ?_ _
  clear hHeld HW5
  go_wp2_with fail
  refine (read_short _).mono ?_
  rintro e w7 ⟨rfl, f7⟩
  have HF7 := Lib.hid (HF6.out.step f7)
  clear f7
  go_upto_region 8 with fail
  refine wp_region_lit ?_
  obtain ⟨wa7, hwa⟩ : ∃ z, w7.alloc (.cells (bsV [65, 81, 83, 1, 0, 0, 0, 0]).toArray 5) = z := ⟨_, rfl⟩
  obtain ⟨E7, hEa⟩ : ∃ z, w7.heap.size = z := ⟨_, rfl⟩
  have hba : Blk wa7 E7 5 (bsV [65, 81, 83, 1, 0, 0, 0, 0]) := by rw [← hwa, ← hEa]; exact Blk.made w7 _ _
  have fa : Fr [] w7 wa7 := by rw [← hwa]; exact (Fr.refl [] w7).alloc _
  refine wpList_val rfl (v := .slice (some ⟨E7, 0, none⟩) 8 8) (w' := wa7) ?_ ?_
  · refine exec_bsl8 (V0 := .int .u8 65) (V1 := .int .u8 81) (V2 := .int .u8 83) (V3 := .int .u8 1) (V4 := .int .u8 0) (V5 := .int .u8 0) (V6 := .int .u8 0) (V7 := .int .u8 0) rfl rfl rfl rfl rfl rfl rfl rfl rfl ?_
    rw [bsl8U]
    rw [show w7.alloc (.cells #[.int .u8 65, .int .u8 81, .int .u8 83, .int .u8 1, .int .u8 0, .int .u8 0, .int .u8 0, .int .u8 0] 5) = wa7 from hwa, hEa]
  try simp only [Act.put, List.getElem_toArray, List.getElem_cons_succ, List.getElem_cons_zero, List.setIfInBounds_toArray, List.set_cons_zero, List.set_cons_succ]
  refine wpList_plain rfl (fun K hK => ?_)
  go_simp
  refine (read_check _ _ hba).mono ?_
  rintro e wb7 ⟨rfl, fb⟩
  refine hK _ _ ?_
  clear hK K
  have HFB7 := Lib.hid ((HF7.out.step fa).step fb)
  clear hwa hEa hba fa fb
  try simp only [Act.put, List.getElem_toArray, List.getElem_cons_succ, List.getElem_cons_zero, List.setIfInBounds_toArray, List.set_cons_zero, List.set_cons_succ]
  refine wpList_plain rfl (fun K hK => ?_)
  go_simp
  refine hK _ _ ?_
  clear hK K
  refine wpList_plain rfl (fun K hK => ?_)
  go_simp
  refine hK _ _ ?_
  clear hK K
  refine wpList_plain rfl (fun K hK => ?_)
  go_simp
  refine hK _ _ ?_
  clear hK K
  refine wpList_plain rfl (fun K hK => ?_)
  go_simp
  refine hK _ _ ?_
  clear hK K
  try simp only [Act.put, List.getElem_toArray, List.getElem_cons_succ, List.getElem_cons_zero, List.setIfInBounds_toArray, List.set_cons_zero, List.set_cons_succ]
  obtain ⟨C7, hC⟩ : ∃ z, wb7.heap.size = z := ⟨_, rfl⟩
  obtain ⟨wx, hwx⟩ : ∃ z, wb7.alloc (.cells mach0.toArray 36) = z := ⟨_, rfl⟩
  have hbx : Blk wx C7 36 mach0 := by rw [← hwx, ← hC]; exact Blk.made wb7 _ _
  have fx : Fr [] wb7 wx := by rw [← hwx]; exact (Fr.refl [] wb7).alloc _
  rw [show wb7.alloc (.cells #[.int .u64 0, .slice none 0 0, .slice none 0 0, .slice none 0 0, .slice none 0 0, .slice none 0 0, .slice none 0 0, .slice none 0 0] 36) = wx from hwx]
  simp only [hC]
  have HXX := Lib.hid hbx
  have HFX := Lib.hid fx
  have HCC := Lib.hid hC
  clear hwx hbx fx hC
  obtain ⟨w8, hst, hb_, hf_⟩ := store_all (t := 36) mach0 sizeMa rfl mach0_one HXX.out rfl
  refine wpList_skp rfl (w' := w8) ?_ ?_
  · show Sem.run Tryz.prog ((Instr.storeAt 36 (.pointer (some ⟨C7, 0, none⟩)) (.agg mach0.toArray)) >>= fun _ => pure Next.skip) _ = _
    rw [Sem.run_bind, hst]
    rfl
  clear hst
  try simp only [Act.put, List.getElem_toArray, List.getElem_cons_succ, List.getElem_cons_zero, List.setIfInBounds_toArray, List.set_cons_zero, List.set_cons_succ]
  have HF8 := Lib.hid (HFB7.out.step (HFX.out.own1 (S := []) (B := 0) hf_ (by have := HCC.out; omega)))
  clear hb_ hf_ HXX HFX HCC
  refine wpList_plain rfl (fun K hK => ?_)
  go_simp
  refine hK _ _ ?_
  clear hK K
  refine wpList_nil ?_
  try simp only [Act.put, List.getElem_toArray, List.getElem_cons_succ, List.getElem_cons_zero, List.setIfInBounds_toArray, List.set_cons_zero, List.set_cons_succ]
  go_upto_region 9 with fail
  refine wp_region_lit ?_
  obtain ⟨wa8, hwa⟩ : ∃ z, w8.alloc (.cells (bsV [65, 81, 83, 1, 0, 0, 21, 5]).toArray 5) = z := ⟨_, rfl⟩
  obtain ⟨E8, hEa⟩ : ∃ z, w8.heap.size = z := ⟨_, rfl⟩
  have hba : Blk wa8 E8 5 (bsV [65, 81, 83, 1, 0, 0, 21, 5]) := by rw [← hwa, ← hEa]; exact Blk.made w8 _ _
  have fa : Fr [] w8 wa8 := by rw [← hwa]; exact (Fr.refl [] w8).alloc _
  refine wpList_val rfl (v := .slice (some ⟨E8, 0, none⟩) 8 8) (w' := wa8) ?_ ?_
  · refine exec_bsl8 (V0 := .int .u8 65) (V1 := .int .u8 81) (V2 := .int .u8 83) (V3 := .int .u8 1) (V4 := .int .u8 0) (V5 := .int .u8 0) (V6 := .int .u8 21) (V7 := .int .u8 5) rfl rfl rfl rfl rfl rfl rfl rfl rfl ?_
    rw [bsl8U]
    rw [show w8.alloc (.cells #[.int .u8 65, .int .u8 81, .int .u8 83, .int .u8 1, .int .u8 0, .int .u8 0, .int .u8 21, .int .u8 5] 5) = wa8 from hwa, hEa]
  try simp only [Act.put, List.getElem_toArray, List.getElem_cons_succ, List.getElem_cons_zero, List.setIfInBounds_toArray, List.set_cons_zero, List.set_cons_succ]
  refine wpList_plain rfl (fun K hK => ?_)
  go_simp
  refine (read_format _ _ hba).mono ?_
  rintro e wb8 ⟨rfl, fb⟩
  refine hK _ _ ?_
  clear hK K
  have HFB8 := Lib.hid ((HF8.out.step fa).step fb)
  clear hwa hEa hba fa fb
  try simp only [Act.put, List.getElem_toArray, List.getElem_cons_succ, List.getElem_cons_zero, List.setIfInBounds_toArray, List.set_cons_zero, List.set_cons_succ]
  refine wpList_plain rfl (fun K hK => ?_)
  go_simp
  refine hK _ _ ?_
  clear hK K
  refine wpList_plain rfl (fun K hK => ?_)
  go_simp
  refine hK _ _ ?_
  clear hK K
  refine wpList_plain rfl (fun K hK => ?_)
  go_simp
  refine hK _ _ ?_
  clear hK K
  refine wpList_plain rfl (fun K hK => ?_)
  go_simp
  refine hK _ _ ?_
  clear hK K
  try simp only [Act.put, List.getElem_toArray, List.getElem_cons_succ, List.getElem_cons_zero, List.setIfInBounds_toArray, List.set_cons_zero, List.set_cons_succ]
  obtain ⟨C8, hC⟩ : ∃ z, wb8.heap.size = z := ⟨_, rfl⟩
  obtain ⟨wx, hwx⟩ : ∃ z, wb8.alloc (.cells mach0.toArray 36) = z := ⟨_, rfl⟩
  have hbx : Blk wx C8 36 mach0 := by rw [← hwx, ← hC]; exact Blk.made wb8 _ _
  have fx : Fr [] wb8 wx := by rw [← hwx]; exact (Fr.refl [] wb8).alloc _
  rw [show wb8.alloc (.cells #[.int .u64 0, .slice none 0 0, .slice none 0 0, .slice none 0 0, .slice none 0 0, .slice none 0 0, .slice none 0 0, .slice none 0 0] 36) = wx from hwx]
  simp only [hC]
  have HXX := Lib.hid hbx
  have HFX := Lib.hid fx
  have HCC := Lib.hid hC
  clear hwx hbx fx hC
  obtain ⟨w9, hst, hb_, hf_⟩ := store_all (t := 36) mach0 sizeMa rfl mach0_one HXX.out rfl
  refine wpList_skp rfl (w' := w9) ?_ ?_
  · show Sem.run Tryz.prog ((Instr.storeAt 36 (.pointer (some ⟨C8, 0, none⟩)) (.agg mach0.toArray)) >>= fun _ => pure Next.skip) _ = _
    rw [Sem.run_bind, hst]
    rfl
  clear hst
  try simp only [Act.put, List.getElem_toArray, List.getElem_cons_succ, List.getElem_cons_zero, List.setIfInBounds_toArray, List.set_cons_zero, List.set_cons_succ]
  have HF9 := Lib.hid (HFB8.out.step (HFX.out.own1 (S := []) (B := 0) hf_ (by have := HCC.out; omega)))
  clear hb_ hf_ HXX HFX HCC
  refine wpList_plain rfl (fun K hK => ?_)
  go_simp
  refine hK _ _ ?_
  clear hK K
  refine wpList_nil ?_
  try simp only [Act.put, List.getElem_toArray, List.getElem_cons_succ, List.getElem_cons_zero, List.setIfInBounds_toArray, List.set_cons_zero, List.set_cons_succ]
  go_wp2
  go_ret
  exact ⟨rfl, HF9.out⟩
end Go.Proofs.YtemihaijhcpnfaaGreatDoor
