/- Machine of an engine of one task that does nothing. -/
import Derived.Test.YtemihaijhcpnfaaGreatDoorE7
namespace Go.Proofs.YtemihaijhcpnfaaGreatDoor
open Go.RowKit
open Go.Maps (Keyed)
set_option linter.unusedVariables false
set_option linter.unusedSimpArgs false
set_option maxRecDepth 100000
set_option maxHeartbeats 8000000

theorem insSortW (f : Value) (w : World) :
    Calls Tryz.prog 206 #[.slice none 0 0, .int .i64 0, .int .i64 0, f] w fun e w' => e = .returned (.tuple #[]) ∧ w = w' := by
  go_enter Tryz.func206, Tryz.ntmps206
  go_wp2
  refine wp_loop_rounds 1 ?_
  rw [rounds_succ]
  go_wp2
  go_end0
  exact ⟨rfl, rfl⟩
theorem pdqW (k : Int) (f : Value) (w : World) :
    Calls Tryz.prog 126 #[.slice none 0 0, .int .i64 0, .int .i64 0, .int .i64 k, f] w fun e w' => e = .returned (.tuple #[]) ∧ w = w' := by
  go_enter Tryz.func126, Tryz.ntmps126
  go_wp2
  refine wp_loop_rounds 1 ?_
  rw [rounds_succ]
  go_wp2_with fail
  refine (insSortW _ _).mono ?_
  rintro e w' ⟨rfl, rfl⟩
  go_wp2
  refine bodyPost_ret (v := .tuple #[]) (by simp [results, Tryz.results126]) rfl ?_
  exact ⟨rfl, rfl⟩
theorem sortW (f : Value) (w : World) :
    Calls Tryz.prog 54 #[.slice none 0 0, f] w fun e w' => e = .returned (.tuple #[]) ∧ w = w' := by
  go_enter Tryz.func54, Tryz.ntmps54
  go_wp2_with fail
  refine (len0 _).mono ?_
  rintro e w' ⟨⟨k, rfl⟩, rfl⟩
  go_wp2_with fail
  refine (pdqW _ _ _).mono ?_
  rintro e w' ⟨rfl, rfl⟩
  go_wp2
  go_end0
  exact ⟨rfl, rfl⟩
theorem engNone_z {e T m n : Nat} (w : World) (h : Blk w e 62 (engC T m n)) :
    Calls Tryz.prog 47 #[.pointer (some ⟨e, 0, none⟩)] w fun e w' => e = .returned (.bool false) ∧ w = w' := by
  have c6 : w.cell? ⟨e, 6, none⟩ = some (.pointer (some ⟨n, 0, none⟩)) := h.at 6 _ rfl
  go_enter Tryz.func47, Tryz.ntmps47
  go_wp2
  go_ret
  exact ⟨rfl, rfl⟩
theorem machZ_one (T c : Nat) : ∀ u ∈ machZ T c, u.oneCell' = true := by
  intro u hu
  simp only [machZ, List.mem_cons, List.not_mem_nil, or_false] at hu
  rcases hu with rfl | rfl | rfl | rfl | rfl | rfl | rfl | rfl <;> rfl
def mach0 : List Value := [.int .u64 0, .slice none 0 0, .slice none 0 0, .slice none 0 0, .slice none 0 0, .slice none 0 0, .slice none 0 0, .slice none 0 0]
theorem exec_bld7 {P : Program} {o : Oper} {a : Act} {w w' : World} {v : Value} {t : TypeId} {x0 x1 x2 x3 x4 x5 x6 : Operand} {v0 v1 v2 v3 v4 v5 v6 : Value} (ho : o.op = .build t #[(0, x0), (1, x1), (2, x2), (3, x3), (4, x4), (5, x5), (6, x6)]) (h0 : a.eval x0 = v0) (h1 : a.eval x1 = v1) (h2 : a.eval x2 = v2) (h3 : a.eval x3 = v3) (h4 : a.eval x4 = v4) (h5 : a.eval x5 = v5) (h6 : a.eval x6 = v6) (hrun : (Instr.build t #[(0, v0), (1, v1), (2, v2), (3, v3), (4, v4), (5, v5), (6, v6)]).run P w = .ok v w') : (execOp a.eval o).run P w = .ok (.value v) w' := by
  simp [execOp, ho, h0, h1, h2, h3, h4, h5, h6, hrun]
theorem bldMa (g c : Nat) : ∀ w, (Instr.build 36 #[(0, .int .u64 3), (1, .slice (some ⟨g, 0, none⟩) 1 c), (2, .slice none 0 0), (3, .slice none 0 0), (4, .slice none 0 0), (5, .slice none 0 0), (6, .slice none 0 0)]).run Tryz.prog w = .ok (.agg (machZ g c).toArray) w := fun w => by kernel_rfl
theorem EngS {w : World} {e T m n : Nat} (h : Blk w e 62 (engC T m n)) : w.cell? ⟨e, 0, none⟩ = some (.slice none 0 0) ∧ w.cell? ⟨e, 1, none⟩ = some (.slice none 0 0) ∧ w.cell? ⟨e, 2, none⟩ = some (.int .u64 3) ∧ w.cell? ⟨e, 3, none⟩ = some (.slice (some ⟨T, 0, none⟩) 1 1) ∧ w.cell? ⟨e, 4, none⟩ = some (.slice none 0 0) ∧ w.cell? ⟨e, 6, none⟩ = some (.pointer (some ⟨n, 0, none⟩)) :=
  ⟨h.at 0 _ rfl, h.at 1 _ rfl, h.at 2 _ rfl, h.at 3 _ rfl, h.at 4 _ rfl, h.at 6 _ rfl⟩
theorem machine_z (e : Nat) (w : World) (h : EngZ w e) : Calls Tryz.prog 21 #[.pointer (some ⟨e, 0, none⟩)] w fun e w' => ∃ g c, e = .returned (.agg (machZ g c).toArray) ∧ Task1 w' g ∧ Fr [] w w' := by
  obtain ⟨T, m, n, r, rm, lm, cm, hE, hT, hM, hN⟩ := h
  obtain ⟨R, hR⟩ : ∃ z, w.heap.size = z := ⟨_, rfl⟩
  obtain ⟨w0, hw0⟩ : ∃ z, w.alloc (.cells mach0.toArray 36) = z := ⟨_, rfl⟩
  have hb0 : Blk w0 R 36 mach0 := by rw [← hw0, ← hR]; exact Blk.made w _ _
  have f0 : Fr [] w w0 := by rw [← hw0]; exact (Fr.refl [] w).alloc _
  obtain ⟨w1, hw1⟩ : ∃ z, w0.drew = z := ⟨_, rfl⟩
  have f1 : Fr [] w0 w1 := by rw [← hw1]; exact (Fr.refl [] w0).drew
  have HN0 := Lib.hid (engNone_z w0 (hE.keep f0 (by simp)))
  have HE := Lib.hid (hE.keep (f0.step f1) (by simp))
  have HT := Lib.hid (show Task1 w1 T from ⟨cellZ, hT.keep (f0.step f1) (by simp), rfl⟩)
  have HM := Lib.hid (hM.keep (f0.step f1) (by simp))
  have HN := Lib.hid (hN.new (f0.step f1))
  have HR0 := Lib.hid (hb0.keep f1 (by simp))
  have HF0 := Lib.hid (f0.step f1)
  have HRS := Lib.hid hR
  have HW0 := Lib.hid hw0
  have HW1 := Lib.hid hw1
  clear hE hT hM hN hR hw0 hw1 hb0 f0 f1
  go_enter Tryz.func21, Tryz.ntmps21
  go_upto_region 1 with fail
  rw [show w.alloc (.cells #[.int .u64 0, .slice none 0 0, .slice none 0 0, .slice none 0 0, .slice none 0 0, .slice none 0 0, .slice none 0 0, .slice none 0 0] 36) = w0 from HW0.out]
  simp only [HRS.out]
  go_wp2_with fail
  refine HN0.out.mono ?_
  rintro e w' ⟨rfl, rfl⟩
  go_upto_region 3 with fail
  go_cut [3] from 9 to 45 (fun v3 wc => ∃ V g c, v3 = .pointer (some ⟨V, 0, none⟩) ∧ Blk wc V 36 (machZ g c) ∧ Task1 wc g ∧ w1.heap.size ≤ V ∧ Fr [] w1 wc)
  case first =>
    have HF1 := Lib.hid (Fr.refl [] w1)
    refine wp_region_held_drew (S := fun W => W.cell? ⟨e, 0, none⟩ = some (.slice none 0 0) ∧ W.cell? ⟨e, 1, none⟩ = some (.slice none 0 0) ∧ W.cell? ⟨e, 2, none⟩ = some (.int .u64 3) ∧ W.cell? ⟨e, 3, none⟩ = some (.slice (some ⟨T, 0, none⟩) 1 1) ∧ W.cell? ⟨e, 4, none⟩ = some (.slice none 0 0) ∧ W.cell? ⟨e, 6, none⟩ = some (.pointer (some ⟨n, 0, none⟩))) (by kernel_rfl) (by rw [HW1.out]; exact EngS HE.out) (fun hHeld => ?_)
    rw [HW1.out] at hHeld ⊢
    refine wpAnyH_take (i := 0) (oi := _) (v := ?_) rfl (by kernel_rfl) (by kernel_rfl) (by kernel_rfl) (fun _ _ _ h => h) (Or.inl ⟨by rfl, ?_⟩) (by first | assumption | trivial) ?_
    rotate_left
    · intro w hSw
      try dsimp only at hSw
      go_simp
      try with_reducible rfl
    try simp only [Act.put, List.getElem_toArray, List.getElem_cons_succ, List.getElem_cons_zero, List.setIfInBounds_toArray, List.set_cons_zero, List.set_cons_succ]
    refine wpAnyH_take (i := 1) (oi := _) (v := ?_) rfl (by kernel_rfl) (by kernel_rfl) (by kernel_rfl) (fun _ _ _ h => h) (Or.inl ⟨by rfl, ?_⟩) (by first | assumption | trivial) ?_
    rotate_left
    · intro w hSw
      try dsimp only at hSw
      go_simp
      try with_reducible rfl
    try simp only [Act.put, List.getElem_toArray, List.getElem_cons_succ, List.getElem_cons_zero, List.setIfInBounds_toArray, List.set_cons_zero, List.set_cons_succ]
    refine wpAnyH_take (i := 2) (oi := _) (v := ?_) rfl (by kernel_rfl) (by kernel_rfl) (by kernel_rfl) (fun _ _ _ h => h) (Or.inl ⟨by rfl, ?_⟩) (by first | assumption | trivial) ?_
    rotate_left
    · intro w hSw
      try dsimp only at hSw
      go_simp
      try with_reducible rfl
    try simp only [Act.put, List.getElem_toArray, List.getElem_cons_succ, List.getElem_cons_zero, List.setIfInBounds_toArray, List.set_cons_zero, List.set_cons_succ]
    refine wpAnyH_take (i := 3) (oi := _) (v := ?_) rfl (by kernel_rfl) (by kernel_rfl) (by kernel_rfl) (fun _ _ _ h => h) (Or.inl ⟨by rfl, ?_⟩) (by first | assumption | trivial) ?_
    rotate_left
    · intro w hSw
      try dsimp only at hSw
      go_simp
      try with_reducible rfl
    try simp only [Act.put, List.getElem_toArray, List.getElem_cons_succ, List.getElem_cons_zero, List.setIfInBounds_toArray, List.set_cons_zero, List.set_cons_succ]
    refine wpAnyH_take (i := 4) (oi := _) (v := ?_) rfl (by kernel_rfl) (by kernel_rfl) (by kernel_rfl) (fun _ _ _ h => h) (Or.inl ⟨by rfl, ?_⟩) (by first | assumption | trivial) ?_
    rotate_left
    · intro w hSw
      try dsimp only at hSw
      go_simp
      try with_reducible rfl
    try simp only [Act.put, List.getElem_toArray, List.getElem_cons_succ, List.getElem_cons_zero, List.setIfInBounds_toArray, List.set_cons_zero, List.set_cons_succ]
    refine wpAnyH_take (i := 5) (oi := _) (v := ?_) rfl (by kernel_rfl) (by kernel_rfl) (by kernel_rfl) (fun _ _ _ h => h) (Or.inl ⟨by rfl, ?_⟩) (by first | assumption | trivial) ?_
    rotate_left
    · intro w hSw
      try dsimp only at hSw
      go_simp
      try with_reducible rfl
    try simp only [Act.put, List.getElem_toArray, List.getElem_cons_succ, List.getElem_cons_zero, List.setIfInBounds_toArray, List.set_cons_zero, List.set_cons_succ]
    refine wpAnyH_take (i := 6) (oi := _) (v := ?_) rfl (by kernel_rfl) (by kernel_rfl) (by kernel_rfl) (fun _ _ _ h => h) (Or.inl ⟨by rfl, ?_⟩) (by first | assumption | trivial) ?_
    rotate_left
    · intro w hSw
      try dsimp only at hSw
      go_simp
      try with_reducible rfl
    try simp only [Act.put, List.getElem_toArray, List.getElem_cons_succ, List.getElem_cons_zero, List.setIfInBounds_toArray, List.set_cons_zero, List.set_cons_succ]
    refine wpAnyH_take (i := 7) (oi := _) (v := ?_) rfl (by kernel_rfl) (by kernel_rfl) (by kernel_rfl) (fun _ _ _ h => h) (Or.inl ⟨by rfl, ?_⟩) (by first | assumption | trivial) ?_
    rotate_left
    · intro w hSw
      try dsimp only at hSw
      go_simp
      try with_reducible rfl
    try simp only [Act.put, List.getElem_toArray, List.getElem_cons_succ, List.getElem_cons_zero, List.setIfInBounds_toArray, List.set_cons_zero, List.set_cons_succ]
    refine wpAnyH_take (i := 9) (oi := _) (v := ?_) rfl (by kernel_rfl) (by kernel_rfl) (by kernel_rfl) (fun _ _ _ h => h) (Or.inl ⟨by rfl, ?_⟩) (by first | assumption | trivial) ?_
    rotate_left
    · intro w hSw
      try dsimp only at hSw
      go_simp
      try with_reducible rfl
    try simp only [Act.put, List.getElem_toArray, List.getElem_cons_succ, List.getElem_cons_zero, List.setIfInBounds_toArray, List.set_cons_zero, List.set_cons_succ]
    refine wpAnyH_take (i := 10) (oi := _) (v := ?_) rfl (by kernel_rfl) (by kernel_rfl) (by kernel_rfl) (fun _ _ _ h => h) (Or.inl ⟨by rfl, ?_⟩) (by first | assumption | trivial) ?_
    rotate_left
    · intro w hSw
      try dsimp only at hSw
      go_simp
      try with_reducible rfl
    try simp only [Act.put, List.getElem_toArray, List.getElem_cons_succ, List.getElem_cons_zero, List.setIfInBounds_toArray, List.set_cons_zero, List.set_cons_succ]
    refine wpAnyH_take (i := 11) (oi := _) (v := ?_) rfl (by kernel_rfl) (by kernel_rfl) (by kernel_rfl) (fun _ _ _ h => h) (Or.inl ⟨by rfl, ?_⟩) (by first | assumption | trivial) ?_
    rotate_left
    · intro w hSw
      try dsimp only at hSw
      go_simp
      try with_reducible rfl
    try simp only [Act.put, List.getElem_toArray, List.getElem_cons_succ, List.getElem_cons_zero, List.setIfInBounds_toArray, List.set_cons_zero, List.set_cons_succ]
    refine wpAnyH_take (i := 12) (oi := _) (v := ?_) rfl (by kernel_rfl) (by kernel_rfl) (by kernel_rfl) (fun _ _ _ h => h) (Or.inl ⟨by rfl, ?_⟩) (by first | assumption | trivial) ?_
    rotate_left
    · intro w hSw
      try dsimp only at hSw
      go_simp
      try with_reducible rfl
    try simp only [Act.put, List.getElem_toArray, List.getElem_cons_succ, List.getElem_cons_zero, List.setIfInBounds_toArray, List.set_cons_zero, List.set_cons_succ]
    refine wpAnyH_take (i := 14) (oi := _) (v := ?_) rfl (by kernel_rfl) (by kernel_rfl) (by kernel_rfl) (fun _ _ _ h => h) (Or.inl ⟨by rfl, ?_⟩) (by first | assumption | trivial) ?_
    rotate_left
    · intro w hSw
      try dsimp only at hSw
      go_simp
      try with_reducible rfl
    try simp only [Act.put, List.getElem_toArray, List.getElem_cons_succ, List.getElem_cons_zero, List.setIfInBounds_toArray, List.set_cons_zero, List.set_cons_succ]
    refine wpAnyH_take (i := 15) (oi := _) (v := ?_) rfl (by kernel_rfl) (by kernel_rfl) (by kernel_rfl) (fun _ _ _ h => h) (Or.inl ⟨by rfl, ?_⟩) (by first | assumption | trivial) ?_
    rotate_left
    · intro w hSw
      try dsimp only at hSw
      go_simp
      try with_reducible rfl
    try simp only [Act.put, List.getElem_toArray, List.getElem_cons_succ, List.getElem_cons_zero, List.setIfInBounds_toArray, List.set_cons_zero, List.set_cons_succ]
    refine wpAnyH_take (i := 16) (oi := _) (v := ?_) rfl (by kernel_rfl) (by kernel_rfl) (by kernel_rfl) (fun _ _ _ h => h) (Or.inl ⟨by rfl, ?_⟩) (by first | assumption | trivial) ?_
    rotate_left
    · intro w hSw
      try dsimp only at hSw
      go_simp
      try with_reducible rfl
    try simp only [Act.put, List.getElem_toArray, List.getElem_cons_succ, List.getElem_cons_zero, List.setIfInBounds_toArray, List.set_cons_zero, List.set_cons_succ]
    refine wpAnyH_take (i := 17) (oi := _) (v := ?_) rfl (by kernel_rfl) (by kernel_rfl) (by kernel_rfl) (fun _ _ _ h => h) (Or.inl ⟨by rfl, ?_⟩) (by first | assumption | trivial) ?_
    rotate_left
    · intro w hSw
      try dsimp only at hSw
      go_simp
      try with_reducible rfl
    try simp only [Act.put, List.getElem_toArray, List.getElem_cons_succ, List.getElem_cons_zero, List.setIfInBounds_toArray, List.set_cons_zero, List.set_cons_succ]
    refine wpAnyH_take (i := 18) (oi := _) (v := ?_) rfl (by kernel_rfl) (by kernel_rfl) (by kernel_rfl) (fun _ _ _ h => h) (Or.inl ⟨by rfl, ?_⟩) (by first | assumption | trivial) ?_
    rotate_left
    · intro w hSw
      try dsimp only at hSw
      go_simp
      try with_reducible rfl
    try simp only [Act.put, List.getElem_toArray, List.getElem_cons_succ, List.getElem_cons_zero, List.setIfInBounds_toArray, List.set_cons_zero, List.set_cons_succ]
    refine wpAnyH_take (i := 20) (oi := _) (v := ?_) rfl (by kernel_rfl) (by kernel_rfl) (by kernel_rfl) (fun _ _ _ h => h) (Or.inl ⟨by rfl, ?_⟩) (by first | assumption | trivial) ?_
    rotate_left
    · intro w hSw
      try dsimp only at hSw
      go_simp
      try with_reducible rfl
    try simp only [Act.put, List.getElem_toArray, List.getElem_cons_succ, List.getElem_cons_zero, List.setIfInBounds_toArray, List.set_cons_zero, List.set_cons_succ]
    refine wpAnyH_take (i := 21) (oi := _) (v := ?_) rfl (by kernel_rfl) (by kernel_rfl) (by kernel_rfl) (fun _ _ _ h => h) (Or.inl ⟨by rfl, ?_⟩) (by first | assumption | trivial) ?_
    rotate_left
    · intro w hSw
      try dsimp only at hSw
      go_simp
      try with_reducible rfl
    try simp only [Act.put, List.getElem_toArray, List.getElem_cons_succ, List.getElem_cons_zero, List.setIfInBounds_toArray, List.set_cons_zero, List.set_cons_succ]
    refine wpAnyH_take (i := 22) (oi := _) (v := ?_) rfl (by kernel_rfl) (by kernel_rfl) (by kernel_rfl) (fun _ _ _ h => h) (Or.inl ⟨by rfl, ?_⟩) (by first | assumption | trivial) ?_
    rotate_left
    · intro w hSw
      try dsimp only at hSw
      go_simp
      try with_reducible rfl
    try simp only [Act.put, List.getElem_toArray, List.getElem_cons_succ, List.getElem_cons_zero, List.setIfInBounds_toArray, List.set_cons_zero, List.set_cons_succ]
    refine wpAnyH_take (i := 23) (oi := _) (v := ?_) rfl (by kernel_rfl) (by kernel_rfl) (by kernel_rfl) (fun _ _ _ h => h) (Or.inl ⟨by rfl, ?_⟩) (by first | assumption | trivial) ?_
    rotate_left
    · intro w hSw
      try dsimp only at hSw
      go_simp
      try with_reducible rfl
    try simp only [Act.put, List.getElem_toArray, List.getElem_cons_succ, List.getElem_cons_zero, List.setIfInBounds_toArray, List.set_cons_zero, List.set_cons_succ]
    refine wpAnyH_take (i := 24) (oi := _) (v := ?_) rfl (by kernel_rfl) (by kernel_rfl) (by kernel_rfl) (fun _ _ _ h => h) (Or.inl ⟨by rfl, ?_⟩) (by first | assumption | trivial) ?_
    rotate_left
    · intro w hSw
      try dsimp only at hSw
      go_simp
      try with_reducible rfl
    try simp only [Act.put, List.getElem_toArray, List.getElem_cons_succ, List.getElem_cons_zero, List.setIfInBounds_toArray, List.set_cons_zero, List.set_cons_succ]
    refine wpAnyH_take (i := 26) (oi := _) (v := ?_) rfl (by kernel_rfl) (by kernel_rfl) (by kernel_rfl) (fun _ _ _ h => h) (Or.inl ⟨by rfl, ?_⟩) (by first | assumption | trivial) ?_
    rotate_left
    · intro w hSw
      try dsimp only at hSw
      go_simp
      try with_reducible rfl
    try simp only [Act.put, List.getElem_toArray, List.getElem_cons_succ, List.getElem_cons_zero, List.setIfInBounds_toArray, List.set_cons_zero, List.set_cons_succ]
    refine wpAnyH_take (i := 27) (oi := _) (v := ?_) rfl (by kernel_rfl) (by kernel_rfl) (by kernel_rfl) (fun _ _ _ h => h) (Or.inl ⟨by rfl, ?_⟩) (by first | assumption | trivial) ?_
    rotate_left
    · intro w hSw
      try dsimp only at hSw
      go_simp
      try with_reducible rfl
    try simp only [Act.put, List.getElem_toArray, List.getElem_cons_succ, List.getElem_cons_zero, List.setIfInBounds_toArray, List.set_cons_zero, List.set_cons_succ]
    refine wpAnyH_take (i := 28) (oi := _) (v := ?_) rfl (by kernel_rfl) (by kernel_rfl) (by kernel_rfl) (fun _ _ _ h => h) (Or.inl ⟨by rfl, ?_⟩) (by first | assumption | trivial) ?_
    rotate_left
    · intro w hSw
      try dsimp only at hSw
      go_simp
      try with_reducible rfl
    try simp only [Act.put, List.getElem_toArray, List.getElem_cons_succ, List.getElem_cons_zero, List.setIfInBounds_toArray, List.set_cons_zero, List.set_cons_succ]
    refine wpAnyH_take (i := 29) (oi := _) (v := ?_) rfl (by kernel_rfl) (by kernel_rfl) (by kernel_rfl) (fun _ _ _ h => h) (Or.inl ⟨by rfl, ?_⟩) (by first | assumption | trivial) ?_
    rotate_left
    · intro w hSw
      try dsimp only at hSw
      go_simp
      try with_reducible rfl
    try simp only [Act.put, List.getElem_toArray, List.getElem_cons_succ, List.getElem_cons_zero, List.setIfInBounds_toArray, List.set_cons_zero, List.set_cons_succ]
    refine wpAnyH_take (i := 31) (oi := _) (v := ?_) rfl (by kernel_rfl) (by kernel_rfl) (by kernel_rfl) (fun _ _ _ h => h) (Or.inl ⟨by rfl, ?_⟩) (by first | assumption | trivial) ?_
    rotate_left
    · intro w hSw
      try dsimp only at hSw
      go_simp
      try with_reducible rfl
    try simp only [Act.put, List.getElem_toArray, List.getElem_cons_succ, List.getElem_cons_zero, List.setIfInBounds_toArray, List.set_cons_zero, List.set_cons_succ]
    refine wpAnyH_take (i := 32) (oi := _) (v := ?_) rfl (by kernel_rfl) (by kernel_rfl) (by kernel_rfl) (fun _ _ _ h => h) (Or.inl ⟨by rfl, ?_⟩) (by first | assumption | trivial) ?_
    rotate_left
    · intro w hSw
      try dsimp only at hSw
      go_simp
      try with_reducible rfl
    try simp only [Act.put, List.getElem_toArray, List.getElem_cons_succ, List.getElem_cons_zero, List.setIfInBounds_toArray, List.set_cons_zero, List.set_cons_succ]
    refine wpAnyH_take (i := 33) (oi := _) (v := ?_) rfl (by kernel_rfl) (by kernel_rfl) (by kernel_rfl) (fun _ _ _ h => h) (Or.inl ⟨by rfl, ?_⟩) (by first | assumption | trivial) ?_
    rotate_left
    · intro w hSw
      try dsimp only at hSw
      go_simp
      try with_reducible rfl
    try simp only [Act.put, List.getElem_toArray, List.getElem_cons_succ, List.getElem_cons_zero, List.setIfInBounds_toArray, List.set_cons_zero, List.set_cons_succ]
    refine wpAnyH_take (i := 34) (oi := _) (v := ?_) rfl (by kernel_rfl) (by kernel_rfl) (by kernel_rfl) (fun _ _ _ h => h) (Or.inl ⟨by rfl, ?_⟩) (by first | assumption | trivial) ?_
    rotate_left
    · intro w hSw
      try dsimp only at hSw
      go_simp
      try with_reducible rfl
    try simp only [Act.put, List.getElem_toArray, List.getElem_cons_succ, List.getElem_cons_zero, List.setIfInBounds_toArray, List.set_cons_zero, List.set_cons_succ]
    refine wpAnyH_ready (rs := [8, 37]) (by kernel_rfl) (by simp) ?_
    refine AllReadyH.cons (o := _) rfl (fun K hK => ?_) (AllReadyH.cons (o := _) rfl (fun K hK => ?_) AllReadyH.nil)
    · skip
      go_simp
      refine (each_z T 1 _ (HT.out.new HF1.out)).mono ?_
      rintro e w2 ⟨g, c, rfl, hg, fx⟩
      have HF2 := Lib.hid (HF1.out.step fx)
      have HG2 := Lib.hid hg
      clear hg
      clear fx
      refine hK.out _ _ (EngS (HE.out.keep HF2.out (by simp))) (fun hHeld => ?_)
      clear hK K
      try simp only [Act.put, List.getElem_toArray, List.getElem_cons_succ, List.getElem_cons_zero, List.setIfInBounds_toArray, List.set_cons_zero, List.set_cons_succ]
      refine wpAnyH_ready (rs := [13, 37]) (by kernel_rfl) (by simp) ?_
      refine AllReadyH.cons (o := _) rfl (fun K hK => ?_) (AllReadyH.cons (o := _) rfl (fun K hK => ?_) AllReadyH.nil)
      · skip
        go_simp
        refine (cloneInts0 _).mono ?_
        rintro e w' ⟨rfl, rfl⟩
        refine hK.out _ _ (EngS (HE.out.keep HF2.out (by simp))) (fun hHeld => ?_)
        clear hK K
        try simp only [Act.put, List.getElem_toArray, List.getElem_cons_succ, List.getElem_cons_zero, List.setIfInBounds_toArray, List.set_cons_zero, List.set_cons_succ]
        refine wpAnyH_ready (rs := [19, 37]) (by kernel_rfl) (by simp) ?_
        refine AllReadyH.cons (o := _) rfl (fun K hK => ?_) (AllReadyH.cons (o := _) rfl (fun K hK => ?_) AllReadyH.nil)
        · skip
          go_simp
          refine (cloneInts0 _).mono ?_
          rintro e w' ⟨rfl, rfl⟩
          refine hK.out _ _ (EngS (HE.out.keep HF2.out (by simp))) (fun hHeld => ?_)
          clear hK K
          try simp only [Act.put, List.getElem_toArray, List.getElem_cons_succ, List.getElem_cons_zero, List.setIfInBounds_toArray, List.set_cons_zero, List.set_cons_succ]
          refine wpAnyH_ready (rs := [25, 37]) (by kernel_rfl) (by simp) ?_
          refine AllReadyH.cons (o := _) rfl (fun K hK => ?_) (AllReadyH.cons (o := _) rfl (fun K hK => ?_) AllReadyH.nil)
          · skip
            go_simp
            refine (cloneFiles0 _).mono ?_
            rintro e w' ⟨rfl, rfl⟩
            refine hK.out _ _ (EngS (HE.out.keep HF2.out (by simp))) (fun hHeld => ?_)
            clear hK K
            try simp only [Act.put, List.getElem_toArray, List.getElem_cons_succ, List.getElem_cons_zero, List.setIfInBounds_toArray, List.set_cons_zero, List.set_cons_succ]
            refine wpAnyH_ready (rs := [30, 37]) (by kernel_rfl) (by simp) ?_
            refine AllReadyH.cons (o := _) rfl (fun K hK => ?_) (AllReadyH.cons (o := _) rfl (fun K hK => ?_) AllReadyH.nil)
            · skip
              go_simp
              refine (conns0 _ (HN.out.new HF2.out)).mono ?_
              rintro e w3 ⟨rfl, fx⟩
              have HF3 := Lib.hid (HF2.out.step fx)
              have HG3 := Lib.hid (HG2.out.new fx)
              clear fx
              refine hK.out _ _ (EngS (HE.out.keep HF3.out (by simp))) (fun hHeld => ?_)
              clear hK K
              try simp only [Act.put, List.getElem_toArray, List.getElem_cons_succ, List.getElem_cons_zero, List.setIfInBounds_toArray, List.set_cons_zero, List.set_cons_succ]
              refine wpAnyH_ready (rs := [35, 37]) (by kernel_rfl) (by simp) ?_
              refine AllReadyH.cons (o := _) rfl (fun K hK => ?_) (AllReadyH.cons (o := _) rfl (fun K hK => ?_) AllReadyH.nil)
              · skip
                go_simp
                refine (listeners0 _ (HN.out.new HF3.out)).mono ?_
                rintro e w4 ⟨rfl, fx⟩
                have HF4 := Lib.hid (HF3.out.step fx)
                have HG4 := Lib.hid (HG3.out.new fx)
                clear fx
                refine hK.out _ _ (EngS (HE.out.keep HF4.out (by simp))) (fun hHeld => ?_)
                clear hK K
                try simp only [Act.put, List.getElem_toArray, List.getElem_cons_succ, List.getElem_cons_zero, List.setIfInBounds_toArray, List.set_cons_zero, List.set_cons_succ]
                refine wpAnyH_take (i := 36) (oi := _) (v := .agg (machZ g c).toArray) rfl (by kernel_rfl) (by kernel_rfl) (by kernel_rfl) (fun _ _ _ h => h) (Or.inl ⟨by rfl, ?_⟩) (by first | assumption | trivial) ?_
                · intro w hSw
                  try dsimp only at hSw
                  exact exec_bld7 (v0 := .int .u64 3) (v1 := .slice (some ⟨g, 0, none⟩) 1 c) (v2 := .slice none 0 0) (v3 := .slice none 0 0) (v4 := .slice none 0 0) (v5 := .slice none 0 0) (v6 := .slice none 0 0) rfl rfl rfl rfl rfl rfl rfl rfl (bldMa g c w)
                try simp only [Act.put, List.getElem_toArray, List.getElem_cons_succ, List.getElem_cons_zero, List.setIfInBounds_toArray, List.set_cons_zero, List.set_cons_succ]
                refine wpAnyH_ready (rs := [37]) (by kernel_rfl) (by simp) ?_
                refine AllReadyH.cons (o := _) rfl (fun K hK => ?_) AllReadyH.nil
                go_simp
                obtain ⟨V, hV⟩ : ∃ z, w4.heap.size = z := ⟨_, rfl⟩
                obtain ⟨w5, hw⟩ : ∃ z, w4.alloc (.cells mach0.toArray 36) = z := ⟨_, rfl⟩
                have hbv : Blk w5 V 36 mach0 := by rw [← hw, ← hV]; exact Blk.made w4 _ _
                have fx : Fr [] w4 w5 := by rw [← hw]; exact (Fr.refl [] w4).alloc _
                rw [show w4.alloc (.cells #[.int .u64 0, .slice none 0 0, .slice none 0 0, .slice none 0 0, .slice none 0 0, .slice none 0 0, .slice none 0 0, .slice none 0 0] 36) = w5 from hw]
                simp only [hV]
                have HVS := Lib.hid (show w1.heap.size ≤ V from by rw [← hV]; exact HF4.out.size)
                have HF5 := Lib.hid (HF4.out.step fx)
                have HV5 := Lib.hid hbv
                have HG5 := Lib.hid (HG4.out.new fx)
                clear hV hw hbv fx
                refine hK.out _ _ (EngS (HE.out.keep HF5.out (by simp))) (fun hHeld => ?_)
                clear hK K
                try simp only [Act.put, List.getElem_toArray, List.getElem_cons_succ, List.getElem_cons_zero, List.setIfInBounds_toArray, List.set_cons_zero, List.set_cons_succ]
                refine wpAnyH_ready (rs := [38]) (by kernel_rfl) (by simp) ?_
                refine AllReadyH.cons (o := _) rfl (fun K hK => ?_) AllReadyH.nil
                obtain ⟨w6, hst, hb_, hf_⟩ := store_all (t := 36) (machZ g c) sizeMa rfl (machZ_one g c) HV5.out rfl
                split
                rotate_left
                · rename_i hno
                  exact absurd rfl hno
                refine wp_skp (w' := w6) ?_ ?_
                · show Sem.run Tryz.prog ((Instr.storeAt 36 (.pointer (some ⟨V, 0, none⟩)) (.agg (machZ g c).toArray)) >>= fun _ => pure Next.skip) _ = _
                  rw [Sem.run_bind, hst]
                  rfl
                clear hst
                have HZ := Lib.hid (show Blk w6 V 36 (machZ g c) from hb_)
                have HFZ := Lib.hid (HF5.out.own1 (S := []) (B := 0) hf_ HVS.out)
                have HGZ := Lib.hid (show Task1 w6 g from by
                  obtain ⟨X, h1, h2⟩ := HG5.out
                  refine ⟨X, h1.keep hf_ ?_, h2⟩
                  intro hm
                  rw [List.mem_singleton] at hm
                  have h3 := HV5.out
                  unfold Blk at h1 h3
                  rw [hm, h3] at h1
                  simp only [Option.some.injEq, Obj.cells.injEq] at h1
                  exact absurd h1.2.1 (by decide))
                clear hb_ hf_
                refine hK.out _ _ (EngS (HE.out.keep HFZ.out (by simp))) (fun hHeld => ?_)
                clear hK K
                try simp only [Act.put, List.getElem_toArray, List.getElem_cons_succ, List.getElem_cons_zero, List.setIfInBounds_toArray, List.set_cons_zero, List.set_cons_succ]
                refine wpAnyH_done (by kernel_rfl) ?_ _
                clear hHeld
                go_wp2
                go_meet
                exact ⟨V, g, c, rfl, HZ.out, HGZ.out, HVS.out, HFZ.out⟩
              · skip
                go_simp
                obtain ⟨V, hV⟩ : ∃ z, w3.heap.size = z := ⟨_, rfl⟩
                obtain ⟨w4, hw⟩ : ∃ z, w3.alloc (.cells mach0.toArray 36) = z := ⟨_, rfl⟩
                have hbv : Blk w4 V 36 mach0 := by rw [← hw, ← hV]; exact Blk.made w3 _ _
                have fx : Fr [] w3 w4 := by rw [← hw]; exact (Fr.refl [] w3).alloc _
                rw [show w3.alloc (.cells #[.int .u64 0, .slice none 0 0, .slice none 0 0, .slice none 0 0, .slice none 0 0, .slice none 0 0, .slice none 0 0, .slice none 0 0] 36) = w4 from hw]
                simp only [hV]
                have HVS := Lib.hid (show w1.heap.size ≤ V from by rw [← hV]; exact HF3.out.size)
                have HF4 := Lib.hid (HF3.out.step fx)
                have HV4 := Lib.hid hbv
                have HG4 := Lib.hid (HG3.out.new fx)
                clear hV hw hbv fx
                refine hK.out _ _ (EngS (HE.out.keep HF4.out (by simp))) (fun hHeld => ?_)
                clear hK K
                try simp only [Act.put, List.getElem_toArray, List.getElem_cons_succ, List.getElem_cons_zero, List.setIfInBounds_toArray, List.set_cons_zero, List.set_cons_succ]
                refine wpAnyH_ready (rs := [35]) (by kernel_rfl) (by simp) ?_
                refine AllReadyH.cons (o := _) rfl (fun K hK => ?_) AllReadyH.nil
                go_simp
                refine (listeners0 _ (HN.out.new HF4.out)).mono ?_
                rintro e w5 ⟨rfl, fx⟩
                have HF5 := Lib.hid (HF4.out.step fx)
                have HG5 := Lib.hid (HG4.out.new fx)
                have HV5 := Lib.hid (HV4.out.keep fx (by simp))
                clear fx
                refine hK.out _ _ (EngS (HE.out.keep HF5.out (by simp))) (fun hHeld => ?_)
                clear hK K
                try simp only [Act.put, List.getElem_toArray, List.getElem_cons_succ, List.getElem_cons_zero, List.setIfInBounds_toArray, List.set_cons_zero, List.set_cons_succ]
                refine wpAnyH_take (i := 36) (oi := _) (v := .agg (machZ g c).toArray) rfl (by kernel_rfl) (by kernel_rfl) (by kernel_rfl) (fun _ _ _ h => h) (Or.inl ⟨by rfl, ?_⟩) (by first | assumption | trivial) ?_
                · intro w hSw
                  try dsimp only at hSw
                  exact exec_bld7 (v0 := .int .u64 3) (v1 := .slice (some ⟨g, 0, none⟩) 1 c) (v2 := .slice none 0 0) (v3 := .slice none 0 0) (v4 := .slice none 0 0) (v5 := .slice none 0 0) (v6 := .slice none 0 0) rfl rfl rfl rfl rfl rfl rfl rfl (bldMa g c w)
                try simp only [Act.put, List.getElem_toArray, List.getElem_cons_succ, List.getElem_cons_zero, List.setIfInBounds_toArray, List.set_cons_zero, List.set_cons_succ]
                refine wpAnyH_ready (rs := [38]) (by kernel_rfl) (by simp) ?_
                refine AllReadyH.cons (o := _) rfl (fun K hK => ?_) AllReadyH.nil
                obtain ⟨w6, hst, hb_, hf_⟩ := store_all (t := 36) (machZ g c) sizeMa rfl (machZ_one g c) HV5.out rfl
                split
                rotate_left
                · rename_i hno
                  exact absurd rfl hno
                refine wp_skp (w' := w6) ?_ ?_
                · show Sem.run Tryz.prog ((Instr.storeAt 36 (.pointer (some ⟨V, 0, none⟩)) (.agg (machZ g c).toArray)) >>= fun _ => pure Next.skip) _ = _
                  rw [Sem.run_bind, hst]
                  rfl
                clear hst
                have HZ := Lib.hid (show Blk w6 V 36 (machZ g c) from hb_)
                have HFZ := Lib.hid (HF5.out.own1 (S := []) (B := 0) hf_ HVS.out)
                have HGZ := Lib.hid (show Task1 w6 g from by
                  obtain ⟨X, h1, h2⟩ := HG5.out
                  refine ⟨X, h1.keep hf_ ?_, h2⟩
                  intro hm
                  rw [List.mem_singleton] at hm
                  have h3 := HV5.out
                  unfold Blk at h1 h3
                  rw [hm, h3] at h1
                  simp only [Option.some.injEq, Obj.cells.injEq] at h1
                  exact absurd h1.2.1 (by decide))
                clear hb_ hf_
                refine hK.out _ _ (EngS (HE.out.keep HFZ.out (by simp))) (fun hHeld => ?_)
                clear hK K
                try simp only [Act.put, List.getElem_toArray, List.getElem_cons_succ, List.getElem_cons_zero, List.setIfInBounds_toArray, List.set_cons_zero, List.set_cons_succ]
                refine wpAnyH_done (by kernel_rfl) ?_ _
                clear hHeld
                go_wp2
                go_meet
                exact ⟨V, g, c, rfl, HZ.out, HGZ.out, HVS.out, HFZ.out⟩
            · skip
              go_simp
              obtain ⟨V, hV⟩ : ∃ z, w2.heap.size = z := ⟨_, rfl⟩
              obtain ⟨w3, hw⟩ : ∃ z, w2.alloc (.cells mach0.toArray 36) = z := ⟨_, rfl⟩
              have hbv : Blk w3 V 36 mach0 := by rw [← hw, ← hV]; exact Blk.made w2 _ _
              have fx : Fr [] w2 w3 := by rw [← hw]; exact (Fr.refl [] w2).alloc _
              rw [show w2.alloc (.cells #[.int .u64 0, .slice none 0 0, .slice none 0 0, .slice none 0 0, .slice none 0 0, .slice none 0 0, .slice none 0 0, .slice none 0 0] 36) = w3 from hw]
              simp only [hV]
              have HVS := Lib.hid (show w1.heap.size ≤ V from by rw [← hV]; exact HF2.out.size)
              have HF3 := Lib.hid (HF2.out.step fx)
              have HV3 := Lib.hid hbv
              have HG3 := Lib.hid (HG2.out.new fx)
              clear hV hw hbv fx
              refine hK.out _ _ (EngS (HE.out.keep HF3.out (by simp))) (fun hHeld => ?_)
              clear hK K
              try simp only [Act.put, List.getElem_toArray, List.getElem_cons_succ, List.getElem_cons_zero, List.setIfInBounds_toArray, List.set_cons_zero, List.set_cons_succ]
              refine wpAnyH_ready (rs := [30]) (by kernel_rfl) (by simp) ?_
              refine AllReadyH.cons (o := _) rfl (fun K hK => ?_) AllReadyH.nil
              go_simp
              refine (conns0 _ (HN.out.new HF3.out)).mono ?_
              rintro e w4 ⟨rfl, fx⟩
              have HF4 := Lib.hid (HF3.out.step fx)
              have HG4 := Lib.hid (HG3.out.new fx)
              have HV4 := Lib.hid (HV3.out.keep fx (by simp))
              clear fx
              refine hK.out _ _ (EngS (HE.out.keep HF4.out (by simp))) (fun hHeld => ?_)
              clear hK K
              try simp only [Act.put, List.getElem_toArray, List.getElem_cons_succ, List.getElem_cons_zero, List.setIfInBounds_toArray, List.set_cons_zero, List.set_cons_succ]
              refine wpAnyH_ready (rs := [35]) (by kernel_rfl) (by simp) ?_
              refine AllReadyH.cons (o := _) rfl (fun K hK => ?_) AllReadyH.nil
              go_simp
              refine (listeners0 _ (HN.out.new HF4.out)).mono ?_
              rintro e w5 ⟨rfl, fx⟩
              have HF5 := Lib.hid (HF4.out.step fx)
              have HG5 := Lib.hid (HG4.out.new fx)
              have HV5 := Lib.hid (HV4.out.keep fx (by simp))
              clear fx
              refine hK.out _ _ (EngS (HE.out.keep HF5.out (by simp))) (fun hHeld => ?_)
              clear hK K
              try simp only [Act.put, List.getElem_toArray, List.getElem_cons_succ, List.getElem_cons_zero, List.setIfInBounds_toArray, List.set_cons_zero, List.set_cons_succ]
              refine wpAnyH_take (i := 36) (oi := _) (v := .agg (machZ g c).toArray) rfl (by kernel_rfl) (by kernel_rfl) (by kernel_rfl) (fun _ _ _ h => h) (Or.inl ⟨by rfl, ?_⟩) (by first | assumption | trivial) ?_
              · intro w hSw
                try dsimp only at hSw
                exact exec_bld7 (v0 := .int .u64 3) (v1 := .slice (some ⟨g, 0, none⟩) 1 c) (v2 := .slice none 0 0) (v3 := .slice none 0 0) (v4 := .slice none 0 0) (v5 := .slice none 0 0) (v6 := .slice none 0 0) rfl rfl rfl rfl rfl rfl rfl rfl (bldMa g c w)
              try simp only [Act.put, List.getElem_toArray, List.getElem_cons_succ, List.getElem_cons_zero, List.setIfInBounds_toArray, List.set_cons_zero, List.set_cons_succ]
              refine wpAnyH_ready (rs := [38]) (by kernel_rfl) (by simp) ?_
              refine AllReadyH.cons (o := _) rfl (fun K hK => ?_) AllReadyH.nil
              obtain ⟨w6, hst, hb_, hf_⟩ := store_all (t := 36) (machZ g c) sizeMa rfl (machZ_one g c) HV5.out rfl
              split
              rotate_left
              · rename_i hno
                exact absurd rfl hno
              refine wp_skp (w' := w6) ?_ ?_
              · show Sem.run Tryz.prog ((Instr.storeAt 36 (.pointer (some ⟨V, 0, none⟩)) (.agg (machZ g c).toArray)) >>= fun _ => pure Next.skip) _ = _
                rw [Sem.run_bind, hst]
                rfl
              clear hst
              have HZ := Lib.hid (show Blk w6 V 36 (machZ g c) from hb_)
              have HFZ := Lib.hid (HF5.out.own1 (S := []) (B := 0) hf_ HVS.out)
              have HGZ := Lib.hid (show Task1 w6 g from by
                obtain ⟨X, h1, h2⟩ := HG5.out
                refine ⟨X, h1.keep hf_ ?_, h2⟩
                intro hm
                rw [List.mem_singleton] at hm
                have h3 := HV5.out
                unfold Blk at h1 h3
                rw [hm, h3] at h1
                simp only [Option.some.injEq, Obj.cells.injEq] at h1
                exact absurd h1.2.1 (by decide))
              clear hb_ hf_
              refine hK.out _ _ (EngS (HE.out.keep HFZ.out (by simp))) (fun hHeld => ?_)
              clear hK K
              try simp only [Act.put, List.getElem_toArray, List.getElem_cons_succ, List.getElem_cons_zero, List.setIfInBounds_toArray, List.set_cons_zero, List.set_cons_succ]
              refine wpAnyH_done (by kernel_rfl) ?_ _
              clear hHeld
              go_wp2
              go_meet
              exact ⟨V, g, c, rfl, HZ.out, HGZ.out, HVS.out, HFZ.out⟩
          · skip
            go_simp
            obtain ⟨V, hV⟩ : ∃ z, w2.heap.size = z := ⟨_, rfl⟩
            obtain ⟨w3, hw⟩ : ∃ z, w2.alloc (.cells mach0.toArray 36) = z := ⟨_, rfl⟩
            have hbv : Blk w3 V 36 mach0 := by rw [← hw, ← hV]; exact Blk.made w2 _ _
            have fx : Fr [] w2 w3 := by rw [← hw]; exact (Fr.refl [] w2).alloc _
            rw [show w2.alloc (.cells #[.int .u64 0, .slice none 0 0, .slice none 0 0, .slice none 0 0, .slice none 0 0, .slice none 0 0, .slice none 0 0, .slice none 0 0] 36) = w3 from hw]
            simp only [hV]
            have HVS := Lib.hid (show w1.heap.size ≤ V from by rw [← hV]; exact HF2.out.size)
            have HF3 := Lib.hid (HF2.out.step fx)
            have HV3 := Lib.hid hbv
            have HG3 := Lib.hid (HG2.out.new fx)
            clear hV hw hbv fx
            refine hK.out _ _ (EngS (HE.out.keep HF3.out (by simp))) (fun hHeld => ?_)
            clear hK K
            try simp only [Act.put, List.getElem_toArray, List.getElem_cons_succ, List.getElem_cons_zero, List.setIfInBounds_toArray, List.set_cons_zero, List.set_cons_succ]
            refine wpAnyH_ready (rs := [25]) (by kernel_rfl) (by simp) ?_
            refine AllReadyH.cons (o := _) rfl (fun K hK => ?_) AllReadyH.nil
            go_simp
            refine (cloneFiles0 _).mono ?_
            rintro e w' ⟨rfl, rfl⟩
            refine hK.out _ _ (EngS (HE.out.keep HF3.out (by simp))) (fun hHeld => ?_)
            clear hK K
            try simp only [Act.put, List.getElem_toArray, List.getElem_cons_succ, List.getElem_cons_zero, List.setIfInBounds_toArray, List.set_cons_zero, List.set_cons_succ]
            refine wpAnyH_ready (rs := [30]) (by kernel_rfl) (by simp) ?_
            refine AllReadyH.cons (o := _) rfl (fun K hK => ?_) AllReadyH.nil
            go_simp
            refine (conns0 _ (HN.out.new HF3.out)).mono ?_
            rintro e w4 ⟨rfl, fx⟩
            have HF4 := Lib.hid (HF3.out.step fx)
            have HG4 := Lib.hid (HG3.out.new fx)
            have HV4 := Lib.hid (HV3.out.keep fx (by simp))
            clear fx
            refine hK.out _ _ (EngS (HE.out.keep HF4.out (by simp))) (fun hHeld => ?_)
            clear hK K
            try simp only [Act.put, List.getElem_toArray, List.getElem_cons_succ, List.getElem_cons_zero, List.setIfInBounds_toArray, List.set_cons_zero, List.set_cons_succ]
            refine wpAnyH_ready (rs := [35]) (by kernel_rfl) (by simp) ?_
            refine AllReadyH.cons (o := _) rfl (fun K hK => ?_) AllReadyH.nil
            go_simp
            refine (listeners0 _ (HN.out.new HF4.out)).mono ?_
            rintro e w5 ⟨rfl, fx⟩
            have HF5 := Lib.hid (HF4.out.step fx)
            have HG5 := Lib.hid (HG4.out.new fx)
            have HV5 := Lib.hid (HV4.out.keep fx (by simp))
            clear fx
            refine hK.out _ _ (EngS (HE.out.keep HF5.out (by simp))) (fun hHeld => ?_)
            clear hK K
            try simp only [Act.put, List.getElem_toArray, List.getElem_cons_succ, List.getElem_cons_zero, List.setIfInBounds_toArray, List.set_cons_zero, List.set_cons_succ]
            refine wpAnyH_take (i := 36) (oi := _) (v := .agg (machZ g c).toArray) rfl (by kernel_rfl) (by kernel_rfl) (by kernel_rfl) (fun _ _ _ h => h) (Or.inl ⟨by rfl, ?_⟩) (by first | assumption | trivial) ?_
            · intro w hSw
              try dsimp only at hSw
              exact exec_bld7 (v0 := .int .u64 3) (v1 := .slice (some ⟨g, 0, none⟩) 1 c) (v2 := .slice none 0 0) (v3 := .slice none 0 0) (v4 := .slice none 0 0) (v5 := .slice none 0 0) (v6 := .slice none 0 0) rfl rfl rfl rfl rfl rfl rfl rfl (bldMa g c w)
            try simp only [Act.put, List.getElem_toArray, List.getElem_cons_succ, List.getElem_cons_zero, List.setIfInBounds_toArray, List.set_cons_zero, List.set_cons_succ]
            refine wpAnyH_ready (rs := [38]) (by kernel_rfl) (by simp) ?_
            refine AllReadyH.cons (o := _) rfl (fun K hK => ?_) AllReadyH.nil
            obtain ⟨w6, hst, hb_, hf_⟩ := store_all (t := 36) (machZ g c) sizeMa rfl (machZ_one g c) HV5.out rfl
            split
            rotate_left
            · rename_i hno
              exact absurd rfl hno
            refine wp_skp (w' := w6) ?_ ?_
            · show Sem.run Tryz.prog ((Instr.storeAt 36 (.pointer (some ⟨V, 0, none⟩)) (.agg (machZ g c).toArray)) >>= fun _ => pure Next.skip) _ = _
              rw [Sem.run_bind, hst]
              rfl
            clear hst
            have HZ := Lib.hid (show Blk w6 V 36 (machZ g c) from hb_)
            have HFZ := Lib.hid (HF5.out.own1 (S := []) (B := 0) hf_ HVS.out)
            have HGZ := Lib.hid (show Task1 w6 g from by
              obtain ⟨X, h1, h2⟩ := HG5.out
              refine ⟨X, h1.keep hf_ ?_, h2⟩
              intro hm
              rw [List.mem_singleton] at hm
              have h3 := HV5.out
              unfold Blk at h1 h3
              rw [hm, h3] at h1
              simp only [Option.some.injEq, Obj.cells.injEq] at h1
              exact absurd h1.2.1 (by decide))
            clear hb_ hf_
            refine hK.out _ _ (EngS (HE.out.keep HFZ.out (by simp))) (fun hHeld => ?_)
            clear hK K
            try simp only [Act.put, List.getElem_toArray, List.getElem_cons_succ, List.getElem_cons_zero, List.setIfInBounds_toArray, List.set_cons_zero, List.set_cons_succ]
            refine wpAnyH_done (by kernel_rfl) ?_ _
            clear hHeld
            go_wp2
            go_meet
            exact ⟨V, g, c, rfl, HZ.out, HGZ.out, HVS.out, HFZ.out⟩
        · skip
          go_simp
          obtain ⟨V, hV⟩ : ∃ z, w2.heap.size = z := ⟨_, rfl⟩
          obtain ⟨w3, hw⟩ : ∃ z, w2.alloc (.cells mach0.toArray 36) = z := ⟨_, rfl⟩
          have hbv : Blk w3 V 36 mach0 := by rw [← hw, ← hV]; exact Blk.made w2 _ _
          have fx : Fr [] w2 w3 := by rw [← hw]; exact (Fr.refl [] w2).alloc _
          rw [show w2.alloc (.cells #[.int .u64 0, .slice none 0 0, .slice none 0 0, .slice none 0 0, .slice none 0 0, .slice none 0 0, .slice none 0 0, .slice none 0 0] 36) = w3 from hw]
          simp only [hV]
          have HVS := Lib.hid (show w1.heap.size ≤ V from by rw [← hV]; exact HF2.out.size)
          have HF3 := Lib.hid (HF2.out.step fx)
          have HV3 := Lib.hid hbv
          have HG3 := Lib.hid (HG2.out.new fx)
          clear hV hw hbv fx
          refine hK.out _ _ (EngS (HE.out.keep HF3.out (by simp))) (fun hHeld => ?_)
          clear hK K
          try simp only [Act.put, List.getElem_toArray, List.getElem_cons_succ, List.getElem_cons_zero, List.setIfInBounds_toArray, List.set_cons_zero, List.set_cons_succ]
          refine wpAnyH_ready (rs := [19]) (by kernel_rfl) (by simp) ?_
          refine AllReadyH.cons (o := _) rfl (fun K hK => ?_) AllReadyH.nil
          go_simp
          refine (cloneInts0 _).mono ?_
          rintro e w' ⟨rfl, rfl⟩
          refine hK.out _ _ (EngS (HE.out.keep HF3.out (by simp))) (fun hHeld => ?_)
          clear hK K
          try simp only [Act.put, List.getElem_toArray, List.getElem_cons_succ, List.getElem_cons_zero, List.setIfInBounds_toArray, List.set_cons_zero, List.set_cons_succ]
          refine wpAnyH_ready (rs := [25]) (by kernel_rfl) (by simp) ?_
          refine AllReadyH.cons (o := _) rfl (fun K hK => ?_) AllReadyH.nil
          go_simp
          refine (cloneFiles0 _).mono ?_
          rintro e w' ⟨rfl, rfl⟩
          refine hK.out _ _ (EngS (HE.out.keep HF3.out (by simp))) (fun hHeld => ?_)
          clear hK K
          try simp only [Act.put, List.getElem_toArray, List.getElem_cons_succ, List.getElem_cons_zero, List.setIfInBounds_toArray, List.set_cons_zero, List.set_cons_succ]
          refine wpAnyH_ready (rs := [30]) (by kernel_rfl) (by simp) ?_
          refine AllReadyH.cons (o := _) rfl (fun K hK => ?_) AllReadyH.nil
          go_simp
          refine (conns0 _ (HN.out.new HF3.out)).mono ?_
          rintro e w4 ⟨rfl, fx⟩
          have HF4 := Lib.hid (HF3.out.step fx)
          have HG4 := Lib.hid (HG3.out.new fx)
          have HV4 := Lib.hid (HV3.out.keep fx (by simp))
          clear fx
          refine hK.out _ _ (EngS (HE.out.keep HF4.out (by simp))) (fun hHeld => ?_)
          clear hK K
          try simp only [Act.put, List.getElem_toArray, List.getElem_cons_succ, List.getElem_cons_zero, List.setIfInBounds_toArray, List.set_cons_zero, List.set_cons_succ]
          refine wpAnyH_ready (rs := [35]) (by kernel_rfl) (by simp) ?_
          refine AllReadyH.cons (o := _) rfl (fun K hK => ?_) AllReadyH.nil
          go_simp
          refine (listeners0 _ (HN.out.new HF4.out)).mono ?_
          rintro e w5 ⟨rfl, fx⟩
          have HF5 := Lib.hid (HF4.out.step fx)
          have HG5 := Lib.hid (HG4.out.new fx)
          have HV5 := Lib.hid (HV4.out.keep fx (by simp))
          clear fx
          refine hK.out _ _ (EngS (HE.out.keep HF5.out (by simp))) (fun hHeld => ?_)
          clear hK K
          try simp only [Act.put, List.getElem_toArray, List.getElem_cons_succ, List.getElem_cons_zero, List.setIfInBounds_toArray, List.set_cons_zero, List.set_cons_succ]
          refine wpAnyH_take (i := 36) (oi := _) (v := .agg (machZ g c).toArray) rfl (by kernel_rfl) (by kernel_rfl) (by kernel_rfl) (fun _ _ _ h => h) (Or.inl ⟨by rfl, ?_⟩) (by first | assumption | trivial) ?_
          · intro w hSw
            try dsimp only at hSw
            exact exec_bld7 (v0 := .int .u64 3) (v1 := .slice (some ⟨g, 0, none⟩) 1 c) (v2 := .slice none 0 0) (v3 := .slice none 0 0) (v4 := .slice none 0 0) (v5 := .slice none 0 0) (v6 := .slice none 0 0) rfl rfl rfl rfl rfl rfl rfl rfl (bldMa g c w)
          try simp only [Act.put, List.getElem_toArray, List.getElem_cons_succ, List.getElem_cons_zero, List.setIfInBounds_toArray, List.set_cons_zero, List.set_cons_succ]
          refine wpAnyH_ready (rs := [38]) (by kernel_rfl) (by simp) ?_
          refine AllReadyH.cons (o := _) rfl (fun K hK => ?_) AllReadyH.nil
          obtain ⟨w6, hst, hb_, hf_⟩ := store_all (t := 36) (machZ g c) sizeMa rfl (machZ_one g c) HV5.out rfl
          split
          rotate_left
          · rename_i hno
            exact absurd rfl hno
          refine wp_skp (w' := w6) ?_ ?_
          · show Sem.run Tryz.prog ((Instr.storeAt 36 (.pointer (some ⟨V, 0, none⟩)) (.agg (machZ g c).toArray)) >>= fun _ => pure Next.skip) _ = _
            rw [Sem.run_bind, hst]
            rfl
          clear hst
          have HZ := Lib.hid (show Blk w6 V 36 (machZ g c) from hb_)
          have HFZ := Lib.hid (HF5.out.own1 (S := []) (B := 0) hf_ HVS.out)
          have HGZ := Lib.hid (show Task1 w6 g from by
            obtain ⟨X, h1, h2⟩ := HG5.out
            refine ⟨X, h1.keep hf_ ?_, h2⟩
            intro hm
            rw [List.mem_singleton] at hm
            have h3 := HV5.out
            unfold Blk at h1 h3
            rw [hm, h3] at h1
            simp only [Option.some.injEq, Obj.cells.injEq] at h1
            exact absurd h1.2.1 (by decide))
          clear hb_ hf_
          refine hK.out _ _ (EngS (HE.out.keep HFZ.out (by simp))) (fun hHeld => ?_)
          clear hK K
          try simp only [Act.put, List.getElem_toArray, List.getElem_cons_succ, List.getElem_cons_zero, List.setIfInBounds_toArray, List.set_cons_zero, List.set_cons_succ]
          refine wpAnyH_done (by kernel_rfl) ?_ _
          clear hHeld
          go_wp2
          go_meet
          exact ⟨V, g, c, rfl, HZ.out, HGZ.out, HVS.out, HFZ.out⟩
      · skip
        go_simp
        obtain ⟨V, hV⟩ : ∃ z, w2.heap.size = z := ⟨_, rfl⟩
        obtain ⟨w3, hw⟩ : ∃ z, w2.alloc (.cells mach0.toArray 36) = z := ⟨_, rfl⟩
        have hbv : Blk w3 V 36 mach0 := by rw [← hw, ← hV]; exact Blk.made w2 _ _
        have fx : Fr [] w2 w3 := by rw [← hw]; exact (Fr.refl [] w2).alloc _
        rw [show w2.alloc (.cells #[.int .u64 0, .slice none 0 0, .slice none 0 0, .slice none 0 0, .slice none 0 0, .slice none 0 0, .slice none 0 0, .slice none 0 0] 36) = w3 from hw]
        simp only [hV]
        have HVS := Lib.hid (show w1.heap.size ≤ V from by rw [← hV]; exact HF2.out.size)
        have HF3 := Lib.hid (HF2.out.step fx)
        have HV3 := Lib.hid hbv
        have HG3 := Lib.hid (HG2.out.new fx)
        clear hV hw hbv fx
        refine hK.out _ _ (EngS (HE.out.keep HF3.out (by simp))) (fun hHeld => ?_)
        clear hK K
        try simp only [Act.put, List.getElem_toArray, List.getElem_cons_succ, List.getElem_cons_zero, List.setIfInBounds_toArray, List.set_cons_zero, List.set_cons_succ]
        refine wpAnyH_ready (rs := [13]) (by kernel_rfl) (by simp) ?_
        refine AllReadyH.cons (o := _) rfl (fun K hK => ?_) AllReadyH.nil
        go_simp
        refine (cloneInts0 _).mono ?_
        rintro e w' ⟨rfl, rfl⟩
        refine hK.out _ _ (EngS (HE.out.keep HF3.out (by simp))) (fun hHeld => ?_)
        clear hK K
        try simp only [Act.put, List.getElem_toArray, List.getElem_cons_succ, List.getElem_cons_zero, List.setIfInBounds_toArray, List.set_cons_zero, List.set_cons_succ]
        refine wpAnyH_ready (rs := [19]) (by kernel_rfl) (by simp) ?_
        refine AllReadyH.cons (o := _) rfl (fun K hK => ?_) AllReadyH.nil
        go_simp
        refine (cloneInts0 _).mono ?_
        rintro e w' ⟨rfl, rfl⟩
        refine hK.out _ _ (EngS (HE.out.keep HF3.out (by simp))) (fun hHeld => ?_)
        clear hK K
        try simp only [Act.put, List.getElem_toArray, List.getElem_cons_succ, List.getElem_cons_zero, List.setIfInBounds_toArray, List.set_cons_zero, List.set_cons_succ]
        refine wpAnyH_ready (rs := [25]) (by kernel_rfl) (by simp) ?_
        refine AllReadyH.cons (o := _) rfl (fun K hK => ?_) AllReadyH.nil
        go_simp
        refine (cloneFiles0 _).mono ?_
        rintro e w' ⟨rfl, rfl⟩
        refine hK.out _ _ (EngS (HE.out.keep HF3.out (by simp))) (fun hHeld => ?_)
        clear hK K
        try simp only [Act.put, List.getElem_toArray, List.getElem_cons_succ, List.getElem_cons_zero, List.setIfInBounds_toArray, List.set_cons_zero, List.set_cons_succ]
        refine wpAnyH_ready (rs := [30]) (by kernel_rfl) (by simp) ?_
        refine AllReadyH.cons (o := _) rfl (fun K hK => ?_) AllReadyH.nil
        go_simp
        refine (conns0 _ (HN.out.new HF3.out)).mono ?_
        rintro e w4 ⟨rfl, fx⟩
        have HF4 := Lib.hid (HF3.out.step fx)
        have HG4 := Lib.hid (HG3.out.new fx)
        have HV4 := Lib.hid (HV3.out.keep fx (by simp))
        clear fx
        refine hK.out _ _ (EngS (HE.out.keep HF4.out (by simp))) (fun hHeld => ?_)
        clear hK K
        try simp only [Act.put, List.getElem_toArray, List.getElem_cons_succ, List.getElem_cons_zero, List.setIfInBounds_toArray, List.set_cons_zero, List.set_cons_succ]
        refine wpAnyH_ready (rs := [35]) (by kernel_rfl) (by simp) ?_
        refine AllReadyH.cons (o := _) rfl (fun K hK => ?_) AllReadyH.nil
        go_simp
        refine (listeners0 _ (HN.out.new HF4.out)).mono ?_
        rintro e w5 ⟨rfl, fx⟩
        have HF5 := Lib.hid (HF4.out.step fx)
        have HG5 := Lib.hid (HG4.out.new fx)
        have HV5 := Lib.hid (HV4.out.keep fx (by simp))
        clear fx
        refine hK.out _ _ (EngS (HE.out.keep HF5.out (by simp))) (fun hHeld => ?_)
        clear hK K
        try simp only [Act.put, List.getElem_toArray, List.getElem_cons_succ, List.getElem_cons_zero, List.setIfInBounds_toArray, List.set_cons_zero, List.set_cons_succ]
        refine wpAnyH_take (i := 36) (oi := _) (v := .agg (machZ g c).toArray) rfl (by kernel_rfl) (by kernel_rfl) (by kernel_rfl) (fun _ _ _ h => h) (Or.inl ⟨by rfl, ?_⟩) (by first | assumption | trivial) ?_
        · intro w hSw
          try dsimp only at hSw
          exact exec_bld7 (v0 := .int .u64 3) (v1 := .slice (some ⟨g, 0, none⟩) 1 c) (v2 := .slice none 0 0) (v3 := .slice none 0 0) (v4 := .slice none 0 0) (v5 := .slice none 0 0) (v6 := .slice none 0 0) rfl rfl rfl rfl rfl rfl rfl rfl (bldMa g c w)
        try simp only [Act.put, List.getElem_toArray, List.getElem_cons_succ, List.getElem_cons_zero, List.setIfInBounds_toArray, List.set_cons_zero, List.set_cons_succ]
        refine wpAnyH_ready (rs := [38]) (by kernel_rfl) (by simp) ?_
        refine AllReadyH.cons (o := _) rfl (fun K hK => ?_) AllReadyH.nil
        obtain ⟨w6, hst, hb_, hf_⟩ := store_all (t := 36) (machZ g c) sizeMa rfl (machZ_one g c) HV5.out rfl
        split
        rotate_left
        · rename_i hno
          exact absurd rfl hno
        refine wp_skp (w' := w6) ?_ ?_
        · show Sem.run Tryz.prog ((Instr.storeAt 36 (.pointer (some ⟨V, 0, none⟩)) (.agg (machZ g c).toArray)) >>= fun _ => pure Next.skip) _ = _
          rw [Sem.run_bind, hst]
          rfl
        clear hst
        have HZ := Lib.hid (show Blk w6 V 36 (machZ g c) from hb_)
        have HFZ := Lib.hid (HF5.out.own1 (S := []) (B := 0) hf_ HVS.out)
        have HGZ := Lib.hid (show Task1 w6 g from by
          obtain ⟨X, h1, h2⟩ := HG5.out
          refine ⟨X, h1.keep hf_ ?_, h2⟩
          intro hm
          rw [List.mem_singleton] at hm
          have h3 := HV5.out
          unfold Blk at h1 h3
          rw [hm, h3] at h1
          simp only [Option.some.injEq, Obj.cells.injEq] at h1
          exact absurd h1.2.1 (by decide))
        clear hb_ hf_
        refine hK.out _ _ (EngS (HE.out.keep HFZ.out (by simp))) (fun hHeld => ?_)
        clear hK K
        try simp only [Act.put, List.getElem_toArray, List.getElem_cons_succ, List.getElem_cons_zero, List.setIfInBounds_toArray, List.set_cons_zero, List.set_cons_succ]
        refine wpAnyH_done (by kernel_rfl) ?_ _
        clear hHeld
        go_wp2
        go_meet
        exact ⟨V, g, c, rfl, HZ.out, HGZ.out, HVS.out, HFZ.out⟩
    · skip
      go_simp
      obtain ⟨V, hV⟩ : ∃ z, w1.heap.size = z := ⟨_, rfl⟩
      obtain ⟨w2, hw⟩ : ∃ z, w1.alloc (.cells mach0.toArray 36) = z := ⟨_, rfl⟩
      have hbv : Blk w2 V 36 mach0 := by rw [← hw, ← hV]; exact Blk.made w1 _ _
      have fx : Fr [] w1 w2 := by rw [← hw]; exact (Fr.refl [] w1).alloc _
      rw [show w1.alloc (.cells #[.int .u64 0, .slice none 0 0, .slice none 0 0, .slice none 0 0, .slice none 0 0, .slice none 0 0, .slice none 0 0, .slice none 0 0] 36) = w2 from hw]
      simp only [hV]
      have HVS := Lib.hid (show w1.heap.size ≤ V from by rw [← hV]; exact HF1.out.size)
      have HF2 := Lib.hid (HF1.out.step fx)
      have HV2 := Lib.hid hbv
      clear hV hw hbv fx
      refine hK.out _ _ (EngS (HE.out.keep HF2.out (by simp))) (fun hHeld => ?_)
      clear hK K
      try simp only [Act.put, List.getElem_toArray, List.getElem_cons_succ, List.getElem_cons_zero, List.setIfInBounds_toArray, List.set_cons_zero, List.set_cons_succ]
      refine wpAnyH_ready (rs := [8]) (by kernel_rfl) (by simp) ?_
      refine AllReadyH.cons (o := _) rfl (fun K hK => ?_) AllReadyH.nil
      go_simp
      refine (each_z T 1 _ (HT.out.new HF2.out)).mono ?_
      rintro e w3 ⟨g, c, rfl, hg, fx⟩
      have HF3 := Lib.hid (HF2.out.step fx)
      have HG3 := Lib.hid hg
      clear hg
      have HV3 := Lib.hid (HV2.out.keep fx (by simp))
      clear fx
      refine hK.out _ _ (EngS (HE.out.keep HF3.out (by simp))) (fun hHeld => ?_)
      clear hK K
      try simp only [Act.put, List.getElem_toArray, List.getElem_cons_succ, List.getElem_cons_zero, List.setIfInBounds_toArray, List.set_cons_zero, List.set_cons_succ]
      refine wpAnyH_ready (rs := [13]) (by kernel_rfl) (by simp) ?_
      refine AllReadyH.cons (o := _) rfl (fun K hK => ?_) AllReadyH.nil
      go_simp
      refine (cloneInts0 _).mono ?_
      rintro e w' ⟨rfl, rfl⟩
      refine hK.out _ _ (EngS (HE.out.keep HF3.out (by simp))) (fun hHeld => ?_)
      clear hK K
      try simp only [Act.put, List.getElem_toArray, List.getElem_cons_succ, List.getElem_cons_zero, List.setIfInBounds_toArray, List.set_cons_zero, List.set_cons_succ]
      refine wpAnyH_ready (rs := [19]) (by kernel_rfl) (by simp) ?_
      refine AllReadyH.cons (o := _) rfl (fun K hK => ?_) AllReadyH.nil
      go_simp
      refine (cloneInts0 _).mono ?_
      rintro e w' ⟨rfl, rfl⟩
      refine hK.out _ _ (EngS (HE.out.keep HF3.out (by simp))) (fun hHeld => ?_)
      clear hK K
      try simp only [Act.put, List.getElem_toArray, List.getElem_cons_succ, List.getElem_cons_zero, List.setIfInBounds_toArray, List.set_cons_zero, List.set_cons_succ]
      refine wpAnyH_ready (rs := [25]) (by kernel_rfl) (by simp) ?_
      refine AllReadyH.cons (o := _) rfl (fun K hK => ?_) AllReadyH.nil
      go_simp
      refine (cloneFiles0 _).mono ?_
      rintro e w' ⟨rfl, rfl⟩
      refine hK.out _ _ (EngS (HE.out.keep HF3.out (by simp))) (fun hHeld => ?_)
      clear hK K
      try simp only [Act.put, List.getElem_toArray, List.getElem_cons_succ, List.getElem_cons_zero, List.setIfInBounds_toArray, List.set_cons_zero, List.set_cons_succ]
      refine wpAnyH_ready (rs := [30]) (by kernel_rfl) (by simp) ?_
      refine AllReadyH.cons (o := _) rfl (fun K hK => ?_) AllReadyH.nil
      go_simp
      refine (conns0 _ (HN.out.new HF3.out)).mono ?_
      rintro e w4 ⟨rfl, fx⟩
      have HF4 := Lib.hid (HF3.out.step fx)
      have HG4 := Lib.hid (HG3.out.new fx)
      have HV4 := Lib.hid (HV3.out.keep fx (by simp))
      clear fx
      refine hK.out _ _ (EngS (HE.out.keep HF4.out (by simp))) (fun hHeld => ?_)
      clear hK K
      try simp only [Act.put, List.getElem_toArray, List.getElem_cons_succ, List.getElem_cons_zero, List.setIfInBounds_toArray, List.set_cons_zero, List.set_cons_succ]
      refine wpAnyH_ready (rs := [35]) (by kernel_rfl) (by simp) ?_
      refine AllReadyH.cons (o := _) rfl (fun K hK => ?_) AllReadyH.nil
      go_simp
      refine (listeners0 _ (HN.out.new HF4.out)).mono ?_
      rintro e w5 ⟨rfl, fx⟩
      have HF5 := Lib.hid (HF4.out.step fx)
      have HG5 := Lib.hid (HG4.out.new fx)
      have HV5 := Lib.hid (HV4.out.keep fx (by simp))
      clear fx
      refine hK.out _ _ (EngS (HE.out.keep HF5.out (by simp))) (fun hHeld => ?_)
      clear hK K
      try simp only [Act.put, List.getElem_toArray, List.getElem_cons_succ, List.getElem_cons_zero, List.setIfInBounds_toArray, List.set_cons_zero, List.set_cons_succ]
      refine wpAnyH_take (i := 36) (oi := _) (v := .agg (machZ g c).toArray) rfl (by kernel_rfl) (by kernel_rfl) (by kernel_rfl) (fun _ _ _ h => h) (Or.inl ⟨by rfl, ?_⟩) (by first | assumption | trivial) ?_
      · intro w hSw
        try dsimp only at hSw
        exact exec_bld7 (v0 := .int .u64 3) (v1 := .slice (some ⟨g, 0, none⟩) 1 c) (v2 := .slice none 0 0) (v3 := .slice none 0 0) (v4 := .slice none 0 0) (v5 := .slice none 0 0) (v6 := .slice none 0 0) rfl rfl rfl rfl rfl rfl rfl rfl (bldMa g c w)
      try simp only [Act.put, List.getElem_toArray, List.getElem_cons_succ, List.getElem_cons_zero, List.setIfInBounds_toArray, List.set_cons_zero, List.set_cons_succ]
      refine wpAnyH_ready (rs := [38]) (by kernel_rfl) (by simp) ?_
      refine AllReadyH.cons (o := _) rfl (fun K hK => ?_) AllReadyH.nil
      obtain ⟨w6, hst, hb_, hf_⟩ := store_all (t := 36) (machZ g c) sizeMa rfl (machZ_one g c) HV5.out rfl
      split
      rotate_left
      · rename_i hno
        exact absurd rfl hno
      refine wp_skp (w' := w6) ?_ ?_
      · show Sem.run Tryz.prog ((Instr.storeAt 36 (.pointer (some ⟨V, 0, none⟩)) (.agg (machZ g c).toArray)) >>= fun _ => pure Next.skip) _ = _
        rw [Sem.run_bind, hst]
        rfl
      clear hst
      have HZ := Lib.hid (show Blk w6 V 36 (machZ g c) from hb_)
      have HFZ := Lib.hid (HF5.out.own1 (S := []) (B := 0) hf_ HVS.out)
      have HGZ := Lib.hid (show Task1 w6 g from by
        obtain ⟨X, h1, h2⟩ := HG5.out
        refine ⟨X, h1.keep hf_ ?_, h2⟩
        intro hm
        rw [List.mem_singleton] at hm
        have h3 := HV5.out
        unfold Blk at h1 h3
        rw [hm, h3] at h1
        simp only [Option.some.injEq, Obj.cells.injEq] at h1
        exact absurd h1.2.1 (by decide))
      clear hb_ hf_
      refine hK.out _ _ (EngS (HE.out.keep HFZ.out (by simp))) (fun hHeld => ?_)
      clear hK K
      try simp only [Act.put, List.getElem_toArray, List.getElem_cons_succ, List.getElem_cons_zero, List.setIfInBounds_toArray, List.set_cons_zero, List.set_cons_succ]
      refine wpAnyH_done (by kernel_rfl) ?_ _
      clear hHeld
      go_wp2
      go_meet
      exact ⟨V, g, c, rfl, HZ.out, HGZ.out, HVS.out, HFZ.out⟩
  case rest =>
    obtain ⟨V, g, c, rfl, hV, hG, hVS, fc⟩ := hcut
    obtain ⟨since, c0, hr, hrun⟩ := RangeL.start (HM.out.keep fc (by simp))
    have hrun := hrun 59 _ Tryz.underlying59
    have hnx := fun ty => hr.none ty
    have c5 : wc.cell? ⟨e, 5, none⟩ = some (.map (some m)) := (HE.out.keep fc (by simp)).at 5 _ rfl
    have f2 : Fr [] wc (wc.alloc (.mapIter (some m) since #[] c0)) := (Fr.refl [] wc).alloc _
    have c7 : (wc.alloc (.mapIter (some m) since #[] c0)).cell? ⟨V, 7, none⟩ = some (.slice none 0 0) := (hV.keep f2 (by simp)).at 7 _ rfl
    have HV2 := Lib.hid (hV.keep f2 (by simp))
    have HG2 := Lib.hid (hG.new f2)
    have HF2 := Lib.hid ((HF0.out.step fc).step f2)
    have HR2 := Lib.hid (HR0.out.keep (fc.step f2) (by simp))
    obtain ⟨w2, hw2⟩ : ∃ z, wc.alloc (.mapIter (some m) since #[] c0) = z := ⟨_, rfl⟩
    have HW2 := Lib.hid hw2
    clear hV hG fc hr f2 hw2
    go_wp2
    refine wp_loop_rounds 1 ?_
    rw [rounds_succ]
    go_wp2_with fail
    refine (sortW _ _).mono ?_
    rintro e w' ⟨rfl, rfl⟩
    go_upto_region 9 with fail
    rw [HW2.out] at HV2 HG2 HF2 HR2 ⊢
    clear hrun hnx c5 c7
    refine wp_region_lit ?_
    refine wpList_val rfl (v := .agg (machZ g c).toArray) (w' := w2) ?_ ?_
    · show Sem.run Tryz.prog ((Instr.loadAt 36 (.pointer (some ⟨V, 0, none⟩))) >>= fun x => pure (Next.value x)) w2 = _
      rw [Sem.run_bind, load_all aggMa sizeMa (xs := machZ g c) rfl HV2.out.at]
      rfl
    try simp only [Act.put, List.getElem_toArray, List.getElem_cons_succ, List.getElem_cons_zero, List.setIfInBounds_toArray, List.set_cons_zero, List.set_cons_succ]
    obtain ⟨w3, hst, hb_, hf_⟩ := store_all (t := 36) (machZ g c) sizeMa rfl (machZ_one g c) HR2.out rfl
    refine wpList_skp rfl (w' := w3) ?_ ?_
    · show Sem.run Tryz.prog ((Instr.storeAt 36 (.pointer (some ⟨R, 0, none⟩)) (.agg (machZ g c).toArray)) >>= fun _ => pure Next.skip) _ = _
      rw [Sem.run_bind, hst]
      rfl
    clear hst
    try simp only [Act.put, List.getElem_toArray, List.getElem_cons_succ, List.getElem_cons_zero, List.setIfInBounds_toArray, List.set_cons_zero, List.set_cons_succ]
    refine wpList_nil ?_
    try simp only [Act.put, List.getElem_toArray, List.getElem_cons_succ, List.getElem_cons_zero, List.setIfInBounds_toArray, List.set_cons_zero, List.set_cons_succ]
    have HR3 := Lib.hid (show Blk w3 R 36 (machZ g c) from hb_)
    have HF3 := Lib.hid (HF2.out.own1 (S := []) (B := 0) hf_ (by have := HRS.out; omega))
    have HG3 := Lib.hid (show Task1 w3 g from by
      obtain ⟨X, h1, h2⟩ := HG2.out
      refine ⟨X, h1.keep hf_ ?_, h2⟩
      intro hm
      rw [List.mem_singleton] at hm
      have h3 := HR2.out
      unfold Blk at h1 h3
      rw [hm, h3] at h1
      simp only [Option.some.injEq, Obj.cells.injEq] at h1
      exact absurd h1.2.1 (by decide))
    clear hb_ hf_
    go_wp2
    have hl := load_var aggMa sizeMa (xs := machZ g c) rfl HR3.out.at
    refine bodyPost_ret (v := .agg (machZ g c).toArray) (by simp [results, Tryz.results21, as_addr, hl]) rfl ?_
    exact ⟨g, c, rfl, HG3.out, HF3.out⟩
end Go.Proofs.YtemihaijhcpnfaaGreatDoor
