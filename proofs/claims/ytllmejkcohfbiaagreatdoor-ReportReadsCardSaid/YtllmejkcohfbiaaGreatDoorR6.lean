/- Report: the lines of how calls have ended and of tasks that wait, written. -/
import Derived.Test.YtllmejkcohfbiaaGreatDoorR5
namespace Go.Proofs.YtllmejkcohfbiaaGreatDoor
open Go.RowKit Go.Shelf Go.Sort Go.Lib
set_option linter.unusedVariables false
set_option linter.unusedSimpArgs false
set_option maxRecDepth 100000
set_option maxHeartbeats 8000000

theorem codeLine_any (x : Cd) (hwf : x.wf) (w : World) (ht : Tab w) :
    Calls Tryz.prog 53 #[cdV x] w fun r w' => r = .returned (.string (bs (cdB x))) ∧ Fr [] w w' := by
  have hlen := cdB_len hwf
  have hdef : cdB x = Lib.join [callB x.call, codeB x.err, Lib.itoa x.n] [32] ++ [10] := rfl
  obtain ⟨c, e, n⟩ := x
  simp only at hdef
  rw [hdef, List.length_append] at hlen
  obtain ⟨i1, i2, i3⟩ := hwf
  simp only at i1 i2 i3
  have HD := Lib.hid hdef
  have HLN := Lib.hid hlen
  have HT := Lib.hid ht
  unfold cdV
  rw [hdef]
  clear hdef hlen ht
  have f0 : Fr [] w (w.alloc (.cells #[.int .i64 c, .int .i64 e, .int .i64 n] 62)) := (Fr.refl [] w).alloc _
  have c0 : (w.alloc (.cells #[.int .i64 c, .int .i64 e, .int .i64 n] 62)).cell? ⟨w.heap.size, 0, none⟩ = some (.int .i64 c) := by simp
  have c1 : (w.alloc (.cells #[.int .i64 c, .int .i64 e, .int .i64 n] 62)).cell? ⟨w.heap.size, 1, none⟩ = some (.int .i64 e) := by simp
  have c2 : (w.alloc (.cells #[.int .i64 c, .int .i64 e, .int .i64 n] 62)).cell? ⟨w.heap.size, 2, none⟩ = some (.int .i64 n) := by simp
  go_enter Tryz.func53, Tryz.ntmps53
  go_wp2
  obtain ⟨W0, hW0⟩ : ∃ W, w.alloc (.cells #[.int .i64 c, .int .i64 e, .int .i64 n] 62) = W := ⟨_, rfl⟩
  obtain ⟨B, hB⟩ : ∃ B, w.heap.size = B := ⟨_, rfl⟩
  simp only [hW0, hB] at f0 c0 c1 c2 ⊢
  have F0 := Lib.hid f0
  clear hW0 hB f0
  refine wp_region_held_drew (S := fun w' => w'.cell? ⟨B, 0, none⟩ = some (.int .i64 c) ∧ w'.cell? ⟨B, 1, none⟩ = some (.int .i64 e) ∧ w'.cell? ⟨B, 2, none⟩ = some (.int .i64 n)) (by kernel_rfl) (⟨c0, c1, c2⟩) (fun hHeld => ?_)
  refine wpAnyH_take (i := 0) (oi := _) (v := ?_) rfl (by kernel_rfl) (by kernel_rfl) (by kernel_rfl) (fun _ _ _ h => h) (Or.inl ⟨by rfl, ?_⟩) (by assumption) ?_
  rotate_left
  · intro w hSw
    try dsimp only at hSw
    go_simp
    try with_reducible rfl
  try simp only [Act.put, List.getElem_toArray, List.getElem_cons_succ, List.getElem_cons_zero, List.setIfInBounds_toArray, List.set_cons_zero, List.set_cons_succ]
  refine wpAnyH_take (i := 1) (oi := _) (v := ?_) rfl (by kernel_rfl) (by kernel_rfl) (by kernel_rfl) (fun _ _ _ h => h) (Or.inl ⟨by rfl, ?_⟩) (by assumption) ?_
  rotate_left
  · intro w hSw
    try dsimp only at hSw
    go_simp
    try with_reducible rfl
  try simp only [Act.put, List.getElem_toArray, List.getElem_cons_succ, List.getElem_cons_zero, List.setIfInBounds_toArray, List.set_cons_zero, List.set_cons_succ]
  refine wpAnyH_take (i := 3) (oi := _) (v := ?_) rfl (by kernel_rfl) (by kernel_rfl) (by kernel_rfl) (fun _ _ _ h => h) (Or.inl ⟨by rfl, ?_⟩) (by assumption) ?_
  rotate_left
  · intro w hSw
    try dsimp only at hSw
    go_simp
    try with_reducible rfl
  try simp only [Act.put, List.getElem_toArray, List.getElem_cons_succ, List.getElem_cons_zero, List.setIfInBounds_toArray, List.set_cons_zero, List.set_cons_succ]
  refine wpAnyH_take (i := 4) (oi := _) (v := ?_) rfl (by kernel_rfl) (by kernel_rfl) (by kernel_rfl) (fun _ _ _ h => h) (Or.inl ⟨by rfl, ?_⟩) (by assumption) ?_
  rotate_left
  · intro w hSw
    try dsimp only at hSw
    go_simp
    try with_reducible rfl
  try simp only [Act.put, List.getElem_toArray, List.getElem_cons_succ, List.getElem_cons_zero, List.setIfInBounds_toArray, List.set_cons_zero, List.set_cons_succ]
  refine wpAnyH_take (i := 6) (oi := _) (v := ?_) rfl (by kernel_rfl) (by kernel_rfl) (by kernel_rfl) (fun _ _ _ h => h) (Or.inl ⟨by rfl, ?_⟩) (by assumption) ?_
  rotate_left
  · intro w hSw
    try dsimp only at hSw
    go_simp
    try with_reducible rfl
  try simp only [Act.put, List.getElem_toArray, List.getElem_cons_succ, List.getElem_cons_zero, List.setIfInBounds_toArray, List.set_cons_zero, List.set_cons_succ]
  refine wpAnyH_take (i := 7) (oi := _) (v := ?_) rfl (by kernel_rfl) (by kernel_rfl) (by kernel_rfl) (fun _ _ _ h => h) (Or.inl ⟨by rfl, ?_⟩) (by assumption) ?_
  rotate_left
  · intro w hSw
    try dsimp only at hSw
    go_simp
    try with_reducible rfl
  try simp only [Act.put, List.getElem_toArray, List.getElem_cons_succ, List.getElem_cons_zero, List.setIfInBounds_toArray, List.set_cons_zero, List.set_cons_succ]
  refine wpAnyH_ready (rs := [2]) (by kernel_rfl) (by simp) ?_
  refine AllReadyH.cons (o := _) rfl (fun K hK => ?_) AllReadyH.nil
  go_simp
  refine (call_any c i1 _ (tab_new HT.out (F0.out.step (Fr.refl [] W0).drew))).mono ?_
  rintro r1 w1 ⟨rfl, f1⟩
  replace f1 : Fr [] W0 w1 := ((Fr.refl [] W0).drew).step f1
  refine hK.out _ _ (⟨f1.keep c0 (by simp), f1.keep c1 (by simp), f1.keep c2 (by simp)⟩) (fun hHeld => ?_)
  clear hK K
  try simp only [Act.put, List.getElem_toArray, List.getElem_cons_succ, List.getElem_cons_zero, List.setIfInBounds_toArray, List.set_cons_zero, List.set_cons_succ]
  refine wpAnyH_ready (rs := [5]) (by kernel_rfl) (by simp) ?_
  refine AllReadyH.cons (o := _) rfl (fun K hK => ?_) AllReadyH.nil
  go_simp
  refine (code_any e i2 _ (tab_new HT.out (F0.out.step f1))).mono ?_
  rintro r2 w2 ⟨rfl, f2⟩
  replace f2 : Fr [] W0 w2 := f1.step f2
  refine hK.out _ _ (⟨f2.keep c0 (by simp), f2.keep c1 (by simp), f2.keep c2 (by simp)⟩) (fun hHeld => ?_)
  clear hK K
  try simp only [Act.put, List.getElem_toArray, List.getElem_cons_succ, List.getElem_cons_zero, List.setIfInBounds_toArray, List.set_cons_zero, List.set_cons_succ]
  refine wpAnyH_ready (rs := [8]) (by kernel_rfl) (by simp) ?_
  refine AllReadyH.cons (o := _) rfl (fun K hK => ?_) AllReadyH.nil
  go_simp
  refine (number_any n i3 _ (tab_new HT.out (F0.out.step f2))).mono ?_
  rintro r3 w3 ⟨rfl, f3⟩
  replace f3 : Fr [] W0 w3 := f2.step f3
  refine hK.out _ _ (⟨f3.keep c0 (by simp), f3.keep c1 (by simp), f3.keep c2 (by simp)⟩) (fun hHeld => ?_)
  clear hK K
  try simp only [Act.put, List.getElem_toArray, List.getElem_cons_succ, List.getElem_cons_zero, List.setIfInBounds_toArray, List.set_cons_zero, List.set_cons_succ]
  refine wpAnyH_ready (rs := [9]) (by kernel_rfl) (by simp) ?_
  refine AllReadyH.cons (o := _) rfl (fun K hK => ?_) AllReadyH.nil
  go_simp
  have f4 : Fr [] W0 (w3.alloc (.cells #[.string (bs (callB c)), .string (bs (codeB e)), .string (bs (Lib.itoa n))] 9)) := f3.alloc _
  refine hK.out _ _ (⟨f4.keep c0 (by simp), f4.keep c1 (by simp), f4.keep c2 (by simp)⟩) (fun hHeld => ?_)
  clear hK K
  try simp only [Act.put, List.getElem_toArray, List.getElem_cons_succ, List.getElem_cons_zero, List.setIfInBounds_toArray, List.set_cons_zero, List.set_cons_succ]
  refine wpAnyH_ready (rs := [10]) (by kernel_rfl) (by simp) ?_
  refine AllReadyH.cons (o := _) rfl (fun K hK => ?_) AllReadyH.nil
  go_simp
  have hq := words_any w3.heap.size 0 3 [callB c, codeB e, Lib.itoa n] (w3.alloc (.cells #[.string (bs (callB c)), .string (bs (codeB e)), .string (bs (Lib.itoa n))] 9)) (fun j y hj => by match j with | 0 => cases hj; simp | 1 => cases hj; simp | 2 => cases hj; simp | j + 3 => simp at hj) (by simp) (by simp) (by simp) (by have := HLN.out; omega)
  refine hq.mono ?_
  clear hq
  rintro r5 w5 ⟨rfl, f5⟩
  replace f5 : Fr [] W0 w5 := f4.step f5
  have hz5 : (bs (Lib.join [callB c, codeB e, Lib.itoa n] [32])).size ≤ 100 := by rw [bs_size]; have := HLN.out; omega
  obtain ⟨s5, hs5⟩ : ∃ s, Lib.join [callB c, codeB e, Lib.itoa n] [32] = s := ⟨_, rfl⟩
  rw [hs5] at hz5
  simp only [hs5]
  have HS5 := Lib.hid hs5
  clear hs5
  refine hK.out _ _ (⟨f5.keep c0 (by simp), f5.keep c1 (by simp), f5.keep c2 (by simp)⟩) (fun hHeld => ?_)
  clear hK K
  try simp only [Act.put, List.getElem_toArray, List.getElem_cons_succ, List.getElem_cons_zero, List.setIfInBounds_toArray, List.set_cons_zero, List.set_cons_succ]
  refine wpAnyH_ready (rs := [11]) (by kernel_rfl) (by simp) ?_
  refine AllReadyH.cons (o := _) rfl (fun K hK => ?_) AllReadyH.nil
  go_simp
  rw [if_neg (by omega)]
  go_simp
  refine hK.out _ _ (⟨f5.keep c0 (by simp), f5.keep c1 (by simp), f5.keep c2 (by simp)⟩) (fun hHeld => ?_)
  clear hK K
  try simp only [Act.put, List.getElem_toArray, List.getElem_cons_succ, List.getElem_cons_zero, List.setIfInBounds_toArray, List.set_cons_zero, List.set_cons_succ]
  refine wpAnyH_ready (rs := [12]) (by kernel_rfl) (by simp) ?_
  refine AllReadyH.cons (o := _) rfl (fun K hK => ?_) AllReadyH.nil
  go_simp
  refine hK.out _ _ (⟨f5.keep c0 (by simp), f5.keep c1 (by simp), f5.keep c2 (by simp)⟩) (fun hHeld => ?_)
  clear hK K
  try simp only [Act.put, List.getElem_toArray, List.getElem_cons_succ, List.getElem_cons_zero, List.setIfInBounds_toArray, List.set_cons_zero, List.set_cons_succ]
  refine wpAnyH_done (by kernel_rfl) ?_ _
  go_wp2
  go_ret
  exact ⟨by rw [HS5.out, ← bs_append]; rfl, F0.out.step f5⟩
theorem blockedLine_any (x : Bk) (hwf : x.wf) (hw : 0 ≤ x.why ∧ x.why < 7) (w : World) (ht : Tab w) :
    Calls Tryz.prog 58 #[bkV x] w fun r w' => r = .returned (.string (bs (bkB x))) ∧ Fr [] w w' := by
  have hlen := bkB_len hwf hw
  have hdef : bkB x = Lib.join [Lib.itoa x.t, whyWs.getD x.why.toNat [], [117, 110, 116, 105, 108], timeB x.till] [32] ++ [10] := rfl
  obtain ⟨c, e, n⟩ := x
  simp only at hdef hw
  obtain ⟨i1, i2, i3⟩ := hwf
  simp only at i1 i2 i3
  obtain ⟨e, rfl⟩ : ∃ k : Nat, e = k := ⟨e.toNat, by omega⟩
  obtain ⟨n, rfl⟩ : ∃ k : Nat, n = k := ⟨n.toNat, by omega⟩
  rw [show ((e : Int)).toNat = e from rfl] at hdef
  rw [hdef, List.length_append] at hlen
  have he7 : e < 7 := by omega
  have hn64 : n < 18446744073709551616 := by omega
  have HN64 := Lib.hid hn64
  have hlo : (0 : Int) ≤ (e : Int) := by omega
  have hhi : (e : Int) < 7 := by omega
  have HD := Lib.hid hdef
  have HLN := Lib.hid hlen
  have HT := Lib.hid ht
  unfold bkV
  rw [hdef]
  clear hdef hlen ht hw i3 hn64
  have f0 : Fr [] w (w.alloc (.cells #[.int .i64 c, .int .i64 (e : Int), .int .u64 (n : Int)] 67)) := (Fr.refl [] w).alloc _
  have c0 : (w.alloc (.cells #[.int .i64 c, .int .i64 (e : Int), .int .u64 (n : Int)] 67)).cell? ⟨w.heap.size, 0, none⟩ = some (.int .i64 c) := by simp
  have c1 : (w.alloc (.cells #[.int .i64 c, .int .i64 (e : Int), .int .u64 (n : Int)] 67)).cell? ⟨w.heap.size, 1, none⟩ = some (.int .i64 (e : Int)) := by simp
  have c2 : (w.alloc (.cells #[.int .i64 c, .int .i64 (e : Int), .int .u64 (n : Int)] 67)).cell? ⟨w.heap.size, 2, none⟩ = some (.int .u64 (n : Int)) := by simp
  go_enter Tryz.func58, Tryz.ntmps58
  go_wp2
  obtain ⟨W0, hW0⟩ : ∃ W, w.alloc (.cells #[.int .i64 c, .int .i64 (e : Int), .int .u64 (n : Int)] 67) = W := ⟨_, rfl⟩
  obtain ⟨B, hB⟩ : ∃ B, w.heap.size = B := ⟨_, rfl⟩
  simp only [hW0, hB] at f0 c0 c1 c2 ⊢
  have F0 := Lib.hid f0
  clear hW0 hB f0
  refine wp_region_held_drew (S := fun w' => w'.cell? ⟨B, 0, none⟩ = some (.int .i64 c) ∧ w'.cell? ⟨B, 1, none⟩ = some (.int .i64 (e : Int)) ∧ w'.cell? ⟨B, 2, none⟩ = some (.int .u64 (n : Int))) (by kernel_rfl) (⟨c0, c1, c2⟩) (fun hHeld => ?_)
  refine wpAnyH_take (i := 0) (oi := _) (v := ?_) rfl (by kernel_rfl) (by kernel_rfl) (by kernel_rfl) (fun _ _ _ h => h) (Or.inl ⟨by rfl, ?_⟩) (by assumption) ?_
  rotate_left
  · intro w hSw
    try dsimp only at hSw
    go_simp
    try with_reducible rfl
  try simp only [Act.put, List.getElem_toArray, List.getElem_cons_succ, List.getElem_cons_zero, List.setIfInBounds_toArray, List.set_cons_zero, List.set_cons_succ]
  refine wpAnyH_take (i := 1) (oi := _) (v := ?_) rfl (by kernel_rfl) (by kernel_rfl) (by kernel_rfl) (fun _ _ _ h => h) (Or.inl ⟨by rfl, ?_⟩) (by assumption) ?_
  rotate_left
  · intro w hSw
    try dsimp only at hSw
    go_simp
    try with_reducible rfl
  try simp only [Act.put, List.getElem_toArray, List.getElem_cons_succ, List.getElem_cons_zero, List.setIfInBounds_toArray, List.set_cons_zero, List.set_cons_succ]
  refine wpAnyH_take (i := 4) (oi := _) (v := ?_) rfl (by kernel_rfl) (by kernel_rfl) (by kernel_rfl) (fun _ _ _ h => h) (Or.inl ⟨by rfl, ?_⟩) (by assumption) ?_
  rotate_left
  · intro w hSw
    try dsimp only at hSw
    go_simp
    try with_reducible rfl
  try simp only [Act.put, List.getElem_toArray, List.getElem_cons_succ, List.getElem_cons_zero, List.setIfInBounds_toArray, List.set_cons_zero, List.set_cons_succ]
  refine wpAnyH_take (i := 5) (oi := _) (v := ?_) rfl (by kernel_rfl) (by kernel_rfl) (by kernel_rfl) (fun _ _ _ h => h) (Or.inl ⟨by rfl, ?_⟩) (by assumption) ?_
  rotate_left
  · intro w hSw
    try dsimp only at hSw
    go_simp
    try with_reducible rfl
  try simp only [Act.put, List.getElem_toArray, List.getElem_cons_succ, List.getElem_cons_zero, List.setIfInBounds_toArray, List.set_cons_zero, List.set_cons_succ]
  refine wpAnyH_take (i := 8) (oi := _) (v := ?_) rfl (by kernel_rfl) (by kernel_rfl) (by kernel_rfl) (fun _ _ _ h => h) (Or.inl ⟨by rfl, ?_⟩) (by assumption) ?_
  rotate_left
  · intro w hSw
    try dsimp only at hSw
    go_simp
    try with_reducible rfl
  try simp only [Act.put, List.getElem_toArray, List.getElem_cons_succ, List.getElem_cons_zero, List.setIfInBounds_toArray, List.set_cons_zero, List.set_cons_succ]
  refine wpAnyH_take (i := 9) (oi := _) (v := ?_) rfl (by kernel_rfl) (by kernel_rfl) (by kernel_rfl) (fun _ _ _ h => h) (Or.inl ⟨by rfl, ?_⟩) (by assumption) ?_
  rotate_left
  · intro w hSw
    try dsimp only at hSw
    go_simp
    try with_reducible rfl
  try simp only [Act.put, List.getElem_toArray, List.getElem_cons_succ, List.getElem_cons_zero, List.setIfInBounds_toArray, List.set_cons_zero, List.set_cons_succ]
  refine wpAnyH_ready (rs := [2]) (by kernel_rfl) (by simp) ?_
  refine AllReadyH.cons (o := _) rfl (fun K hK => ?_) AllReadyH.nil
  go_simp
  refine (number_any c i1 _ (tab_new HT.out (F0.out.step (Fr.refl [] W0).drew))).mono ?_
  rintro r1 w1 ⟨rfl, f1⟩
  replace f1 : Fr [] W0 w1 := ((Fr.refl [] W0).drew).step f1
  refine hK.out _ _ (⟨f1.keep c0 (by simp), f1.keep c1 (by simp), f1.keep c2 (by simp)⟩) (fun hHeld => ?_)
  clear hK K
  try simp only [Act.put, List.getElem_toArray, List.getElem_cons_succ, List.getElem_cons_zero, List.setIfInBounds_toArray, List.set_cons_zero, List.set_cons_succ]
  refine wpAnyH_ready (rs := [3]) (by kernel_rfl) (by simp) ?_
  refine AllReadyH.cons (o := _) rfl (fun K hK => ?_) AllReadyH.nil
  go_simp
  refine (whys_any _).mono ?_
  rintro r2 w2 ⟨K2, rfl, hK2, f2, -⟩
  replace f2 : Fr [] W0 w2 := f1.step f2
  have d2 := hK2.cell (i := e) (by simpa [whyWs] using he7)
  clear hK2
  refine hK.out _ _ (⟨f2.keep c0 (by simp), f2.keep c1 (by simp), f2.keep c2 (by simp)⟩) (fun hHeld => ?_)
  clear hK K
  try simp only [Act.put, List.getElem_toArray, List.getElem_cons_succ, List.getElem_cons_zero, List.setIfInBounds_toArray, List.set_cons_zero, List.set_cons_succ]
  refine wpAnyH_more (S' := fun w' => (fun w' => w'.cell? ⟨B, 0, none⟩ = some (.int .i64 c) ∧ w'.cell? ⟨B, 1, none⟩ = some (.int .i64 (e : Int)) ∧ w'.cell? ⟨B, 2, none⟩ = some (.int .u64 (n : Int))) w' ∧ w'.cell? ⟨K2, e, none⟩ = some (.string (bs (whyWs.getD e [])))) (fun _ h => h.1) ?_
  replace hHeld := And.intro hHeld d2
  refine wpAnyH_take (i := 6) (oi := _) (v := ?_) rfl (by kernel_rfl) (by kernel_rfl) (by kernel_rfl) (fun _ _ _ h => h) (Or.inl ⟨by rfl, ?_⟩) (by assumption) ?_
  rotate_left
  · intro w hSw
    try dsimp only at hSw
    go_simp
    try with_reducible rfl
  try simp only [Act.put, List.getElem_toArray, List.getElem_cons_succ, List.getElem_cons_zero, List.setIfInBounds_toArray, List.set_cons_zero, List.set_cons_succ]
  refine wpAnyH_take (i := 7) (oi := _) (v := ?_) rfl (by kernel_rfl) (by kernel_rfl) (by kernel_rfl) (fun _ _ _ h => h) (Or.inl ⟨by rfl, ?_⟩) (by assumption) ?_
  rotate_left
  · intro w hSw
    try dsimp only at hSw
    go_simp
    try with_reducible rfl
  try simp only [Act.put, List.getElem_toArray, List.getElem_cons_succ, List.getElem_cons_zero, List.setIfInBounds_toArray, List.set_cons_zero, List.set_cons_succ]
  refine wpAnyH_ready (rs := [10]) (by kernel_rfl) (by simp) ?_
  refine AllReadyH.cons (o := _) rfl (fun K hK => ?_) AllReadyH.nil
  go_simp
  refine (timeText_any n HN64.out _ (tab_new HT.out (F0.out.step f2))).mono ?_
  rintro r3 w3 ⟨rfl, f3⟩
  have d3 := f3.keep d2 (by simp)
  replace f3 : Fr [] W0 w3 := f2.step f3
  refine hK.out _ _ (⟨⟨f3.keep c0 (by simp), f3.keep c1 (by simp), f3.keep c2 (by simp)⟩, d3⟩) (fun hHeld => ?_)
  clear hK K
  try simp only [Act.put, List.getElem_toArray, List.getElem_cons_succ, List.getElem_cons_zero, List.setIfInBounds_toArray, List.set_cons_zero, List.set_cons_succ]
  refine wpAnyH_ready (rs := [11]) (by kernel_rfl) (by simp) ?_
  refine AllReadyH.cons (o := _) rfl (fun K hK => ?_) AllReadyH.nil
  go_simp
  have f4 : Fr [] W0 (w3.alloc (.cells #[.string (bs (Lib.itoa c)), .string (bs (whyWs.getD e [])), .string ⟨#[117, 110, 116, 105, 108]⟩, .string (bs (timeB n))] 9)) := f3.alloc _
  have d4 := ((Fr.refl [] w3).alloc (.cells #[.string (bs (Lib.itoa c)), .string (bs (whyWs.getD e [])), .string ⟨#[117, 110, 116, 105, 108]⟩, .string (bs (timeB n))] 9)).keep d3 (by simp)
  refine hK.out _ _ (⟨⟨f4.keep c0 (by simp), f4.keep c1 (by simp), f4.keep c2 (by simp)⟩, d4⟩) (fun hHeld => ?_)
  clear hK K
  try simp only [Act.put, List.getElem_toArray, List.getElem_cons_succ, List.getElem_cons_zero, List.setIfInBounds_toArray, List.set_cons_zero, List.set_cons_succ]
  refine wpAnyH_ready (rs := [12]) (by kernel_rfl) (by simp) ?_
  refine AllReadyH.cons (o := _) rfl (fun K hK => ?_) AllReadyH.nil
  go_simp
  have hq := words_any w3.heap.size 0 4 [Lib.itoa c, whyWs.getD e [], [117, 110, 116, 105, 108], timeB n] (w3.alloc (.cells #[.string (bs (Lib.itoa c)), .string (bs (whyWs.getD e [])), .string ⟨#[117, 110, 116, 105, 108]⟩, .string (bs (timeB n))] 9)) (fun j y hj => by match j with | 0 => cases hj; simp | 1 => cases hj; simp | 2 => cases hj; simp; rfl | 3 => cases hj; simp | j + 4 => simp at hj) (by simp) (by simp) (by simp) (by have := HLN.out; omega)
  refine hq.mono ?_
  clear hq
  rintro r5 w5 ⟨rfl, f5⟩
  have d5 := f5.keep d4 (by simp)
  replace f5 : Fr [] W0 w5 := f4.step f5
  have hz5 : (bs (Lib.join [Lib.itoa c, whyWs.getD e [], [117, 110, 116, 105, 108], timeB n] [32])).size ≤ 100 := by rw [bs_size]; have := HLN.out; omega
  obtain ⟨s5, hs5⟩ : ∃ s, Lib.join [Lib.itoa c, whyWs.getD e [], [117, 110, 116, 105, 108], timeB n] [32] = s := ⟨_, rfl⟩
  rw [hs5] at hz5
  simp only [hs5]
  have HS5 := Lib.hid hs5
  clear hs5
  refine hK.out _ _ (⟨⟨f5.keep c0 (by simp), f5.keep c1 (by simp), f5.keep c2 (by simp)⟩, d5⟩) (fun hHeld => ?_)
  clear hK K
  try simp only [Act.put, List.getElem_toArray, List.getElem_cons_succ, List.getElem_cons_zero, List.setIfInBounds_toArray, List.set_cons_zero, List.set_cons_succ]
  refine wpAnyH_ready (rs := [13]) (by kernel_rfl) (by simp) ?_
  refine AllReadyH.cons (o := _) rfl (fun K hK => ?_) AllReadyH.nil
  go_simp
  rw [if_neg (by omega)]
  go_simp
  refine hK.out _ _ (⟨⟨f5.keep c0 (by simp), f5.keep c1 (by simp), f5.keep c2 (by simp)⟩, d5⟩) (fun hHeld => ?_)
  clear hK K
  try simp only [Act.put, List.getElem_toArray, List.getElem_cons_succ, List.getElem_cons_zero, List.setIfInBounds_toArray, List.set_cons_zero, List.set_cons_succ]
  refine wpAnyH_ready (rs := [14]) (by kernel_rfl) (by simp) ?_
  refine AllReadyH.cons (o := _) rfl (fun K hK => ?_) AllReadyH.nil
  go_simp
  refine hK.out _ _ (⟨⟨f5.keep c0 (by simp), f5.keep c1 (by simp), f5.keep c2 (by simp)⟩, d5⟩) (fun hHeld => ?_)
  clear hK K
  try simp only [Act.put, List.getElem_toArray, List.getElem_cons_succ, List.getElem_cons_zero, List.setIfInBounds_toArray, List.set_cons_zero, List.set_cons_succ]
  refine wpAnyH_done (by kernel_rfl) ?_ _
  go_wp2
  go_ret
  exact ⟨by rw [HS5.out, ← bs_append]; rfl, F0.out.step f5⟩
end Go.Proofs.YtllmejkcohfbiaaGreatDoor
