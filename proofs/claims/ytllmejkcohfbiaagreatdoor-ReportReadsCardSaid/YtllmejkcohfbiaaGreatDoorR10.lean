/- Report: Check where there is a text. -/
import Derived.Test.YtllmejkcohfbiaaGreatDoorR9
namespace Go.Proofs.YtllmejkcohfbiaaGreatDoor
open Go.RowKit Go.Shelf Go.Sort Go.Lib
set_option linter.unusedVariables false
set_option linter.unusedSimpArgs false
set_option maxRecDepth 100000
set_option maxHeartbeats 8000000

theorem flaw_len (f : Nat) (h : f < 4) : (flawWs.getD f []).length ≤ 4 := by
  have : ∀ i, i < 4 → (flawWs.getD i []).length ≤ 4 := by decide
  exact this f h
theorem checkOk1 (w : World) (ht : Tab w) :
    Calls Tryz.prog 16 #[ckV (-1) 0 (-1)] w fun e w' => e = .returned (.tuple #[.string (bs ([112, 105, 112, 101, 115, 32, 102, 105, 110, 101] ++ [10] ++ [99, 111, 100, 101, 115, 32, 102, 105, 110, 101] ++ [10])), .int .i64 0]) ∧ Fr [] w w' := by
  rw [← bs_append, ← bs_append, ← bs_append]
  have HT := Lib.hid ht
  have F0 := Lib.hid (show Fr [] w ((w.alloc (.cells #[.int .i64 (-1), .int .i64 0, .int .i64 (-1)] 24)).alloc (.cells #[.string ⟨#[]⟩, .string ⟨#[109, 97, 100, 101]⟩, .string ⟨#[108, 111, 115, 116]⟩, .string ⟨#[114, 111, 111, 109]⟩] 9)) from ((Fr.refl [] w).alloc _).alloc _)
  have ck : ((w.alloc (.cells #[.int .i64 (-1), .int .i64 0, .int .i64 (-1)] 24)).alloc (.cells #[.string ⟨#[]⟩, .string ⟨#[109, 97, 100, 101]⟩, .string ⟨#[108, 111, 115, 116]⟩, .string ⟨#[114, 111, 111, 109]⟩] 9)).heap[w.heap.size]? = some (.cells #[.int .i64 (-1), .int .i64 0, .int .i64 (-1)] 24) := by
    have h1 := World.alloc_heap_new w (.cells #[.int .i64 (-1), .int .i64 0, .int .i64 (-1)] 24)
    have h2 : Fr [] (w.alloc (.cells #[.int .i64 (-1), .int .i64 0, .int .i64 (-1)] 24)) ((w.alloc (.cells #[.int .i64 (-1), .int .i64 0, .int .i64 (-1)] 24)).alloc (.cells #[.string ⟨#[]⟩, .string ⟨#[109, 97, 100, 101]⟩, .string ⟨#[108, 111, 115, 116]⟩, .string ⟨#[114, 111, 111, 109]⟩] 9)) := (Fr.refl [] _).alloc _
    rw [h2.block _ (by simp) (by simp)]
    exact h1
  have fk : WordsBlk ((w.alloc (.cells #[.int .i64 (-1), .int .i64 0, .int .i64 (-1)] 24)).alloc (.cells #[.string ⟨#[]⟩, .string ⟨#[109, 97, 100, 101]⟩, .string ⟨#[108, 111, 115, 116]⟩, .string ⟨#[114, 111, 111, 109]⟩] 9)) (w.heap.size + 1) flawWs := by
    have h1 := World.alloc_heap_new (w.alloc (.cells #[.int .i64 (-1), .int .i64 0, .int .i64 (-1)] 24)) (.cells #[.string ⟨#[]⟩, .string ⟨#[109, 97, 100, 101]⟩, .string ⟨#[108, 111, 115, 116]⟩, .string ⟨#[114, 111, 111, 109]⟩] 9)
    rw [show (w.alloc (.cells #[.int .i64 (-1), .int .i64 0, .int .i64 (-1)] 24)).heap.size = w.heap.size + 1 from by simp] at h1
    exact h1
  unfold ckV
  clear ht
  go_enter Tryz.func16, Tryz.ntmps16
  go_wp2
  go_ret2
  exact ⟨by rfl, F0.out⟩
theorem checkOk2 (b : Int) (ib : I64 b) (hb : 0 ≤ b) (w : World) (ht : Tab w) :
    Calls Tryz.prog 16 #[ckV (-1) 0 b] w fun e w' => e = .returned (.tuple #[.string (bs ([112, 105, 112, 101, 115, 32, 102, 105, 110, 101] ++ [10] ++ Lib.join [[99, 111, 100, 101], Lib.itoa b] [32] ++ [10])), .int .i64 0]) ∧ Fr [] w w' := by
  rw [← bs_append, ← bs_append, ← bs_append]
  have e1 : decide (b < -1) = false := decide_eq_false (by omega)
  have e2 : decide (0 ≤ b) = true := decide_eq_true hb
  have HT := Lib.hid ht
  have F0 := Lib.hid (show Fr [] w ((w.alloc (.cells #[.int .i64 (-1), .int .i64 0, .int .i64 b] 24)).alloc (.cells #[.string ⟨#[]⟩, .string ⟨#[109, 97, 100, 101]⟩, .string ⟨#[108, 111, 115, 116]⟩, .string ⟨#[114, 111, 111, 109]⟩] 9)) from ((Fr.refl [] w).alloc _).alloc _)
  have ck : ((w.alloc (.cells #[.int .i64 (-1), .int .i64 0, .int .i64 b] 24)).alloc (.cells #[.string ⟨#[]⟩, .string ⟨#[109, 97, 100, 101]⟩, .string ⟨#[108, 111, 115, 116]⟩, .string ⟨#[114, 111, 111, 109]⟩] 9)).heap[w.heap.size]? = some (.cells #[.int .i64 (-1), .int .i64 0, .int .i64 b] 24) := by
    have h1 := World.alloc_heap_new w (.cells #[.int .i64 (-1), .int .i64 0, .int .i64 b] 24)
    have h2 : Fr [] (w.alloc (.cells #[.int .i64 (-1), .int .i64 0, .int .i64 b] 24)) ((w.alloc (.cells #[.int .i64 (-1), .int .i64 0, .int .i64 b] 24)).alloc (.cells #[.string ⟨#[]⟩, .string ⟨#[109, 97, 100, 101]⟩, .string ⟨#[108, 111, 115, 116]⟩, .string ⟨#[114, 111, 111, 109]⟩] 9)) := (Fr.refl [] _).alloc _
    rw [h2.block _ (by simp) (by simp)]
    exact h1
  have fk : WordsBlk ((w.alloc (.cells #[.int .i64 (-1), .int .i64 0, .int .i64 b] 24)).alloc (.cells #[.string ⟨#[]⟩, .string ⟨#[109, 97, 100, 101]⟩, .string ⟨#[108, 111, 115, 116]⟩, .string ⟨#[114, 111, 111, 109]⟩] 9)) (w.heap.size + 1) flawWs := by
    have h1 := World.alloc_heap_new (w.alloc (.cells #[.int .i64 (-1), .int .i64 0, .int .i64 b] 24)) (.cells #[.string ⟨#[]⟩, .string ⟨#[109, 97, 100, 101]⟩, .string ⟨#[108, 111, 115, 116]⟩, .string ⟨#[114, 111, 111, 109]⟩] 9)
    rw [show (w.alloc (.cells #[.int .i64 (-1), .int .i64 0, .int .i64 b] 24)).heap.size = w.heap.size + 1 from by simp] at h1
    exact h1
  unfold ckV
  clear ht
  go_enter Tryz.func16, Tryz.ntmps16
  go_wp2_with fail
  refine (number_any b ib _ (tab_new HT.out (F0.out.step (Fr.refl [] ((w.alloc (.cells #[.int .i64 (-1), .int .i64 0, .int .i64 b] 24)).alloc (.cells #[.string ⟨#[]⟩, .string ⟨#[109, 97, 100, 101]⟩, .string ⟨#[108, 111, 115, 116]⟩, .string ⟨#[114, 111, 111, 109]⟩] 9)))))).mono ?_
  rintro e wa ⟨rfl, fa⟩
  go_wp2_with fail
  have hlb := Lib.itoa_length_le b ib.1 ib.2
  have hjl : (Lib.join [[99, 111, 100, 101], Lib.itoa b] [32]).length ≤ 30 := by
    rw [Lib.join_length]
    simp only [Lib.lens, List.map_cons, List.map_nil, List.sum_cons, List.sum_nil, List.length_cons, List.length_nil]
    omega
  have hq := words_any wa.heap.size 0 2 [[99, 111, 100, 101], Lib.itoa b] (wa.alloc (.cells #[.string ⟨#[99, 111, 100, 101]⟩, .string (bs (Lib.itoa b))] 9)) (fun j y hj => by match j with | 0 => cases hj; simp; rfl | 1 => cases hj; simp | j + 2 => simp at hj) (by simp) (by simp) (by simp) (by omega)
  refine hq.mono ?_
  clear hq hlb
  rintro e wb ⟨rfl, fb⟩
  have hzb : (bs (Lib.join [[99, 111, 100, 101], Lib.itoa b] [32])).size ≤ 30 := by rw [bs_size]; exact hjl
  obtain ⟨s2, hs2⟩ : ∃ s, Lib.join [[99, 111, 100, 101], Lib.itoa b] [32] = s := ⟨_, rfl⟩
  rw [hs2] at hzb
  simp only [hs2]
  have FX2 := Lib.hid ((Fr.refl [] ((w.alloc (.cells #[.int .i64 (-1), .int .i64 0, .int .i64 b] 24)).alloc (.cells #[.string ⟨#[]⟩, .string ⟨#[109, 97, 100, 101]⟩, .string ⟨#[108, 111, 115, 116]⟩, .string ⟨#[114, 111, 111, 109]⟩] 9))).step (fa.step (((Fr.refl [] wa).alloc (.cells #[.string ⟨#[99, 111, 100, 101]⟩, .string (bs (Lib.itoa b))] 9)).step fb)))
  have HS2 := Lib.hid hs2
  clear hjl hs2
  go_wp2
  go_ret2
  exact ⟨by rw [HS2.out]; rfl, F0.out.step FX2.out⟩
theorem checkOk3 (p : Int) (f : Nat) (ip : I64 p) (hp : 0 ≤ p) (hf1 : 1 ≤ f) (hf4 : f < 4) (w : World) (ht : Tab w) :
    Calls Tryz.prog 16 #[ckV p (f : Int) (-1)] w fun e w' => e = .returned (.tuple #[.string (bs (Lib.join [[112, 105, 112, 101], Lib.itoa p, flawWs.getD f []] [32] ++ [10] ++ [99, 111, 100, 101, 115, 32, 102, 105, 110, 101] ++ [10])), .int .i64 0]) ∧ Fr [] w w' := by
  rw [← bs_append, ← bs_append, ← bs_append]
  have d1 : decide (p < -1) = false := decide_eq_false (by omega)
  have d3 : decide ((f : Int) < 0) = false := decide_eq_false (by omega)
  have d4 : decide (4 ≤ (f : Int)) = false := decide_eq_false (by omega)
  have d5 : ((f : Int) == 0) = false := beq_eq_false_iff_ne.2 (by omega)
  have d5' : decide ((f : Int) = 0) = false := decide_eq_false (by omega)
  have d6 : (p == -1) = false := beq_eq_false_iff_ne.2 (by omega)
  have d6' : decide (p = -1) = false := decide_eq_false (by omega)
  have d7 : decide (0 ≤ p) = true := decide_eq_true hp
  have fl0 : (0 : Int) ≤ (f : Int) := by omega
  have fl4 : (f : Int) < 4 := by omega
  have HT := Lib.hid ht
  have F0 := Lib.hid (show Fr [] w ((w.alloc (.cells #[.int .i64 p, .int .i64 (f : Int), .int .i64 (-1)] 24)).alloc (.cells #[.string ⟨#[]⟩, .string ⟨#[109, 97, 100, 101]⟩, .string ⟨#[108, 111, 115, 116]⟩, .string ⟨#[114, 111, 111, 109]⟩] 9)) from ((Fr.refl [] w).alloc _).alloc _)
  have ck : ((w.alloc (.cells #[.int .i64 p, .int .i64 (f : Int), .int .i64 (-1)] 24)).alloc (.cells #[.string ⟨#[]⟩, .string ⟨#[109, 97, 100, 101]⟩, .string ⟨#[108, 111, 115, 116]⟩, .string ⟨#[114, 111, 111, 109]⟩] 9)).heap[w.heap.size]? = some (.cells #[.int .i64 p, .int .i64 (f : Int), .int .i64 (-1)] 24) := by
    have h1 := World.alloc_heap_new w (.cells #[.int .i64 p, .int .i64 (f : Int), .int .i64 (-1)] 24)
    have h2 : Fr [] (w.alloc (.cells #[.int .i64 p, .int .i64 (f : Int), .int .i64 (-1)] 24)) ((w.alloc (.cells #[.int .i64 p, .int .i64 (f : Int), .int .i64 (-1)] 24)).alloc (.cells #[.string ⟨#[]⟩, .string ⟨#[109, 97, 100, 101]⟩, .string ⟨#[108, 111, 115, 116]⟩, .string ⟨#[114, 111, 111, 109]⟩] 9)) := (Fr.refl [] _).alloc _
    rw [h2.block _ (by simp) (by simp)]
    exact h1
  have fk : WordsBlk ((w.alloc (.cells #[.int .i64 p, .int .i64 (f : Int), .int .i64 (-1)] 24)).alloc (.cells #[.string ⟨#[]⟩, .string ⟨#[109, 97, 100, 101]⟩, .string ⟨#[108, 111, 115, 116]⟩, .string ⟨#[114, 111, 111, 109]⟩] 9)) (w.heap.size + 1) flawWs := by
    have h1 := World.alloc_heap_new (w.alloc (.cells #[.int .i64 p, .int .i64 (f : Int), .int .i64 (-1)] 24)) (.cells #[.string ⟨#[]⟩, .string ⟨#[109, 97, 100, 101]⟩, .string ⟨#[108, 111, 115, 116]⟩, .string ⟨#[114, 111, 111, 109]⟩] 9)
    rw [show (w.alloc (.cells #[.int .i64 p, .int .i64 (f : Int), .int .i64 (-1)] 24)).heap.size = w.heap.size + 1 from by simp] at h1
    exact h1
  unfold ckV
  clear ht
  go_enter Tryz.func16, Tryz.ntmps16
  go_wp2_with fail
  obtain ⟨W0, hW0⟩ : ∃ W, ((w.alloc (.cells #[.int .i64 p, .int .i64 (f : Int), .int .i64 (-1)] 24)).alloc (.cells #[.string ⟨#[]⟩, .string ⟨#[109, 97, 100, 101]⟩, .string ⟨#[108, 111, 115, 116]⟩, .string ⟨#[114, 111, 111, 109]⟩] 9)) = W := ⟨_, rfl⟩
  obtain ⟨Bk', hB⟩ : ∃ B, w.heap.size = B := ⟨_, rfl⟩
  simp only [hW0, hB] at F0 ck fk ⊢
  have c0 : W0.cell? ⟨Bk', 0, none⟩ = some (.int .i64 p) := by simp [World.cell?, ck]
  have c1 : W0.cell? ⟨Bk', 1, none⟩ = some (.int .i64 (f : Int)) := by simp [World.cell?, ck]
  have c2 : W0.cell? ⟨Bk', 2, none⟩ = some (.int .i64 (-1)) := by simp [World.cell?, ck]
  have c3 := fk.cell (i := f) (by simpa [flawWs] using hf4)
  clear hW0 hB ck fk
  refine wp_region_held_drew (S := fun w' => w'.cell? ⟨Bk', 0, none⟩ = some (.int .i64 p) ∧ w'.cell? ⟨Bk', 1, none⟩ = some (.int .i64 (f : Int)) ∧ w'.cell? ⟨Bk' + 1, f, none⟩ = some (.string (bs (flawWs.getD f [])))) (by kernel_rfl) (⟨c0, c1, c3⟩) (fun hHeld => ?_)
  refine wpAnyH_take (i := 0) (oi := _) (v := ?_) rfl (by kernel_rfl) (by kernel_rfl) (by kernel_rfl) (fun _ _ _ h => h) (Or.inl ⟨by rfl, ?_⟩) (by assumption) ?_
  rotate_left
  · intro w hSw
    try dsimp only at hSw
    go_simp
    try with_reducible rfl
  try simp only [Act.put, List.getElem_toArray, List.getElem_cons_succ, List.getElem_cons_zero, List.setIfInBounds_toArray, List.set_cons_zero, List.set_cons_succ]
  refine wpAnyH_take (i := 1) (oi := _) (v := ?_) rfl (by kernel_rfl) (by kernel_rfl) (by kernel_rfl) (fun _ _ _ h => h) (Or.inl ⟨by rfl, ?_⟩) (by assumption) ?_
  rotate_left
  · intro w hSw
    try dsimp only at hSw
    go_simp
    try with_reducible rfl
  try simp only [Act.put, List.getElem_toArray, List.getElem_cons_succ, List.getElem_cons_zero, List.setIfInBounds_toArray, List.set_cons_zero, List.set_cons_succ]
  refine wpAnyH_take (i := 3) (oi := _) (v := ?_) rfl (by kernel_rfl) (by kernel_rfl) (by kernel_rfl) (fun _ _ _ h => h) (Or.inl ⟨by rfl, ?_⟩) (by assumption) ?_
  rotate_left
  · intro w hSw
    try dsimp only at hSw
    go_simp
    try with_reducible rfl
  try simp only [Act.put, List.getElem_toArray, List.getElem_cons_succ, List.getElem_cons_zero, List.setIfInBounds_toArray, List.set_cons_zero, List.set_cons_succ]
  refine wpAnyH_take (i := 4) (oi := _) (v := ?_) rfl (by kernel_rfl) (by kernel_rfl) (by kernel_rfl) (fun _ _ _ h => h) (Or.inl ⟨by rfl, ?_⟩) (by assumption) ?_
  rotate_left
  · intro w hSw
    try dsimp only at hSw
    go_simp
    try with_reducible rfl
  try simp only [Act.put, List.getElem_toArray, List.getElem_cons_succ, List.getElem_cons_zero, List.setIfInBounds_toArray, List.set_cons_zero, List.set_cons_succ]
  refine wpAnyH_take (i := 5) (oi := _) (v := ?_) rfl (by kernel_rfl) (by kernel_rfl) (by kernel_rfl) (fun _ _ _ h => h) (Or.inl ⟨by rfl, ?_⟩) (by assumption) ?_
  rotate_left
  · intro w hSw
    try dsimp only at hSw
    go_simp
    try with_reducible rfl
  try simp only [Act.put, List.getElem_toArray, List.getElem_cons_succ, List.getElem_cons_zero, List.setIfInBounds_toArray, List.set_cons_zero, List.set_cons_succ]
  refine wpAnyH_take (i := 6) (oi := _) (v := ?_) rfl (by kernel_rfl) (by kernel_rfl) (by kernel_rfl) (fun _ _ _ h => h) (Or.inl ⟨by rfl, ?_⟩) (by assumption) ?_
  rotate_left
  · intro w hSw
    try dsimp only at hSw
    go_simp
    try with_reducible rfl
  try simp only [Act.put, List.getElem_toArray, List.getElem_cons_succ, List.getElem_cons_zero, List.setIfInBounds_toArray, List.set_cons_zero, List.set_cons_succ]
  refine wpAnyH_take (i := 7) (oi := _) (v := ?_) rfl (by kernel_rfl) (by kernel_rfl) (by kernel_rfl) (fun _ _ _ h => h) (Or.inl ⟨by rfl, ?_⟩) (by assumption) ?_
  rotate_left
  · intro w hSw
    try dsimp only at hSw
    go_simp
    try with_reducible rfl
  try simp only [Act.put, List.getElem_toArray, List.getElem_cons_succ, List.getElem_cons_zero, List.setIfInBounds_toArray, List.set_cons_zero, List.set_cons_succ]
  refine wpAnyH_ready (rs := [2]) (by kernel_rfl) (by simp) ?_
  refine AllReadyH.cons (o := _) rfl (fun K hK => ?_) AllReadyH.nil
  go_simp
  refine (number_any p ip _ (tab_new HT.out (F0.out.step (Fr.refl [] W0).drew))).mono ?_
  rintro r1 w1 ⟨rfl, f1⟩
  replace f1 : Fr [] W0 w1 := ((Fr.refl [] W0).drew).step f1
  refine hK.out _ _ (⟨f1.keep c0 (by simp), f1.keep c1 (by simp), f1.keep c3 (by simp)⟩) (fun hHeld => ?_)
  clear hK K
  try simp only [Act.put, List.getElem_toArray, List.getElem_cons_succ, List.getElem_cons_zero, List.setIfInBounds_toArray, List.set_cons_zero, List.set_cons_succ]
  refine wpAnyH_ready (rs := [8]) (by kernel_rfl) (by simp) ?_
  refine AllReadyH.cons (o := _) rfl (fun K hK => ?_) AllReadyH.nil
  go_simp
  have f2 : Fr [] W0 (w1.alloc (.cells #[.string ⟨#[112, 105, 112, 101]⟩, .string (bs (Lib.itoa p)), .string (bs (flawWs.getD f []))] 9)) := f1.alloc _
  refine hK.out _ _ (⟨f2.keep c0 (by simp), f2.keep c1 (by simp), f2.keep c3 (by simp)⟩) (fun hHeld => ?_)
  clear hK K
  try simp only [Act.put, List.getElem_toArray, List.getElem_cons_succ, List.getElem_cons_zero, List.setIfInBounds_toArray, List.set_cons_zero, List.set_cons_succ]
  refine wpAnyH_ready (rs := [9]) (by kernel_rfl) (by simp) ?_
  refine AllReadyH.cons (o := _) rfl (fun K hK => ?_) AllReadyH.nil
  go_simp
  have hlp := Lib.itoa_length_le p ip.1 ip.2
  have hlf := flaw_len f hf4
  have hjp : (Lib.join [[112, 105, 112, 101], Lib.itoa p, flawWs.getD f []] [32]).length ≤ 40 := by rw [Lib.join_length]; simp only [Lib.lens, List.map_cons, List.map_nil, List.sum_cons, List.sum_nil, List.length_cons, List.length_nil]; omega
  have hq := words_any w1.heap.size 0 3 [[112, 105, 112, 101], Lib.itoa p, flawWs.getD f []] (w1.alloc (.cells #[.string ⟨#[112, 105, 112, 101]⟩, .string (bs (Lib.itoa p)), .string (bs (flawWs.getD f []))] 9)) (fun j y hj => by match j with | 0 => cases hj; simp; rfl | 1 => cases hj; simp | 2 => cases hj; simp | j + 3 => simp at hj) (by simp) (by simp) (by simp) (by omega)
  refine hq.mono ?_
  clear hq hlp hlf
  rintro r3 w3 ⟨rfl, f3⟩
  replace f3 : Fr [] W0 w3 := f2.step f3
  have hzp : (bs (Lib.join [[112, 105, 112, 101], Lib.itoa p, flawWs.getD f []] [32])).size ≤ 40 := by rw [bs_size]; exact hjp
  obtain ⟨s1, hs1⟩ : ∃ s, Lib.join [[112, 105, 112, 101], Lib.itoa p, flawWs.getD f []] [32] = s := ⟨_, rfl⟩
  rw [hs1] at hzp
  simp only [hs1]
  have HS1 := Lib.hid hs1
  clear hs1 hjp
  refine hK.out _ _ (⟨f3.keep c0 (by simp), f3.keep c1 (by simp), f3.keep c3 (by simp)⟩) (fun hHeld => ?_)
  clear hK K
  try simp only [Act.put, List.getElem_toArray, List.getElem_cons_succ, List.getElem_cons_zero, List.setIfInBounds_toArray, List.set_cons_zero, List.set_cons_succ]
  refine wpAnyH_ready (rs := [10]) (by kernel_rfl) (by simp) ?_
  refine AllReadyH.cons (o := _) rfl (fun K hK => ?_) AllReadyH.nil
  go_simp
  refine hK.out _ _ (⟨f3.keep c0 (by simp), f3.keep c1 (by simp), f3.keep c3 (by simp)⟩) (fun hHeld => ?_)
  clear hK K
  try simp only [Act.put, List.getElem_toArray, List.getElem_cons_succ, List.getElem_cons_zero, List.setIfInBounds_toArray, List.set_cons_zero, List.set_cons_succ]
  refine wpAnyH_done (by kernel_rfl) ?_ _
  have b2 := f3.keep c2 (by simp)
  clear hHeld c0 c1 c2 c3
  go_wp2
  go_ret2
  exact ⟨by rw [HS1.out]; rfl, F0.out.step f3⟩
theorem checkOk4 (p : Int) (f : Nat) (ip : I64 p) (hp : 0 ≤ p) (hf1 : 1 ≤ f) (hf4 : f < 4) (b : Int) (ib : I64 b) (hb : 0 ≤ b) (w : World) (ht : Tab w) :
    Calls Tryz.prog 16 #[ckV p (f : Int) b] w fun e w' => e = .returned (.tuple #[.string (bs (Lib.join [[112, 105, 112, 101], Lib.itoa p, flawWs.getD f []] [32] ++ [10] ++ Lib.join [[99, 111, 100, 101], Lib.itoa b] [32] ++ [10])), .int .i64 0]) ∧ Fr [] w w' := by
  rw [← bs_append, ← bs_append, ← bs_append]
  have d1 : decide (p < -1) = false := decide_eq_false (by omega)
  have d3 : decide ((f : Int) < 0) = false := decide_eq_false (by omega)
  have d4 : decide (4 ≤ (f : Int)) = false := decide_eq_false (by omega)
  have d5 : ((f : Int) == 0) = false := beq_eq_false_iff_ne.2 (by omega)
  have d5' : decide ((f : Int) = 0) = false := decide_eq_false (by omega)
  have d6 : (p == -1) = false := beq_eq_false_iff_ne.2 (by omega)
  have d6' : decide (p = -1) = false := decide_eq_false (by omega)
  have d7 : decide (0 ≤ p) = true := decide_eq_true hp
  have fl0 : (0 : Int) ≤ (f : Int) := by omega
  have fl4 : (f : Int) < 4 := by omega
  have e1 : decide (b < -1) = false := decide_eq_false (by omega)
  have e2 : decide (0 ≤ b) = true := decide_eq_true hb
  have HT := Lib.hid ht
  have F0 := Lib.hid (show Fr [] w ((w.alloc (.cells #[.int .i64 p, .int .i64 (f : Int), .int .i64 b] 24)).alloc (.cells #[.string ⟨#[]⟩, .string ⟨#[109, 97, 100, 101]⟩, .string ⟨#[108, 111, 115, 116]⟩, .string ⟨#[114, 111, 111, 109]⟩] 9)) from ((Fr.refl [] w).alloc _).alloc _)
  have ck : ((w.alloc (.cells #[.int .i64 p, .int .i64 (f : Int), .int .i64 b] 24)).alloc (.cells #[.string ⟨#[]⟩, .string ⟨#[109, 97, 100, 101]⟩, .string ⟨#[108, 111, 115, 116]⟩, .string ⟨#[114, 111, 111, 109]⟩] 9)).heap[w.heap.size]? = some (.cells #[.int .i64 p, .int .i64 (f : Int), .int .i64 b] 24) := by
    have h1 := World.alloc_heap_new w (.cells #[.int .i64 p, .int .i64 (f : Int), .int .i64 b] 24)
    have h2 : Fr [] (w.alloc (.cells #[.int .i64 p, .int .i64 (f : Int), .int .i64 b] 24)) ((w.alloc (.cells #[.int .i64 p, .int .i64 (f : Int), .int .i64 b] 24)).alloc (.cells #[.string ⟨#[]⟩, .string ⟨#[109, 97, 100, 101]⟩, .string ⟨#[108, 111, 115, 116]⟩, .string ⟨#[114, 111, 111, 109]⟩] 9)) := (Fr.refl [] _).alloc _
    rw [h2.block _ (by simp) (by simp)]
    exact h1
  have fk : WordsBlk ((w.alloc (.cells #[.int .i64 p, .int .i64 (f : Int), .int .i64 b] 24)).alloc (.cells #[.string ⟨#[]⟩, .string ⟨#[109, 97, 100, 101]⟩, .string ⟨#[108, 111, 115, 116]⟩, .string ⟨#[114, 111, 111, 109]⟩] 9)) (w.heap.size + 1) flawWs := by
    have h1 := World.alloc_heap_new (w.alloc (.cells #[.int .i64 p, .int .i64 (f : Int), .int .i64 b] 24)) (.cells #[.string ⟨#[]⟩, .string ⟨#[109, 97, 100, 101]⟩, .string ⟨#[108, 111, 115, 116]⟩, .string ⟨#[114, 111, 111, 109]⟩] 9)
    rw [show (w.alloc (.cells #[.int .i64 p, .int .i64 (f : Int), .int .i64 b] 24)).heap.size = w.heap.size + 1 from by simp] at h1
    exact h1
  unfold ckV
  clear ht
  go_enter Tryz.func16, Tryz.ntmps16
  go_wp2_with fail
  obtain ⟨W0, hW0⟩ : ∃ W, ((w.alloc (.cells #[.int .i64 p, .int .i64 (f : Int), .int .i64 b] 24)).alloc (.cells #[.string ⟨#[]⟩, .string ⟨#[109, 97, 100, 101]⟩, .string ⟨#[108, 111, 115, 116]⟩, .string ⟨#[114, 111, 111, 109]⟩] 9)) = W := ⟨_, rfl⟩
  obtain ⟨Bk', hB⟩ : ∃ B, w.heap.size = B := ⟨_, rfl⟩
  simp only [hW0, hB] at F0 ck fk ⊢
  have c0 : W0.cell? ⟨Bk', 0, none⟩ = some (.int .i64 p) := by simp [World.cell?, ck]
  have c1 : W0.cell? ⟨Bk', 1, none⟩ = some (.int .i64 (f : Int)) := by simp [World.cell?, ck]
  have c2 : W0.cell? ⟨Bk', 2, none⟩ = some (.int .i64 b) := by simp [World.cell?, ck]
  have c3 := fk.cell (i := f) (by simpa [flawWs] using hf4)
  clear hW0 hB ck fk
  refine wp_region_held_drew (S := fun w' => w'.cell? ⟨Bk', 0, none⟩ = some (.int .i64 p) ∧ w'.cell? ⟨Bk', 1, none⟩ = some (.int .i64 (f : Int)) ∧ w'.cell? ⟨Bk' + 1, f, none⟩ = some (.string (bs (flawWs.getD f [])))) (by kernel_rfl) (⟨c0, c1, c3⟩) (fun hHeld => ?_)
  refine wpAnyH_take (i := 0) (oi := _) (v := ?_) rfl (by kernel_rfl) (by kernel_rfl) (by kernel_rfl) (fun _ _ _ h => h) (Or.inl ⟨by rfl, ?_⟩) (by assumption) ?_
  rotate_left
  · intro w hSw
    try dsimp only at hSw
    go_simp
    try with_reducible rfl
  try simp only [Act.put, List.getElem_toArray, List.getElem_cons_succ, List.getElem_cons_zero, List.setIfInBounds_toArray, List.set_cons_zero, List.set_cons_succ]
  refine wpAnyH_take (i := 1) (oi := _) (v := ?_) rfl (by kernel_rfl) (by kernel_rfl) (by kernel_rfl) (fun _ _ _ h => h) (Or.inl ⟨by rfl, ?_⟩) (by assumption) ?_
  rotate_left
  · intro w hSw
    try dsimp only at hSw
    go_simp
    try with_reducible rfl
  try simp only [Act.put, List.getElem_toArray, List.getElem_cons_succ, List.getElem_cons_zero, List.setIfInBounds_toArray, List.set_cons_zero, List.set_cons_succ]
  refine wpAnyH_take (i := 3) (oi := _) (v := ?_) rfl (by kernel_rfl) (by kernel_rfl) (by kernel_rfl) (fun _ _ _ h => h) (Or.inl ⟨by rfl, ?_⟩) (by assumption) ?_
  rotate_left
  · intro w hSw
    try dsimp only at hSw
    go_simp
    try with_reducible rfl
  try simp only [Act.put, List.getElem_toArray, List.getElem_cons_succ, List.getElem_cons_zero, List.setIfInBounds_toArray, List.set_cons_zero, List.set_cons_succ]
  refine wpAnyH_take (i := 4) (oi := _) (v := ?_) rfl (by kernel_rfl) (by kernel_rfl) (by kernel_rfl) (fun _ _ _ h => h) (Or.inl ⟨by rfl, ?_⟩) (by assumption) ?_
  rotate_left
  · intro w hSw
    try dsimp only at hSw
    go_simp
    try with_reducible rfl
  try simp only [Act.put, List.getElem_toArray, List.getElem_cons_succ, List.getElem_cons_zero, List.setIfInBounds_toArray, List.set_cons_zero, List.set_cons_succ]
  refine wpAnyH_take (i := 5) (oi := _) (v := ?_) rfl (by kernel_rfl) (by kernel_rfl) (by kernel_rfl) (fun _ _ _ h => h) (Or.inl ⟨by rfl, ?_⟩) (by assumption) ?_
  rotate_left
  · intro w hSw
    try dsimp only at hSw
    go_simp
    try with_reducible rfl
  try simp only [Act.put, List.getElem_toArray, List.getElem_cons_succ, List.getElem_cons_zero, List.setIfInBounds_toArray, List.set_cons_zero, List.set_cons_succ]
  refine wpAnyH_take (i := 6) (oi := _) (v := ?_) rfl (by kernel_rfl) (by kernel_rfl) (by kernel_rfl) (fun _ _ _ h => h) (Or.inl ⟨by rfl, ?_⟩) (by assumption) ?_
  rotate_left
  · intro w hSw
    try dsimp only at hSw
    go_simp
    try with_reducible rfl
  try simp only [Act.put, List.getElem_toArray, List.getElem_cons_succ, List.getElem_cons_zero, List.setIfInBounds_toArray, List.set_cons_zero, List.set_cons_succ]
  refine wpAnyH_take (i := 7) (oi := _) (v := ?_) rfl (by kernel_rfl) (by kernel_rfl) (by kernel_rfl) (fun _ _ _ h => h) (Or.inl ⟨by rfl, ?_⟩) (by assumption) ?_
  rotate_left
  · intro w hSw
    try dsimp only at hSw
    go_simp
    try with_reducible rfl
  try simp only [Act.put, List.getElem_toArray, List.getElem_cons_succ, List.getElem_cons_zero, List.setIfInBounds_toArray, List.set_cons_zero, List.set_cons_succ]
  refine wpAnyH_ready (rs := [2]) (by kernel_rfl) (by simp) ?_
  refine AllReadyH.cons (o := _) rfl (fun K hK => ?_) AllReadyH.nil
  go_simp
  refine (number_any p ip _ (tab_new HT.out (F0.out.step (Fr.refl [] W0).drew))).mono ?_
  rintro r1 w1 ⟨rfl, f1⟩
  replace f1 : Fr [] W0 w1 := ((Fr.refl [] W0).drew).step f1
  refine hK.out _ _ (⟨f1.keep c0 (by simp), f1.keep c1 (by simp), f1.keep c3 (by simp)⟩) (fun hHeld => ?_)
  clear hK K
  try simp only [Act.put, List.getElem_toArray, List.getElem_cons_succ, List.getElem_cons_zero, List.setIfInBounds_toArray, List.set_cons_zero, List.set_cons_succ]
  refine wpAnyH_ready (rs := [8]) (by kernel_rfl) (by simp) ?_
  refine AllReadyH.cons (o := _) rfl (fun K hK => ?_) AllReadyH.nil
  go_simp
  have f2 : Fr [] W0 (w1.alloc (.cells #[.string ⟨#[112, 105, 112, 101]⟩, .string (bs (Lib.itoa p)), .string (bs (flawWs.getD f []))] 9)) := f1.alloc _
  refine hK.out _ _ (⟨f2.keep c0 (by simp), f2.keep c1 (by simp), f2.keep c3 (by simp)⟩) (fun hHeld => ?_)
  clear hK K
  try simp only [Act.put, List.getElem_toArray, List.getElem_cons_succ, List.getElem_cons_zero, List.setIfInBounds_toArray, List.set_cons_zero, List.set_cons_succ]
  refine wpAnyH_ready (rs := [9]) (by kernel_rfl) (by simp) ?_
  refine AllReadyH.cons (o := _) rfl (fun K hK => ?_) AllReadyH.nil
  go_simp
  have hlp := Lib.itoa_length_le p ip.1 ip.2
  have hlf := flaw_len f hf4
  have hjp : (Lib.join [[112, 105, 112, 101], Lib.itoa p, flawWs.getD f []] [32]).length ≤ 40 := by rw [Lib.join_length]; simp only [Lib.lens, List.map_cons, List.map_nil, List.sum_cons, List.sum_nil, List.length_cons, List.length_nil]; omega
  have hq := words_any w1.heap.size 0 3 [[112, 105, 112, 101], Lib.itoa p, flawWs.getD f []] (w1.alloc (.cells #[.string ⟨#[112, 105, 112, 101]⟩, .string (bs (Lib.itoa p)), .string (bs (flawWs.getD f []))] 9)) (fun j y hj => by match j with | 0 => cases hj; simp; rfl | 1 => cases hj; simp | 2 => cases hj; simp | j + 3 => simp at hj) (by simp) (by simp) (by simp) (by omega)
  refine hq.mono ?_
  clear hq hlp hlf
  rintro r3 w3 ⟨rfl, f3⟩
  replace f3 : Fr [] W0 w3 := f2.step f3
  have hzp : (bs (Lib.join [[112, 105, 112, 101], Lib.itoa p, flawWs.getD f []] [32])).size ≤ 40 := by rw [bs_size]; exact hjp
  obtain ⟨s1, hs1⟩ : ∃ s, Lib.join [[112, 105, 112, 101], Lib.itoa p, flawWs.getD f []] [32] = s := ⟨_, rfl⟩
  rw [hs1] at hzp
  simp only [hs1]
  have HS1 := Lib.hid hs1
  clear hs1 hjp
  refine hK.out _ _ (⟨f3.keep c0 (by simp), f3.keep c1 (by simp), f3.keep c3 (by simp)⟩) (fun hHeld => ?_)
  clear hK K
  try simp only [Act.put, List.getElem_toArray, List.getElem_cons_succ, List.getElem_cons_zero, List.setIfInBounds_toArray, List.set_cons_zero, List.set_cons_succ]
  refine wpAnyH_ready (rs := [10]) (by kernel_rfl) (by simp) ?_
  refine AllReadyH.cons (o := _) rfl (fun K hK => ?_) AllReadyH.nil
  go_simp
  refine hK.out _ _ (⟨f3.keep c0 (by simp), f3.keep c1 (by simp), f3.keep c3 (by simp)⟩) (fun hHeld => ?_)
  clear hK K
  try simp only [Act.put, List.getElem_toArray, List.getElem_cons_succ, List.getElem_cons_zero, List.setIfInBounds_toArray, List.set_cons_zero, List.set_cons_succ]
  refine wpAnyH_done (by kernel_rfl) ?_ _
  have b2 := f3.keep c2 (by simp)
  clear hHeld c0 c1 c2 c3
  go_wp2_with fail
  refine (number_any b ib _ (tab_new HT.out (F0.out.step f3))).mono ?_
  rintro e wa ⟨rfl, fa⟩
  go_wp2_with fail
  have hlb := Lib.itoa_length_le b ib.1 ib.2
  have hjl : (Lib.join [[99, 111, 100, 101], Lib.itoa b] [32]).length ≤ 30 := by
    rw [Lib.join_length]
    simp only [Lib.lens, List.map_cons, List.map_nil, List.sum_cons, List.sum_nil, List.length_cons, List.length_nil]
    omega
  have hq := words_any wa.heap.size 0 2 [[99, 111, 100, 101], Lib.itoa b] (wa.alloc (.cells #[.string ⟨#[99, 111, 100, 101]⟩, .string (bs (Lib.itoa b))] 9)) (fun j y hj => by match j with | 0 => cases hj; simp; rfl | 1 => cases hj; simp | j + 2 => simp at hj) (by simp) (by simp) (by simp) (by omega)
  refine hq.mono ?_
  clear hq hlb
  rintro e wb ⟨rfl, fb⟩
  have hzb : (bs (Lib.join [[99, 111, 100, 101], Lib.itoa b] [32])).size ≤ 30 := by rw [bs_size]; exact hjl
  obtain ⟨s2, hs2⟩ : ∃ s, Lib.join [[99, 111, 100, 101], Lib.itoa b] [32] = s := ⟨_, rfl⟩
  rw [hs2] at hzb
  simp only [hs2]
  have FX2 := Lib.hid (f3.step (fa.step (((Fr.refl [] wa).alloc (.cells #[.string ⟨#[99, 111, 100, 101]⟩, .string (bs (Lib.itoa b))] 9)).step fb)))
  have HS2 := Lib.hid hs2
  clear hjl hs2
  go_wp2
  go_ret2
  exact ⟨by rw [HS1.out]; rw [HS2.out]; rfl, F0.out.step FX2.out⟩
end Go.Proofs.YtllmejkcohfbiaaGreatDoor
