/- Report: Explored: the text of all interleavings, or the error. -/
import Derived.Test.YtllmejkcohfbiaaGreatDoorR15
namespace Go.Proofs.YtllmejkcohfbiaaGreatDoor
open Go.RowKit Go.Shelf Go.Sort Go.Lib
set_option linter.unusedVariables false
set_option linter.unusedSimpArgs false
set_option maxRecDepth 100000
set_option maxHeartbeats 8000000

theorem fr_of_eq {w w' : World} (h : w = w') : Fr [] w w' := h ▸ Fr.refl [] w
/-- A row of ends of interleavings in memory. -/
abbrev Sl := Option Addr × Nat × Nat
def OcAt (w : World) (g o : Nat) (x : Oc) : Prop := ∃ (t : Int) (s1 s2 s3 s4 s5 s6 s7 : Sl) (pv : Value) (s8 : Sl), IntRow w pv x.picks ∧
  w.cell? ⟨g, o, none⟩ = some (.int .u64 t) ∧ w.cell? ⟨g, o + 1, none⟩ = some (.slice s1.1 s1.2.1 s1.2.2) ∧ w.cell? ⟨g, o + 2, none⟩ = some (.slice s2.1 s2.2.1 s2.2.2) ∧ w.cell? ⟨g, o + 3, none⟩ = some (.slice s3.1 s3.2.1 s3.2.2) ∧ w.cell? ⟨g, o + 4, none⟩ = some (.slice s4.1 s4.2.1 s4.2.2) ∧ w.cell? ⟨g, o + 5, none⟩ = some (.slice s5.1 s5.2.1 s5.2.2) ∧ w.cell? ⟨g, o + 6, none⟩ = some (.slice s6.1 s6.2.1 s6.2.2) ∧ w.cell? ⟨g, o + 7, none⟩ = some (.slice s7.1 s7.2.1 s7.2.2) ∧
  w.cell? ⟨g, o + 8, none⟩ = some (.int .i64 x.runs) ∧ w.cell? ⟨g, o + 9, none⟩ = some pv ∧ w.cell? ⟨g, o + 10, none⟩ = some (.slice s8.1 s8.2.1 s8.2.2)
theorem OcAt.new {w w' : World} {g o : Nat} {x : Oc} (h : OcAt w g o x) (f : Fr [] w w') : OcAt w' g o x := by
  obtain ⟨t, s1, s2, s3, s4, s5, s6, s7, pv, s8, h0, c0, c1, c2, c3, c4, c5, c6, c7, c8, c9, ca⟩ := h
  exact ⟨t, s1, s2, s3, s4, s5, s6, s7, pv, s8, h0.new f, f.keep c0 (by simp), f.keep c1 (by simp), f.keep c2 (by simp), f.keep c3 (by simp), f.keep c4 (by simp), f.keep c5 (by simp), f.keep c6 (by simp), f.keep c7 (by simp), f.keep c8 (by simp), f.keep c9 (by simp), f.keep ca (by simp)⟩
def OcRow (w : World) (v : Value) (xs : List Oc) : Prop :=
  (xs = [] ∧ ∃ a c, v = .slice a 0 c) ∨ ∃ g off cap, v = .slice (some ⟨g, off, none⟩) xs.length cap ∧ g < w.heap.size ∧ ∀ (i : Nat) x, xs[i]? = some x → OcAt w g (off + i * 11) x
theorem OcRow.new {w w' : World} {v : Value} {xs : List Oc} (h : OcRow w v xs) (f : Fr [] w w') : OcRow w' v xs := by
  rcases h with h | ⟨g, off, cap, rfl, h1, h2⟩
  · exact .inl h
  · exact .inr ⟨g, off, cap, rfl, Nat.lt_of_lt_of_le h1 f.size, fun i x hx => (h2 i x hx).new f⟩
theorem OcRow.val {w : World} {v : Value} {xs : List Oc} (h : OcRow w v xs) : ∃ a c, v = .slice a xs.length c := by
  rcases h with ⟨rfl, a, c, rfl⟩ | ⟨g, off, cap, rfl, h1, h2⟩
  · exact ⟨a, c, rfl⟩
  · exact ⟨_, _, rfl⟩
def exV (x : Ex) (v : Value) : Value := .agg #[.int .i64 x.states, .int .i64 x.runs, .int .i64 x.longest, v]
def Ex.wf (x : Ex) : Prop := (I64 x.states ∧ I64 x.runs ∧ I64 x.longest) ∧ ∀ o ∈ x.ends, I64 o.runs ∧ ∀ p ∈ o.picks, I64 p
/-- The block of the parameter. -/
def ExAt (W : World) (B : Nat) (x : Ex) (v : Value) : Prop := W.heap[B]? = some (.cells #[.int .i64 x.states, .int .i64 x.runs, .int .i64 x.longest, v] 27)
theorem ExAt.c0 {W : World} {b : Nat} {x : Ex} {v : Value} (h : ExAt W b x v) : W.cell? ⟨b, 0, none⟩ = some (.int .i64 x.states) := by simp [World.cell?, show W.heap[b]? = _ from h]
theorem ExAt.c1 {W : World} {b : Nat} {x : Ex} {v : Value} (h : ExAt W b x v) : W.cell? ⟨b, 1, none⟩ = some (.int .i64 x.runs) := by simp [World.cell?, show W.heap[b]? = _ from h]
theorem ExAt.c2 {W : World} {b : Nat} {x : Ex} {v : Value} (h : ExAt W b x v) : W.cell? ⟨b, 2, none⟩ = some (.int .i64 x.longest) := by simp [World.cell?, show W.heap[b]? = _ from h]
theorem ExAt.c3 {W : World} {b : Nat} {x : Ex} {v : Value} (h : ExAt W b x v) : W.cell? ⟨b, 3, none⟩ = some v := by simp [World.cell?, show W.heap[b]? = _ from h]
theorem ExAt.keep {S : List Nat} {W W' : World} {b : Nat} {x : Ex} {v : Value} (h : ExAt W b x v) (f : Fr S W W') (hn : b ∉ S) : ExAt W' b x v := (f.block b (Array.getElem?_eq_some_iff.1 h).1 hn).trans h
theorem ExAt.made (w : World) (x : Ex) (v : Value) : ExAt (w.alloc (.cells #[.int .i64 x.states, .int .i64 x.runs, .int .i64 x.longest, v] 27)) w.heap.size x v := World.alloc_heap_new w _
/-- The three numbers in a new block are a row. -/
theorem row3_new (w : World) (a b c : Int) : IntRow (w.alloc (.cells #[.int .i64 a, .int .i64 b, .int .i64 c] 3)) (.slice (some ⟨w.heap.size, 0, none⟩) 3 3) [a, b, c] :=
  .inr ⟨w.heap.size, 0, 3, rfl, by simp, fun i n hi => by
    match i with
    | 0 => cases hi; simp
    | 1 => cases hi; simp
    | 2 => cases hi; simp
    | i + 3 => simp at hi⟩
theorem exText_bad {x : Ex} (h : exOk x = false) : exText x = ([], 2) := by unfold exText; rw [h]; rfl
theorem explored_bad1 (x : Ex) (v : Value) (w : World) (hb : noneNeg [x.states, x.runs, x.longest] = false) :
    Calls Tryz.prog 18 #[exV x v] w fun e w' => e = .returned (.tuple #[.string ⟨#[]⟩, .int .i64 2]) ∧ Fr [] w w' := by
  have f0 : Fr [] w ((w.alloc (.cells #[.int .i64 x.states, .int .i64 x.runs, .int .i64 x.longest, v] 27)).alloc (.cells #[.int .i64 x.states, .int .i64 x.runs, .int .i64 x.longest] 3)) := ((Fr.refl [] w).alloc _).alloc _
  have hq := containsNegI_any _ [x.states, x.runs, x.longest] (by simp) _ (row3_new (w.alloc (.cells #[.int .i64 x.states, .int .i64 x.runs, .int .i64 x.longest, v] 27)) x.states x.runs x.longest)
  rw [hb, World.size_alloc] at hq
  have HQ := Lib.hid hq
  clear hq hb
  unfold exV
  go_enter Tryz.func18, Tryz.ntmps18
  go_wp2_with fail
  refine HQ.out.mono ?_
  rintro e w1 ⟨rfl, f1⟩
  replace f1 := fr_of_eq f1
  go_wp2
  go_ret2
  exact ⟨rfl, f0.step f1⟩
theorem explored_bad2 (x : Ex) (a : Option Addr) (n c : Nat) (w : World) (hb : noneNeg [x.states, x.runs, x.longest] = true) (hn : 1000 < n) :
    Calls Tryz.prog 18 #[exV x (.slice a n c)] w fun e w' => e = .returned (.tuple #[.string ⟨#[]⟩, .int .i64 2]) ∧ Fr [] w w' := by
  have f0 : Fr [] w ((w.alloc (.cells #[.int .i64 x.states, .int .i64 x.runs, .int .i64 x.longest, .slice a n c] 27)).alloc (.cells #[.int .i64 x.states, .int .i64 x.runs, .int .i64 x.longest] 3)) := ((Fr.refl [] w).alloc _).alloc _
  have X0 := (ExAt.made w x (.slice a n c)).keep (S := []) ((Fr.refl [] _).alloc (.cells #[.int .i64 x.states, .int .i64 x.runs, .int .i64 x.longest] 3)) (by simp)
  have X0' := Lib.hid X0
  have hq := containsNegI_any _ [x.states, x.runs, x.longest] (by simp) _ (row3_new (w.alloc (.cells #[.int .i64 x.states, .int .i64 x.runs, .int .i64 x.longest, .slice a n c] 27)) x.states x.runs x.longest)
  rw [hb, World.size_alloc] at hq
  have HQ := Lib.hid hq
  have hn' : decide ((1000 : Int) < (n : Int)) = true := decide_eq_true (by omega)
  clear hq hb X0 hn
  unfold exV
  go_enter Tryz.func18, Tryz.ntmps18
  go_wp2_with fail
  refine HQ.out.mono ?_
  rintro e w1 ⟨rfl, f1⟩
  replace f1 := fr_of_eq f1
  have x3 := (X0'.out.keep f1 (by simp)).c3
  go_wp2
  go_ret2
  exact ⟨rfl, f0.step f1⟩
/-- The words of an end, so far. -/
def ocPre (o : Oc) (q : Nat) : List (List UInt8) := [[101, 110, 100], Lib.itoa o.runs ++ [44], [112, 105, 99, 107, 115]] ++ (o.picks.take q).map Lib.itoa
theorem ocPre_len (o : Oc) {q : Nat} (h : q ≤ o.picks.length) : (ocPre o q).length = 3 + q := by simp [ocPre]; omega
theorem ocPre_full (o : Oc) : ocPre o o.picks.length = ocWords o := by simp [ocPre, ocWords]
theorem ocPre_succ (o : Oc) {q : Nat} {p : Int} (h : o.picks[q]? = some p) : ocPre o (q + 1) = ocPre o q ++ [Lib.itoa p] := by
  unfold ocPre
  rw [List.take_add_one, h]
  simp
theorem ocW_len {o : Oc} (h : I64 o.runs ∧ ∀ p ∈ o.picks, I64 p) : ∀ y ∈ ocWords o, y.length ≤ 22 := by
  intro y hy
  unfold ocWords at hy
  rcases List.mem_append.1 hy with hy | hy
  · have := Lib.itoa_length_le o.runs h.1.1 h.1.2
    simp only [List.mem_cons, List.not_mem_nil, or_false] at hy
    rcases hy with rfl | rfl | rfl
    · simp
    · simp; omega
    · simp
  · obtain ⟨p, hp, rfl⟩ := List.mem_map.1 hy
    have := Lib.itoa_length_le p (h.2 p hp).1 (h.2 p hp).2
    omega
theorem ocJ_len {o : Oc} (h : I64 o.runs ∧ ∀ p ∈ o.picks, I64 p) (hl : o.picks.length ≤ 1000) : (Lib.join (ocWords o) [32]).length ≤ 23069 := by
  have h1 := join_le 22 (ocWords o) [32] (ocW_len h)
  have h2 : (ocWords o).length = 3 + o.picks.length := by simp [ocWords]; omega
  rw [h2] at h1
  simp only [List.length_cons, List.length_nil] at h1
  omega
theorem ocB_len {o : Oc} (h : I64 o.runs ∧ ∀ p ∈ o.picks, I64 p) (hk : ocOk o = true) : (ocB o).length ≤ 23070 := by
  unfold ocOk at hk
  simp only [Bool.and_eq_true, decide_eq_true_eq] at hk
  unfold ocB
  rw [List.length_append]
  have := ocJ_len h hk.2.1
  simp only [List.length_cons, List.length_nil]
  omega
theorem exHeadJ_len {x : Ex} (h : I64 x.states ∧ I64 x.runs ∧ I64 x.longest) : (Lib.join (exHeadWs x) [32]).length ≤ 200 := by
  have h1 := Lib.itoa_length_le x.states h.1.1 h.1.2
  have h2 := Lib.itoa_length_le x.runs h.2.1.1 h.2.1.2
  have h3 := Lib.itoa_length_le x.longest h.2.2.1 h.2.2.2
  unfold exHeadWs
  rw [Lib.join_length]
  simp only [Lib.lens, List.map_cons, List.map_nil, List.sum_cons, List.sum_nil, List.length_append, List.length_cons, List.length_nil]
  omega
theorem SRow.built (w : World) (lo : Nat) (xs : List (List UInt8)) (cs : Array Value) (hcs : cs = (xs.map fun x => Value.string (bs x)).toArray) (hlo : lo ≤ w.heap.size) (hm : xs.length ≤ 1000) : SRow (w.alloc (.cells cs 9)) lo (.slice (some ⟨w.heap.size, 0, none⟩) xs.length xs.length) xs := by
  subst hcs
  refine ⟨by simp, .inr ⟨w.heap.size, xs.length, _, rfl, hlo, World.alloc_heap_new w _, Nat.le_refl _, by unfold maxLen; omega, by simp, ?_⟩⟩
  rw [Nat.mul_one]
  exact List.take_of_length_le (by simp)
theorem SRow.cells {W : World} {lo : Nat} {v : Value} {xs : List (List UInt8)} (h : SRow W lo v xs) {g n c : Nat} (hv : v = .slice (some ⟨g, 0, none⟩) n c) (j : Nat) (x : List UInt8) (hj : xs[j]? = some x) : W.cell? ⟨g, 0 + j, none⟩ = some (.string (bs x)) := by
  have h0 : W.ownsRow lo 9 1 v xs.length (xs.map fun x => Value.string (bs x)) := h
  have := World.ownsRow.cells h0 (g := g) (by rw [hv]; rfl) j (.string (bs x)) (by rw [List.getElem?_map, hj]; rfl)
  rw [Addr.add_lit] at this
  exact this

set_option maxHeartbeats 16000000 in
theorem explored_walk (x : Ex) (a : Option Addr) (cap : Nat) (w : World) (ht : Tab w) (hwf : x.wf) (h : OcRow w (.slice a x.ends.length cap) x.ends) (hb : noneNeg [x.states, x.runs, x.longest] = true) (hn : x.ends.length ≤ 1000) :
    Calls Tryz.prog 18 #[exV x (.slice a x.ends.length cap)] w fun e w' => e = .returned (.tuple #[.string (bs (exText x).1), .int .i64 (exText x).2]) ∧ Fr [] w w' := by
  obtain ⟨s, r, l, ends⟩ := x
  simp only at hb hn h
  obtain ⟨⟨i1, i2, i3⟩, hends⟩ := hwf
  simp only at i1 i2 i3 hends
  obtain ⟨m, hm⟩ : ∃ m, ends.length = m := ⟨_, rfl⟩
  have HM := Lib.hid hm
  rw [hm] at h hn
  unfold exV
  simp only [hm]
  have f0 : Fr [] w ((w.alloc (.cells #[.int .i64 s, .int .i64 r, .int .i64 l, .slice a m cap] 27)).alloc (.cells #[.int .i64 s, .int .i64 r, .int .i64 l] 3)) := ((Fr.refl [] w).alloc _).alloc _
  have X0 := Lib.hid ((ExAt.made w ⟨s, r, l, ends⟩ (.slice a m cap)).keep (S := []) ((Fr.refl [] _).alloc (.cells #[.int .i64 s, .int .i64 r, .int .i64 l] 3)) (by simp))
  have hq := containsNegI_any _ [s, r, l] (by simp) _ (row3_new (w.alloc (.cells #[.int .i64 s, .int .i64 r, .int .i64 l, .slice a m cap] 27)) s r l)
  rw [hb, World.size_alloc] at hq
  have HQ := Lib.hid hq
  have HNN := Lib.hid hb
  have HT := Lib.hid ht
  have HR := Lib.hid h
  have HE := Lib.hid hends
  have F0 := Lib.hid f0
  have I1 := Lib.hid i1
  have I2 := Lib.hid i2
  have I3 := Lib.hid i3
  have hn' : decide ((1000 : Int) < (m : Int)) = false := decide_eq_false (by omega)
  have HJL := Lib.hid (exHeadJ_len (x := ⟨s, r, l, ends⟩) ⟨i1, i2, i3⟩)
  have hs1 := itoa_size i1
  have hs2 := itoa_size i2
  have hs3 := itoa_size i3
  have HH : exHeadWs ⟨s, r, l, ends⟩ = [[115, 116, 97, 116, 101, 115], Lib.itoa s ++ [44], [114, 117, 110, 115], Lib.itoa r ++ [44], [108, 111, 110, 103, 101, 115, 116], Lib.itoa l] := rfl
  have HHW := Lib.hid HH
  clear hq hb ht h hends i1 i2 i3 f0 HH hm
  go_enter Tryz.func18, Tryz.ntmps18
  go_wp2_with fail
  refine HQ.out.mono ?_
  rintro e w1 ⟨rfl, f1⟩
  replace f1 := fr_of_eq f1
  have F1 := Lib.hid (F0.out.step f1)
  have X1 := Lib.hid (X0.out.keep f1 (by simp))
  have c0 := X1.out.c0
  have c1 := X1.out.c1
  have c2 := X1.out.c2
  have c3 := X1.out.c3
  simp only at c0 c1 c2
  obtain ⟨B, hB⟩ : ∃ B, w.heap.size = B := ⟨_, rfl⟩
  rw [hB] at c0 c1 c2 c3
  rw [hB] at X1
  simp only [hB]
  clear f1 F0 HQ X0 hB
  go_wp2
  refine wp_region_held_drew (S := fun w' => w'.cell? ⟨B, 0, none⟩ = some (.int .i64 s) ∧ w'.cell? ⟨B, 1, none⟩ = some (.int .i64 r) ∧ w'.cell? ⟨B, 2, none⟩ = some (.int .i64 l)) (by kernel_rfl) (⟨c0, c1, c2⟩) (fun hHeld => ?_)
  refine wpAnyH_take (i := 0) (oi := _) (v := ?_) rfl (by kernel_rfl) (by kernel_rfl) (by kernel_rfl) (fun _ _ _ h => h) (Or.inl ⟨by rfl, ?_⟩) (by assumption) ?_
  rotate_left
  · intro w hSw
    try dsimp only at hSw
    go_simp
    try with_reducible rfl
  try simp only [Act.put, List.getElem_toArray, List.getElem_cons_succ, List.getElem_cons_zero, List.setIfInBounds_toArray, List.set_cons_zero, List.set_cons_succ]
  refine wpAnyH_take (i := 1) (oi := _) (v := ?_) rfl (by kernel_rfl) (by kernel_rfl) (by kernel_rfl) (fun _ _ _ h => h) (Or.inl ⟨by rfl, ?_⟩) (by assumption) ?_
  rotate_left
  · intro w hSw
    try dsimp only at hSw
    go_simp
    try with_reducible rfl
  try simp only [Act.put, List.getElem_toArray, List.getElem_cons_succ, List.getElem_cons_zero, List.setIfInBounds_toArray, List.set_cons_zero, List.set_cons_succ]
  refine wpAnyH_take (i := 4) (oi := _) (v := ?_) rfl (by kernel_rfl) (by kernel_rfl) (by kernel_rfl) (fun _ _ _ h => h) (Or.inl ⟨by rfl, ?_⟩) (by assumption) ?_
  rotate_left
  · intro w hSw
    try dsimp only at hSw
    go_simp
    try with_reducible rfl
  try simp only [Act.put, List.getElem_toArray, List.getElem_cons_succ, List.getElem_cons_zero, List.setIfInBounds_toArray, List.set_cons_zero, List.set_cons_succ]
  refine wpAnyH_take (i := 5) (oi := _) (v := ?_) rfl (by kernel_rfl) (by kernel_rfl) (by kernel_rfl) (fun _ _ _ h => h) (Or.inl ⟨by rfl, ?_⟩) (by assumption) ?_
  rotate_left
  · intro w hSw
    try dsimp only at hSw
    go_simp
    try with_reducible rfl
  try simp only [Act.put, List.getElem_toArray, List.getElem_cons_succ, List.getElem_cons_zero, List.setIfInBounds_toArray, List.set_cons_zero, List.set_cons_succ]
  refine wpAnyH_take (i := 8) (oi := _) (v := ?_) rfl (by kernel_rfl) (by kernel_rfl) (by kernel_rfl) (fun _ _ _ h => h) (Or.inl ⟨by rfl, ?_⟩) (by assumption) ?_
  rotate_left
  · intro w hSw
    try dsimp only at hSw
    go_simp
    try with_reducible rfl
  try simp only [Act.put, List.getElem_toArray, List.getElem_cons_succ, List.getElem_cons_zero, List.setIfInBounds_toArray, List.set_cons_zero, List.set_cons_succ]
  refine wpAnyH_take (i := 9) (oi := _) (v := ?_) rfl (by kernel_rfl) (by kernel_rfl) (by kernel_rfl) (fun _ _ _ h => h) (Or.inl ⟨by rfl, ?_⟩) (by assumption) ?_
  rotate_left
  · intro w hSw
    try dsimp only at hSw
    go_simp
    try with_reducible rfl
  try simp only [Act.put, List.getElem_toArray, List.getElem_cons_succ, List.getElem_cons_zero, List.setIfInBounds_toArray, List.set_cons_zero, List.set_cons_succ]
  refine wpAnyH_ready (rs := [2]) (by kernel_rfl) (by simp) ?_
  refine AllReadyH.cons (o := _) rfl (fun K hK => ?_) AllReadyH.nil
  go_simp
  refine (number_any s I1.out _ (tab_new HT.out (F1.out.step (Fr.refl [] w1).drew))).mono ?_
  rintro e w2 ⟨rfl, f2⟩
  replace f2 : Fr [] w1 w2 := ((Fr.refl [] w1).drew).step f2
  refine hK.out _ _ (⟨f2.keep c0 (by simp), f2.keep c1 (by simp), f2.keep c2 (by simp)⟩) (fun hHeld => ?_)
  clear hK K
  try simp only [Act.put, List.getElem_toArray, List.getElem_cons_succ, List.getElem_cons_zero, List.setIfInBounds_toArray, List.set_cons_zero, List.set_cons_succ]
  refine wpAnyH_take (i := 3) (oi := _) (v := ?_) rfl (by kernel_rfl) (by kernel_rfl) (by kernel_rfl) (fun _ _ _ h => h) (Or.inl ⟨by rfl, ?_⟩) (by assumption) ?_
  rotate_left
  · intro w hSw
    try dsimp only at hSw
    go_simp
    rw [if_neg (by omega)]
    try with_reducible rfl
  try simp only [Act.put, List.getElem_toArray, List.getElem_cons_succ, List.getElem_cons_zero, List.setIfInBounds_toArray, List.set_cons_zero, List.set_cons_succ]
  refine wpAnyH_ready (rs := [6]) (by kernel_rfl) (by simp) ?_
  refine AllReadyH.cons (o := _) rfl (fun K hK => ?_) AllReadyH.nil
  go_simp
  refine (number_any r I2.out _ (tab_new HT.out (F1.out.step f2))).mono ?_
  rintro e w3 ⟨rfl, f3⟩
  replace f3 : Fr [] w1 w3 := f2.step f3
  refine hK.out _ _ (⟨f3.keep c0 (by simp), f3.keep c1 (by simp), f3.keep c2 (by simp)⟩) (fun hHeld => ?_)
  clear hK K
  try simp only [Act.put, List.getElem_toArray, List.getElem_cons_succ, List.getElem_cons_zero, List.setIfInBounds_toArray, List.set_cons_zero, List.set_cons_succ]
  refine wpAnyH_take (i := 7) (oi := _) (v := ?_) rfl (by kernel_rfl) (by kernel_rfl) (by kernel_rfl) (fun _ _ _ h => h) (Or.inl ⟨by rfl, ?_⟩) (by assumption) ?_
  rotate_left
  · intro w hSw
    try dsimp only at hSw
    go_simp
    rw [if_neg (by omega)]
    try with_reducible rfl
  try simp only [Act.put, List.getElem_toArray, List.getElem_cons_succ, List.getElem_cons_zero, List.setIfInBounds_toArray, List.set_cons_zero, List.set_cons_succ]
  refine wpAnyH_ready (rs := [10]) (by kernel_rfl) (by simp) ?_
  refine AllReadyH.cons (o := _) rfl (fun K hK => ?_) AllReadyH.nil
  go_simp
  refine (number_any l I3.out _ (tab_new HT.out (F1.out.step f3))).mono ?_
  rintro e w4 ⟨rfl, f4⟩
  replace f4 : Fr [] w1 w4 := f3.step f4
  refine hK.out _ _ (⟨f4.keep c0 (by simp), f4.keep c1 (by simp), f4.keep c2 (by simp)⟩) (fun hHeld => ?_)
  clear hK K
  try simp only [Act.put, List.getElem_toArray, List.getElem_cons_succ, List.getElem_cons_zero, List.setIfInBounds_toArray, List.set_cons_zero, List.set_cons_succ]
  refine wpAnyH_ready (rs := [11]) (by kernel_rfl) (by simp) ?_
  refine AllReadyH.cons (o := _) rfl (fun K hK => ?_) AllReadyH.nil
  go_simp
  have f5 : Fr [] w1 (w4.alloc (.cells #[.string ⟨#[115, 116, 97, 116, 101, 115]⟩, .string (bs (Lib.itoa s) ++ ⟨#[44]⟩), .string ⟨#[114, 117, 110, 115]⟩, .string (bs (Lib.itoa r) ++ ⟨#[44]⟩), .string ⟨#[108, 111, 110, 103, 101, 115, 116]⟩, .string (bs (Lib.itoa l))] 9)) := f4.alloc _
  refine hK.out _ _ (⟨f5.keep c0 (by simp), f5.keep c1 (by simp), f5.keep c2 (by simp)⟩) (fun hHeld => ?_)
  clear hK K
  try simp only [Act.put, List.getElem_toArray, List.getElem_cons_succ, List.getElem_cons_zero, List.setIfInBounds_toArray, List.set_cons_zero, List.set_cons_succ]
  refine wpAnyH_ready (rs := [12]) (by kernel_rfl) (by simp) ?_
  refine AllReadyH.cons (o := _) rfl (fun K hK => ?_) AllReadyH.nil
  go_simp
  have hc6 : ∀ (j : Nat) (y : List UInt8), [[115, 116, 97, 116, 101, 115], Lib.itoa s ++ [44], [114, 117, 110, 115], Lib.itoa r ++ [44], [108, 111, 110, 103, 101, 115, 116], Lib.itoa l][j]? = some y → (w4.alloc (.cells #[.string ⟨#[115, 116, 97, 116, 101, 115]⟩, .string (bs (Lib.itoa s) ++ ⟨#[44]⟩), .string ⟨#[114, 117, 110, 115]⟩, .string (bs (Lib.itoa r) ++ ⟨#[44]⟩), .string ⟨#[108, 111, 110, 103, 101, 115, 116]⟩, .string (bs (Lib.itoa l))] 9)).cell? ⟨w4.heap.size, 0 + j, none⟩ = some (.string (bs y)) := fun j y hj => by match j with | 0 => cases hj; simp; rfl | 1 => cases hj; rw [← bs_append]; simp; rfl | 2 => cases hj; simp; rfl | 3 => cases hj; rw [← bs_append]; simp; rfl | 4 => cases hj; simp; rfl | 5 => cases hj; simp | j + 6 => simp at hj
  have hjl := HJL.out
  rw [HHW.out] at hjl
  have hq := words_any w4.heap.size 0 6 [[115, 116, 97, 116, 101, 115], Lib.itoa s ++ [44], [114, 117, 110, 115], Lib.itoa r ++ [44], [108, 111, 110, 103, 101, 115, 116], Lib.itoa l] (w4.alloc (.cells #[.string ⟨#[115, 116, 97, 116, 101, 115]⟩, .string (bs (Lib.itoa s) ++ ⟨#[44]⟩), .string ⟨#[114, 117, 110, 115]⟩, .string (bs (Lib.itoa r) ++ ⟨#[44]⟩), .string ⟨#[108, 111, 110, 103, 101, 115, 116]⟩, .string (bs (Lib.itoa l))] 9)) hc6 (by simp) (by simp) (by simp) (by omega)
  rw [← HHW.out] at hq
  refine hq.mono ?_
  clear hq hc6 hjl
  rintro e w6 ⟨rfl, f6⟩
  replace f6 : Fr [] w1 w6 := f5.step f6
  have hz6 : (bs (Lib.join (exHeadWs ⟨s, r, l, ends⟩) [32])).size ≤ 200 := by rw [bs_size]; exact HJL.out
  obtain ⟨s6, hs6⟩ : ∃ z, Lib.join (exHeadWs ⟨s, r, l, ends⟩) [32] = z := ⟨_, rfl⟩
  rw [hs6] at hz6
  simp only [hs6]
  have HS6 := Lib.hid hs6
  clear hs6
  refine hK.out _ _ (⟨f6.keep c0 (by simp), f6.keep c1 (by simp), f6.keep c2 (by simp)⟩) (fun hHeld => ?_)
  clear hK K
  try simp only [Act.put, List.getElem_toArray, List.getElem_cons_succ, List.getElem_cons_zero, List.setIfInBounds_toArray, List.set_cons_zero, List.set_cons_succ]
  refine wpAnyH_ready (rs := [13]) (by kernel_rfl) (by simp) ?_
  refine AllReadyH.cons (o := _) rfl (fun K hK => ?_) AllReadyH.nil
  go_simp
  rw [if_neg (by omega)]
  go_simp
  refine hK.out _ _ (⟨f6.keep c0 (by simp), f6.keep c1 (by simp), f6.keep c2 (by simp)⟩) (fun hHeld => ?_)
  clear hK K
  try simp only [Act.put, List.getElem_toArray, List.getElem_cons_succ, List.getElem_cons_zero, List.setIfInBounds_toArray, List.set_cons_zero, List.set_cons_succ]
  refine wpAnyH_ready (rs := [14]) (by kernel_rfl) (by simp) ?_
  refine AllReadyH.cons (o := _) rfl (fun K hK => ?_) AllReadyH.nil
  go_simp
  refine hK.out _ _ (⟨f6.keep c0 (by simp), f6.keep c1 (by simp), f6.keep c2 (by simp)⟩) (fun hHeld => ?_)
  clear hK K
  try simp only [Act.put, List.getElem_toArray, List.getElem_cons_succ, List.getElem_cons_zero, List.setIfInBounds_toArray, List.set_cons_zero, List.set_cons_succ]
  refine wpAnyH_done (by kernel_rfl) ?_ _
  have F6 := Lib.hid (F1.out.step f6)
  have X6 := Lib.hid (X1.out.keep f6 (by simp))
  have x3 := X6.out.c3
  have hhead : bs s6 ++ ⟨#[10]⟩ = bs (exHead ⟨s, r, l, ends⟩) := by
    unfold exHead
    rw [HS6.out, ← bs_append]
    rfl
  rw [hhead]
  have HZ : (exHead ⟨s, r, l, ends⟩).length ≤ 201 := by
    have := HJL.out
    unfold exHead
    rw [List.length_append]
    simp only [List.length_cons, List.length_nil]
    omega
  obtain ⟨hd, hhd⟩ : ∃ z, exHead ⟨s, r, l, ends⟩ = z := ⟨_, rfl⟩
  rw [hhd] at HZ
  simp only [hhd]
  have HHD := Lib.hid hhd
  have HHL := Lib.hid HZ
  clear f6 c0 c1 c2 c3 hhead hhd HZ hz6 hHeld hs1 hs2 hs3
  clear f2 f3 f4 f5
  go_wp2
  go_loopw [5, 43] (fun so i wr => ∃ (wz : World) (q : Nat), wz = wr ∧ i = .int .i64 q ∧ q ≤ m ∧ so = .string (bs (hd ++ textOf ocB (ends.take q))) ∧ (ends.take q).all ocOk = true ∧ Fr [] w wr) (fun _ i _ => m - (intOf i).toNat)
  case atStart => exact ⟨_, 0, rfl, rfl, by omega, by simp [textOf], rfl, F6.out⟩
  case round =>
    obtain ⟨wr, q, hwz, rfl, hq, rfl, hall, hF⟩ := hrel
    subst hwz
    have HALL := Lib.hid hall
    have HF := Lib.hid hF
    have htl : (textOf ocB (ends.take q)).length ≤ 23070000 := by
      have h1 := textOf_max ocB 23070 (ends.take q) (fun o ho => ocB_len (HE.out o (List.mem_of_mem_take ho)) (List.all_eq_true.1 hall o ho))
      rw [List.length_take] at h1
      exact Nat.le_trans h1 (Nat.mul_le_mul_left 23070 (by omega : min q ends.length ≤ 1000))
    have hsz : (bs (hd ++ textOf ocB (ends.take q))).size ≤ 23070201 := by
      rw [bs_size, List.length_append]
      have := HHL.out
      omega
    obtain ⟨so, hso⟩ : ∃ z, bs (hd ++ textOf ocB (ends.take q)) = z := ⟨_, rfl⟩
    rw [hso] at hsz
    simp only [hso]
    have HSO := Lib.hid hso
    clear hall hF htl hso
    by_cases hlt : q < m
    · have hx := List.getElem?_eq_getElem (l := ends) (i := q) (by rw [HM.out]; exact hlt)
      obtain ⟨o, hoe⟩ : ∃ o, ends[q]'(by rw [HM.out]; exact hlt) = o := ⟨_, rfl⟩
      rw [hoe] at hx
      have hor := (HE.out o (List.mem_of_getElem? hx))
      rcases HR.out.new HF.out with ⟨h1, _⟩ | ⟨g, off, cap', hv, hg, hcells⟩
      · rw [h1] at hx
        simp at hx
      rw [HM.out] at hv
      simp only [Value.slice.injEq] at hv
      obtain ⟨rfl, _, rfl⟩ := hv
      obtain ⟨t0, s1, s2, s3, s4, s5, s6, s7, pv, s8, hip, k0, k1, k2, k3, k4, k5, k6, k7, k8, k9, k10⟩ := hcells q o hx
      have HX := Lib.hid hx
      have HO := Lib.hid hor
      have HIP := Lib.hid hip
      obtain ⟨pa, pc, rfl⟩ := hip.val
      obtain ⟨pn, hpn⟩ : ∃ n, o.picks.length = n := ⟨_, rfl⟩
      rw [hpn] at k9 HIP
      have HPN := Lib.hid hpn
      clear hx hor hip hcells hoe hpn
      have hbad : ocOk o = false → exText ⟨s, r, l, ends⟩ = ([], 2) := fun hk => exText_bad (by
        unfold exOk
        simp only
        have : ends.all ocOk = false := by
          rw [List.all_eq_false]
          exact ⟨o, List.mem_of_getElem? HX.out, by rw [hk]; simp⟩
        rw [this]
        simp)
      have HBAD := Lib.hid hbad
      clear hbad
      by_cases h0 : o.runs < 0
      · have d0 := decide_eq_true h0
        have hk := HBAD.out (by unfold ocOk; rw [decide_eq_false (by omega)]; rfl)
        have HK := Lib.hid hk
        clear hk h0
        go_wp2
        go_ret2
        exact ⟨by rw [HK.out]; rfl, HF.out.alloc _⟩
      have d0 := decide_eq_false h0
      by_cases h1 : 1000 < pn
      · have d1 : decide ((1000 : Int) < (pn : Int)) = true := decide_eq_true (by omega)
        have hk := HBAD.out (by unfold ocOk; rw [decide_eq_false (p := o.picks.length ≤ 1000) (by rw [HPN.out]; omega)]; simp)
        have HK := Lib.hid hk
        clear hk h1 h0
        go_wp2
        go_ret2
        exact ⟨by rw [HK.out]; rfl, HF.out.alloc _⟩
      have d1 : decide ((1000 : Int) < (pn : Int)) = false := decide_eq_false (by omega)
      have f7 : Fr [] wr (wr.alloc (.cells #[.int .u64 t0, .slice s1.1 s1.2.1 s1.2.2, .slice s2.1 s2.2.1 s2.2.2, .slice s3.1 s3.2.1 s3.2.2, .slice s4.1 s4.2.1 s4.2.2, .slice s5.1 s5.2.1 s5.2.2, .slice s6.1 s6.2.1 s6.2.2, .slice s7.1 s7.2.1 s7.2.2, .int .i64 o.runs, .slice pa pn pc, .slice s8.1 s8.2.1 s8.2.2] 49)) := (Fr.refl [] wr).alloc _
      have hq7 := containsNegI_any (.slice pa pn pc) o.picks (by rw [HPN.out]; omega) _ (HIP.out.new f7)
      have F7 := Lib.hid f7
      have O7 : (wr.alloc (.cells #[.int .u64 t0, .slice s1.1 s1.2.1 s1.2.2, .slice s2.1 s2.2.1 s2.2.2, .slice s3.1 s3.2.1 s3.2.2, .slice s4.1 s4.2.1 s4.2.2, .slice s5.1 s5.2.1 s5.2.2, .slice s6.1 s6.2.1 s6.2.2, .slice s7.1 s7.2.1 s7.2.2, .int .i64 o.runs, .slice pa pn pc, .slice s8.1 s8.2.1 s8.2.2] 49)).heap[wr.heap.size]? = some (.cells #[.int .u64 t0, .slice s1.1 s1.2.1 s1.2.2, .slice s2.1 s2.2.1 s2.2.2, .slice s3.1 s3.2.1 s3.2.2, .slice s4.1 s4.2.1 s4.2.2, .slice s5.1 s5.2.1 s5.2.2, .slice s6.1 s6.2.1 s6.2.2, .slice s7.1 s7.2.1 s7.2.2, .int .i64 o.runs, .slice pa pn pc, .slice s8.1 s8.2.1 s8.2.2] 49) := World.alloc_heap_new wr _
      have HO7 := Lib.hid O7
      by_cases h2 : noneNeg o.picks = false
      · rw [h2] at hq7
        have HQ7 := Lib.hid hq7
        have hk := HBAD.out (by unfold ocOk; rw [h2]; simp)
        have HK := Lib.hid hk
        clear hk h1 h0 hq7 f7 O7 h2
        go_wp2_with fail
        refine HQ7.out.mono ?_
        rintro e w8 ⟨rfl, f8⟩
        replace f8 := fr_of_eq f8
        go_wp2
        go_ret2
        exact ⟨by rw [HK.out]; rfl, HF.out.step (F7.out.step f8)⟩
      have h2' : noneNeg o.picks = true := by
        cases hc : noneNeg o.picks with
        | true => rfl
        | false => exact absurd hc h2
      rw [h2'] at hq7
      have HQ7 := Lib.hid hq7
      have hok : ocOk o = true := by
        unfold ocOk
        rw [h2', decide_eq_true (p := 0 ≤ o.runs) (by omega), decide_eq_true (p := o.picks.length ≤ 1000) (by rw [HPN.out]; omega)]
        rfl
      have HOK := Lib.hid hok
      have hpn1 : pn ≤ 1000 := by omega
      clear h2 h2' hok h1 h0 hq7 f7 O7
      go_wp2_with fail
      refine HQ7.out.mono ?_
      rintro e w8 ⟨rfl, f8⟩
      replace f8 := fr_of_eq f8
      have F8 := Lib.hid (F7.out.step f8)
      have hO8 := (f8.block wr.heap.size (Array.getElem?_eq_some_iff.1 HO7.out).1 (by simp)).trans HO7.out
      have HO8 := Lib.hid hO8
      have z8 : w8.cell? ⟨wr.heap.size, 8, none⟩ = some (.int .i64 o.runs) := by simp [World.cell?, hO8]
      have z9 : w8.cell? ⟨wr.heap.size, 9, none⟩ = some (.slice pa pn pc) := by simp [World.cell?, hO8]
      obtain ⟨V, hV⟩ : ∃ V, wr.heap.size = V := ⟨_, rfl⟩
      rw [hV] at z8 z9 HO8
      simp only [hV]
      have hV8 : V < w8.heap.size := (Array.getElem?_eq_some_iff.1 HO8.out).1
      clear f8 hO8 HQ7 HO7 k0 k1 k2 k3 k4 k5 k6 k7 k8 k9 k10 hV
      go_wp2_with fail
      refine (number_any o.runs HO.out.1 _ (tab_new HT.out (HF.out.step F8.out))).mono ?_
      rintro e w9 ⟨rfl, f9⟩
      have y9 := f9.keep z9 (by simp)
      have F9 := Lib.hid (F8.out.step f9)
      have hszr := itoa_size HO.out.1
      have hV9 : V < w9.heap.size := Nat.lt_of_lt_of_le hV8 f9.size
      clear f9 z8 z9
      go_wp2
      have SR := SRow.built w9 w9.heap.size (ocPre o 0) #[.string ⟨#[101, 110, 100]⟩, .string (bs (Lib.itoa o.runs) ++ ⟨#[44]⟩), .string ⟨#[112, 105, 99, 107, 115]⟩] (by unfold ocPre; simp only [List.take_zero, List.map_nil, List.append_nil, List.map_cons]; rw [← bs_append]; rfl) (Nat.le_refl _) (by rw [ocPre_len o (Nat.zero_le _)]; omega)
      rw [ocPre_len o (Nat.zero_le _)] at SR
      have fa : Fr [] w9 (w9.alloc (.cells #[.string ⟨#[101, 110, 100]⟩, .string (bs (Lib.itoa o.runs) ++ ⟨#[44]⟩), .string ⟨#[112, 105, 99, 107, 115]⟩] 9)) := (Fr.refl [] w9).alloc _
      have ya := fa.keep y9 (by simp)
      have SR0 := Lib.hid SR
      have FA := Lib.hid fa
      have H9 := Lib.hid y9
      have HA := Lib.hid ya
      clear SR fa y9
      go_loopw [8, 70] (fun lv i wr2 => ∃ (wz : World) (k : Nat) (aw : Option Addr) (cw : Nat), wz = wr2 ∧ i = .int .i64 k ∧ k ≤ pn ∧ lv = .slice aw (3 + k) cw ∧ SRow wr2 w9.heap.size (.slice aw (3 + k) cw) (ocPre o k) ∧ Fr [] w9 wr2) (fun _ i _ => pn - (intOf i).toNat)
      case atStart => exact ⟨_, 0, _, _, rfl, rfl, by omega, rfl, SR0.out, FA.out⟩
      case round =>
        obtain ⟨wr2, k, aw, cw, hwz, rfl, hk, rfl, hS, hF2⟩ := hrel
        subst hwz
        by_cases hlt2 : k < pn
        · have hp := List.getElem?_eq_getElem (l := o.picks) (i := k) (by rw [HPN.out]; exact hlt2)
          obtain ⟨p, hpe⟩ : ∃ p, o.picks[k]'(by rw [HPN.out]; exact hlt2) = p := ⟨_, rfl⟩
          rw [hpe] at hp
          rcases HIP.out.new (F9.out.step hF2) with ⟨h1, _⟩ | ⟨g2, off2, cap2, hv2, hg2, hcells2⟩
          · rw [h1] at hp
            simp at hp
          have hc := hcells2 k p hp
          rw [HPN.out] at hv2
          simp only [Value.slice.injEq] at hv2
          obtain ⟨rfl, _, rfl⟩ := hv2
          have hsucc := ocPre_succ o hp
          have hI := HO.out.2 p (List.mem_of_getElem? hp)
          have hlen := ocPre_len o (q := k) (by rw [HPN.out]; omega)
          have HSU := Lib.hid hsucc
          have HLE := Lib.hid hlen
          have HS := Lib.hid hS
          have HF2 := Lib.hid hF2
          have HI := Lib.hid hI
          clear hp hpe hcells2 hsucc hlen hS hF2 hI
          go_wp2_with fail
          refine (number_any p HI.out _ (tab_new HT.out (HF.out.step (F9.out.step HF2.out)))).mono ?_
          rintro e w10 ⟨rfl, f10⟩
          have S10 := Lib.hid (show w10.ownsRow w9.heap.size 9 1 (.slice aw (3 + k) cw) (3 + k) ((ocPre o k).map fun y => Value.string (bs y)) from by have h := HS.out.new f10; unfold SRow at h; rw [HLE.out] at h; exact h)
          have F10 := Lib.hid (HF2.out.step f10)
          have hsz2 := F10.out.size
          clear f10
          obtain ⟨i0, hi, hz0, hz1, hz2⟩ := info_parts infoStr
          go_wp2_with (at_builtin; refine wpList_append_own _ rfl _ _ 34 rfl w9.heap.size 9 i0 _ 1 16 Tryz.underlying34 hi hz0 hz1 hz2 rfl (by omega) _ _ _ rfl (S10.out.alloc _) ⟨w10.heap.size, 0, none⟩ 1 1 [.string (bs (Lib.itoa p))] rfl rfl ?qc1 ?qc2 ?qc3 ?qc4 ?qc5 ?_)
          case qc1 =>
            intro j u hj
            match j with
            | 0 => cases hj; simp [Addr.add]
            | j + 1 => simp at hj
          case qc2 =>
            intro u hu
            rw [List.mem_singleton] at hu
            subst hu
            rfl
          case qc3 => unfold maxLen; omega
          case qc4 => omega
          case qc5 => simp; omega
          intro v' w11 hown' hgrow hnil
          have hn' : ∃ a' c', v' = .slice a' (3 + (k + 1)) c' := by
            rcases hown'.2 with ⟨_, h0⟩ | ⟨g', cap'', cur, h0, _⟩
            · omega
            · exact ⟨_, _, h0⟩
          obtain ⟨a', c', rfl⟩ := hn'
          have S11 := Lib.hid (show SRow w11 w9.heap.size (.slice a' (3 + (k + 1)) c') (ocPre o (k + 1)) from by
            unfold SRow
            rw [HSU.out, List.map_append, List.length_append, HLE.out]
            exact hown')
          have F11 := Lib.hid (show Fr [] w9 w11 from (F10.out.alloc _).trans (grownFr (S := (Value.slice aw (3 + k) cw).ownBlock.toList) hgrow (fun b e => by simp [e])) (fun b hb hl => by
            rw [Option.mem_toList] at hb
            have := (S10.out.lt b hb).1
            omega))
          clear hown' hgrow hnil
          go_wp2
          go_roundw
          case rel => exact ⟨_, k + 1, _, _, rfl, by go_num, by omega, rfl, S11.out, F11.out⟩
          case measure => simp [intOf]; omega
        · have hkp : k = pn := by omega
          subst hkp
          have hfull : ocPre o k = ocWords o := by have h := ocPre_full o; rw [HPN.out] at h; exact h
          rw [hfull] at hS
          have hwl : (ocWords o).length = 3 + k := by rw [← hfull]; exact ocPre_len o (by rw [HPN.out]; omega)
          obtain ⟨gl, cl, hv, hcl, hgl1, hgl2, hcl2⟩ := hS.at (by rw [hwl]; omega)
          rw [hwl] at hv hcl
          simp only [Value.slice.injEq] at hv
          obtain ⟨rfl, _, rfl⟩ := hv
          have hjl := ocJ_len HO.out (by rw [HPN.out]; exact hpn1)
          have hq2 := words_any gl 0 cw (ocWords o) wr2 hcl2 hgl2 (by rw [hwl]; exact hcl) (by rw [hwl]; omega) (by omega)
          rw [hwl] at hq2
          have HQ2 := Lib.hid hq2
          have hoc : bs (ocB o) = bs (Lib.join (ocWords o) [32]) ++ ⟨#[10]⟩ := by unfold ocB; rw [← bs_append]; rfl
          have htk : textOf ocB (ends.take (q + 1)) = textOf ocB (ends.take q) ++ ocB o := by
            rw [List.take_add_one, HX.out, textOf_app]
            simp [textOf]
          have hall2 : (ends.take (q + 1)).all ocOk = true := by
            rw [List.take_add_one, HX.out, List.all_append, HALL.out]
            simp [HOK.out]
          have hzj : (bs (Lib.join (ocWords o) [32])).size ≤ 23069 := by rw [bs_size]; exact hjl
          obtain ⟨js, hjs⟩ : ∃ z, bs (Lib.join (ocWords o) [32]) = z := ⟨_, rfl⟩
          rw [hjs] at hzj hoc HQ2
          have HOC := Lib.hid hoc
          have HTK := Lib.hid htk
          have HAL2 := Lib.hid hall2
          have HF2 := Lib.hid hF2
          have hzz : js.size + (⟨#[10]⟩ : ByteArray).size ≤ 23070 := by show js.size + 1 ≤ _; omega
          have hzc : (js ++ (⟨#[10]⟩ : ByteArray)).size = js.size + 1 := by rw [ByteArray.size_append]; rfl
          clear hq2 hoc htk hall2 hjl hcl2 hS hfull hwl hF2 hjs
          go_wp2_with fail
          refine HQ2.out.mono ?_
          rintro e w12 ⟨rfl, f12⟩
          have F12 := Lib.hid (HF.out.step (F9.out.step (HF2.out.step f12)))
          clear f12 HQ2
          go_wp2
          go_roundw
          case rel => exact ⟨_, q + 1, rfl, by go_num, by omega, by rw [HTK.out, ← List.append_assoc, ← bs_append, HSO.out, HOC.out], HAL2.out, F12.out⟩
          case measure => simp [intOf]; omega
    · have hqm : q = m := by omega
      subst hqm
      have htt : ends.take q = ends := List.take_of_length_le (by rw [HM.out]; omega)
      have hres : exText ⟨s, r, l, ends⟩ = (hd ++ textOf ocB (ends.take q), 0) := by
        unfold exText
        have hok : exOk ⟨s, r, l, ends⟩ = true := by
          unfold exOk
          simp only
          have hal := HALL.out
          rw [htt] at hal
          rw [HNN.out, hal, decide_eq_true (p := ends.length ≤ 1000) (by rw [HM.out]; omega)]
          rfl
        rw [hok, if_pos rfl, HHD.out, htt]
        rfl
      have HRES := Lib.hid hres
      clear htt hres
      go_wp2
      go_ret2
      exact ⟨by rw [HRES.out, ← HSO.out]; rfl, HF.out⟩
theorem Explored_any (x : Ex) (v : Value) (w : World) (ht : Tab w) (hwf : x.wf) (h : OcRow w v x.ends) :
    Calls Tryz.prog 18 #[exV x v] w fun e w' => e = .returned (.tuple #[.string (bs (exText x).1), .int .i64 (exText x).2]) ∧ Fr [] w w' := by
  by_cases h1 : noneNeg [x.states, x.runs, x.longest] = false
  · rw [exText_bad (by unfold exOk; rw [h1]; rfl)]
    exact explored_bad1 x v w h1
  have h1' : noneNeg [x.states, x.runs, x.longest] = true := by
    cases hc : noneNeg [x.states, x.runs, x.longest] with
    | true => rfl
    | false => exact absurd hc h1
  obtain ⟨a, cap, rfl⟩ := h.val
  by_cases h2 : 1000 < x.ends.length
  · rw [exText_bad (by unfold exOk; rw [decide_eq_false (p := x.ends.length ≤ 1000) (by omega)]; simp)]
    exact explored_bad2 x a x.ends.length cap w h1' h2
  exact explored_walk x a cap w ht hwf h h1' (by omega)
end Go.Proofs.YtllmejkcohfbiaaGreatDoor
