/- Report: the line of what a task has done. -/
import Derived.Test.YtllmejkcohfbiaaGreatDoorR2
import Derived.Deep.AppendLies
namespace Go.Proofs.YtllmejkcohfbiaaGreatDoor
open Go.RowKit Go.Shelf Go.Sort Go.Lib
set_option linter.unusedVariables false
set_option linter.unusedSimpArgs false
set_option maxRecDepth 100000
set_option maxHeartbeats 8000000

theorem fr_up {S : List Nat} {w W : World} (h : Fr [] w W) : Fr S w W := h.mono (fun _ hx => by cases hx)
theorem grownFr {w w' : World} {row : Option Nat} {S : List Nat} (h : w.grownBy w' row) (hs : ∀ k, row = some k → k ∈ S) : Fr S w w' :=
  ⟨h.os, h.tape, h.output, h.size, fun k hk hn => h.block k hk (fun he => hn (hs k he.symm))⟩
theorem wpAnyH_more {P : Program} {ops : Array Oper} {Q : Exit → Act → World → Prop} {md : Region.Mode} {S S' : World → Prop} (h : ∀ w, S' w → S w) : ∀ {fuel : Nat} {listed : Array Bool} {a : Act} {w : World}, wpAnyH P md ops Q S' fuel listed a w → wpAnyH P md ops Q S fuel listed a w
  | 0, _, _, _, hh => hh
  | fuel + 1, _, _, _, hh => ⟨hh.1, fun i hi => wpOp_mono (fun a' w' h' => ⟨h _ h'.1, wpAnyH_more h h'.2⟩) (hh.2 i hi)⟩
theorem infoStr : (Tryz.prog.info? 9).map (fun i => (i.zero, i.size, i.bytes)) = some (some (.string ⟨#[]⟩), 1, 16) := by kernel_rfl
theorem row_fr {n k : Nat} {W W' : World} {v : Value} {xs : List Value} {E : TypeId} {sz : Nat} (hs : W.ownsRow n E sz v k xs) (h : Fr [] W W') : W'.ownsRow n E sz v k xs := by
  refine hs.kept (row := none) ⟨h.os, h.tape, h.output, h.size, fun k hk _ => h.block k hk (by simp)⟩ ?_
  rcases hs.2 with ⟨rfl, _⟩ | ⟨g, cap, cur, rfl, _⟩
  · exact .inl rfl
  · exact .inr (by simp [Value.ownBlock])
/-- A row of strings of its own. -/
def SRow (W : World) (lo : Nat) (v : Value) (xs : List (List UInt8)) : Prop := W.ownsRow lo 9 1 v xs.length (xs.map fun x => Value.string (bs x))
theorem SRow.new {W W' : World} {lo : Nat} {v : Value} {xs : List (List UInt8)} (h : SRow W lo v xs) (f : Fr [] W W') : SRow W' lo v xs := row_fr h f
theorem SRow.val {W : World} {lo : Nat} {v : Value} {xs : List (List UInt8)} (h : SRow W lo v xs) : ∃ a c, v = .slice a xs.length c := by
  rcases h.2 with ⟨h1, h2⟩ | ⟨g, cap, cur, h1, _⟩
  · exact ⟨none, 0, by rw [h1, h2]⟩
  · exact ⟨_, _, h1⟩
theorem SRow.at {W : World} {lo : Nat} {v : Value} {xs : List (List UInt8)} (h : SRow W lo v xs) (hne : 0 < xs.length) : ∃ g c, v = .slice (some ⟨g, 0, none⟩) xs.length c ∧ xs.length ≤ c ∧ lo ≤ g ∧ g < W.heap.size ∧ ∀ (j : Nat) x, xs[j]? = some x → W.cell? ⟨g, 0 + j, none⟩ = some (.string (bs x)) := by
  have h0 : W.ownsRow lo 9 1 v xs.length (xs.map fun x => Value.string (bs x)) := h
  rcases h.2 with ⟨h1, h2⟩ | ⟨g, cap, cur, h1, h2, h3, h4, _⟩
  · omega
  · refine ⟨g, cap, h1, h4, h2, (Array.getElem?_eq_some_iff.1 h3).1, fun j x hj => ?_⟩
    have := World.ownsRow.cells h0 (g := g) (by rw [h1]; rfl) j (.string (bs x)) (by rw [List.getElem?_map, hj]; rfl)
    rw [Addr.add_lit] at this
    exact this
theorem lens_le (b : Nat) : ∀ xs : List (List UInt8), (∀ x ∈ xs, x.length ≤ b) → Lib.lens xs ≤ b * xs.length
  | [], _ => by simp [Lib.lens]
  | x :: r, h => by
    have h1 := h x (by simp)
    have h2 := lens_le b r (fun y hy => h y (List.mem_cons_of_mem _ hy))
    simp only [Lib.lens, List.map_cons, List.sum_cons, List.length_cons] at h2 ⊢
    rw [Nat.mul_add, Nat.mul_one]
    omega
theorem join_le (b : Nat) (xs : List (List UInt8)) (sep : List UInt8) (h : ∀ x ∈ xs, x.length ≤ b) : (Lib.join xs sep).length ≤ (sep.length + b) * xs.length := by
  cases xs with
  | nil => simp [Lib.join_nil]
  | cons x r =>
    rw [Lib.join_length]
    have := lens_le b (x :: r) h
    rw [Nat.add_mul]
    have h2 : sep.length * r.length ≤ sep.length * (x :: r).length := Nat.mul_le_mul_left _ (by simp)
    omega
/-- The parts of a task's line. -/
def tkWord (x : Tk) (i : Nat) : List UInt8 := Lib.join [partWs.getD i [], Lib.itoa (x.nums.getD i 0)] [32]
def tkWords (x : Tk) (q : Nat) : List (List UInt8) := (List.range q).map (tkWord x)
def Tk.wf (x : Tk) : Prop := I64 x.t ∧ ∀ n ∈ x.nums, I64 n
theorem Tk.wf.num {x : Tk} (h : x.wf) {i : Nat} (hi : i < 7) : I64 (x.nums.getD i 0) := by
  refine h.2 _ ?_
  rw [List.getD_eq_getElem?_getD, List.getElem?_eq_getElem (by rw [nums_len]; exact hi)]
  exact List.getElem_mem _
theorem partW_len {i : Nat} (hi : i < 7) : (partWs.getD i []).length ≤ 7 := by
  match i, hi with
  | 0, _ => decide
  | 1, _ => decide
  | 2, _ => decide
  | 3, _ => decide
  | 4, _ => decide
  | 5, _ => decide
  | 6, _ => decide
theorem tkWord_len {x : Tk} (h : x.wf) {i : Nat} (hi : i < 7) : (tkWord x i).length ≤ 29 := by
  have h1 := partW_len hi
  have h2 := Lib.itoa_length_le _ (h.num hi).1 (h.num hi).2
  unfold tkWord
  rw [Lib.join_length]
  simp [Lib.lens]
  simp at h1 h2
  omega
theorem tkWords_succ (x : Tk) (q : Nat) : tkWords x (q + 1) = tkWords x q ++ [tkWord x q] := by simp [tkWords, List.range_succ]
theorem tkWords_len (x : Tk) (q : Nat) : (tkWords x q).length = q := by simp [tkWords]
theorem taskB_eq (x : Tk) : taskB x = Lib.join [[116, 97, 115, 107], Lib.itoa x.t ++ [58], Lib.join (tkWords x 7) [44, 32]] [32] ++ [10] := rfl
theorem taskB_len {x : Tk} (h : x.wf) : (taskB x).length ≤ 300 ∧ (Lib.join (tkWords x 7) [44, 32]).length ≤ 220 := by
  have h1 := Lib.itoa_length_le _ h.1.1 h.1.2
  have h2 := join_le 29 (tkWords x 7) [44, 32] (fun y hy => by
    obtain ⟨i, hi, rfl⟩ := List.mem_map.1 hy
    exact tkWord_len h (List.mem_range.1 hi))
  rw [tkWords_len] at h2
  simp only [List.length_cons, List.length_nil] at h2
  rw [taskB_eq, List.length_append, Lib.join_length]
  simp only [Lib.lens, List.map_cons, List.map_nil, List.sum_cons, List.sum_nil, List.length_append, List.length_cons, List.length_nil]
  omega
set_option maxHeartbeats 16000000 in
theorem taskLine_any (x : Tk) (hwf : x.wf) (w : World) (ht : Tab w) :
    Calls Tryz.prog 50 #[tkV x] w fun e w' => e = .returned (.string (bs (taskB x))) ∧ Fr [] w w' := by
  have f0 : Fr [] w (w.alloc (.cells #[.int .i64 x.t, .int .i64 x.calls, .int .i64 x.refused, .int .i64 x.steps, .int .i64 x.ended, .int .i64 x.failed, .int .i64 x.read, .int .i64 x.written] 58)) := (Fr.refl [] w).alloc _
  have T0 := Lib.hid (TkAt.made w x)
  have hlen := taskB_len hwf
  have HL := Lib.hid hlen
  have HW := Lib.hid hwf
  have HT := Lib.hid ht
  unfold tkV
  clear hlen hwf ht
  go_enter Tryz.func50, Tryz.ntmps50
  go_wp2_with fail
  refine (numbers_any _ _).mono ?_
  rintro e w1 ⟨K, rfl, hp, f1, hK⟩
  have T1 := Lib.hid (T0.out.keep f1 (by simp))
  have P1 := Lib.hid hp
  have F1 := Lib.hid (f0.step f1)
  have hT1 := T1.out.lt
  have hP1 : K < w1.heap.size := (Array.getElem?_eq_some_iff.1 hp).1
  obtain ⟨B, hB⟩ : ∃ B, w.heap.size = B := ⟨_, rfl⟩
  simp only [hB] at T1 P1 hT1 ⊢
  clear hp f1 f0 T0 hB hK
  go_wp2
  go_loopw [3, 8] (fun lv i wr => ∃ (wz : World) (q : Nat) (aw : Option Addr) (cw : Nat), wz = wr ∧ i = .int .i64 q ∧ q ≤ 7 ∧ lv = .slice aw q cw ∧ SRow wr w1.heap.size (.slice aw q cw) (tkWords x q) ∧ Fr [] w1 wr) (fun _ i _ => 7 - (intOf i).toNat)
  case atStart => exact ⟨_, 0, none, 0, rfl, rfl, by omega, rfl, World.ownsRow_nil _ _ _ _, Fr.refl _ _⟩
  case round =>
    obtain ⟨wr, q, aw, cw, hwz, rfl, hq, rfl, hS, hF⟩ := hrel
    subst hwz
    by_cases hlt : q < 7
    · have k0 := (P1.out.keep hF (by simp)).at hlt
      have k1 := (T1.out.keep hF (by simp)).num hlt
      have kB := T1.out.num hlt
      have hw1 := tkWords_succ x q
      have hI := HW.out.num hlt
      have hwl := tkWord_len HW.out hlt
      have hwd : tkWord x q = Lib.join [partWs.getD q [], Lib.itoa (x.nums.getD q 0)] [32] := rfl
      obtain ⟨n, hn⟩ : ∃ n, x.nums.getD q 0 = n := ⟨_, rfl⟩
      rw [hn] at k1 hI hwd kB
      have hrlt : ∀ b, (Value.slice aw q cw).ownBlock = some b → w1.heap.size ≤ b ∧ b < wr.heap.size := fun b e => by
        rcases hS.2 with ⟨h1, h2⟩ | ⟨gg, cp, cur, h1, h2, h3, _⟩
        · rw [h1] at e
          cases e
        · rw [h1] at e
          cases e
          exact ⟨h2, (Array.getElem?_eq_some_iff.1 h3).1⟩
      have HRL := Lib.hid hrlt
      have KB := Lib.hid kB
      have HWD := Lib.hid hwd
      have HWL := Lib.hid hwl
      have HI := Lib.hid hI
      have HW1 := Lib.hid hw1
      have SR := Lib.hid hS
      have HF := Lib.hid hF
      have hsz := hF.size
      have q0 : (0 : Int) ≤ (q : Int) := Int.natCast_nonneg _
      have q7 : (q : Int) < 7 := by omega
      clear hwd hwl hI hw1 hS hF hn kB hrlt
      go_wp2
      refine wp_region_held_drew (S := fun w' => w'.cell? ⟨B, 1 + q, none⟩ = some (.int .i64 n)) (by kernel_rfl) (k1) (fun hHeld => ?_)
      refine wpAnyH_take (i := 0) (oi := _) (v := ?_) rfl (by kernel_rfl) (by kernel_rfl) (by kernel_rfl) (fun _ _ _ h => h) (Or.inl ⟨by rfl, ?_⟩) (by assumption) ?_
      rotate_left
      · intro w hSw
        try dsimp only at hSw
        go_simp
        try with_reducible rfl
      try simp only [Act.put, List.getElem_toArray, List.getElem_cons_succ, List.getElem_cons_zero, List.setIfInBounds_toArray, List.set_cons_zero, List.set_cons_succ]
      refine wpAnyH_take (i := 2) (oi := _) (v := ?_) rfl (by kernel_rfl) (by kernel_rfl) (by kernel_rfl) (fun _ _ _ h => h) (Or.inl ⟨by rfl, ?_⟩) (by assumption) ?_
      rotate_left
      · intro w hSw
        try dsimp only at hSw
        go_simp
        try with_reducible rfl
      try simp only [Act.put, List.getElem_toArray, List.getElem_cons_succ, List.getElem_cons_zero, List.setIfInBounds_toArray, List.set_cons_zero, List.set_cons_succ]
      refine wpAnyH_take (i := 5) (oi := _) (v := ?_) rfl (by kernel_rfl) (by kernel_rfl) (by kernel_rfl) (fun _ _ _ h => h) (Or.inl ⟨by rfl, ?_⟩) (by assumption) ?_
      rotate_left
      · intro w hSw
        try dsimp only at hSw
        go_simp
        try with_reducible rfl
      try simp only [Act.put, List.getElem_toArray, List.getElem_cons_succ, List.getElem_cons_zero, List.setIfInBounds_toArray, List.set_cons_zero, List.set_cons_succ]
      refine wpAnyH_take (i := 6) (oi := _) (v := ?_) rfl (by kernel_rfl) (by kernel_rfl) (by kernel_rfl) (fun _ _ _ h => h) (Or.inl ⟨by rfl, ?_⟩) (by assumption) ?_
      rotate_left
      · intro w hSw
        try dsimp only at hSw
        go_simp
        try with_reducible rfl
      try simp only [Act.put, List.getElem_toArray, List.getElem_cons_succ, List.getElem_cons_zero, List.setIfInBounds_toArray, List.set_cons_zero, List.set_cons_succ]
      refine wpAnyH_take (i := 7) (oi := _) (v := ?_) rfl (by kernel_rfl) (by kernel_rfl) (by kernel_rfl) (fun _ _ _ h => h) (Or.inl ⟨by rfl, ?_⟩) (by assumption) ?_
      rotate_left
      · intro w hSw
        try dsimp only at hSw
        go_simp
        try with_reducible rfl
      try simp only [Act.put, List.getElem_toArray, List.getElem_cons_succ, List.getElem_cons_zero, List.setIfInBounds_toArray, List.set_cons_zero, List.set_cons_succ]
      refine wpAnyH_ready (rs := [1]) (by kernel_rfl) (by simp) ?_
      refine AllReadyH.cons (o := _) rfl (fun K hK => ?_) AllReadyH.nil
      go_simp
      refine (parts_any _).mono ?_
      rintro e w2 ⟨K2, rfl, hK2, f2, hk2⟩
      have hk2 : wr.heap.size ≤ K2 := hk2
      replace f2 : Fr [] wr w2 := ((Fr.refl [] wr).drew).step f2
      have d1 := f2.keep k1 (by simp)
      have d2 := hK2.cell (i := q) (by simpa [partWs] using hlt)
      refine hK.out _ _ (d1) (fun hHeld => ?_)
      clear hK K
      try simp only [Act.put, List.getElem_toArray, List.getElem_cons_succ, List.getElem_cons_zero, List.setIfInBounds_toArray, List.set_cons_zero, List.set_cons_succ]
      refine wpAnyH_more (S' := fun w' => w'.cell? ⟨B, 1 + q, none⟩ = some (.int .i64 n) ∧ w'.cell? ⟨K2, q, none⟩ = some (.string (bs (partWs.getD q [])))) (fun _ h => h.1) ?_
      replace hHeld := And.intro hHeld d2
      refine wpAnyH_take (i := 3) (oi := _) (v := ?_) rfl (by kernel_rfl) (by kernel_rfl) (by kernel_rfl) (fun _ _ _ h => h) (Or.inl ⟨by rfl, ?_⟩) (by assumption) ?_
      rotate_left
      · intro w hSw
        try dsimp only at hSw
        go_simp
        try with_reducible rfl
      try simp only [Act.put, List.getElem_toArray, List.getElem_cons_succ, List.getElem_cons_zero, List.setIfInBounds_toArray, List.set_cons_zero, List.set_cons_succ]
      refine wpAnyH_take (i := 4) (oi := _) (v := ?_) rfl (by kernel_rfl) (by kernel_rfl) (by kernel_rfl) (fun _ _ _ h => h) (Or.inl ⟨by rfl, ?_⟩) (by assumption) ?_
      rotate_left
      · intro w hSw
        try dsimp only at hSw
        go_simp
        try with_reducible rfl
      try simp only [Act.put, List.getElem_toArray, List.getElem_cons_succ, List.getElem_cons_zero, List.setIfInBounds_toArray, List.set_cons_zero, List.set_cons_succ]
      clear hK2
      refine wpAnyH_ready (rs := [8]) (by kernel_rfl) (by simp) ?_
      refine AllReadyH.cons (o := _) rfl (fun K hK => ?_) AllReadyH.nil
      go_simp
      refine (number_any n HI.out _ (tab_new HT.out (F1.out.step (HF.out.step f2)))).mono ?_
      rintro e w3 ⟨rfl, f3⟩
      have e1 := f3.keep d1 (by simp)
      have e2 := f3.keep d2 (by simp)
      replace f3 : Fr [] wr w3 := f2.step f3
      refine hK.out _ _ (⟨e1, e2⟩) (fun hHeld => ?_)
      clear hK K
      try simp only [Act.put, List.getElem_toArray, List.getElem_cons_succ, List.getElem_cons_zero, List.setIfInBounds_toArray, List.set_cons_zero, List.set_cons_succ]
      refine wpAnyH_ready (rs := [9]) (by kernel_rfl) (by simp) ?_
      refine AllReadyH.cons (o := _) rfl (fun K hK => ?_) AllReadyH.nil
      go_simp
      have f4 : Fr [] w3 (w3.alloc (.cells #[.string (bs (partWs.getD q [])), .string (bs (Lib.itoa n))] 9)) := (Fr.refl [] w3).alloc _
      have g1 := f4.keep e1 (by simp)
      have g2 := f4.keep e2 (by simp)
      refine hK.out _ _ (⟨g1, g2⟩) (fun hHeld => ?_)
      clear hK K
      try simp only [Act.put, List.getElem_toArray, List.getElem_cons_succ, List.getElem_cons_zero, List.setIfInBounds_toArray, List.set_cons_zero, List.set_cons_succ]
      refine wpAnyH_ready (rs := [10]) (by kernel_rfl) (by simp) ?_
      refine AllReadyH.cons (o := _) rfl (fun K hK => ?_) AllReadyH.nil
      go_simp
      have hjl : (Lib.join [partWs.getD q [], Lib.itoa n] [32]).length ≤ 140737488355328 := by rw [← HWD.out]; have := HWL.out; omega
      have hq := words_any w3.heap.size 0 2 [partWs.getD q [], Lib.itoa n] (w3.alloc (.cells #[.string (bs (partWs.getD q [])), .string (bs (Lib.itoa n))] 9)) (fun j y hj => by match j with | 0 => cases hj; simp | 1 => cases hj; simp | j + 2 => simp at hj) (by simp) (by simp) (by simp) hjl
      refine hq.mono ?_
      clear hq hjl
      rintro e w5 ⟨rfl, f5⟩
      rw [← HWD.out]
      have h1 := f5.keep g1 (by simp)
      have h2 := f5.keep g2 (by simp)
      replace f5 : Fr [] wr w5 := (f3.step f4).step f5
      refine hK.out _ _ (⟨h1, h2⟩) (fun hHeld => ?_)
      clear hK K
      try simp only [Act.put, List.getElem_toArray, List.getElem_cons_succ, List.getElem_cons_zero, List.setIfInBounds_toArray, List.set_cons_zero, List.set_cons_succ]
      refine wpAnyH_ready (rs := [11]) (by kernel_rfl) (by simp) ?_
      refine AllReadyH.cons (o := _) rfl (fun K hK => ?_) AllReadyH.nil
      go_simp
      have f6 : Fr [] wr (w5.alloc (.cells #[.string (bs (tkWord x q))] 9)) := f5.alloc _
      have i1 := f6.keep k1 (by simp)
      have i2 := ((Fr.refl [] w5).alloc (.cells #[.string (bs (tkWord x q))] 9)).keep h2 (by simp)
      refine hK.out _ _ (⟨i1, i2⟩) (fun hHeld => ?_)
      clear hK K
      try simp only [Act.put, List.getElem_toArray, List.getElem_cons_succ, List.getElem_cons_zero, List.setIfInBounds_toArray, List.set_cons_zero, List.set_cons_succ]
      obtain ⟨i0, hi, hz0, hz1, hz2⟩ := info_parts infoStr
      have SR6 := Lib.hid (SR.out.new f6)
      have SR6' := Lib.hid (show ((w5.alloc (.cells #[.string (bs (tkWord x q))] 9))).ownsRow w1.heap.size 9 1 (.slice aw q cw) q ((tkWords x q).map fun y => Value.string (bs y)) from by have h := SR6.out; unfold SRow at h; rw [tkWords_len] at h; exact h)
      have hsz6 := f6.size
      have F6 := Lib.hid f6
      refine wpAnyH_ready (rs := [12]) (by kernel_rfl) (by simp) ?_
      refine AllReadyH.cons (o := _) rfl (fun K hK => ?_) AllReadyH.nil
      refine step_append_lies _ (by rfl) (.tmp 13) (.tmp 24) _ (by rfl) w1.heap.size 9 i0 _ 1 16 Tryz.underlying34 hi hz0 hz1 hz2 rfl (by omega) (.slice aw q cw) q ((tkWords x q).map fun y => Value.string (bs y)) (by rfl) SR6'.out _ 1 1 [.string (bs (tkWord x q))] (by rfl) (by rfl) (World.news_of_block (cs := #[.string (bs (tkWord x q))]) (t := 9) (fr := (0, 0)) (World.alloc_heap_new _ _)) (by simp [Value.oneCell']) (by omega) (by simp only [maxLen]; omega) (by omega) (Nat.le_trans hsz hsz6) _ rfl ?_
      intro g6 cap6 w7 hown6 hgrow6 hat6 hlt6
      have F67 := grownFr (S := (Value.slice aw q cw).ownBlock.toList) hgrow6 (fun b e => by simp [e])
      have F7 : Fr [] w1 w7 := (HF.out.step F6.out).trans F67 (fun b hb hl => by rw [Option.mem_toList] at hb; have := (HRL.out b hb).1; omega)
      have j1 := F7.keep KB.out (by simp)
      have j2 := F67.keep i2 (fun hm => by rw [Option.mem_toList] at hm; have := (HRL.out _ hm).2; omega)
      have F7' := Lib.hid F7
      refine hK.out _ _ (⟨j1, j2⟩) (fun hHeld => ?_)
      clear hK K
      try simp only [Act.put, List.getElem_toArray, List.getElem_cons_succ, List.getElem_cons_zero, List.setIfInBounds_toArray, List.set_cons_zero, List.set_cons_succ]
      refine wpAnyH_ready (rs := [13]) (by kernel_rfl) (by simp) ?_
      refine AllReadyH.cons (o := _) rfl (fun K hK => ?_) AllReadyH.nil
      go_simp
      refine hK.out _ _ (⟨j1, j2⟩) (fun hHeld => ?_)
      clear hK K
      try simp only [Act.put, List.getElem_toArray, List.getElem_cons_succ, List.getElem_cons_zero, List.setIfInBounds_toArray, List.set_cons_zero, List.set_cons_succ]
      refine wpAnyH_done (by kernel_rfl) ?_ _
      have hnew : SRow w7 w1.heap.size (.slice (some ⟨g6, 0, none⟩) (q + 1) cap6) (tkWords x (q + 1)) := by
        unfold SRow
        rw [HW1.out, List.map_append, List.length_append, tkWords_len]
        exact hown6
      have HNEW := Lib.hid hnew
      clear hnew hown6 hgrow6 hat6 hlt6 F67 F7 j1 j2 hHeld
      go_wp2
      go_roundw
      case rel => exact ⟨_, q + 1, _, _, rfl, by go_num, by omega, rfl, HNEW.out, F7'.out⟩
      case measure => simp [intOf]; omega
    · have hq7 : q = 7 := by omega
      subst hq7
      have hT := (T1.out.keep hF (by simp)).task
      have hI := Lib.hid HW.out.1
      have hz := itoa_size HW.out.1
      obtain ⟨t, htt⟩ : ∃ t, x.t = t := ⟨_, rfl⟩
      have hTB := Lib.hid (taskB_eq x)
      rw [htt] at hT hI hz hTB
      obtain ⟨gl, cl, hv, hcl, hgl1, hgl2, hcells⟩ := hS.at (by rw [tkWords_len]; omega)
      rw [tkWords_len] at hv hcl
      cases hv
      have HC := Lib.hid hcells
      have HF := Lib.hid hF
      clear hcells hS hF hlt htt
      go_wp2_with fail
      refine (number_any t hI.out _ (tab_new HT.out (F1.out.step HF.out))).mono ?_
      rintro e w2 ⟨rfl, f2⟩
      have F2 := Lib.hid f2
      have hgl3 := f2.size
      clear f2
      go_wp2_with fail
      have hq := join_at gl 0 cw (tkWords x 7) [44, 32] w2 (fun j y hj => F2.out.keep (HC.out j y hj) (by simp)) (by omega) (by rw [tkWords_len]; exact hcl) (by rw [tkWords_len]; omega) (by have := HL.out.2; omega)
      rw [tkWords_len] at hq
      refine hq.mono ?_
      clear hq
      rintro e w3 ⟨rfl, f3⟩
      have F3 := Lib.hid (F2.out.step f3)
      clear f3
      have hjl := HL.out.2
      obtain ⟨js, hjs⟩ : ∃ s, Lib.join (tkWords x 7) [44, 32] = s := ⟨_, rfl⟩
      rw [hjs] at hTB hjl
      simp only [hjs]
      have hres : (Lib.join [[116, 97, 115, 107], Lib.itoa t ++ [58], js] [32]).length ≤ 300 := by
        have := HL.out.1
        rw [hTB.out, List.length_append] at this
        omega
      have HRES := Lib.hid hres
      clear hjs hjl hres hT
      go_wp2_with fail
      have hc3 : ∀ (j : Nat) (y : List UInt8), [[116, 97, 115, 107], Lib.itoa t ++ [58], js][j]? = some y → (w3.alloc (.cells #[.string ⟨#[116, 97, 115, 107]⟩, .string (bs (Lib.itoa t) ++ ⟨#[58]⟩), .string (bs js)] 9)).cell? ⟨w3.heap.size, 0 + j, none⟩ = some (.string (bs y)) := fun j y hj => by
        match j with
        | 0 => cases hj; simp; rfl
        | 1 => cases hj; rw [← bs_append]; simp; rfl
        | 2 => cases hj; simp
        | j + 3 => simp at hj
      have hq := words_any w3.heap.size 0 3 [[116, 97, 115, 107], Lib.itoa t ++ [58], js] _ hc3 (by simp) (by simp) (by simp) (by have := HRES.out; omega)
      refine hq.mono ?_
      clear hq hc3
      rintro e w4 ⟨rfl, f4⟩
      have F4 := Lib.hid ((F3.out.step ((Fr.refl [] w3).alloc _)).step f4)
      have hz4 : (bs (Lib.join [[116, 97, 115, 107], Lib.itoa t ++ [58], js] [32])).size ≤ 300 := by rw [bs_size]; exact HRES.out
      obtain ⟨s4, hs4⟩ : ∃ s, Lib.join [[116, 97, 115, 107], Lib.itoa t ++ [58], js] [32] = s := ⟨_, rfl⟩
      rw [hs4] at hTB hz4
      simp only [hs4]
      clear f4 hs4 hz
      go_wp2
      go_ret
      exact ⟨by rw [hTB.out, ← bs_append]; rfl, F1.out.step (HF.out.step F4.out)⟩
end Go.Proofs.YtllmejkcohfbiaaGreatDoor
