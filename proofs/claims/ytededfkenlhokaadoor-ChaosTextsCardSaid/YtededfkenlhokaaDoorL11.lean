/- Contract of the law's own read. -/
import Derived.Test.YtededfkenlhokaaDoorL10
namespace Go.Proofs.YtededfkenlhokaaDoor
open Go.RowKit Go.Shelf
set_option linter.unusedVariables false
set_option linter.unusedSimpArgs false
set_option maxRecDepth 100000
set_option maxHeartbeats 4000000

def NM : List (List UInt8) := [wShort, wDelay, wFail, wCut]
/-- The kind behind j names. -/
def kup (w0 : List UInt8) : Nat → Int
  | 0 => 0
  | j + 1 => if w0 = NM.getD j [] then (j : Int) + 1 else kup w0 j
theorem kup_4 (w0 : List UInt8) : kup w0 4 = kindP w0 := by
  unfold kindP
  simp only [kup, NM, List.getD_cons_zero, List.getD_cons_succ]
  by_cases h1 : w0 = wShort
  · subst h1; decide
  · by_cases h2 : w0 = wDelay
    · subst h2; decide
    · by_cases h3 : w0 = wFail
      · subst h3; decide
      · by_cases h4 : w0 = wCut
        · subst h4; decide
        · simp [h1, h2, h3, h4]
theorem bs_eq (a b : List UInt8) : ((bs a).toList == (bs b).toList) = decide (a = b) := by
  rw [Bool.eq_iff_iff, beq_iff_eq, ByteArray.toList_eq, ByteArray.toList_eq, bs_list, bs_list, decide_eq_true_eq]
theorem OwnWords.cellAt {W : World} {lo g cap : Nat} {ws : List (List UInt8)} (h : OwnWords W lo g cap ws) (j : Nat) (y : List UInt8) (hj : ws[j]? = some y) : W.cell? ⟨g, j, none⟩ = some (.string (bs y)) := by
  have hl := (List.getElem?_eq_some_iff.1 hj).1
  have := World.ownsRow.cellAt h j (by omega)
  rw [List.getElem?_map, hj] at this
  exact this
theorem splitGo_len : ∀ (l cur x : List UInt8), x ∈ splitGo cur l → x.length ≤ cur.length + l.length
  | [], cur, x, h => by
    rw [splitGo, List.mem_singleton] at h
    subst h
    simp
  | b :: l, cur, x, h => by
    rw [splitGo] at h
    split at h
    · rcases List.mem_cons.1 h with rfl | h
      · simp
      · have := splitGo_len l [] x h
        simp only [List.length_nil, List.length_cons] at this ⊢
        omega
    · have := splitGo_len l (cur ++ [b]) x h
      simp only [List.length_append, List.length_cons, List.length_nil] at this ⊢
      omega
theorem splitGo_num : ∀ (l cur : List UInt8), (splitGo cur l).length ≤ l.length + 1
  | [], cur => by rw [splitGo]; simp
  | b :: l, cur => by
    rw [splitGo]
    split
    · have := splitGo_num l []
      simp only [List.length_cons]
      omega
    · have := splitGo_num l (cur ++ [b])
      simp only [List.length_cons]
      omega

theorem readL_any (x : List UInt8) (hx : x.length ≤ 1000) (w : World) :
    Calls Tryd.prog 12 #[.string (bs x)] w fun e w' => ∃ f : Ft, e = .returned (.tuple #[ftV f, .bool (readR x).isSome]) ∧ (∀ g, readR x = some g → f = g) ∧ Fr [] w w' := by
  have h0 : Fr [] w (w.alloc (.cells #[.int .i64 0, .int .i64 0, .int .i64 0, .int .i64 0, .int .i64 0] 32)) := (Fr.refl [] w).alloc _
  have hz : FtAt (w.alloc (.cells #[.int .i64 0, .int .i64 0, .int .i64 0, .int .i64 0, .int .i64 0] 32)) w.heap.size ⟨0, 0, 0, 0, 0⟩ := World.alloc_heap_new w _
  have HW := Lib.hid (wordsL_any x (by omega) (w.alloc (.cells #[.int .i64 0, .int .i64 0, .int .i64 0, .int .i64 0, .int .i64 0] 32)))
  have hrp : readR x = if (splitGo [] x).length < 4 then none else if (parR (splitGo [] x)).ok = true ∧ lineB (parR (splitGo [] x)) = x ++ [10] then some (parR (splitGo [] x)) else none := rfl
  have hwl : ∀ y ∈ splitGo [] x, y.length ≤ 1000 := fun y hy => by have := splitGo_len x [] y hy; simp at this; omega
  have hwn := splitGo_num x []
  generalize splitGo [] x = ws at HW hrp hwl hwn
  obtain ⟨n, hn⟩ : ∃ n, ws.length = n := ⟨_, rfl⟩
  rw [hn] at hrp HW hwn
  have HN := Lib.hid hn
  have HH0 := Lib.hid h0
  have HZ := Lib.hid hz
  have HWL := Lib.hid hwl
  have hn2 : n ≤ 1001 := by omega
  clear h0 hz hn hwl hwn
  by_cases hlt : n < 4
  · rw [if_pos hlt] at hrp
    have HR := Lib.hid hrp
    have hl4 : (n : Int) < 4 := by omega
    clear hrp hlt
    go_enter Tryd.func12, Tryd.ntmps12
    go_wp2_with (go_at_call 33; refine HW.out.mono ?_; rintro e w1 ⟨g, cap, rfl, -, f1⟩; have t1 := HZ.out.keep f1 (by simp); have z0 := t1.fz 0; have z1 := t1.fz 1; have z2 := t1.fz 2; have z3 := t1.fz 3; have z4 := t1.fz 4; have k0 := t1.c0; have k1 := t1.c1; have k2 := t1.c2; have k3 := t1.c3; have k4 := t1.c4; have T1 := Lib.hid t1; clear t1)
    have r1 := T1.out.setAll ⟨0, 0, 0, 0, 0⟩
    unfold setFt at r1
    clear k0 k1 k2 k3 k4
    have m0 := r1.c0
    have m1 := r1.c1
    have m2 := r1.c2
    have m3 := r1.c3
    have m4 := r1.c4
    simp only at m0 m1 m2 m3 m4
    refine bodyPost_ret (v := .tuple #[.agg #[.int .i64 0, .int .i64 0, .int .i64 0, .int .i64 0, .int .i64 0], .bool false]) (by simp [results, Tryd.results12, go_sem, m0, m1, m2, m3, m4]) rfl ?_
    exact ⟨⟨0, 0, 0, 0, 0⟩, by rw [HR.out]; rfl, (fun g h => by rw [HR.out] at h; cases h), fr_set5 (HH0.out.step f1) (Nat.le_refl _)⟩
  · rw [if_neg hlt] at hrp
    have hl4 : ¬ (n : Int) < 4 := by omega
    obtain ⟨x0, hx0⟩ : ∃ x, ws[0]? = some x := ⟨_, List.getElem?_eq_getElem (by rw [HN.out]; omega)⟩
    obtain ⟨x1, hx1⟩ : ∃ x, ws[1]? = some x := ⟨_, List.getElem?_eq_getElem (by rw [HN.out]; omega)⟩
    obtain ⟨x2, hx2⟩ : ∃ x, ws[2]? = some x := ⟨_, List.getElem?_eq_getElem (by rw [HN.out]; omega)⟩
    obtain ⟨x3, hx3⟩ : ∃ x, ws[3]? = some x := ⟨_, List.getElem?_eq_getElem (by rw [HN.out]; omega)⟩
    have HN1 := Lib.hid (fun W => numberL_any x1 (by have := HWL.out x1 (List.mem_of_getElem? hx1); omega) W)
    have HN3 := Lib.hid (fun W => numberL_any x3 (by have := HWL.out x3 (List.mem_of_getElem? hx3); omega) W)
    have d1 : (1 : Int) < (n : Int) := by omega
    have d3 : (3 : Int) < (n : Int) := by omega
    have d0 : (0 : Int) < (n : Int) := by omega
    have d2 : (2 : Int) < (n : Int) := by omega
    have dn1 : 1 < n := by omega
    have dn3 : 3 < n := by omega
    have dn0 : 0 < n := by omega
    have dn2 : 2 < n := by omega
    have HRP := Lib.hid hrp
    have HX := Lib.hid (And.intro hx0 (And.intro hx1 (And.intro hx2 hx3)))
    clear hrp hlt hx0 hx1 hx2 hx3
    go_enter Tryd.func12, Tryd.ntmps12
    go_wp2_with (go_at_call 33; refine HW.out.mono ?_; rintro e w1 ⟨g, cap, rfl, how, f1⟩)
    have t1 := HZ.out.keep f1 (by simp)
    have F1 := HH0.out.step f1
    have HO := Lib.hid (fun W (f : Fr [] w1 W) => And.intro (f.keep (how.cellAt 0 x0 HX.out.1) (by simp)) (And.intro (f.keep (how.cellAt 1 x1 HX.out.2.1) (by simp)) (And.intro (f.keep (how.cellAt 2 x2 HX.out.2.2.1) (by simp)) (f.keep (how.cellAt 3 x3 HX.out.2.2.2) (by simp)))))
    have HO4 := Lib.hid (fun W (f : Fr [] w1 W) x4 (h4 : ws[4]? = some x4) => f.keep (how.cellAt 4 x4 h4) (by simp))
    have HF := Lib.hid F1
    have HT := Lib.hid t1
    have hgl : g < w1.heap.size := by have := (how.lt g rfl).2; exact this
    have HGL := Lib.hid hgl
    obtain ⟨c0, c1, c2, c3⟩ := HO.out w1 (Fr.refl [] w1)
    clear how f1 t1 F1 hgl HW HH0 HZ
    go_cut [5] from 14 to 22 (fun sv wc => ∃ T, sv = .pointer (some ⟨T, 0, none⟩) ∧ w1.heap.size ≤ T ∧ FtAt wc T ⟨0, numR x1, 0, numR x3, 0⟩ ∧ Fr [] w1 wc)
    case first =>
      refine wp_region_held_drew (S := fun w' => w'.cell? ⟨g, 1, none⟩ = some (.string (bs x1)) ∧ w'.cell? ⟨g, 3, none⟩ = some (.string (bs x3))) (by kernel_rfl) (⟨c1, c3⟩) (fun hHeld => ?_)
      refine wpAnyH_take (i := 0) (oi := _) (v := ?_) rfl (by kernel_rfl) (by kernel_rfl) (by kernel_rfl) (fun _ _ _ h => h) (Or.inl ⟨by rfl, ?_⟩) (by assumption) ?_
      rotate_left
      · intro w hSw
        try dsimp only at hSw
        go_simp
        try with_reducible rfl
      try simp only [Act.put, List.setIfInBounds_toArray, List.set_cons_zero, List.set_cons_succ]
      refine wpAnyH_take (i := 1) (oi := _) (v := ?_) rfl (by kernel_rfl) (by kernel_rfl) (by kernel_rfl) (fun _ _ _ h => h) (Or.inl ⟨by rfl, ?_⟩) (by assumption) ?_
      rotate_left
      · intro w hSw
        try dsimp only at hSw
        go_simp
        try with_reducible rfl
      try simp only [Act.put, List.setIfInBounds_toArray, List.set_cons_zero, List.set_cons_succ]
      refine wpAnyH_take (i := 2) (oi := _) (v := ?_) rfl (by kernel_rfl) (by kernel_rfl) (by kernel_rfl) (fun _ _ _ h => h) (Or.inl ⟨by rfl, ?_⟩) (by assumption) ?_
      rotate_left
      · intro w hSw
        try dsimp only at hSw
        go_simp
        try with_reducible rfl
      try simp only [Act.put, List.setIfInBounds_toArray, List.set_cons_zero, List.set_cons_succ]
      refine wpAnyH_take (i := 4) (oi := _) (v := ?_) rfl (by kernel_rfl) (by kernel_rfl) (by kernel_rfl) (fun _ _ _ h => h) (Or.inl ⟨by rfl, ?_⟩) (by assumption) ?_
      rotate_left
      · intro w hSw
        try dsimp only at hSw
        go_simp
        try with_reducible rfl
      try simp only [Act.put, List.setIfInBounds_toArray, List.set_cons_zero, List.set_cons_succ]
      refine wpAnyH_take (i := 5) (oi := _) (v := ?_) rfl (by kernel_rfl) (by kernel_rfl) (by kernel_rfl) (fun _ _ _ h => h) (Or.inl ⟨by rfl, ?_⟩) (by assumption) ?_
      rotate_left
      · intro w hSw
        try dsimp only at hSw
        go_simp
        try with_reducible rfl
      try simp only [Act.put, List.setIfInBounds_toArray, List.set_cons_zero, List.set_cons_succ]
      refine wpAnyH_take (i := 6) (oi := _) (v := ?_) rfl (by kernel_rfl) (by kernel_rfl) (by kernel_rfl) (fun _ _ _ h => h) (Or.inl ⟨by rfl, ?_⟩) (by assumption) ?_
      rotate_left
      · intro w hSw
        try dsimp only at hSw
        go_simp
        try with_reducible rfl
      try simp only [Act.put, List.setIfInBounds_toArray, List.set_cons_zero, List.set_cons_succ]
      clear hHeld
      refine wpAnyH_ready (rs := [3, 9]) (by kernel_rfl) (by simp) ?_
      refine AllReadyH.cons (o := _) rfl (fun K hK => ?_) (AllReadyH.cons (o := _) rfl (fun K hK => ?_) AllReadyH.nil)
      · skip
        go_simp
        go_wp2_with (go_at_call 34; (with_reducible refine (HN1.out _).mono ?_); rintro e w' ⟨rfl, rfl⟩)
        refine hK.out _ _ (⟨c1, c3⟩) (fun hHeld => ?_)
        clear hK K
        try simp only [Act.put, List.setIfInBounds_toArray, List.set_cons_zero, List.set_cons_succ]
        refine wpAnyH_ready (rs := [7, 9]) (by kernel_rfl) (by simp) ?_
        refine AllReadyH.cons (o := _) rfl (fun K hK => ?_) (AllReadyH.cons (o := _) rfl (fun K hK => ?_) AllReadyH.nil)
        · skip
          go_simp
          go_wp2_with (go_at_call 34; (with_reducible refine (HN3.out _).mono ?_); rintro e w' ⟨rfl, rfl⟩)
          refine hK.out _ _ (⟨c1, c3⟩) (fun hHeld => ?_)
          clear hK K
          try simp only [Act.put, List.setIfInBounds_toArray, List.set_cons_zero, List.set_cons_succ]
          refine wpAnyH_take (i := 8) (oi := _) (v := ?_) rfl (by kernel_rfl) (by kernel_rfl) (by kernel_rfl) (fun _ _ _ h => h) (Or.inl ⟨by rfl, ?_⟩) (by assumption) ?_
          rotate_left
          · intro w hSw
            try dsimp only at hSw
            go_simp
            try with_reducible rfl
          try simp only [Act.put, List.setIfInBounds_toArray, List.set_cons_zero, List.set_cons_succ]
          clear hHeld
          refine wpAnyH_ready (rs := [9]) (by kernel_rfl) (by simp) ?_
          refine AllReadyH.cons (o := _) rfl (fun K hK => ?_) AllReadyH.nil
          go_simp
          refine hK.out _ _ (⟨((Fr.refl [] w1).drew.alloc _).keep c1 (by simp), ((Fr.refl [] w1).drew.alloc _).keep c3 (by simp)⟩) (fun hHeld => ?_)
          clear hK K
          try simp only [Act.put, List.setIfInBounds_toArray, List.set_cons_zero, List.set_cons_succ]
          clear hHeld
          refine wpAnyH_ready (rs := [10]) (by kernel_rfl) (by simp) ?_
          refine AllReadyH.cons (o := _) rfl (fun K hK => ?_) AllReadyH.nil
          go_simp
          refine hK.out _ _ (⟨((Fr.refl [] w1).drew.alloc _).keep c1 (by simp), ((Fr.refl [] w1).drew.alloc _).keep c3 (by simp)⟩) (fun hHeld => ?_)
          clear hK K
          try simp only [Act.put, List.setIfInBounds_toArray, List.set_cons_zero, List.set_cons_succ]
          refine wpAnyH_done (by kernel_rfl) ?_ _
          go_wp2
          go_meet
          exact ⟨_, rfl, Nat.le_refl _, World.alloc_heap_new w1 _, (Fr.refl [] w1).drew.alloc _⟩
        · skip
          go_simp
          refine hK.out _ _ (⟨((Fr.refl [] w1).drew.alloc _).keep c1 (by simp), ((Fr.refl [] w1).drew.alloc _).keep c3 (by simp)⟩) (fun hHeld => ?_)
          clear hK K
          try simp only [Act.put, List.setIfInBounds_toArray, List.set_cons_zero, List.set_cons_succ]
          refine wpAnyH_ready (rs := [7]) (by kernel_rfl) (by simp) ?_
          refine AllReadyH.cons (o := _) rfl (fun K hK => ?_) AllReadyH.nil
          go_simp
          go_wp2_with (go_at_call 34; (with_reducible refine (HN3.out _).mono ?_); rintro e w' ⟨rfl, rfl⟩)
          refine hK.out _ _ (⟨((Fr.refl [] w1).drew.alloc _).keep c1 (by simp), ((Fr.refl [] w1).drew.alloc _).keep c3 (by simp)⟩) (fun hHeld => ?_)
          clear hK K
          try simp only [Act.put, List.setIfInBounds_toArray, List.set_cons_zero, List.set_cons_succ]
          refine wpAnyH_take (i := 8) (oi := _) (v := ?_) rfl (by kernel_rfl) (by kernel_rfl) (by kernel_rfl) (fun _ _ _ h => h) (Or.inl ⟨by rfl, ?_⟩) (by assumption) ?_
          rotate_left
          · intro w hSw
            try dsimp only at hSw
            go_simp
            try with_reducible rfl
          try simp only [Act.put, List.setIfInBounds_toArray, List.set_cons_zero, List.set_cons_succ]
          clear hHeld
          refine wpAnyH_ready (rs := [10]) (by kernel_rfl) (by simp) ?_
          refine AllReadyH.cons (o := _) rfl (fun K hK => ?_) AllReadyH.nil
          go_simp
          refine hK.out _ _ (⟨((Fr.refl [] w1).drew.alloc _).keep c1 (by simp), ((Fr.refl [] w1).drew.alloc _).keep c3 (by simp)⟩) (fun hHeld => ?_)
          clear hK K
          try simp only [Act.put, List.setIfInBounds_toArray, List.set_cons_zero, List.set_cons_succ]
          refine wpAnyH_done (by kernel_rfl) ?_ _
          go_wp2
          go_meet
          exact ⟨_, rfl, Nat.le_refl _, World.alloc_heap_new w1 _, (Fr.refl [] w1).drew.alloc _⟩
      · skip
        go_simp
        refine hK.out _ _ (⟨((Fr.refl [] w1).drew.alloc _).keep c1 (by simp), ((Fr.refl [] w1).drew.alloc _).keep c3 (by simp)⟩) (fun hHeld => ?_)
        clear hK K
        try simp only [Act.put, List.setIfInBounds_toArray, List.set_cons_zero, List.set_cons_succ]
        refine wpAnyH_ready (rs := [3]) (by kernel_rfl) (by simp) ?_
        refine AllReadyH.cons (o := _) rfl (fun K hK => ?_) AllReadyH.nil
        go_simp
        go_wp2_with (go_at_call 34; (with_reducible refine (HN1.out _).mono ?_); rintro e w' ⟨rfl, rfl⟩)
        refine hK.out _ _ (⟨((Fr.refl [] w1).drew.alloc _).keep c1 (by simp), ((Fr.refl [] w1).drew.alloc _).keep c3 (by simp)⟩) (fun hHeld => ?_)
        clear hK K
        try simp only [Act.put, List.setIfInBounds_toArray, List.set_cons_zero, List.set_cons_succ]
        refine wpAnyH_ready (rs := [7]) (by kernel_rfl) (by simp) ?_
        refine AllReadyH.cons (o := _) rfl (fun K hK => ?_) AllReadyH.nil
        go_simp
        go_wp2_with (go_at_call 34; (with_reducible refine (HN3.out _).mono ?_); rintro e w' ⟨rfl, rfl⟩)
        refine hK.out _ _ (⟨((Fr.refl [] w1).drew.alloc _).keep c1 (by simp), ((Fr.refl [] w1).drew.alloc _).keep c3 (by simp)⟩) (fun hHeld => ?_)
        clear hK K
        try simp only [Act.put, List.setIfInBounds_toArray, List.set_cons_zero, List.set_cons_succ]
        refine wpAnyH_take (i := 8) (oi := _) (v := ?_) rfl (by kernel_rfl) (by kernel_rfl) (by kernel_rfl) (fun _ _ _ h => h) (Or.inl ⟨by rfl, ?_⟩) (by assumption) ?_
        rotate_left
        · intro w hSw
          try dsimp only at hSw
          go_simp
          try with_reducible rfl
        try simp only [Act.put, List.setIfInBounds_toArray, List.set_cons_zero, List.set_cons_succ]
        clear hHeld
        refine wpAnyH_ready (rs := [10]) (by kernel_rfl) (by simp) ?_
        refine AllReadyH.cons (o := _) rfl (fun K hK => ?_) AllReadyH.nil
        go_simp
        refine hK.out _ _ (⟨((Fr.refl [] w1).drew.alloc _).keep c1 (by simp), ((Fr.refl [] w1).drew.alloc _).keep c3 (by simp)⟩) (fun hHeld => ?_)
        clear hK K
        try simp only [Act.put, List.setIfInBounds_toArray, List.set_cons_zero, List.set_cons_succ]
        refine wpAnyH_done (by kernel_rfl) ?_ _
        go_wp2
        go_meet
        exact ⟨_, rfl, Nat.le_refl _, World.alloc_heap_new w1 _, (Fr.refl [] w1).drew.alloc _⟩
    case rest =>
      obtain ⟨T, rfl, hT, t0, fc⟩ := hcut
      have hpar : parR ws = ⟨kindP x0, numR x1, dirR x2, numR x3, if 4 < n then numR (ws.getD 4 []) else 0⟩ := by
        unfold parR
        rw [HN.out, List.getD_eq_getElem?_getD, List.getD_eq_getElem?_getD, List.getD_eq_getElem?_getD, List.getD_eq_getElem?_getD, HX.out.1, HX.out.2.1, HX.out.2.2.1, HX.out.2.2.2]
        rfl
      have HP := Lib.hid hpar
      have HT0 := Lib.hid t0
      have HFc := Lib.hid fc
      clear hpar t0 fc c0 c1 c2 c3 HN1 HN3
      go_wp2
      obtain ⟨W2, hW2⟩ : ∃ W2, wc.alloc (.cells #[.string ⟨#[115, 104, 111, 114, 116]⟩, .string ⟨#[100, 101, 108, 97, 121]⟩, .string ⟨#[102, 97, 105, 108]⟩, .string ⟨#[99, 117, 116]⟩] 9) = W2 := ⟨_, rfl⟩
      have HF2 := Lib.hid (show Fr [] w1 W2 from by rw [← hW2]; exact HFc.out.alloc _)
      have HT2 := Lib.hid (show FtAt W2 T ⟨0, numR x1, 0, numR x3, 0⟩ from by rw [← hW2]; exact HT0.out.keep ((Fr.refl [] wc).alloc _) (by simp))
      have HNm := Lib.hid (show (W2.cell? ⟨wc.heap.size, 0, none⟩ = some (.string (bs wShort)) ∧ W2.cell? ⟨wc.heap.size, 1, none⟩ = some (.string (bs wDelay)) ∧ W2.cell? ⟨wc.heap.size, 2, none⟩ = some (.string (bs wFail)) ∧ W2.cell? ⟨wc.heap.size, 3, none⟩ = some (.string (bs wCut))) ∧ T < wc.heap.size from by
        rw [← hW2]
        exact ⟨⟨newCell _ _ _ 0 rfl rfl rfl, newCell _ _ _ 1 rfl rfl rfl, newCell _ _ _ 2 rfl rfl rfl, newCell _ _ _ 3 rfl rfl rfl⟩, HT0.out.lt⟩)
      rw [hW2]
      clear hW2
      obtain ⟨NB, hNB⟩ : ∃ NB, wc.heap.size = NB := ⟨_, rfl⟩
      rw [hNB] at HNm ⊢
      clear hNB HFc HT0
      have HK := Lib.hid (fun W (f : Fr [T] W2 W) => HF2.out.trans f (fun x hx hl => by simp at hx; omega))
      go_loopw [25] (fun i wr => ((i = .int .i64 0 ∧ FtAt wr T ⟨kup x0 0, numR x1, 0, numR x3, 0⟩) ∨ (i = .int .i64 1 ∧ FtAt wr T ⟨kup x0 1, numR x1, 0, numR x3, 0⟩) ∨ (i = .int .i64 2 ∧ FtAt wr T ⟨kup x0 2, numR x1, 0, numR x3, 0⟩) ∨ (i = .int .i64 3 ∧ FtAt wr T ⟨kup x0 3, numR x1, 0, numR x3, 0⟩) ∨ (i = .int .i64 4 ∧ FtAt wr T ⟨kup x0 4, numR x1, 0, numR x3, 0⟩)) ∧ Fr [T] W2 wr) (fun i _ => 4 - (intOf i).toNat)
      case atStart => exact ⟨.inl ⟨rfl, HT2.out⟩, Fr.refl _ _⟩
      case round =>
        rename_i wr
        obtain ⟨hi, hFr⟩ := hrel
        obtain ⟨s0, s1, s2, s3⟩ := HO.out wr (HK.out wr hFr)
        obtain ⟨⟨m0, m1, m2, m3⟩, hTN⟩ := HNm.out
        replace m0 := hFr.keep m0 (by simp; omega)
        replace m1 := hFr.keep m1 (by simp; omega)
        replace m2 := hFr.keep m2 (by simp; omega)
        replace m3 := hFr.keep m3 (by simp; omega)
        have HFr := Lib.hid hFr
        clear hFr hTN
        rcases hi with ⟨rfl, ht⟩ | ⟨rfl, ht⟩ | ⟨rfl, ht⟩ | ⟨rfl, ht⟩ | ⟨rfl, ht⟩
        · have z0 := ht.fz 0
          have k0 := ht.c0
          have HTj := Lib.hid ht
          clear ht
          by_cases he : x0 = wShort
          · have hq : ((bs x0).toList == (bs wShort).toList) = true := by rw [bs_eq]; exact decide_eq_true he
            have HE := Lib.hid he
            clear he
            go_wp2
            go_roundw
            case rel => exact ⟨.inr (.inl ⟨rfl, by have := HTj.out.set0 1; simp only [kup, NM, List.getD_cons_zero, List.getD_cons_succ, HE.out, if_true] at this ⊢; exact this⟩), HFr.out.setCell (fun _ => by simp) _⟩
            case measure => simp [intOf]
          · have hq : ((bs x0).toList == (bs wShort).toList) = false := by rw [bs_eq]; exact decide_eq_false he
            have HE := Lib.hid he
            clear he
            go_wp2
            go_roundw
            case rel => exact ⟨.inr (.inl ⟨rfl, by have := HTj.out; simp only [kup, NM, List.getD_cons_zero, List.getD_cons_succ, HE.out, if_false] at this ⊢; exact this⟩), HFr.out⟩
            case measure => simp [intOf]
        · have z0 := ht.fz 0
          have k0 := ht.c0
          have HTj := Lib.hid ht
          clear ht
          by_cases he : x0 = wDelay
          · have hq : ((bs x0).toList == (bs wDelay).toList) = true := by rw [bs_eq]; exact decide_eq_true he
            have HE := Lib.hid he
            clear he
            go_wp2
            go_roundw
            case rel => exact ⟨.inr (.inr (.inl ⟨rfl, by have := HTj.out.set0 2; simp only [kup, NM, List.getD_cons_zero, List.getD_cons_succ, HE.out, if_true] at this ⊢; exact this⟩)), HFr.out.setCell (fun _ => by simp) _⟩
            case measure => simp [intOf]
          · have hq : ((bs x0).toList == (bs wDelay).toList) = false := by rw [bs_eq]; exact decide_eq_false he
            have HE := Lib.hid he
            clear he
            go_wp2
            go_roundw
            case rel => exact ⟨.inr (.inr (.inl ⟨rfl, by have := HTj.out; simp only [kup, NM, List.getD_cons_zero, List.getD_cons_succ, HE.out, if_false] at this ⊢; exact this⟩)), HFr.out⟩
            case measure => simp [intOf]
        · have z0 := ht.fz 0
          have k0 := ht.c0
          have HTj := Lib.hid ht
          clear ht
          by_cases he : x0 = wFail
          · have hq : ((bs x0).toList == (bs wFail).toList) = true := by rw [bs_eq]; exact decide_eq_true he
            have HE := Lib.hid he
            clear he
            go_wp2
            go_roundw
            case rel => exact ⟨.inr (.inr (.inr (.inl ⟨rfl, by have := HTj.out.set0 3; simp only [kup, NM, List.getD_cons_zero, List.getD_cons_succ, HE.out, if_true] at this ⊢; exact this⟩))), HFr.out.setCell (fun _ => by simp) _⟩
            case measure => simp [intOf]
          · have hq : ((bs x0).toList == (bs wFail).toList) = false := by rw [bs_eq]; exact decide_eq_false he
            have HE := Lib.hid he
            clear he
            go_wp2
            go_roundw
            case rel => exact ⟨.inr (.inr (.inr (.inl ⟨rfl, by have := HTj.out; simp only [kup, NM, List.getD_cons_zero, List.getD_cons_succ, HE.out, if_false] at this ⊢; exact this⟩))), HFr.out⟩
            case measure => simp [intOf]
        · have z0 := ht.fz 0
          have k0 := ht.c0
          have HTj := Lib.hid ht
          clear ht
          by_cases he : x0 = wCut
          · have hq : ((bs x0).toList == (bs wCut).toList) = true := by rw [bs_eq]; exact decide_eq_true he
            have HE := Lib.hid he
            clear he
            go_wp2
            go_roundw
            case rel => exact ⟨.inr (.inr (.inr (.inr ⟨rfl, by have := HTj.out.set0 4; simp only [kup, NM, List.getD_cons_zero, List.getD_cons_succ, HE.out, if_true] at this ⊢; exact this⟩))), HFr.out.setCell (fun _ => by simp) _⟩
            case measure => simp [intOf]
          · have hq : ((bs x0).toList == (bs wCut).toList) = false := by rw [bs_eq]; exact decide_eq_false he
            have HE := Lib.hid he
            clear he
            go_wp2
            go_roundw
            case rel => exact ⟨.inr (.inr (.inr (.inr ⟨rfl, by have := HTj.out; simp only [kup, NM, List.getD_cons_zero, List.getD_cons_succ, HE.out, if_false] at this ⊢; exact this⟩))), HFr.out⟩
            case measure => simp [intOf]
        · rw [kup_4] at ht
          have z2 := ht.fz 2
          have z4 := ht.fz 4
          have k2 := ht.c2
          have k4 := ht.c4
          have HTj := Lib.hid ht
          clear ht m0 m1 m2 m3
          by_cases he : x2 = wWrite
          · have hq : ((bs x2).toList == [119, 114, 105, 116, 101]) = true := by
              rw [show [119, 114, 105, 116, 101] = (bs wWrite).toList from by rw [ByteArray.toList_eq, bs_list]; rfl, bs_eq]
              exact decide_eq_true he
            have hd : dirR x2 = 1 := by unfold dirR; rw [if_pos he]
            have HD := Lib.hid hd
            clear he hd
            by_cases h4 : 4 < n
            · obtain ⟨x4, hx4⟩ : ∃ x, ws[4]? = some x := ⟨_, List.getElem?_eq_getElem (by rw [HN.out]; omega)⟩
              have HN4 := Lib.hid (fun W => numberL_any x4 (by have := HWL.out x4 (List.mem_of_getElem? hx4); omega) W)
              have d4 : (4 : Int) < (n : Int) := by omega
              have s4 := HO4.out (wr.setCell ⟨T, 2, none⟩ (.int .i64 1)) (HK.out _ (HFr.out.setCell (fun _ => by simp) _)) x4 hx4
              have hg : (if 4 < n then numR (ws.getD 4 []) else 0) = numR x4 := by rw [if_pos h4, List.getD_eq_getElem?_getD, hx4]; rfl
              have HGd := Lib.hid hg
              have hx4x := hx4
              clear hx4 hg
              have s4' := HO4.out wr (HK.out _ HFr.out) x4 hx4x
              have hgT : ¬ g = T := by have := HGL.out; omega
              have hTg : ¬ T = g := by have := HGL.out; omega
              go_wp2_with (go_at_call 34; (with_reducible refine (HN4.out _).mono ?_); rintro e w' ⟨rfl, rfl⟩)
              have tf : FtAt ((wr.setCell ⟨T, 2, none⟩ (.int .i64 1)).setCell ⟨T, 4, none⟩ (.int .i64 (numR x4))) T (parR ws) := by
                rw [HP.out, HGd.out, HD.out]
                exact ((HTj.out.set2 1).set4 (numR x4))
              have ff : Fr [] w1 ((wr.setCell ⟨T, 2, none⟩ (.int .i64 1)).setCell ⟨T, 4, none⟩ (.int .i64 (numR x4))) := HK.out _ ((HFr.out.setCell (fun _ => by simp) _).setCell (fun _ => by simp) _)
              have q0 := HT.out.keep ff (by simp)
              have HTf := Lib.hid tf
              have HFf := Lib.hid ff
              have HQ0 := Lib.hid q0
              clear tf ff q0 s4 s4' hx4x hgT hTg HN4 HTj HFr HD HGd k2 k4 z2 z4 s0 s1 s2 s3 HK HF2 HT2 HNm
              generalize (wr.setCell ⟨T, 2, none⟩ (.int .i64 1)).setCell ⟨T, 4, none⟩ (.int .i64 (numR x4)) = V at HTf HFf HQ0 ⊢
              have hne : T ≠ w.heap.size := by have := HT.out.lt; omega
              have HTc := Lib.hid (fun W (f : Fr [w.heap.size] V W) => And.intro (HTf.out.keep f (by simpa using hne)).c0 (And.intro (HTf.out.keep f (by simpa using hne)).c1 (And.intro (HTf.out.keep f (by simpa using hne)).c2 (And.intro (HTf.out.keep f (by simpa using hne)).c3 (HTf.out.keep f (by simpa using hne)).c4))))
              have HQ := Lib.hid (fun W (f : Fr [] V W) => HQ0.out.keep f (by simp))
              have HV := Lib.hid (fun W => validL_any (parR ws) W)
              have FC := Lib.hid (HF.out.step HFf.out)
              have HR := Lib.hid HRP.out
              clear HRP HP HO HO4 HTf HFf HQ0 HX HT hT d0 d1 d2 d3 d4 dn0 dn1 dn2 dn3 h4
              generalize parR ws = P at *
              by_cases hok : P.ok = true
              · have hv0 : readR x = if lineB P = x ++ [10] then some P else none := by
                  rw [HR.out]
                  simp only [hok, true_and]
                have HLn := Lib.hid (fun W => lineL_any P hok W)
                rw [hok] at HV
                obtain ⟨L, hL⟩ : ∃ L, bs (lineB P) = L := ⟨_, rfl⟩
                rw [hL] at HLn
                obtain ⟨q, hqd⟩ : ∃ q, decide (lineB P = x ++ [10]) = q := ⟨_, rfl⟩
                obtain ⟨X, hX⟩ : ∃ X, X = bs x := ⟨_, rfl⟩
                have hq2 : (L.toList == (X ++ ⟨#[10]⟩ : ByteArray).toList) = q := by
                  rw [← hL, ← hqd, hX, show (⟨#[10]⟩ : ByteArray) = bs [10] from rfl, bs_append, bs_eq]
                have hzs : ¬ 9223372036854775807 < X.size + 1 := by rw [hX, bs_size]; omega
                rw [← hX]
                have hr : (readR x).isSome = q ∧ ∀ g, readR x = some g → P = g := by
                  rw [hv0]
                  by_cases h : lineB P = x ++ [10]
                  · rw [if_pos h]
                    rw [decide_eq_true h] at hqd
                    exact ⟨hqd, fun g hg => by simpa using hg⟩
                  · rw [if_neg h]
                    rw [decide_eq_false h] at hqd
                    exact ⟨hqd, fun g hg => by cases hg⟩
                have HRN := Lib.hid hr
                simp only [ftV] at HV HLn
                clear hr hok hv0 hqd hL hX HR
                refine wp_region_held_drew (S := fun w' => w'.cell? ⟨T, 0, none⟩ = some (.int .i64 P.k) ∧ w'.cell? ⟨T, 1, none⟩ = some (.int .i64 P.c) ∧ w'.cell? ⟨T, 2, none⟩ = some (.int .i64 P.d) ∧ w'.cell? ⟨T, 3, none⟩ = some (.int .i64 P.a) ∧ w'.cell? ⟨T, 4, none⟩ = some (.int .i64 P.g)) (by kernel_rfl) (HTc.out _ (fr_up (Fr.refl [] V).drew)) (fun hHeld => ?_)
                refine wpAnyH_take (i := 0) (oi := _) (v := ?_) rfl (by kernel_rfl) (by kernel_rfl) (by kernel_rfl) (fun _ _ _ h => h) (Or.inl ⟨by rfl, ?_⟩) (by assumption) ?_
                rotate_left
                · intro w hSw
                  try dsimp only at hSw
                  go_simp
                  try with_reducible rfl
                try simp only [Act.put, List.setIfInBounds_toArray, List.set_cons_zero, List.set_cons_succ]
                refine wpAnyH_take (i := 1) (oi := _) (v := ?_) rfl (by kernel_rfl) (by kernel_rfl) (by kernel_rfl) (fun _ _ _ h => h) (Or.inl ⟨by rfl, ?_⟩) (by assumption) ?_
                rotate_left
                · intro w hSw
                  try dsimp only at hSw
                  go_simp
                  try with_reducible rfl
                try simp only [Act.put, List.setIfInBounds_toArray, List.set_cons_zero, List.set_cons_succ]
                clear hHeld
                refine wpAnyH_ready (rs := [2]) (by kernel_rfl) (by simp) ?_
                refine AllReadyH.cons (o := _) rfl (fun K hK => ?_) AllReadyH.nil
                go_simp
                go_wp2_with (go_at_call 29; (with_reducible refine (HV.out _).mono ?_); rintro e w8 ⟨rfl, g8⟩; replace g8 := (Fr.refl [] V).drew.step g8)
                refine hK.out _ _ (HTc.out _ (fr_up g8)) (fun hHeld => ?_)
                clear hK K
                try simp only [Act.put, List.setIfInBounds_toArray, List.set_cons_zero, List.set_cons_succ]
                refine wpAnyH_take (i := 3) (oi := _) (v := ?_) rfl (by kernel_rfl) (by kernel_rfl) (by kernel_rfl) (fun _ _ _ h => h) (Or.inl ⟨by rfl, ?_⟩) (by assumption) ?_
                rotate_left
                · intro w hSw
                  try dsimp only at hSw
                  go_simp
                  try with_reducible rfl
                try simp only [Act.put, List.setIfInBounds_toArray, List.set_cons_zero, List.set_cons_succ]
                refine wpAnyH_take (i := 4) (oi := _) (v := ?_) rfl (by kernel_rfl) (by kernel_rfl) (by kernel_rfl) (fun _ _ _ h => h) (Or.inl ⟨by rfl, ?_⟩) (by assumption) ?_
                rotate_left
                · intro w hSw
                  try dsimp only at hSw
                  go_simp
                  try with_reducible rfl
                try simp only [Act.put, List.setIfInBounds_toArray, List.set_cons_zero, List.set_cons_succ]
                refine wpAnyH_take (i := 6) (oi := _) (v := ?_) rfl (by kernel_rfl) (by kernel_rfl) (by kernel_rfl) (fun _ _ _ h => h) (Or.inl ⟨by rfl, ?_⟩) (by assumption) ?_
                rotate_left
                · intro w hSw
                  try dsimp only at hSw
                  go_simp
                  try with_reducible rfl
                try simp only [Act.put, List.setIfInBounds_toArray, List.set_cons_zero, List.set_cons_succ]
                refine wpAnyH_take (i := 7) (oi := _) (v := ?_) rfl (by kernel_rfl) (by kernel_rfl) (by kernel_rfl) (fun _ _ _ h => h) (Or.inl ⟨by rfl, ?_⟩) (by assumption) ?_
                rotate_left
                · intro w hSw
                  try dsimp only at hSw
                  go_simp
                  try with_reducible rfl
                try simp only [Act.put, List.setIfInBounds_toArray, List.set_cons_zero, List.set_cons_succ]
                clear hHeld
                refine wpAnyH_ready (rs := [5]) (by kernel_rfl) (by simp) ?_
                refine AllReadyH.cons (o := _) rfl (fun K hK => ?_) AllReadyH.nil
                go_simp
                go_wp2_with (go_at_call 10; (with_reducible refine (HLn.out _).mono ?_); rintro e w9 ⟨rfl, g9⟩; replace g9 := g8.step g9)
                refine hK.out _ _ (HTc.out _ (fr_up g9)) (fun hHeld => ?_)
                clear hK K
                try simp only [Act.put, List.setIfInBounds_toArray, List.set_cons_zero, List.set_cons_succ]
                have q8 := HQ.out _ g9
                have k0 := q8.c0
                have k1 := q8.c1
                have k2 := q8.c2
                have k3 := q8.c3
                have k4 := q8.c4
                have z0 := q8.fz 0
                have z1 := q8.fz 1
                have z2 := q8.fz 2
                have z3 := q8.fz 3
                have z4 := q8.fz 4
                replace q8 := Lib.hid q8
                refine wpAnyH_take (i := 8) (oi := _) (v := ?_) rfl (by kernel_rfl) (by kernel_rfl) (by kernel_rfl) (fun _ _ _ h => h) (Or.inl ⟨by rfl, ?_⟩) (by assumption) ?_
                rotate_left
                · intro w hSw
                  try dsimp only at hSw
                  go_simp
                  try with_reducible rfl
                try simp only [Act.put, List.setIfInBounds_toArray, List.set_cons_zero, List.set_cons_succ]
                refine wpAnyH_take (i := 9) (oi := _) (v := ?_) rfl (by kernel_rfl) (by kernel_rfl) (by kernel_rfl) (fun _ _ _ h => h) (Or.inl ⟨by rfl, ?_⟩) (by assumption) ?_
                rotate_left
                · intro w hSw
                  try dsimp only at hSw
                  go_simp
                  try with_reducible rfl
                try simp only [Act.put, List.setIfInBounds_toArray, List.set_cons_zero, List.set_cons_succ]
                clear hHeld
                refine wpAnyH_ready (rs := [10]) (by kernel_rfl) (by simp) ?_
                refine AllReadyH.cons (o := _) rfl (fun K hK => ?_) AllReadyH.nil
                go_simp
                refine hK.out _ _ (HTc.out _ (fr_set5R (fr_up g9))) (fun hHeld => ?_)
                clear hK K
                try simp only [Act.put, List.setIfInBounds_toArray, List.set_cons_zero, List.set_cons_succ]
                clear hHeld
                refine wpAnyH_ready (rs := [11]) (by kernel_rfl) (by simp) ?_
                refine AllReadyH.cons (o := _) rfl (fun K hK => ?_) AllReadyH.nil
                go_simp
                refine hK.out _ _ (HTc.out _ (fr_set5R (fr_up g9))) (fun hHeld => ?_)
                clear hK K
                try simp only [Act.put, List.setIfInBounds_toArray, List.set_cons_zero, List.set_cons_succ]
                refine wpAnyH_done (by kernel_rfl) ?_ _
                go_wp2
                have r1 := (q8.out).setAll P
                unfold setFt at r1
                clear k0 k1 k2 k3 k4
                have m0 := r1.c0
                have m1 := r1.c1
                have m2 := r1.c2
                have m3 := r1.c3
                have m4 := r1.c4
                refine bodyPost_ret (v := .tuple #[.agg #[.int .i64 P.k, .int .i64 P.c, .int .i64 P.d, .int .i64 P.a, .int .i64 P.g], .bool q]) (by simp [results, Tryd.results12, go_sem, m0, m1, m2, m3, m4]) rfl ?_
                exact ⟨P, by rw [HRN.out.1]; rfl, HRN.out.2, fr_set5 (FC.out.step g9) (Nat.le_refl _)⟩
              · have hr : readR x = none := by rw [HR.out, if_neg (fun h => hok h.1)]
                rw [Bool.not_eq_true] at hok
                rw [hok] at HV
                have HRN := Lib.hid hr
                simp only [ftV] at HV
                clear hr hok HR
                refine wp_region_held_drew (S := fun w' => w'.cell? ⟨T, 0, none⟩ = some (.int .i64 P.k) ∧ w'.cell? ⟨T, 1, none⟩ = some (.int .i64 P.c) ∧ w'.cell? ⟨T, 2, none⟩ = some (.int .i64 P.d) ∧ w'.cell? ⟨T, 3, none⟩ = some (.int .i64 P.a) ∧ w'.cell? ⟨T, 4, none⟩ = some (.int .i64 P.g)) (by kernel_rfl) (HTc.out _ (fr_up (Fr.refl [] V).drew)) (fun hHeld => ?_)
                refine wpAnyH_take (i := 0) (oi := _) (v := ?_) rfl (by kernel_rfl) (by kernel_rfl) (by kernel_rfl) (fun _ _ _ h => h) (Or.inl ⟨by rfl, ?_⟩) (by assumption) ?_
                rotate_left
                · intro w hSw
                  try dsimp only at hSw
                  go_simp
                  try with_reducible rfl
                try simp only [Act.put, List.setIfInBounds_toArray, List.set_cons_zero, List.set_cons_succ]
                refine wpAnyH_take (i := 1) (oi := _) (v := ?_) rfl (by kernel_rfl) (by kernel_rfl) (by kernel_rfl) (fun _ _ _ h => h) (Or.inl ⟨by rfl, ?_⟩) (by assumption) ?_
                rotate_left
                · intro w hSw
                  try dsimp only at hSw
                  go_simp
                  try with_reducible rfl
                try simp only [Act.put, List.setIfInBounds_toArray, List.set_cons_zero, List.set_cons_succ]
                clear hHeld
                refine wpAnyH_ready (rs := [2]) (by kernel_rfl) (by simp) ?_
                refine AllReadyH.cons (o := _) rfl (fun K hK => ?_) AllReadyH.nil
                go_simp
                go_wp2_with (go_at_call 29; (with_reducible refine (HV.out _).mono ?_); rintro e w8 ⟨rfl, g8⟩; replace g8 := (Fr.refl [] V).drew.step g8)
                refine hK.out _ _ (HTc.out _ (fr_up g8)) (fun hHeld => ?_)
                clear hK K
                try simp only [Act.put, List.setIfInBounds_toArray, List.set_cons_zero, List.set_cons_succ]
                have q8 := HQ.out _ g8
                have k0 := q8.c0
                have k1 := q8.c1
                have k2 := q8.c2
                have k3 := q8.c3
                have k4 := q8.c4
                have z0 := q8.fz 0
                have z1 := q8.fz 1
                have z2 := q8.fz 2
                have z3 := q8.fz 3
                have z4 := q8.fz 4
                replace q8 := Lib.hid q8
                refine wpAnyH_take (i := 3) (oi := _) (v := ?_) rfl (by kernel_rfl) (by kernel_rfl) (by kernel_rfl) (fun _ _ _ h => h) (Or.inl ⟨by rfl, ?_⟩) (by assumption) ?_
                rotate_left
                · intro w hSw
                  try dsimp only at hSw
                  go_simp
                  try with_reducible rfl
                try simp only [Act.put, List.setIfInBounds_toArray, List.set_cons_zero, List.set_cons_succ]
                refine wpAnyH_take (i := 4) (oi := _) (v := undef) rfl (by kernel_rfl) (by kernel_rfl) (by kernel_rfl) (fun _ _ _ h => h) (Or.inr ⟨by rfl, rfl⟩) (by assumption) ?_
                try simp only [Act.put, List.setIfInBounds_toArray, List.set_cons_zero, List.set_cons_succ]
                refine wpAnyH_take (i := 6) (oi := _) (v := undef) rfl (by kernel_rfl) (by kernel_rfl) (by kernel_rfl) (fun _ _ _ h => h) (Or.inr ⟨by rfl, rfl⟩) (by assumption) ?_
                try simp only [Act.put, List.setIfInBounds_toArray, List.set_cons_zero, List.set_cons_succ]
                refine wpAnyH_take (i := 7) (oi := _) (v := undef) rfl (by kernel_rfl) (by kernel_rfl) (by kernel_rfl) (fun _ _ _ h => h) (Or.inr ⟨by rfl, rfl⟩) (by assumption) ?_
                try simp only [Act.put, List.setIfInBounds_toArray, List.set_cons_zero, List.set_cons_succ]
                refine wpAnyH_take (i := 5) (oi := _) (v := undef) rfl (by kernel_rfl) (by kernel_rfl) (by kernel_rfl) (fun _ _ _ h => h) (Or.inr ⟨by rfl, rfl⟩) (by assumption) ?_
                try simp only [Act.put, List.setIfInBounds_toArray, List.set_cons_zero, List.set_cons_succ]
                refine wpAnyH_take (i := 8) (oi := _) (v := undef) rfl (by kernel_rfl) (by kernel_rfl) (by kernel_rfl) (fun _ _ _ h => h) (Or.inr ⟨by rfl, rfl⟩) (by assumption) ?_
                try simp only [Act.put, List.setIfInBounds_toArray, List.set_cons_zero, List.set_cons_succ]
                refine wpAnyH_take (i := 9) (oi := _) (v := ?_) rfl (by kernel_rfl) (by kernel_rfl) (by kernel_rfl) (fun _ _ _ h => h) (Or.inl ⟨by rfl, ?_⟩) (by assumption) ?_
                rotate_left
                · intro w hSw
                  try dsimp only at hSw
                  go_simp
                  try with_reducible rfl
                try simp only [Act.put, List.setIfInBounds_toArray, List.set_cons_zero, List.set_cons_succ]
                clear hHeld
                refine wpAnyH_ready (rs := [10]) (by kernel_rfl) (by simp) ?_
                refine AllReadyH.cons (o := _) rfl (fun K hK => ?_) AllReadyH.nil
                go_simp
                refine hK.out _ _ (HTc.out _ (fr_set5R (fr_up g8))) (fun hHeld => ?_)
                clear hK K
                try simp only [Act.put, List.setIfInBounds_toArray, List.set_cons_zero, List.set_cons_succ]
                clear hHeld
                refine wpAnyH_ready (rs := [11]) (by kernel_rfl) (by simp) ?_
                refine AllReadyH.cons (o := _) rfl (fun K hK => ?_) AllReadyH.nil
                go_simp
                refine hK.out _ _ (HTc.out _ (fr_set5R (fr_up g8))) (fun hHeld => ?_)
                clear hK K
                try simp only [Act.put, List.setIfInBounds_toArray, List.set_cons_zero, List.set_cons_succ]
                refine wpAnyH_done (by kernel_rfl) ?_ _
                go_wp2
                have r1 := (q8.out).setAll P
                unfold setFt at r1
                clear k0 k1 k2 k3 k4
                have m0 := r1.c0
                have m1 := r1.c1
                have m2 := r1.c2
                have m3 := r1.c3
                have m4 := r1.c4
                refine bodyPost_ret (v := .tuple #[.agg #[.int .i64 P.k, .int .i64 P.c, .int .i64 P.d, .int .i64 P.a, .int .i64 P.g], .bool false]) (by simp [results, Tryd.results12, go_sem, m0, m1, m2, m3, m4]) rfl ?_
                exact ⟨P, by rw [HRN.out]; rfl, (fun g h => by rw [HRN.out] at h; cases h), fr_set5 (FC.out.step g8) (Nat.le_refl _)⟩
            · have d4 : ¬ (4 : Int) < (n : Int) := by omega
              have HGd := Lib.hid (show (if 4 < n then numR (ws.getD 4 []) else 0) = 0 from if_neg h4)
              go_wp2
              have tf : FtAt (wr.setCell ⟨T, 2, none⟩ (.int .i64 1)) T (parR ws) := by
                rw [HP.out, HGd.out, HD.out]
                exact (HTj.out.set2 1)
              have ff : Fr [] w1 (wr.setCell ⟨T, 2, none⟩ (.int .i64 1)) := HK.out _ (HFr.out.setCell (fun _ => by simp) _)
              have q0 := HT.out.keep ff (by simp)
              have HTf := Lib.hid tf
              have HFf := Lib.hid ff
              have HQ0 := Lib.hid q0
              clear tf ff q0 HTj HFr HD HGd k2 k4 z2 z4 s0 s1 s2 s3 HK HF2 HT2 HNm
              generalize wr.setCell ⟨T, 2, none⟩ (.int .i64 1) = V at HTf HFf HQ0 ⊢
              have hne : T ≠ w.heap.size := by have := HT.out.lt; omega
              have HTc := Lib.hid (fun W (f : Fr [w.heap.size] V W) => And.intro (HTf.out.keep f (by simpa using hne)).c0 (And.intro (HTf.out.keep f (by simpa using hne)).c1 (And.intro (HTf.out.keep f (by simpa using hne)).c2 (And.intro (HTf.out.keep f (by simpa using hne)).c3 (HTf.out.keep f (by simpa using hne)).c4))))
              have HQ := Lib.hid (fun W (f : Fr [] V W) => HQ0.out.keep f (by simp))
              have HV := Lib.hid (fun W => validL_any (parR ws) W)
              have FC := Lib.hid (HF.out.step HFf.out)
              have HR := Lib.hid HRP.out
              clear HRP HP HO HO4 HTf HFf HQ0 HX HT hT d0 d1 d2 d3 d4 dn0 dn1 dn2 dn3 h4
              generalize parR ws = P at *
              by_cases hok : P.ok = true
              · have hv0 : readR x = if lineB P = x ++ [10] then some P else none := by
                  rw [HR.out]
                  simp only [hok, true_and]
                have HLn := Lib.hid (fun W => lineL_any P hok W)
                rw [hok] at HV
                obtain ⟨L, hL⟩ : ∃ L, bs (lineB P) = L := ⟨_, rfl⟩
                rw [hL] at HLn
                obtain ⟨q, hqd⟩ : ∃ q, decide (lineB P = x ++ [10]) = q := ⟨_, rfl⟩
                obtain ⟨X, hX⟩ : ∃ X, X = bs x := ⟨_, rfl⟩
                have hq2 : (L.toList == (X ++ ⟨#[10]⟩ : ByteArray).toList) = q := by
                  rw [← hL, ← hqd, hX, show (⟨#[10]⟩ : ByteArray) = bs [10] from rfl, bs_append, bs_eq]
                have hzs : ¬ 9223372036854775807 < X.size + 1 := by rw [hX, bs_size]; omega
                rw [← hX]
                have hr : (readR x).isSome = q ∧ ∀ g, readR x = some g → P = g := by
                  rw [hv0]
                  by_cases h : lineB P = x ++ [10]
                  · rw [if_pos h]
                    rw [decide_eq_true h] at hqd
                    exact ⟨hqd, fun g hg => by simpa using hg⟩
                  · rw [if_neg h]
                    rw [decide_eq_false h] at hqd
                    exact ⟨hqd, fun g hg => by cases hg⟩
                have HRN := Lib.hid hr
                simp only [ftV] at HV HLn
                clear hr hok hv0 hqd hL hX HR
                refine wp_region_held_drew (S := fun w' => w'.cell? ⟨T, 0, none⟩ = some (.int .i64 P.k) ∧ w'.cell? ⟨T, 1, none⟩ = some (.int .i64 P.c) ∧ w'.cell? ⟨T, 2, none⟩ = some (.int .i64 P.d) ∧ w'.cell? ⟨T, 3, none⟩ = some (.int .i64 P.a) ∧ w'.cell? ⟨T, 4, none⟩ = some (.int .i64 P.g)) (by kernel_rfl) (HTc.out _ (fr_up (Fr.refl [] V).drew)) (fun hHeld => ?_)
                refine wpAnyH_take (i := 0) (oi := _) (v := ?_) rfl (by kernel_rfl) (by kernel_rfl) (by kernel_rfl) (fun _ _ _ h => h) (Or.inl ⟨by rfl, ?_⟩) (by assumption) ?_
                rotate_left
                · intro w hSw
                  try dsimp only at hSw
                  go_simp
                  try with_reducible rfl
                try simp only [Act.put, List.setIfInBounds_toArray, List.set_cons_zero, List.set_cons_succ]
                refine wpAnyH_take (i := 1) (oi := _) (v := ?_) rfl (by kernel_rfl) (by kernel_rfl) (by kernel_rfl) (fun _ _ _ h => h) (Or.inl ⟨by rfl, ?_⟩) (by assumption) ?_
                rotate_left
                · intro w hSw
                  try dsimp only at hSw
                  go_simp
                  try with_reducible rfl
                try simp only [Act.put, List.setIfInBounds_toArray, List.set_cons_zero, List.set_cons_succ]
                clear hHeld
                refine wpAnyH_ready (rs := [2]) (by kernel_rfl) (by simp) ?_
                refine AllReadyH.cons (o := _) rfl (fun K hK => ?_) AllReadyH.nil
                go_simp
                go_wp2_with (go_at_call 29; (with_reducible refine (HV.out _).mono ?_); rintro e w8 ⟨rfl, g8⟩; replace g8 := (Fr.refl [] V).drew.step g8)
                refine hK.out _ _ (HTc.out _ (fr_up g8)) (fun hHeld => ?_)
                clear hK K
                try simp only [Act.put, List.setIfInBounds_toArray, List.set_cons_zero, List.set_cons_succ]
                refine wpAnyH_take (i := 3) (oi := _) (v := ?_) rfl (by kernel_rfl) (by kernel_rfl) (by kernel_rfl) (fun _ _ _ h => h) (Or.inl ⟨by rfl, ?_⟩) (by assumption) ?_
                rotate_left
                · intro w hSw
                  try dsimp only at hSw
                  go_simp
                  try with_reducible rfl
                try simp only [Act.put, List.setIfInBounds_toArray, List.set_cons_zero, List.set_cons_succ]
                refine wpAnyH_take (i := 4) (oi := _) (v := ?_) rfl (by kernel_rfl) (by kernel_rfl) (by kernel_rfl) (fun _ _ _ h => h) (Or.inl ⟨by rfl, ?_⟩) (by assumption) ?_
                rotate_left
                · intro w hSw
                  try dsimp only at hSw
                  go_simp
                  try with_reducible rfl
                try simp only [Act.put, List.setIfInBounds_toArray, List.set_cons_zero, List.set_cons_succ]
                refine wpAnyH_take (i := 6) (oi := _) (v := ?_) rfl (by kernel_rfl) (by kernel_rfl) (by kernel_rfl) (fun _ _ _ h => h) (Or.inl ⟨by rfl, ?_⟩) (by assumption) ?_
                rotate_left
                · intro w hSw
                  try dsimp only at hSw
                  go_simp
                  try with_reducible rfl
                try simp only [Act.put, List.setIfInBounds_toArray, List.set_cons_zero, List.set_cons_succ]
                refine wpAnyH_take (i := 7) (oi := _) (v := ?_) rfl (by kernel_rfl) (by kernel_rfl) (by kernel_rfl) (fun _ _ _ h => h) (Or.inl ⟨by rfl, ?_⟩) (by assumption) ?_
                rotate_left
                · intro w hSw
                  try dsimp only at hSw
                  go_simp
                  try with_reducible rfl
                try simp only [Act.put, List.setIfInBounds_toArray, List.set_cons_zero, List.set_cons_succ]
                clear hHeld
                refine wpAnyH_ready (rs := [5]) (by kernel_rfl) (by simp) ?_
                refine AllReadyH.cons (o := _) rfl (fun K hK => ?_) AllReadyH.nil
                go_simp
                go_wp2_with (go_at_call 10; (with_reducible refine (HLn.out _).mono ?_); rintro e w9 ⟨rfl, g9⟩; replace g9 := g8.step g9)
                refine hK.out _ _ (HTc.out _ (fr_up g9)) (fun hHeld => ?_)
                clear hK K
                try simp only [Act.put, List.setIfInBounds_toArray, List.set_cons_zero, List.set_cons_succ]
                have q8 := HQ.out _ g9
                have k0 := q8.c0
                have k1 := q8.c1
                have k2 := q8.c2
                have k3 := q8.c3
                have k4 := q8.c4
                have z0 := q8.fz 0
                have z1 := q8.fz 1
                have z2 := q8.fz 2
                have z3 := q8.fz 3
                have z4 := q8.fz 4
                replace q8 := Lib.hid q8
                refine wpAnyH_take (i := 8) (oi := _) (v := ?_) rfl (by kernel_rfl) (by kernel_rfl) (by kernel_rfl) (fun _ _ _ h => h) (Or.inl ⟨by rfl, ?_⟩) (by assumption) ?_
                rotate_left
                · intro w hSw
                  try dsimp only at hSw
                  go_simp
                  try with_reducible rfl
                try simp only [Act.put, List.setIfInBounds_toArray, List.set_cons_zero, List.set_cons_succ]
                refine wpAnyH_take (i := 9) (oi := _) (v := ?_) rfl (by kernel_rfl) (by kernel_rfl) (by kernel_rfl) (fun _ _ _ h => h) (Or.inl ⟨by rfl, ?_⟩) (by assumption) ?_
                rotate_left
                · intro w hSw
                  try dsimp only at hSw
                  go_simp
                  try with_reducible rfl
                try simp only [Act.put, List.setIfInBounds_toArray, List.set_cons_zero, List.set_cons_succ]
                clear hHeld
                refine wpAnyH_ready (rs := [10]) (by kernel_rfl) (by simp) ?_
                refine AllReadyH.cons (o := _) rfl (fun K hK => ?_) AllReadyH.nil
                go_simp
                refine hK.out _ _ (HTc.out _ (fr_set5R (fr_up g9))) (fun hHeld => ?_)
                clear hK K
                try simp only [Act.put, List.setIfInBounds_toArray, List.set_cons_zero, List.set_cons_succ]
                clear hHeld
                refine wpAnyH_ready (rs := [11]) (by kernel_rfl) (by simp) ?_
                refine AllReadyH.cons (o := _) rfl (fun K hK => ?_) AllReadyH.nil
                go_simp
                refine hK.out _ _ (HTc.out _ (fr_set5R (fr_up g9))) (fun hHeld => ?_)
                clear hK K
                try simp only [Act.put, List.setIfInBounds_toArray, List.set_cons_zero, List.set_cons_succ]
                refine wpAnyH_done (by kernel_rfl) ?_ _
                go_wp2
                have r1 := (q8.out).setAll P
                unfold setFt at r1
                clear k0 k1 k2 k3 k4
                have m0 := r1.c0
                have m1 := r1.c1
                have m2 := r1.c2
                have m3 := r1.c3
                have m4 := r1.c4
                refine bodyPost_ret (v := .tuple #[.agg #[.int .i64 P.k, .int .i64 P.c, .int .i64 P.d, .int .i64 P.a, .int .i64 P.g], .bool q]) (by simp [results, Tryd.results12, go_sem, m0, m1, m2, m3, m4]) rfl ?_
                exact ⟨P, by rw [HRN.out.1]; rfl, HRN.out.2, fr_set5 (FC.out.step g9) (Nat.le_refl _)⟩
              · have hr : readR x = none := by rw [HR.out, if_neg (fun h => hok h.1)]
                rw [Bool.not_eq_true] at hok
                rw [hok] at HV
                have HRN := Lib.hid hr
                simp only [ftV] at HV
                clear hr hok HR
                refine wp_region_held_drew (S := fun w' => w'.cell? ⟨T, 0, none⟩ = some (.int .i64 P.k) ∧ w'.cell? ⟨T, 1, none⟩ = some (.int .i64 P.c) ∧ w'.cell? ⟨T, 2, none⟩ = some (.int .i64 P.d) ∧ w'.cell? ⟨T, 3, none⟩ = some (.int .i64 P.a) ∧ w'.cell? ⟨T, 4, none⟩ = some (.int .i64 P.g)) (by kernel_rfl) (HTc.out _ (fr_up (Fr.refl [] V).drew)) (fun hHeld => ?_)
                refine wpAnyH_take (i := 0) (oi := _) (v := ?_) rfl (by kernel_rfl) (by kernel_rfl) (by kernel_rfl) (fun _ _ _ h => h) (Or.inl ⟨by rfl, ?_⟩) (by assumption) ?_
                rotate_left
                · intro w hSw
                  try dsimp only at hSw
                  go_simp
                  try with_reducible rfl
                try simp only [Act.put, List.setIfInBounds_toArray, List.set_cons_zero, List.set_cons_succ]
                refine wpAnyH_take (i := 1) (oi := _) (v := ?_) rfl (by kernel_rfl) (by kernel_rfl) (by kernel_rfl) (fun _ _ _ h => h) (Or.inl ⟨by rfl, ?_⟩) (by assumption) ?_
                rotate_left
                · intro w hSw
                  try dsimp only at hSw
                  go_simp
                  try with_reducible rfl
                try simp only [Act.put, List.setIfInBounds_toArray, List.set_cons_zero, List.set_cons_succ]
                clear hHeld
                refine wpAnyH_ready (rs := [2]) (by kernel_rfl) (by simp) ?_
                refine AllReadyH.cons (o := _) rfl (fun K hK => ?_) AllReadyH.nil
                go_simp
                go_wp2_with (go_at_call 29; (with_reducible refine (HV.out _).mono ?_); rintro e w8 ⟨rfl, g8⟩; replace g8 := (Fr.refl [] V).drew.step g8)
                refine hK.out _ _ (HTc.out _ (fr_up g8)) (fun hHeld => ?_)
                clear hK K
                try simp only [Act.put, List.setIfInBounds_toArray, List.set_cons_zero, List.set_cons_succ]
                have q8 := HQ.out _ g8
                have k0 := q8.c0
                have k1 := q8.c1
                have k2 := q8.c2
                have k3 := q8.c3
                have k4 := q8.c4
                have z0 := q8.fz 0
                have z1 := q8.fz 1
                have z2 := q8.fz 2
                have z3 := q8.fz 3
                have z4 := q8.fz 4
                replace q8 := Lib.hid q8
                refine wpAnyH_take (i := 3) (oi := _) (v := ?_) rfl (by kernel_rfl) (by kernel_rfl) (by kernel_rfl) (fun _ _ _ h => h) (Or.inl ⟨by rfl, ?_⟩) (by assumption) ?_
                rotate_left
                · intro w hSw
                  try dsimp only at hSw
                  go_simp
                  try with_reducible rfl
                try simp only [Act.put, List.setIfInBounds_toArray, List.set_cons_zero, List.set_cons_succ]
                refine wpAnyH_take (i := 4) (oi := _) (v := undef) rfl (by kernel_rfl) (by kernel_rfl) (by kernel_rfl) (fun _ _ _ h => h) (Or.inr ⟨by rfl, rfl⟩) (by assumption) ?_
                try simp only [Act.put, List.setIfInBounds_toArray, List.set_cons_zero, List.set_cons_succ]
                refine wpAnyH_take (i := 6) (oi := _) (v := undef) rfl (by kernel_rfl) (by kernel_rfl) (by kernel_rfl) (fun _ _ _ h => h) (Or.inr ⟨by rfl, rfl⟩) (by assumption) ?_
                try simp only [Act.put, List.setIfInBounds_toArray, List.set_cons_zero, List.set_cons_succ]
                refine wpAnyH_take (i := 7) (oi := _) (v := undef) rfl (by kernel_rfl) (by kernel_rfl) (by kernel_rfl) (fun _ _ _ h => h) (Or.inr ⟨by rfl, rfl⟩) (by assumption) ?_
                try simp only [Act.put, List.setIfInBounds_toArray, List.set_cons_zero, List.set_cons_succ]
                refine wpAnyH_take (i := 5) (oi := _) (v := undef) rfl (by kernel_rfl) (by kernel_rfl) (by kernel_rfl) (fun _ _ _ h => h) (Or.inr ⟨by rfl, rfl⟩) (by assumption) ?_
                try simp only [Act.put, List.setIfInBounds_toArray, List.set_cons_zero, List.set_cons_succ]
                refine wpAnyH_take (i := 8) (oi := _) (v := undef) rfl (by kernel_rfl) (by kernel_rfl) (by kernel_rfl) (fun _ _ _ h => h) (Or.inr ⟨by rfl, rfl⟩) (by assumption) ?_
                try simp only [Act.put, List.setIfInBounds_toArray, List.set_cons_zero, List.set_cons_succ]
                refine wpAnyH_take (i := 9) (oi := _) (v := ?_) rfl (by kernel_rfl) (by kernel_rfl) (by kernel_rfl) (fun _ _ _ h => h) (Or.inl ⟨by rfl, ?_⟩) (by assumption) ?_
                rotate_left
                · intro w hSw
                  try dsimp only at hSw
                  go_simp
                  try with_reducible rfl
                try simp only [Act.put, List.setIfInBounds_toArray, List.set_cons_zero, List.set_cons_succ]
                clear hHeld
                refine wpAnyH_ready (rs := [10]) (by kernel_rfl) (by simp) ?_
                refine AllReadyH.cons (o := _) rfl (fun K hK => ?_) AllReadyH.nil
                go_simp
                refine hK.out _ _ (HTc.out _ (fr_set5R (fr_up g8))) (fun hHeld => ?_)
                clear hK K
                try simp only [Act.put, List.setIfInBounds_toArray, List.set_cons_zero, List.set_cons_succ]
                clear hHeld
                refine wpAnyH_ready (rs := [11]) (by kernel_rfl) (by simp) ?_
                refine AllReadyH.cons (o := _) rfl (fun K hK => ?_) AllReadyH.nil
                go_simp
                refine hK.out _ _ (HTc.out _ (fr_set5R (fr_up g8))) (fun hHeld => ?_)
                clear hK K
                try simp only [Act.put, List.setIfInBounds_toArray, List.set_cons_zero, List.set_cons_succ]
                refine wpAnyH_done (by kernel_rfl) ?_ _
                go_wp2
                have r1 := (q8.out).setAll P
                unfold setFt at r1
                clear k0 k1 k2 k3 k4
                have m0 := r1.c0
                have m1 := r1.c1
                have m2 := r1.c2
                have m3 := r1.c3
                have m4 := r1.c4
                refine bodyPost_ret (v := .tuple #[.agg #[.int .i64 P.k, .int .i64 P.c, .int .i64 P.d, .int .i64 P.a, .int .i64 P.g], .bool false]) (by simp [results, Tryd.results12, go_sem, m0, m1, m2, m3, m4]) rfl ?_
                exact ⟨P, by rw [HRN.out]; rfl, (fun g h => by rw [HRN.out] at h; cases h), fr_set5 (FC.out.step g8) (Nat.le_refl _)⟩
          · have hq : ((bs x2).toList == [119, 114, 105, 116, 101]) = false := by
              rw [show [119, 114, 105, 116, 101] = (bs wWrite).toList from by rw [ByteArray.toList_eq, bs_list]; rfl, bs_eq]
              exact decide_eq_false he
            have hd : dirR x2 = 0 := by unfold dirR; rw [if_neg he]
            have HD := Lib.hid hd
            clear he hd
            by_cases h4 : 4 < n
            · obtain ⟨x4, hx4⟩ : ∃ x, ws[4]? = some x := ⟨_, List.getElem?_eq_getElem (by rw [HN.out]; omega)⟩
              have HN4 := Lib.hid (fun W => numberL_any x4 (by have := HWL.out x4 (List.mem_of_getElem? hx4); omega) W)
              have d4 : (4 : Int) < (n : Int) := by omega
              have s4 := HO4.out (wr) (HK.out _ HFr.out) x4 hx4
              have hg : (if 4 < n then numR (ws.getD 4 []) else 0) = numR x4 := by rw [if_pos h4, List.getD_eq_getElem?_getD, hx4]; rfl
              have HGd := Lib.hid hg
              have hx4x := hx4
              clear hx4 hg
              have s4' := HO4.out wr (HK.out _ HFr.out) x4 hx4x
              have hgT : ¬ g = T := by have := HGL.out; omega
              have hTg : ¬ T = g := by have := HGL.out; omega
              go_wp2_with (go_at_call 34; (with_reducible refine (HN4.out _).mono ?_); rintro e w' ⟨rfl, rfl⟩)
              have tf : FtAt ((wr).setCell ⟨T, 4, none⟩ (.int .i64 (numR x4))) T (parR ws) := by
                rw [HP.out, HGd.out, HD.out]
                exact (HTj.out.set4 (numR x4))
              have ff : Fr [] w1 ((wr).setCell ⟨T, 4, none⟩ (.int .i64 (numR x4))) := HK.out _ (HFr.out.setCell (fun _ => by simp) _)
              have q0 := HT.out.keep ff (by simp)
              have HTf := Lib.hid tf
              have HFf := Lib.hid ff
              have HQ0 := Lib.hid q0
              clear tf ff q0 s4 s4' hx4x hgT hTg HN4 HTj HFr HD HGd k2 k4 z2 z4 s0 s1 s2 s3 HK HF2 HT2 HNm
              generalize (wr).setCell ⟨T, 4, none⟩ (.int .i64 (numR x4)) = V at HTf HFf HQ0 ⊢
              have hne : T ≠ w.heap.size := by have := HT.out.lt; omega
              have HTc := Lib.hid (fun W (f : Fr [w.heap.size] V W) => And.intro (HTf.out.keep f (by simpa using hne)).c0 (And.intro (HTf.out.keep f (by simpa using hne)).c1 (And.intro (HTf.out.keep f (by simpa using hne)).c2 (And.intro (HTf.out.keep f (by simpa using hne)).c3 (HTf.out.keep f (by simpa using hne)).c4))))
              have HQ := Lib.hid (fun W (f : Fr [] V W) => HQ0.out.keep f (by simp))
              have HV := Lib.hid (fun W => validL_any (parR ws) W)
              have FC := Lib.hid (HF.out.step HFf.out)
              have HR := Lib.hid HRP.out
              clear HRP HP HO HO4 HTf HFf HQ0 HX HT hT d0 d1 d2 d3 d4 dn0 dn1 dn2 dn3 h4
              generalize parR ws = P at *
              by_cases hok : P.ok = true
              · have hv0 : readR x = if lineB P = x ++ [10] then some P else none := by
                  rw [HR.out]
                  simp only [hok, true_and]
                have HLn := Lib.hid (fun W => lineL_any P hok W)
                rw [hok] at HV
                obtain ⟨L, hL⟩ : ∃ L, bs (lineB P) = L := ⟨_, rfl⟩
                rw [hL] at HLn
                obtain ⟨q, hqd⟩ : ∃ q, decide (lineB P = x ++ [10]) = q := ⟨_, rfl⟩
                obtain ⟨X, hX⟩ : ∃ X, X = bs x := ⟨_, rfl⟩
                have hq2 : (L.toList == (X ++ ⟨#[10]⟩ : ByteArray).toList) = q := by
                  rw [← hL, ← hqd, hX, show (⟨#[10]⟩ : ByteArray) = bs [10] from rfl, bs_append, bs_eq]
                have hzs : ¬ 9223372036854775807 < X.size + 1 := by rw [hX, bs_size]; omega
                rw [← hX]
                have hr : (readR x).isSome = q ∧ ∀ g, readR x = some g → P = g := by
                  rw [hv0]
                  by_cases h : lineB P = x ++ [10]
                  · rw [if_pos h]
                    rw [decide_eq_true h] at hqd
                    exact ⟨hqd, fun g hg => by simpa using hg⟩
                  · rw [if_neg h]
                    rw [decide_eq_false h] at hqd
                    exact ⟨hqd, fun g hg => by cases hg⟩
                have HRN := Lib.hid hr
                simp only [ftV] at HV HLn
                clear hr hok hv0 hqd hL hX HR
                refine wp_region_held_drew (S := fun w' => w'.cell? ⟨T, 0, none⟩ = some (.int .i64 P.k) ∧ w'.cell? ⟨T, 1, none⟩ = some (.int .i64 P.c) ∧ w'.cell? ⟨T, 2, none⟩ = some (.int .i64 P.d) ∧ w'.cell? ⟨T, 3, none⟩ = some (.int .i64 P.a) ∧ w'.cell? ⟨T, 4, none⟩ = some (.int .i64 P.g)) (by kernel_rfl) (HTc.out _ (fr_up (Fr.refl [] V).drew)) (fun hHeld => ?_)
                refine wpAnyH_take (i := 0) (oi := _) (v := ?_) rfl (by kernel_rfl) (by kernel_rfl) (by kernel_rfl) (fun _ _ _ h => h) (Or.inl ⟨by rfl, ?_⟩) (by assumption) ?_
                rotate_left
                · intro w hSw
                  try dsimp only at hSw
                  go_simp
                  try with_reducible rfl
                try simp only [Act.put, List.setIfInBounds_toArray, List.set_cons_zero, List.set_cons_succ]
                refine wpAnyH_take (i := 1) (oi := _) (v := ?_) rfl (by kernel_rfl) (by kernel_rfl) (by kernel_rfl) (fun _ _ _ h => h) (Or.inl ⟨by rfl, ?_⟩) (by assumption) ?_
                rotate_left
                · intro w hSw
                  try dsimp only at hSw
                  go_simp
                  try with_reducible rfl
                try simp only [Act.put, List.setIfInBounds_toArray, List.set_cons_zero, List.set_cons_succ]
                clear hHeld
                refine wpAnyH_ready (rs := [2]) (by kernel_rfl) (by simp) ?_
                refine AllReadyH.cons (o := _) rfl (fun K hK => ?_) AllReadyH.nil
                go_simp
                go_wp2_with (go_at_call 29; (with_reducible refine (HV.out _).mono ?_); rintro e w8 ⟨rfl, g8⟩; replace g8 := (Fr.refl [] V).drew.step g8)
                refine hK.out _ _ (HTc.out _ (fr_up g8)) (fun hHeld => ?_)
                clear hK K
                try simp only [Act.put, List.setIfInBounds_toArray, List.set_cons_zero, List.set_cons_succ]
                refine wpAnyH_take (i := 3) (oi := _) (v := ?_) rfl (by kernel_rfl) (by kernel_rfl) (by kernel_rfl) (fun _ _ _ h => h) (Or.inl ⟨by rfl, ?_⟩) (by assumption) ?_
                rotate_left
                · intro w hSw
                  try dsimp only at hSw
                  go_simp
                  try with_reducible rfl
                try simp only [Act.put, List.setIfInBounds_toArray, List.set_cons_zero, List.set_cons_succ]
                refine wpAnyH_take (i := 4) (oi := _) (v := ?_) rfl (by kernel_rfl) (by kernel_rfl) (by kernel_rfl) (fun _ _ _ h => h) (Or.inl ⟨by rfl, ?_⟩) (by assumption) ?_
                rotate_left
                · intro w hSw
                  try dsimp only at hSw
                  go_simp
                  try with_reducible rfl
                try simp only [Act.put, List.setIfInBounds_toArray, List.set_cons_zero, List.set_cons_succ]
                refine wpAnyH_take (i := 6) (oi := _) (v := ?_) rfl (by kernel_rfl) (by kernel_rfl) (by kernel_rfl) (fun _ _ _ h => h) (Or.inl ⟨by rfl, ?_⟩) (by assumption) ?_
                rotate_left
                · intro w hSw
                  try dsimp only at hSw
                  go_simp
                  try with_reducible rfl
                try simp only [Act.put, List.setIfInBounds_toArray, List.set_cons_zero, List.set_cons_succ]
                refine wpAnyH_take (i := 7) (oi := _) (v := ?_) rfl (by kernel_rfl) (by kernel_rfl) (by kernel_rfl) (fun _ _ _ h => h) (Or.inl ⟨by rfl, ?_⟩) (by assumption) ?_
                rotate_left
                · intro w hSw
                  try dsimp only at hSw
                  go_simp
                  try with_reducible rfl
                try simp only [Act.put, List.setIfInBounds_toArray, List.set_cons_zero, List.set_cons_succ]
                clear hHeld
                refine wpAnyH_ready (rs := [5]) (by kernel_rfl) (by simp) ?_
                refine AllReadyH.cons (o := _) rfl (fun K hK => ?_) AllReadyH.nil
                go_simp
                go_wp2_with (go_at_call 10; (with_reducible refine (HLn.out _).mono ?_); rintro e w9 ⟨rfl, g9⟩; replace g9 := g8.step g9)
                refine hK.out _ _ (HTc.out _ (fr_up g9)) (fun hHeld => ?_)
                clear hK K
                try simp only [Act.put, List.setIfInBounds_toArray, List.set_cons_zero, List.set_cons_succ]
                have q8 := HQ.out _ g9
                have k0 := q8.c0
                have k1 := q8.c1
                have k2 := q8.c2
                have k3 := q8.c3
                have k4 := q8.c4
                have z0 := q8.fz 0
                have z1 := q8.fz 1
                have z2 := q8.fz 2
                have z3 := q8.fz 3
                have z4 := q8.fz 4
                replace q8 := Lib.hid q8
                refine wpAnyH_take (i := 8) (oi := _) (v := ?_) rfl (by kernel_rfl) (by kernel_rfl) (by kernel_rfl) (fun _ _ _ h => h) (Or.inl ⟨by rfl, ?_⟩) (by assumption) ?_
                rotate_left
                · intro w hSw
                  try dsimp only at hSw
                  go_simp
                  try with_reducible rfl
                try simp only [Act.put, List.setIfInBounds_toArray, List.set_cons_zero, List.set_cons_succ]
                refine wpAnyH_take (i := 9) (oi := _) (v := ?_) rfl (by kernel_rfl) (by kernel_rfl) (by kernel_rfl) (fun _ _ _ h => h) (Or.inl ⟨by rfl, ?_⟩) (by assumption) ?_
                rotate_left
                · intro w hSw
                  try dsimp only at hSw
                  go_simp
                  try with_reducible rfl
                try simp only [Act.put, List.setIfInBounds_toArray, List.set_cons_zero, List.set_cons_succ]
                clear hHeld
                refine wpAnyH_ready (rs := [10]) (by kernel_rfl) (by simp) ?_
                refine AllReadyH.cons (o := _) rfl (fun K hK => ?_) AllReadyH.nil
                go_simp
                refine hK.out _ _ (HTc.out _ (fr_set5R (fr_up g9))) (fun hHeld => ?_)
                clear hK K
                try simp only [Act.put, List.setIfInBounds_toArray, List.set_cons_zero, List.set_cons_succ]
                clear hHeld
                refine wpAnyH_ready (rs := [11]) (by kernel_rfl) (by simp) ?_
                refine AllReadyH.cons (o := _) rfl (fun K hK => ?_) AllReadyH.nil
                go_simp
                refine hK.out _ _ (HTc.out _ (fr_set5R (fr_up g9))) (fun hHeld => ?_)
                clear hK K
                try simp only [Act.put, List.setIfInBounds_toArray, List.set_cons_zero, List.set_cons_succ]
                refine wpAnyH_done (by kernel_rfl) ?_ _
                go_wp2
                have r1 := (q8.out).setAll P
                unfold setFt at r1
                clear k0 k1 k2 k3 k4
                have m0 := r1.c0
                have m1 := r1.c1
                have m2 := r1.c2
                have m3 := r1.c3
                have m4 := r1.c4
                refine bodyPost_ret (v := .tuple #[.agg #[.int .i64 P.k, .int .i64 P.c, .int .i64 P.d, .int .i64 P.a, .int .i64 P.g], .bool q]) (by simp [results, Tryd.results12, go_sem, m0, m1, m2, m3, m4]) rfl ?_
                exact ⟨P, by rw [HRN.out.1]; rfl, HRN.out.2, fr_set5 (FC.out.step g9) (Nat.le_refl _)⟩
              · have hr : readR x = none := by rw [HR.out, if_neg (fun h => hok h.1)]
                rw [Bool.not_eq_true] at hok
                rw [hok] at HV
                have HRN := Lib.hid hr
                simp only [ftV] at HV
                clear hr hok HR
                refine wp_region_held_drew (S := fun w' => w'.cell? ⟨T, 0, none⟩ = some (.int .i64 P.k) ∧ w'.cell? ⟨T, 1, none⟩ = some (.int .i64 P.c) ∧ w'.cell? ⟨T, 2, none⟩ = some (.int .i64 P.d) ∧ w'.cell? ⟨T, 3, none⟩ = some (.int .i64 P.a) ∧ w'.cell? ⟨T, 4, none⟩ = some (.int .i64 P.g)) (by kernel_rfl) (HTc.out _ (fr_up (Fr.refl [] V).drew)) (fun hHeld => ?_)
                refine wpAnyH_take (i := 0) (oi := _) (v := ?_) rfl (by kernel_rfl) (by kernel_rfl) (by kernel_rfl) (fun _ _ _ h => h) (Or.inl ⟨by rfl, ?_⟩) (by assumption) ?_
                rotate_left
                · intro w hSw
                  try dsimp only at hSw
                  go_simp
                  try with_reducible rfl
                try simp only [Act.put, List.setIfInBounds_toArray, List.set_cons_zero, List.set_cons_succ]
                refine wpAnyH_take (i := 1) (oi := _) (v := ?_) rfl (by kernel_rfl) (by kernel_rfl) (by kernel_rfl) (fun _ _ _ h => h) (Or.inl ⟨by rfl, ?_⟩) (by assumption) ?_
                rotate_left
                · intro w hSw
                  try dsimp only at hSw
                  go_simp
                  try with_reducible rfl
                try simp only [Act.put, List.setIfInBounds_toArray, List.set_cons_zero, List.set_cons_succ]
                clear hHeld
                refine wpAnyH_ready (rs := [2]) (by kernel_rfl) (by simp) ?_
                refine AllReadyH.cons (o := _) rfl (fun K hK => ?_) AllReadyH.nil
                go_simp
                go_wp2_with (go_at_call 29; (with_reducible refine (HV.out _).mono ?_); rintro e w8 ⟨rfl, g8⟩; replace g8 := (Fr.refl [] V).drew.step g8)
                refine hK.out _ _ (HTc.out _ (fr_up g8)) (fun hHeld => ?_)
                clear hK K
                try simp only [Act.put, List.setIfInBounds_toArray, List.set_cons_zero, List.set_cons_succ]
                have q8 := HQ.out _ g8
                have k0 := q8.c0
                have k1 := q8.c1
                have k2 := q8.c2
                have k3 := q8.c3
                have k4 := q8.c4
                have z0 := q8.fz 0
                have z1 := q8.fz 1
                have z2 := q8.fz 2
                have z3 := q8.fz 3
                have z4 := q8.fz 4
                replace q8 := Lib.hid q8
                refine wpAnyH_take (i := 3) (oi := _) (v := ?_) rfl (by kernel_rfl) (by kernel_rfl) (by kernel_rfl) (fun _ _ _ h => h) (Or.inl ⟨by rfl, ?_⟩) (by assumption) ?_
                rotate_left
                · intro w hSw
                  try dsimp only at hSw
                  go_simp
                  try with_reducible rfl
                try simp only [Act.put, List.setIfInBounds_toArray, List.set_cons_zero, List.set_cons_succ]
                refine wpAnyH_take (i := 4) (oi := _) (v := undef) rfl (by kernel_rfl) (by kernel_rfl) (by kernel_rfl) (fun _ _ _ h => h) (Or.inr ⟨by rfl, rfl⟩) (by assumption) ?_
                try simp only [Act.put, List.setIfInBounds_toArray, List.set_cons_zero, List.set_cons_succ]
                refine wpAnyH_take (i := 6) (oi := _) (v := undef) rfl (by kernel_rfl) (by kernel_rfl) (by kernel_rfl) (fun _ _ _ h => h) (Or.inr ⟨by rfl, rfl⟩) (by assumption) ?_
                try simp only [Act.put, List.setIfInBounds_toArray, List.set_cons_zero, List.set_cons_succ]
                refine wpAnyH_take (i := 7) (oi := _) (v := undef) rfl (by kernel_rfl) (by kernel_rfl) (by kernel_rfl) (fun _ _ _ h => h) (Or.inr ⟨by rfl, rfl⟩) (by assumption) ?_
                try simp only [Act.put, List.setIfInBounds_toArray, List.set_cons_zero, List.set_cons_succ]
                refine wpAnyH_take (i := 5) (oi := _) (v := undef) rfl (by kernel_rfl) (by kernel_rfl) (by kernel_rfl) (fun _ _ _ h => h) (Or.inr ⟨by rfl, rfl⟩) (by assumption) ?_
                try simp only [Act.put, List.setIfInBounds_toArray, List.set_cons_zero, List.set_cons_succ]
                refine wpAnyH_take (i := 8) (oi := _) (v := undef) rfl (by kernel_rfl) (by kernel_rfl) (by kernel_rfl) (fun _ _ _ h => h) (Or.inr ⟨by rfl, rfl⟩) (by assumption) ?_
                try simp only [Act.put, List.setIfInBounds_toArray, List.set_cons_zero, List.set_cons_succ]
                refine wpAnyH_take (i := 9) (oi := _) (v := ?_) rfl (by kernel_rfl) (by kernel_rfl) (by kernel_rfl) (fun _ _ _ h => h) (Or.inl ⟨by rfl, ?_⟩) (by assumption) ?_
                rotate_left
                · intro w hSw
                  try dsimp only at hSw
                  go_simp
                  try with_reducible rfl
                try simp only [Act.put, List.setIfInBounds_toArray, List.set_cons_zero, List.set_cons_succ]
                clear hHeld
                refine wpAnyH_ready (rs := [10]) (by kernel_rfl) (by simp) ?_
                refine AllReadyH.cons (o := _) rfl (fun K hK => ?_) AllReadyH.nil
                go_simp
                refine hK.out _ _ (HTc.out _ (fr_set5R (fr_up g8))) (fun hHeld => ?_)
                clear hK K
                try simp only [Act.put, List.setIfInBounds_toArray, List.set_cons_zero, List.set_cons_succ]
                clear hHeld
                refine wpAnyH_ready (rs := [11]) (by kernel_rfl) (by simp) ?_
                refine AllReadyH.cons (o := _) rfl (fun K hK => ?_) AllReadyH.nil
                go_simp
                refine hK.out _ _ (HTc.out _ (fr_set5R (fr_up g8))) (fun hHeld => ?_)
                clear hK K
                try simp only [Act.put, List.setIfInBounds_toArray, List.set_cons_zero, List.set_cons_succ]
                refine wpAnyH_done (by kernel_rfl) ?_ _
                go_wp2
                have r1 := (q8.out).setAll P
                unfold setFt at r1
                clear k0 k1 k2 k3 k4
                have m0 := r1.c0
                have m1 := r1.c1
                have m2 := r1.c2
                have m3 := r1.c3
                have m4 := r1.c4
                refine bodyPost_ret (v := .tuple #[.agg #[.int .i64 P.k, .int .i64 P.c, .int .i64 P.d, .int .i64 P.a, .int .i64 P.g], .bool false]) (by simp [results, Tryd.results12, go_sem, m0, m1, m2, m3, m4]) rfl ?_
                exact ⟨P, by rw [HRN.out]; rfl, (fun g h => by rw [HRN.out] at h; cases h), fr_set5 (FC.out.step g8) (Nat.le_refl _)⟩
            · have d4 : ¬ (4 : Int) < (n : Int) := by omega
              have HGd := Lib.hid (show (if 4 < n then numR (ws.getD 4 []) else 0) = 0 from if_neg h4)
              go_wp2
              have tf : FtAt (wr) T (parR ws) := by
                rw [HP.out, HGd.out, HD.out]
                exact HTj.out
              have ff : Fr [] w1 (wr) := HK.out _ HFr.out
              have q0 := HT.out.keep ff (by simp)
              have HTf := Lib.hid tf
              have HFf := Lib.hid ff
              have HQ0 := Lib.hid q0
              clear tf ff q0 HTj HFr HD HGd k2 k4 z2 z4 s0 s1 s2 s3 HK HF2 HT2 HNm
              have hne : T ≠ w.heap.size := by have := HT.out.lt; omega
              have HTc := Lib.hid (fun W (f : Fr [w.heap.size] wr W) => And.intro (HTf.out.keep f (by simpa using hne)).c0 (And.intro (HTf.out.keep f (by simpa using hne)).c1 (And.intro (HTf.out.keep f (by simpa using hne)).c2 (And.intro (HTf.out.keep f (by simpa using hne)).c3 (HTf.out.keep f (by simpa using hne)).c4))))
              have HQ := Lib.hid (fun W (f : Fr [] wr W) => HQ0.out.keep f (by simp))
              have HV := Lib.hid (fun W => validL_any (parR ws) W)
              have FC := Lib.hid (HF.out.step HFf.out)
              have HR := Lib.hid HRP.out
              clear HRP HP HO HO4 HTf HFf HQ0 HX HT hT d0 d1 d2 d3 d4 dn0 dn1 dn2 dn3 h4
              generalize parR ws = P at *
              by_cases hok : P.ok = true
              · have hv0 : readR x = if lineB P = x ++ [10] then some P else none := by
                  rw [HR.out]
                  simp only [hok, true_and]
                have HLn := Lib.hid (fun W => lineL_any P hok W)
                rw [hok] at HV
                obtain ⟨L, hL⟩ : ∃ L, bs (lineB P) = L := ⟨_, rfl⟩
                rw [hL] at HLn
                obtain ⟨q, hqd⟩ : ∃ q, decide (lineB P = x ++ [10]) = q := ⟨_, rfl⟩
                obtain ⟨X, hX⟩ : ∃ X, X = bs x := ⟨_, rfl⟩
                have hq2 : (L.toList == (X ++ ⟨#[10]⟩ : ByteArray).toList) = q := by
                  rw [← hL, ← hqd, hX, show (⟨#[10]⟩ : ByteArray) = bs [10] from rfl, bs_append, bs_eq]
                have hzs : ¬ 9223372036854775807 < X.size + 1 := by rw [hX, bs_size]; omega
                rw [← hX]
                have hr : (readR x).isSome = q ∧ ∀ g, readR x = some g → P = g := by
                  rw [hv0]
                  by_cases h : lineB P = x ++ [10]
                  · rw [if_pos h]
                    rw [decide_eq_true h] at hqd
                    exact ⟨hqd, fun g hg => by simpa using hg⟩
                  · rw [if_neg h]
                    rw [decide_eq_false h] at hqd
                    exact ⟨hqd, fun g hg => by cases hg⟩
                have HRN := Lib.hid hr
                simp only [ftV] at HV HLn
                clear hr hok hv0 hqd hL hX HR
                refine wp_region_held_drew (S := fun w' => w'.cell? ⟨T, 0, none⟩ = some (.int .i64 P.k) ∧ w'.cell? ⟨T, 1, none⟩ = some (.int .i64 P.c) ∧ w'.cell? ⟨T, 2, none⟩ = some (.int .i64 P.d) ∧ w'.cell? ⟨T, 3, none⟩ = some (.int .i64 P.a) ∧ w'.cell? ⟨T, 4, none⟩ = some (.int .i64 P.g)) (by kernel_rfl) (HTc.out _ (fr_up (Fr.refl [] wr).drew)) (fun hHeld => ?_)
                refine wpAnyH_take (i := 0) (oi := _) (v := ?_) rfl (by kernel_rfl) (by kernel_rfl) (by kernel_rfl) (fun _ _ _ h => h) (Or.inl ⟨by rfl, ?_⟩) (by assumption) ?_
                rotate_left
                · intro w hSw
                  try dsimp only at hSw
                  go_simp
                  try with_reducible rfl
                try simp only [Act.put, List.setIfInBounds_toArray, List.set_cons_zero, List.set_cons_succ]
                refine wpAnyH_take (i := 1) (oi := _) (v := ?_) rfl (by kernel_rfl) (by kernel_rfl) (by kernel_rfl) (fun _ _ _ h => h) (Or.inl ⟨by rfl, ?_⟩) (by assumption) ?_
                rotate_left
                · intro w hSw
                  try dsimp only at hSw
                  go_simp
                  try with_reducible rfl
                try simp only [Act.put, List.setIfInBounds_toArray, List.set_cons_zero, List.set_cons_succ]
                clear hHeld
                refine wpAnyH_ready (rs := [2]) (by kernel_rfl) (by simp) ?_
                refine AllReadyH.cons (o := _) rfl (fun K hK => ?_) AllReadyH.nil
                go_simp
                go_wp2_with (go_at_call 29; (with_reducible refine (HV.out _).mono ?_); rintro e w8 ⟨rfl, g8⟩; replace g8 := (Fr.refl [] wr).drew.step g8)
                refine hK.out _ _ (HTc.out _ (fr_up g8)) (fun hHeld => ?_)
                clear hK K
                try simp only [Act.put, List.setIfInBounds_toArray, List.set_cons_zero, List.set_cons_succ]
                refine wpAnyH_take (i := 3) (oi := _) (v := ?_) rfl (by kernel_rfl) (by kernel_rfl) (by kernel_rfl) (fun _ _ _ h => h) (Or.inl ⟨by rfl, ?_⟩) (by assumption) ?_
                rotate_left
                · intro w hSw
                  try dsimp only at hSw
                  go_simp
                  try with_reducible rfl
                try simp only [Act.put, List.setIfInBounds_toArray, List.set_cons_zero, List.set_cons_succ]
                refine wpAnyH_take (i := 4) (oi := _) (v := ?_) rfl (by kernel_rfl) (by kernel_rfl) (by kernel_rfl) (fun _ _ _ h => h) (Or.inl ⟨by rfl, ?_⟩) (by assumption) ?_
                rotate_left
                · intro w hSw
                  try dsimp only at hSw
                  go_simp
                  try with_reducible rfl
                try simp only [Act.put, List.setIfInBounds_toArray, List.set_cons_zero, List.set_cons_succ]
                refine wpAnyH_take (i := 6) (oi := _) (v := ?_) rfl (by kernel_rfl) (by kernel_rfl) (by kernel_rfl) (fun _ _ _ h => h) (Or.inl ⟨by rfl, ?_⟩) (by assumption) ?_
                rotate_left
                · intro w hSw
                  try dsimp only at hSw
                  go_simp
                  try with_reducible rfl
                try simp only [Act.put, List.setIfInBounds_toArray, List.set_cons_zero, List.set_cons_succ]
                refine wpAnyH_take (i := 7) (oi := _) (v := ?_) rfl (by kernel_rfl) (by kernel_rfl) (by kernel_rfl) (fun _ _ _ h => h) (Or.inl ⟨by rfl, ?_⟩) (by assumption) ?_
                rotate_left
                · intro w hSw
                  try dsimp only at hSw
                  go_simp
                  try with_reducible rfl
                try simp only [Act.put, List.setIfInBounds_toArray, List.set_cons_zero, List.set_cons_succ]
                clear hHeld
                refine wpAnyH_ready (rs := [5]) (by kernel_rfl) (by simp) ?_
                refine AllReadyH.cons (o := _) rfl (fun K hK => ?_) AllReadyH.nil
                go_simp
                go_wp2_with (go_at_call 10; (with_reducible refine (HLn.out _).mono ?_); rintro e w9 ⟨rfl, g9⟩; replace g9 := g8.step g9)
                refine hK.out _ _ (HTc.out _ (fr_up g9)) (fun hHeld => ?_)
                clear hK K
                try simp only [Act.put, List.setIfInBounds_toArray, List.set_cons_zero, List.set_cons_succ]
                have q8 := HQ.out _ g9
                have k0 := q8.c0
                have k1 := q8.c1
                have k2 := q8.c2
                have k3 := q8.c3
                have k4 := q8.c4
                have z0 := q8.fz 0
                have z1 := q8.fz 1
                have z2 := q8.fz 2
                have z3 := q8.fz 3
                have z4 := q8.fz 4
                replace q8 := Lib.hid q8
                refine wpAnyH_take (i := 8) (oi := _) (v := ?_) rfl (by kernel_rfl) (by kernel_rfl) (by kernel_rfl) (fun _ _ _ h => h) (Or.inl ⟨by rfl, ?_⟩) (by assumption) ?_
                rotate_left
                · intro w hSw
                  try dsimp only at hSw
                  go_simp
                  try with_reducible rfl
                try simp only [Act.put, List.setIfInBounds_toArray, List.set_cons_zero, List.set_cons_succ]
                refine wpAnyH_take (i := 9) (oi := _) (v := ?_) rfl (by kernel_rfl) (by kernel_rfl) (by kernel_rfl) (fun _ _ _ h => h) (Or.inl ⟨by rfl, ?_⟩) (by assumption) ?_
                rotate_left
                · intro w hSw
                  try dsimp only at hSw
                  go_simp
                  try with_reducible rfl
                try simp only [Act.put, List.setIfInBounds_toArray, List.set_cons_zero, List.set_cons_succ]
                clear hHeld
                refine wpAnyH_ready (rs := [10]) (by kernel_rfl) (by simp) ?_
                refine AllReadyH.cons (o := _) rfl (fun K hK => ?_) AllReadyH.nil
                go_simp
                refine hK.out _ _ (HTc.out _ (fr_set5R (fr_up g9))) (fun hHeld => ?_)
                clear hK K
                try simp only [Act.put, List.setIfInBounds_toArray, List.set_cons_zero, List.set_cons_succ]
                clear hHeld
                refine wpAnyH_ready (rs := [11]) (by kernel_rfl) (by simp) ?_
                refine AllReadyH.cons (o := _) rfl (fun K hK => ?_) AllReadyH.nil
                go_simp
                refine hK.out _ _ (HTc.out _ (fr_set5R (fr_up g9))) (fun hHeld => ?_)
                clear hK K
                try simp only [Act.put, List.setIfInBounds_toArray, List.set_cons_zero, List.set_cons_succ]
                refine wpAnyH_done (by kernel_rfl) ?_ _
                go_wp2
                have r1 := (q8.out).setAll P
                unfold setFt at r1
                clear k0 k1 k2 k3 k4
                have m0 := r1.c0
                have m1 := r1.c1
                have m2 := r1.c2
                have m3 := r1.c3
                have m4 := r1.c4
                refine bodyPost_ret (v := .tuple #[.agg #[.int .i64 P.k, .int .i64 P.c, .int .i64 P.d, .int .i64 P.a, .int .i64 P.g], .bool q]) (by simp [results, Tryd.results12, go_sem, m0, m1, m2, m3, m4]) rfl ?_
                exact ⟨P, by rw [HRN.out.1]; rfl, HRN.out.2, fr_set5 (FC.out.step g9) (Nat.le_refl _)⟩
              · have hr : readR x = none := by rw [HR.out, if_neg (fun h => hok h.1)]
                rw [Bool.not_eq_true] at hok
                rw [hok] at HV
                have HRN := Lib.hid hr
                simp only [ftV] at HV
                clear hr hok HR
                refine wp_region_held_drew (S := fun w' => w'.cell? ⟨T, 0, none⟩ = some (.int .i64 P.k) ∧ w'.cell? ⟨T, 1, none⟩ = some (.int .i64 P.c) ∧ w'.cell? ⟨T, 2, none⟩ = some (.int .i64 P.d) ∧ w'.cell? ⟨T, 3, none⟩ = some (.int .i64 P.a) ∧ w'.cell? ⟨T, 4, none⟩ = some (.int .i64 P.g)) (by kernel_rfl) (HTc.out _ (fr_up (Fr.refl [] wr).drew)) (fun hHeld => ?_)
                refine wpAnyH_take (i := 0) (oi := _) (v := ?_) rfl (by kernel_rfl) (by kernel_rfl) (by kernel_rfl) (fun _ _ _ h => h) (Or.inl ⟨by rfl, ?_⟩) (by assumption) ?_
                rotate_left
                · intro w hSw
                  try dsimp only at hSw
                  go_simp
                  try with_reducible rfl
                try simp only [Act.put, List.setIfInBounds_toArray, List.set_cons_zero, List.set_cons_succ]
                refine wpAnyH_take (i := 1) (oi := _) (v := ?_) rfl (by kernel_rfl) (by kernel_rfl) (by kernel_rfl) (fun _ _ _ h => h) (Or.inl ⟨by rfl, ?_⟩) (by assumption) ?_
                rotate_left
                · intro w hSw
                  try dsimp only at hSw
                  go_simp
                  try with_reducible rfl
                try simp only [Act.put, List.setIfInBounds_toArray, List.set_cons_zero, List.set_cons_succ]
                clear hHeld
                refine wpAnyH_ready (rs := [2]) (by kernel_rfl) (by simp) ?_
                refine AllReadyH.cons (o := _) rfl (fun K hK => ?_) AllReadyH.nil
                go_simp
                go_wp2_with (go_at_call 29; (with_reducible refine (HV.out _).mono ?_); rintro e w8 ⟨rfl, g8⟩; replace g8 := (Fr.refl [] wr).drew.step g8)
                refine hK.out _ _ (HTc.out _ (fr_up g8)) (fun hHeld => ?_)
                clear hK K
                try simp only [Act.put, List.setIfInBounds_toArray, List.set_cons_zero, List.set_cons_succ]
                have q8 := HQ.out _ g8
                have k0 := q8.c0
                have k1 := q8.c1
                have k2 := q8.c2
                have k3 := q8.c3
                have k4 := q8.c4
                have z0 := q8.fz 0
                have z1 := q8.fz 1
                have z2 := q8.fz 2
                have z3 := q8.fz 3
                have z4 := q8.fz 4
                replace q8 := Lib.hid q8
                refine wpAnyH_take (i := 3) (oi := _) (v := ?_) rfl (by kernel_rfl) (by kernel_rfl) (by kernel_rfl) (fun _ _ _ h => h) (Or.inl ⟨by rfl, ?_⟩) (by assumption) ?_
                rotate_left
                · intro w hSw
                  try dsimp only at hSw
                  go_simp
                  try with_reducible rfl
                try simp only [Act.put, List.setIfInBounds_toArray, List.set_cons_zero, List.set_cons_succ]
                refine wpAnyH_take (i := 4) (oi := _) (v := undef) rfl (by kernel_rfl) (by kernel_rfl) (by kernel_rfl) (fun _ _ _ h => h) (Or.inr ⟨by rfl, rfl⟩) (by assumption) ?_
                try simp only [Act.put, List.setIfInBounds_toArray, List.set_cons_zero, List.set_cons_succ]
                refine wpAnyH_take (i := 6) (oi := _) (v := undef) rfl (by kernel_rfl) (by kernel_rfl) (by kernel_rfl) (fun _ _ _ h => h) (Or.inr ⟨by rfl, rfl⟩) (by assumption) ?_
                try simp only [Act.put, List.setIfInBounds_toArray, List.set_cons_zero, List.set_cons_succ]
                refine wpAnyH_take (i := 7) (oi := _) (v := undef) rfl (by kernel_rfl) (by kernel_rfl) (by kernel_rfl) (fun _ _ _ h => h) (Or.inr ⟨by rfl, rfl⟩) (by assumption) ?_
                try simp only [Act.put, List.setIfInBounds_toArray, List.set_cons_zero, List.set_cons_succ]
                refine wpAnyH_take (i := 5) (oi := _) (v := undef) rfl (by kernel_rfl) (by kernel_rfl) (by kernel_rfl) (fun _ _ _ h => h) (Or.inr ⟨by rfl, rfl⟩) (by assumption) ?_
                try simp only [Act.put, List.setIfInBounds_toArray, List.set_cons_zero, List.set_cons_succ]
                refine wpAnyH_take (i := 8) (oi := _) (v := undef) rfl (by kernel_rfl) (by kernel_rfl) (by kernel_rfl) (fun _ _ _ h => h) (Or.inr ⟨by rfl, rfl⟩) (by assumption) ?_
                try simp only [Act.put, List.setIfInBounds_toArray, List.set_cons_zero, List.set_cons_succ]
                refine wpAnyH_take (i := 9) (oi := _) (v := ?_) rfl (by kernel_rfl) (by kernel_rfl) (by kernel_rfl) (fun _ _ _ h => h) (Or.inl ⟨by rfl, ?_⟩) (by assumption) ?_
                rotate_left
                · intro w hSw
                  try dsimp only at hSw
                  go_simp
                  try with_reducible rfl
                try simp only [Act.put, List.setIfInBounds_toArray, List.set_cons_zero, List.set_cons_succ]
                clear hHeld
                refine wpAnyH_ready (rs := [10]) (by kernel_rfl) (by simp) ?_
                refine AllReadyH.cons (o := _) rfl (fun K hK => ?_) AllReadyH.nil
                go_simp
                refine hK.out _ _ (HTc.out _ (fr_set5R (fr_up g8))) (fun hHeld => ?_)
                clear hK K
                try simp only [Act.put, List.setIfInBounds_toArray, List.set_cons_zero, List.set_cons_succ]
                clear hHeld
                refine wpAnyH_ready (rs := [11]) (by kernel_rfl) (by simp) ?_
                refine AllReadyH.cons (o := _) rfl (fun K hK => ?_) AllReadyH.nil
                go_simp
                refine hK.out _ _ (HTc.out _ (fr_set5R (fr_up g8))) (fun hHeld => ?_)
                clear hK K
                try simp only [Act.put, List.setIfInBounds_toArray, List.set_cons_zero, List.set_cons_succ]
                refine wpAnyH_done (by kernel_rfl) ?_ _
                go_wp2
                have r1 := (q8.out).setAll P
                unfold setFt at r1
                clear k0 k1 k2 k3 k4
                have m0 := r1.c0
                have m1 := r1.c1
                have m2 := r1.c2
                have m3 := r1.c3
                have m4 := r1.c4
                refine bodyPost_ret (v := .tuple #[.agg #[.int .i64 P.k, .int .i64 P.c, .int .i64 P.d, .int .i64 P.a, .int .i64 P.g], .bool false]) (by simp [results, Tryd.results12, go_sem, m0, m1, m2, m3, m4]) rfl ?_
                exact ⟨P, by rw [HRN.out]; rfl, (fun g h => by rw [HRN.out] at h; cases h), fr_set5 (FC.out.step g8) (Nat.le_refl _)⟩
end Go.Proofs.YtededfkenlhokaaDoor
