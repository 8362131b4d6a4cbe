/- Report, the law's own lines: taskLine. -/
import Derived.Test.YtllmejkcohfbiaaGreatDoorS2
import Derived.Test.YtllmejkcohfbiaaGreatDoorR18Tk
import Derived.Deep.CutRange
namespace Go.Proofs.YtllmejkcohfbiaaGreatDoor
open Go.RowKit Go.Shelf Go.Sort Go.Lib
set_option linter.unusedVariables false
set_option linter.unusedSimpArgs false
set_option maxRecDepth 100000
set_option maxHeartbeats 8000000

theorem taskB_eqL (t calls refused steps ended failed read written : Int) : bs (taskB ⟨t, calls, refused, steps, ended, failed, read, written⟩) = (((((((((((((((⟨#[116, 97, 115, 107, 32]⟩ ++ bs (Lib.itoa t)) ++ ⟨#[58, 32, 99, 97, 108, 108, 115, 32]⟩) ++ bs (Lib.itoa calls)) ++ ⟨#[44, 32, 114, 101, 102, 117, 115, 101, 100, 32]⟩) ++ bs (Lib.itoa refused)) ++ ⟨#[44, 32, 115, 116, 101, 112, 115, 32]⟩) ++ bs (Lib.itoa steps)) ++ ⟨#[44, 32, 101, 110, 100, 101, 100, 32]⟩) ++ bs (Lib.itoa ended)) ++ ⟨#[44, 32, 102, 97, 105, 108, 101, 100, 32]⟩) ++ bs (Lib.itoa failed)) ++ ⟨#[44, 32, 114, 101, 97, 100, 32]⟩) ++ bs (Lib.itoa read)) ++ ⟨#[44, 32, 119, 114, 105, 116, 116, 101, 110, 32]⟩) ++ bs (Lib.itoa written)) ++ ⟨#[10]⟩ := by
  rw [show (⟨#[116, 97, 115, 107, 32]⟩ : ByteArray) = bs [116, 97, 115, 107, 32] from rfl]
  rw [show (⟨#[58, 32, 99, 97, 108, 108, 115, 32]⟩ : ByteArray) = bs [58, 32, 99, 97, 108, 108, 115, 32] from rfl]
  rw [show (⟨#[44, 32, 114, 101, 102, 117, 115, 101, 100, 32]⟩ : ByteArray) = bs [44, 32, 114, 101, 102, 117, 115, 101, 100, 32] from rfl]
  rw [show (⟨#[44, 32, 115, 116, 101, 112, 115, 32]⟩ : ByteArray) = bs [44, 32, 115, 116, 101, 112, 115, 32] from rfl]
  rw [show (⟨#[44, 32, 101, 110, 100, 101, 100, 32]⟩ : ByteArray) = bs [44, 32, 101, 110, 100, 101, 100, 32] from rfl]
  rw [show (⟨#[44, 32, 102, 97, 105, 108, 101, 100, 32]⟩ : ByteArray) = bs [44, 32, 102, 97, 105, 108, 101, 100, 32] from rfl]
  rw [show (⟨#[44, 32, 114, 101, 97, 100, 32]⟩ : ByteArray) = bs [44, 32, 114, 101, 97, 100, 32] from rfl]
  rw [show (⟨#[44, 32, 119, 114, 105, 116, 116, 101, 110, 32]⟩ : ByteArray) = bs [44, 32, 119, 114, 105, 116, 116, 101, 110, 32] from rfl]
  rw [show (⟨#[10]⟩ : ByteArray) = bs [10] from rfl]
  simp only [bs_append, taskB, Tk.nums, partWs, List.range, List.range.loop, List.map_cons, List.map_nil, List.getD_cons_zero, List.getD_cons_succ, Lib.join_cons, Lib.joinTail, List.flatten_cons, List.flatten_nil, List.append_assoc, List.nil_append, List.cons_append, List.append_nil]
theorem taskLineL_raw (t calls refused steps ended failed read written : Int) (hw : Tk.wf ⟨t, calls, refused, steps, ended, failed, read, written⟩) (w : World) :
    Calls Tryz.prog 19 #[.agg #[.int .i64 t, .int .i64 calls, .int .i64 refused, .int .i64 steps, .int .i64 ended, .int .i64 failed, .int .i64 read, .int .i64 written]] w fun r w' => r = .returned (.tuple #[.string (bs (taskB ⟨t, calls, refused, steps, ended, failed, read, written⟩)), .bool (Tk.ok ⟨t, calls, refused, steps, ended, failed, read, written⟩)]) ∧ Fr [] w w' := by
  have i0 : I64 t := hw.1
  have i1 : I64 calls := hw.2 _ (by simp [Tk.nums])
  have i2 : I64 refused := hw.2 _ (by simp [Tk.nums])
  have i3 : I64 steps := hw.2 _ (by simp [Tk.nums])
  have i4 : I64 ended := hw.2 _ (by simp [Tk.nums])
  have i5 : I64 failed := hw.2 _ (by simp [Tk.nums])
  have i6 : I64 read := hw.2 _ (by simp [Tk.nums])
  have i7 : I64 written := hw.2 _ (by simp [Tk.nums])
  have f0 : Fr [] w (w.alloc (.cells #[.int .i64 t, .int .i64 calls, .int .i64 refused, .int .i64 steps, .int .i64 ended, .int .i64 failed, .int .i64 read, .int .i64 written] 58)) := (Fr.refl [] w).alloc _
  have X0 := Lib.hid (TkAt.made w ⟨t, calls, refused, steps, ended, failed, read, written⟩)
  have HEQ := Lib.hid (taskB_eqL t calls refused steps ended failed read written)
  have hz0 := itoa_size i0
  have I0 := Lib.hid i0
  have hz1 := itoa_size i1
  have I1 := Lib.hid i1
  have hz2 := itoa_size i2
  have I2 := Lib.hid i2
  have hz3 := itoa_size i3
  have I3 := Lib.hid i3
  have hz4 := itoa_size i4
  have I4 := Lib.hid i4
  have hz5 := itoa_size i5
  have I5 := Lib.hid i5
  have hz6 := itoa_size i6
  have I6 := Lib.hid i6
  have hz7 := itoa_size i7
  have I7 := Lib.hid i7
  have k0 : (⟨#[116, 97, 115, 107, 32]⟩ : ByteArray).size = 5 := rfl
  have k1 : (⟨#[58, 32, 99, 97, 108, 108, 115, 32]⟩ : ByteArray).size = 8 := rfl
  have k2 : (⟨#[44, 32, 114, 101, 102, 117, 115, 101, 100, 32]⟩ : ByteArray).size = 10 := rfl
  have k3 : (⟨#[44, 32, 115, 116, 101, 112, 115, 32]⟩ : ByteArray).size = 8 := rfl
  have k4 : (⟨#[44, 32, 101, 110, 100, 101, 100, 32]⟩ : ByteArray).size = 8 := rfl
  have k5 : (⟨#[44, 32, 102, 97, 105, 108, 101, 100, 32]⟩ : ByteArray).size = 9 := rfl
  have k6 : (⟨#[44, 32, 114, 101, 97, 100, 32]⟩ : ByteArray).size = 7 := rfl
  have k7 : (⟨#[44, 32, 119, 114, 105, 116, 116, 101, 110, 32]⟩ : ByteArray).size = 10 := rfl
  have k8 : (⟨#[10]⟩ : ByteArray).size = 1 := rfl
  have hok : Tk.ok ⟨t, calls, refused, steps, ended, failed, read, written⟩ = (decide (0 ≤ calls) && (decide (0 ≤ refused) && (decide (0 ≤ steps) && (decide (0 ≤ ended) && (decide (0 ≤ failed) && (decide (0 ≤ read) && decide (0 ≤ written))))))) := by
    simp [Tk.ok, Tk.nums]
  obtain ⟨ok, hok2⟩ : ∃ b, Tk.ok ⟨t, calls, refused, steps, ended, failed, read, written⟩ = b := ⟨_, rfl⟩
  rw [hok2] at hok
  rw [hok2]
  have HOK := Lib.hid hok
  obtain ⟨B, hB⟩ : ∃ B, w.heap.size = B := ⟨_, rfl⟩
  clear hw hok hok2 i0 i1 i2 i3 i4 i5 i6 i7
  go_enter Tryz.func19, Tryz.ntmps19
  go_upto_region 1 with fail
  simp only [hB] at f0 X0 ⊢
  obtain ⟨W0, hW0⟩ : ∃ W0, w.alloc (.cells #[.int .i64 t, .int .i64 calls, .int .i64 refused, .int .i64 steps, .int .i64 ended, .int .i64 failed, .int .i64 read, .int .i64 written] 58) = W0 := ⟨_, rfl⟩
  rw [hW0] at f0 X0
  rw [hW0]
  have F0 := Lib.hid f0
  clear hW0 f0 hB
  have c0 := X0.out.c0
  have c1 := X0.out.c1
  have c2 := X0.out.c2
  have c3 := X0.out.c3
  have c4 := X0.out.c4
  have c5 := X0.out.c5
  have c6 := X0.out.c6
  have c7 := X0.out.c7
  simp only at c0 c1 c2 c3 c4 c5 c6 c7
  go_cut [4] from 5 to 37 (fun s4 wc => s4 = .bool ok ∧ wc = W0)
  case first =>
    by_cases h1 : 0 ≤ calls
    · have d1 := decide_eq_true h1
      clear h1
      by_cases h2 : 0 ≤ refused
      · have d2 := decide_eq_true h2
        clear h2
        by_cases h3 : 0 ≤ steps
        · have d3 := decide_eq_true h3
          clear h3
          by_cases h4 : 0 ≤ ended
          · have d4 := decide_eq_true h4
            clear h4
            by_cases h5 : 0 ≤ failed
            · have d5 := decide_eq_true h5
              clear h5
              by_cases h6 : 0 ≤ read
              · have d6 := decide_eq_true h6
                clear h6
                by_cases h7 : 0 ≤ written
                · have d7 := decide_eq_true h7
                  clear h7
                  have hres : ok = true := by rw [HOK.out, d1, d2, d3, d4, d5, d6, d7]; rfl
                  have HRES := Lib.hid hres
                  clear hres HEQ hz0 k0 hz1 k1 hz2 k2 hz3 k3 hz4 k4 hz5 k5 hz6 k6 hz7 k7
                  go_wp2
                  go_meet
                  exact ⟨by rw [HRES.out], rfl⟩
                · have d7 := decide_eq_false h7
                  clear h7
                  have hres : ok = false := by rw [HOK.out, d7]; simp
                  have HRES := Lib.hid hres
                  clear hres HEQ hz0 k0 hz1 k1 hz2 k2 hz3 k3 hz4 k4 hz5 k5 hz6 k6 hz7 k7
                  go_wp2
                  go_meet
                  exact ⟨by rw [HRES.out], rfl⟩
              · have d6 := decide_eq_false h6
                clear h6
                have hres : ok = false := by rw [HOK.out, d6]; simp
                have HRES := Lib.hid hres
                clear hres HEQ hz0 k0 hz1 k1 hz2 k2 hz3 k3 hz4 k4 hz5 k5 hz6 k6 hz7 k7
                go_wp2
                go_meet
                exact ⟨by rw [HRES.out], rfl⟩
            · have d5 := decide_eq_false h5
              clear h5
              have hres : ok = false := by rw [HOK.out, d5]; simp
              have HRES := Lib.hid hres
              clear hres HEQ hz0 k0 hz1 k1 hz2 k2 hz3 k3 hz4 k4 hz5 k5 hz6 k6 hz7 k7
              go_wp2
              go_meet
              exact ⟨by rw [HRES.out], rfl⟩
          · have d4 := decide_eq_false h4
            clear h4
            have hres : ok = false := by rw [HOK.out, d4]; simp
            have HRES := Lib.hid hres
            clear hres HEQ hz0 k0 hz1 k1 hz2 k2 hz3 k3 hz4 k4 hz5 k5 hz6 k6 hz7 k7
            go_wp2
            go_meet
            exact ⟨by rw [HRES.out], rfl⟩
        · have d3 := decide_eq_false h3
          clear h3
          have hres : ok = false := by rw [HOK.out, d3]; simp
          have HRES := Lib.hid hres
          clear hres HEQ hz0 k0 hz1 k1 hz2 k2 hz3 k3 hz4 k4 hz5 k5 hz6 k6 hz7 k7
          go_wp2
          go_meet
          exact ⟨by rw [HRES.out], rfl⟩
      · have d2 := decide_eq_false h2
        clear h2
        have hres : ok = false := by rw [HOK.out, d2]; simp
        have HRES := Lib.hid hres
        clear hres HEQ hz0 k0 hz1 k1 hz2 k2 hz3 k3 hz4 k4 hz5 k5 hz6 k6 hz7 k7
        go_wp2
        go_meet
        exact ⟨by rw [HRES.out], rfl⟩
    · have d1 := decide_eq_false h1
      clear h1
      have hres : ok = false := by rw [HOK.out, d1]; simp
      have HRES := Lib.hid hres
      clear hres HEQ hz0 k0 hz1 k1 hz2 k2 hz3 k3 hz4 k4 hz5 k5 hz6 k6 hz7 k7
      go_wp2
      go_meet
      exact ⟨by rw [HRES.out], rfl⟩
  case rest =>
    obtain ⟨rfl, rfl⟩ := hcut
    have g0 : Fr [] wc wc := Fr.refl _ _
    go_upto_region 2 with fail
    refine wp_region_held_drew (S := fun w' => w'.cell? ⟨B, 0, none⟩ = some (.int .i64 t) ∧ w'.cell? ⟨B, 1, none⟩ = some (.int .i64 calls) ∧ w'.cell? ⟨B, 2, none⟩ = some (.int .i64 refused) ∧ w'.cell? ⟨B, 3, none⟩ = some (.int .i64 steps) ∧ w'.cell? ⟨B, 4, none⟩ = some (.int .i64 ended) ∧ w'.cell? ⟨B, 5, none⟩ = some (.int .i64 failed) ∧ w'.cell? ⟨B, 6, none⟩ = some (.int .i64 read) ∧ w'.cell? ⟨B, 7, none⟩ = some (.int .i64 written)) (by kernel_rfl) (⟨c0, c1, c2, c3, c4, c5, c6, c7⟩) (fun hHeld => ?_)
    refine wpAnyH_take (i := 0) (oi := _) (v := ?_) rfl (by kernel_rfl) (by kernel_rfl) (by kernel_rfl) (fun _ _ _ h => h) (Or.inl ⟨by rfl, ?_⟩) (by assumption) ?_
    rotate_left
    · intro w hSw
      try dsimp only at hSw
      go_simp
      try with_reducible rfl
    try simp only [Act.put, List.getElem_toArray, List.getElem_cons_succ, List.getElem_cons_zero, List.setIfInBounds_toArray, List.set_cons_zero, List.set_cons_succ]
    refine wpAnyH_take (i := 1) (oi := _) (v := ?_) rfl (by kernel_rfl) (by kernel_rfl) (by kernel_rfl) (fun _ _ _ h => h) (Or.inl ⟨by rfl, ?_⟩) (by assumption) ?_
    rotate_left
    · intro w hSw
      try dsimp only at hSw
      go_simp
      try with_reducible rfl
    try simp only [Act.put, List.getElem_toArray, List.getElem_cons_succ, List.getElem_cons_zero, List.setIfInBounds_toArray, List.set_cons_zero, List.set_cons_succ]
    refine wpAnyH_take (i := 5) (oi := _) (v := ?_) rfl (by kernel_rfl) (by kernel_rfl) (by kernel_rfl) (fun _ _ _ h => h) (Or.inl ⟨by rfl, ?_⟩) (by assumption) ?_
    rotate_left
    · intro w hSw
      try dsimp only at hSw
      go_simp
      try with_reducible rfl
    try simp only [Act.put, List.getElem_toArray, List.getElem_cons_succ, List.getElem_cons_zero, List.setIfInBounds_toArray, List.set_cons_zero, List.set_cons_succ]
    refine wpAnyH_take (i := 6) (oi := _) (v := ?_) rfl (by kernel_rfl) (by kernel_rfl) (by kernel_rfl) (fun _ _ _ h => h) (Or.inl ⟨by rfl, ?_⟩) (by assumption) ?_
    rotate_left
    · intro w hSw
      try dsimp only at hSw
      go_simp
      try with_reducible rfl
    try simp only [Act.put, List.getElem_toArray, List.getElem_cons_succ, List.getElem_cons_zero, List.setIfInBounds_toArray, List.set_cons_zero, List.set_cons_succ]
    refine wpAnyH_take (i := 10) (oi := _) (v := ?_) rfl (by kernel_rfl) (by kernel_rfl) (by kernel_rfl) (fun _ _ _ h => h) (Or.inl ⟨by rfl, ?_⟩) (by assumption) ?_
    rotate_left
    · intro w hSw
      try dsimp only at hSw
      go_simp
      try with_reducible rfl
    try simp only [Act.put, List.getElem_toArray, List.getElem_cons_succ, List.getElem_cons_zero, List.setIfInBounds_toArray, List.set_cons_zero, List.set_cons_succ]
    refine wpAnyH_take (i := 11) (oi := _) (v := ?_) rfl (by kernel_rfl) (by kernel_rfl) (by kernel_rfl) (fun _ _ _ h => h) (Or.inl ⟨by rfl, ?_⟩) (by assumption) ?_
    rotate_left
    · intro w hSw
      try dsimp only at hSw
      go_simp
      try with_reducible rfl
    try simp only [Act.put, List.getElem_toArray, List.getElem_cons_succ, List.getElem_cons_zero, List.setIfInBounds_toArray, List.set_cons_zero, List.set_cons_succ]
    refine wpAnyH_take (i := 15) (oi := _) (v := ?_) rfl (by kernel_rfl) (by kernel_rfl) (by kernel_rfl) (fun _ _ _ h => h) (Or.inl ⟨by rfl, ?_⟩) (by assumption) ?_
    rotate_left
    · intro w hSw
      try dsimp only at hSw
      go_simp
      try with_reducible rfl
    try simp only [Act.put, List.getElem_toArray, List.getElem_cons_succ, List.getElem_cons_zero, List.setIfInBounds_toArray, List.set_cons_zero, List.set_cons_succ]
    refine wpAnyH_take (i := 16) (oi := _) (v := ?_) rfl (by kernel_rfl) (by kernel_rfl) (by kernel_rfl) (fun _ _ _ h => h) (Or.inl ⟨by rfl, ?_⟩) (by assumption) ?_
    rotate_left
    · intro w hSw
      try dsimp only at hSw
      go_simp
      try with_reducible rfl
    try simp only [Act.put, List.getElem_toArray, List.getElem_cons_succ, List.getElem_cons_zero, List.setIfInBounds_toArray, List.set_cons_zero, List.set_cons_succ]
    refine wpAnyH_take (i := 20) (oi := _) (v := ?_) rfl (by kernel_rfl) (by kernel_rfl) (by kernel_rfl) (fun _ _ _ h => h) (Or.inl ⟨by rfl, ?_⟩) (by assumption) ?_
    rotate_left
    · intro w hSw
      try dsimp only at hSw
      go_simp
      try with_reducible rfl
    try simp only [Act.put, List.getElem_toArray, List.getElem_cons_succ, List.getElem_cons_zero, List.setIfInBounds_toArray, List.set_cons_zero, List.set_cons_succ]
    refine wpAnyH_take (i := 21) (oi := _) (v := ?_) rfl (by kernel_rfl) (by kernel_rfl) (by kernel_rfl) (fun _ _ _ h => h) (Or.inl ⟨by rfl, ?_⟩) (by assumption) ?_
    rotate_left
    · intro w hSw
      try dsimp only at hSw
      go_simp
      try with_reducible rfl
    try simp only [Act.put, List.getElem_toArray, List.getElem_cons_succ, List.getElem_cons_zero, List.setIfInBounds_toArray, List.set_cons_zero, List.set_cons_succ]
    refine wpAnyH_take (i := 25) (oi := _) (v := ?_) rfl (by kernel_rfl) (by kernel_rfl) (by kernel_rfl) (fun _ _ _ h => h) (Or.inl ⟨by rfl, ?_⟩) (by assumption) ?_
    rotate_left
    · intro w hSw
      try dsimp only at hSw
      go_simp
      try with_reducible rfl
    try simp only [Act.put, List.getElem_toArray, List.getElem_cons_succ, List.getElem_cons_zero, List.setIfInBounds_toArray, List.set_cons_zero, List.set_cons_succ]
    refine wpAnyH_take (i := 26) (oi := _) (v := ?_) rfl (by kernel_rfl) (by kernel_rfl) (by kernel_rfl) (fun _ _ _ h => h) (Or.inl ⟨by rfl, ?_⟩) (by assumption) ?_
    rotate_left
    · intro w hSw
      try dsimp only at hSw
      go_simp
      try with_reducible rfl
    try simp only [Act.put, List.getElem_toArray, List.getElem_cons_succ, List.getElem_cons_zero, List.setIfInBounds_toArray, List.set_cons_zero, List.set_cons_succ]
    refine wpAnyH_take (i := 30) (oi := _) (v := ?_) rfl (by kernel_rfl) (by kernel_rfl) (by kernel_rfl) (fun _ _ _ h => h) (Or.inl ⟨by rfl, ?_⟩) (by assumption) ?_
    rotate_left
    · intro w hSw
      try dsimp only at hSw
      go_simp
      try with_reducible rfl
    try simp only [Act.put, List.getElem_toArray, List.getElem_cons_succ, List.getElem_cons_zero, List.setIfInBounds_toArray, List.set_cons_zero, List.set_cons_succ]
    refine wpAnyH_take (i := 31) (oi := _) (v := ?_) rfl (by kernel_rfl) (by kernel_rfl) (by kernel_rfl) (fun _ _ _ h => h) (Or.inl ⟨by rfl, ?_⟩) (by assumption) ?_
    rotate_left
    · intro w hSw
      try dsimp only at hSw
      go_simp
      try with_reducible rfl
    try simp only [Act.put, List.getElem_toArray, List.getElem_cons_succ, List.getElem_cons_zero, List.setIfInBounds_toArray, List.set_cons_zero, List.set_cons_succ]
    refine wpAnyH_take (i := 35) (oi := _) (v := ?_) rfl (by kernel_rfl) (by kernel_rfl) (by kernel_rfl) (fun _ _ _ h => h) (Or.inl ⟨by rfl, ?_⟩) (by assumption) ?_
    rotate_left
    · intro w hSw
      try dsimp only at hSw
      go_simp
      try with_reducible rfl
    try simp only [Act.put, List.getElem_toArray, List.getElem_cons_succ, List.getElem_cons_zero, List.setIfInBounds_toArray, List.set_cons_zero, List.set_cons_succ]
    refine wpAnyH_take (i := 36) (oi := _) (v := ?_) rfl (by kernel_rfl) (by kernel_rfl) (by kernel_rfl) (fun _ _ _ h => h) (Or.inl ⟨by rfl, ?_⟩) (by assumption) ?_
    rotate_left
    · intro w hSw
      try dsimp only at hSw
      go_simp
      try with_reducible rfl
    try simp only [Act.put, List.getElem_toArray, List.getElem_cons_succ, List.getElem_cons_zero, List.setIfInBounds_toArray, List.set_cons_zero, List.set_cons_succ]
    refine wpAnyH_take (i := 40) (oi := _) (v := ?_) rfl (by kernel_rfl) (by kernel_rfl) (by kernel_rfl) (fun _ _ _ h => h) (Or.inl ⟨by rfl, ?_⟩) (by assumption) ?_
    rotate_left
    · intro w hSw
      try dsimp only at hSw
      go_simp
      try with_reducible rfl
    try simp only [Act.put, List.getElem_toArray, List.getElem_cons_succ, List.getElem_cons_zero, List.setIfInBounds_toArray, List.set_cons_zero, List.set_cons_succ]
    refine wpAnyH_ready (rs := [2]) (by kernel_rfl) (by simp) ?_
    refine AllReadyH.cons (o := _) rfl (fun K hK => ?_) AllReadyH.nil
    go_simp
    refine (decimal_any t I0.out _).mono ?_
    rintro r1 w1 ⟨rfl, f1⟩
    replace f1 : Fr [] wc w1 := ((Fr.refl [] wc).drew).step f1
    refine hK.out _ _ (⟨f1.keep c0 (by simp), f1.keep c1 (by simp), f1.keep c2 (by simp), f1.keep c3 (by simp), f1.keep c4 (by simp), f1.keep c5 (by simp), f1.keep c6 (by simp), f1.keep c7 (by simp)⟩) (fun hHeld => ?_)
    clear hK K
    try simp only [Act.put, List.getElem_toArray, List.getElem_cons_succ, List.getElem_cons_zero, List.setIfInBounds_toArray, List.set_cons_zero, List.set_cons_succ]
    refine wpAnyH_take (i := 3) (oi := _) (v := ?_) rfl (by kernel_rfl) (by kernel_rfl) (by kernel_rfl) (fun _ _ _ h => h) (Or.inl ⟨by rfl, ?_⟩) (by assumption) ?_
    rotate_left
    · intro w hSw
      try dsimp only at hSw
      go_simp
      rw [if_neg (by (try simp only [ByteArray.size_append, k0, k1, k2, k3, k4, k5, k6, k7, k8]); omega)]
      try with_reducible rfl
    try simp only [Act.put, List.getElem_toArray, List.getElem_cons_succ, List.getElem_cons_zero, List.setIfInBounds_toArray, List.set_cons_zero, List.set_cons_succ]
    refine wpAnyH_take (i := 4) (oi := _) (v := ?_) rfl (by kernel_rfl) (by kernel_rfl) (by kernel_rfl) (fun _ _ _ h => h) (Or.inl ⟨by rfl, ?_⟩) (by assumption) ?_
    rotate_left
    · intro w hSw
      try dsimp only at hSw
      go_simp
      rw [if_neg (by (try simp only [ByteArray.size_append, k0, k1, k2, k3, k4, k5, k6, k7, k8]); omega)]
      try with_reducible rfl
    try simp only [Act.put, List.getElem_toArray, List.getElem_cons_succ, List.getElem_cons_zero, List.setIfInBounds_toArray, List.set_cons_zero, List.set_cons_succ]
    refine wpAnyH_ready (rs := [7]) (by kernel_rfl) (by simp) ?_
    refine AllReadyH.cons (o := _) rfl (fun K hK => ?_) AllReadyH.nil
    go_simp
    refine (decimal_any calls I1.out _).mono ?_
    rintro r2 w2 ⟨rfl, f2⟩
    replace f2 : Fr [] wc w2 := f1.step f2
    refine hK.out _ _ (⟨f2.keep c0 (by simp), f2.keep c1 (by simp), f2.keep c2 (by simp), f2.keep c3 (by simp), f2.keep c4 (by simp), f2.keep c5 (by simp), f2.keep c6 (by simp), f2.keep c7 (by simp)⟩) (fun hHeld => ?_)
    clear hK K
    try simp only [Act.put, List.getElem_toArray, List.getElem_cons_succ, List.getElem_cons_zero, List.setIfInBounds_toArray, List.set_cons_zero, List.set_cons_succ]
    refine wpAnyH_take (i := 8) (oi := _) (v := ?_) rfl (by kernel_rfl) (by kernel_rfl) (by kernel_rfl) (fun _ _ _ h => h) (Or.inl ⟨by rfl, ?_⟩) (by assumption) ?_
    rotate_left
    · intro w hSw
      try dsimp only at hSw
      go_simp
      rw [if_neg (by (try simp only [ByteArray.size_append, k0, k1, k2, k3, k4, k5, k6, k7, k8]); omega)]
      try with_reducible rfl
    try simp only [Act.put, List.getElem_toArray, List.getElem_cons_succ, List.getElem_cons_zero, List.setIfInBounds_toArray, List.set_cons_zero, List.set_cons_succ]
    refine wpAnyH_take (i := 9) (oi := _) (v := ?_) rfl (by kernel_rfl) (by kernel_rfl) (by kernel_rfl) (fun _ _ _ h => h) (Or.inl ⟨by rfl, ?_⟩) (by assumption) ?_
    rotate_left
    · intro w hSw
      try dsimp only at hSw
      go_simp
      rw [if_neg (by (try simp only [ByteArray.size_append, k0, k1, k2, k3, k4, k5, k6, k7, k8]); omega)]
      try with_reducible rfl
    try simp only [Act.put, List.getElem_toArray, List.getElem_cons_succ, List.getElem_cons_zero, List.setIfInBounds_toArray, List.set_cons_zero, List.set_cons_succ]
    refine wpAnyH_ready (rs := [12]) (by kernel_rfl) (by simp) ?_
    refine AllReadyH.cons (o := _) rfl (fun K hK => ?_) AllReadyH.nil
    go_simp
    refine (decimal_any refused I2.out _).mono ?_
    rintro r3 w3 ⟨rfl, f3⟩
    replace f3 : Fr [] wc w3 := f2.step f3
    refine hK.out _ _ (⟨f3.keep c0 (by simp), f3.keep c1 (by simp), f3.keep c2 (by simp), f3.keep c3 (by simp), f3.keep c4 (by simp), f3.keep c5 (by simp), f3.keep c6 (by simp), f3.keep c7 (by simp)⟩) (fun hHeld => ?_)
    clear hK K
    try simp only [Act.put, List.getElem_toArray, List.getElem_cons_succ, List.getElem_cons_zero, List.setIfInBounds_toArray, List.set_cons_zero, List.set_cons_succ]
    refine wpAnyH_take (i := 13) (oi := _) (v := ?_) rfl (by kernel_rfl) (by kernel_rfl) (by kernel_rfl) (fun _ _ _ h => h) (Or.inl ⟨by rfl, ?_⟩) (by assumption) ?_
    rotate_left
    · intro w hSw
      try dsimp only at hSw
      go_simp
      rw [if_neg (by (try simp only [ByteArray.size_append, k0, k1, k2, k3, k4, k5, k6, k7, k8]); omega)]
      try with_reducible rfl
    try simp only [Act.put, List.getElem_toArray, List.getElem_cons_succ, List.getElem_cons_zero, List.setIfInBounds_toArray, List.set_cons_zero, List.set_cons_succ]
    refine wpAnyH_take (i := 14) (oi := _) (v := ?_) rfl (by kernel_rfl) (by kernel_rfl) (by kernel_rfl) (fun _ _ _ h => h) (Or.inl ⟨by rfl, ?_⟩) (by assumption) ?_
    rotate_left
    · intro w hSw
      try dsimp only at hSw
      go_simp
      rw [if_neg (by (try simp only [ByteArray.size_append, k0, k1, k2, k3, k4, k5, k6, k7, k8]); omega)]
      try with_reducible rfl
    try simp only [Act.put, List.getElem_toArray, List.getElem_cons_succ, List.getElem_cons_zero, List.setIfInBounds_toArray, List.set_cons_zero, List.set_cons_succ]
    refine wpAnyH_ready (rs := [17]) (by kernel_rfl) (by simp) ?_
    refine AllReadyH.cons (o := _) rfl (fun K hK => ?_) AllReadyH.nil
    go_simp
    refine (decimal_any steps I3.out _).mono ?_
    rintro r4 w4 ⟨rfl, f4⟩
    replace f4 : Fr [] wc w4 := f3.step f4
    refine hK.out _ _ (⟨f4.keep c0 (by simp), f4.keep c1 (by simp), f4.keep c2 (by simp), f4.keep c3 (by simp), f4.keep c4 (by simp), f4.keep c5 (by simp), f4.keep c6 (by simp), f4.keep c7 (by simp)⟩) (fun hHeld => ?_)
    clear hK K
    try simp only [Act.put, List.getElem_toArray, List.getElem_cons_succ, List.getElem_cons_zero, List.setIfInBounds_toArray, List.set_cons_zero, List.set_cons_succ]
    refine wpAnyH_take (i := 18) (oi := _) (v := ?_) rfl (by kernel_rfl) (by kernel_rfl) (by kernel_rfl) (fun _ _ _ h => h) (Or.inl ⟨by rfl, ?_⟩) (by assumption) ?_
    rotate_left
    · intro w hSw
      try dsimp only at hSw
      go_simp
      rw [if_neg (by (try simp only [ByteArray.size_append, k0, k1, k2, k3, k4, k5, k6, k7, k8]); omega)]
      try with_reducible rfl
    try simp only [Act.put, List.getElem_toArray, List.getElem_cons_succ, List.getElem_cons_zero, List.setIfInBounds_toArray, List.set_cons_zero, List.set_cons_succ]
    refine wpAnyH_take (i := 19) (oi := _) (v := ?_) rfl (by kernel_rfl) (by kernel_rfl) (by kernel_rfl) (fun _ _ _ h => h) (Or.inl ⟨by rfl, ?_⟩) (by assumption) ?_
    rotate_left
    · intro w hSw
      try dsimp only at hSw
      go_simp
      rw [if_neg (by (try simp only [ByteArray.size_append, k0, k1, k2, k3, k4, k5, k6, k7, k8]); omega)]
      try with_reducible rfl
    try simp only [Act.put, List.getElem_toArray, List.getElem_cons_succ, List.getElem_cons_zero, List.setIfInBounds_toArray, List.set_cons_zero, List.set_cons_succ]
    refine wpAnyH_ready (rs := [22]) (by kernel_rfl) (by simp) ?_
    refine AllReadyH.cons (o := _) rfl (fun K hK => ?_) AllReadyH.nil
    go_simp
    refine (decimal_any ended I4.out _).mono ?_
    rintro r5 w5 ⟨rfl, f5⟩
    replace f5 : Fr [] wc w5 := f4.step f5
    refine hK.out _ _ (⟨f5.keep c0 (by simp), f5.keep c1 (by simp), f5.keep c2 (by simp), f5.keep c3 (by simp), f5.keep c4 (by simp), f5.keep c5 (by simp), f5.keep c6 (by simp), f5.keep c7 (by simp)⟩) (fun hHeld => ?_)
    clear hK K
    try simp only [Act.put, List.getElem_toArray, List.getElem_cons_succ, List.getElem_cons_zero, List.setIfInBounds_toArray, List.set_cons_zero, List.set_cons_succ]
    refine wpAnyH_take (i := 23) (oi := _) (v := ?_) rfl (by kernel_rfl) (by kernel_rfl) (by kernel_rfl) (fun _ _ _ h => h) (Or.inl ⟨by rfl, ?_⟩) (by assumption) ?_
    rotate_left
    · intro w hSw
      try dsimp only at hSw
      go_simp
      rw [if_neg (by (try simp only [ByteArray.size_append, k0, k1, k2, k3, k4, k5, k6, k7, k8]); omega)]
      try with_reducible rfl
    try simp only [Act.put, List.getElem_toArray, List.getElem_cons_succ, List.getElem_cons_zero, List.setIfInBounds_toArray, List.set_cons_zero, List.set_cons_succ]
    refine wpAnyH_take (i := 24) (oi := _) (v := ?_) rfl (by kernel_rfl) (by kernel_rfl) (by kernel_rfl) (fun _ _ _ h => h) (Or.inl ⟨by rfl, ?_⟩) (by assumption) ?_
    rotate_left
    · intro w hSw
      try dsimp only at hSw
      go_simp
      rw [if_neg (by (try simp only [ByteArray.size_append, k0, k1, k2, k3, k4, k5, k6, k7, k8]); omega)]
      try with_reducible rfl
    try simp only [Act.put, List.getElem_toArray, List.getElem_cons_succ, List.getElem_cons_zero, List.setIfInBounds_toArray, List.set_cons_zero, List.set_cons_succ]
    refine wpAnyH_ready (rs := [27]) (by kernel_rfl) (by simp) ?_
    refine AllReadyH.cons (o := _) rfl (fun K hK => ?_) AllReadyH.nil
    go_simp
    refine (decimal_any failed I5.out _).mono ?_
    rintro r6 w6 ⟨rfl, f6⟩
    replace f6 : Fr [] wc w6 := f5.step f6
    refine hK.out _ _ (⟨f6.keep c0 (by simp), f6.keep c1 (by simp), f6.keep c2 (by simp), f6.keep c3 (by simp), f6.keep c4 (by simp), f6.keep c5 (by simp), f6.keep c6 (by simp), f6.keep c7 (by simp)⟩) (fun hHeld => ?_)
    clear hK K
    try simp only [Act.put, List.getElem_toArray, List.getElem_cons_succ, List.getElem_cons_zero, List.setIfInBounds_toArray, List.set_cons_zero, List.set_cons_succ]
    refine wpAnyH_take (i := 28) (oi := _) (v := ?_) rfl (by kernel_rfl) (by kernel_rfl) (by kernel_rfl) (fun _ _ _ h => h) (Or.inl ⟨by rfl, ?_⟩) (by assumption) ?_
    rotate_left
    · intro w hSw
      try dsimp only at hSw
      go_simp
      rw [if_neg (by (try simp only [ByteArray.size_append, k0, k1, k2, k3, k4, k5, k6, k7, k8]); omega)]
      try with_reducible rfl
    try simp only [Act.put, List.getElem_toArray, List.getElem_cons_succ, List.getElem_cons_zero, List.setIfInBounds_toArray, List.set_cons_zero, List.set_cons_succ]
    refine wpAnyH_take (i := 29) (oi := _) (v := ?_) rfl (by kernel_rfl) (by kernel_rfl) (by kernel_rfl) (fun _ _ _ h => h) (Or.inl ⟨by rfl, ?_⟩) (by assumption) ?_
    rotate_left
    · intro w hSw
      try dsimp only at hSw
      go_simp
      rw [if_neg (by (try simp only [ByteArray.size_append, k0, k1, k2, k3, k4, k5, k6, k7, k8]); omega)]
      try with_reducible rfl
    try simp only [Act.put, List.getElem_toArray, List.getElem_cons_succ, List.getElem_cons_zero, List.setIfInBounds_toArray, List.set_cons_zero, List.set_cons_succ]
    refine wpAnyH_ready (rs := [32]) (by kernel_rfl) (by simp) ?_
    refine AllReadyH.cons (o := _) rfl (fun K hK => ?_) AllReadyH.nil
    go_simp
    refine (decimal_any read I6.out _).mono ?_
    rintro r7 w7 ⟨rfl, f7⟩
    replace f7 : Fr [] wc w7 := f6.step f7
    refine hK.out _ _ (⟨f7.keep c0 (by simp), f7.keep c1 (by simp), f7.keep c2 (by simp), f7.keep c3 (by simp), f7.keep c4 (by simp), f7.keep c5 (by simp), f7.keep c6 (by simp), f7.keep c7 (by simp)⟩) (fun hHeld => ?_)
    clear hK K
    try simp only [Act.put, List.getElem_toArray, List.getElem_cons_succ, List.getElem_cons_zero, List.setIfInBounds_toArray, List.set_cons_zero, List.set_cons_succ]
    refine wpAnyH_take (i := 33) (oi := _) (v := ?_) rfl (by kernel_rfl) (by kernel_rfl) (by kernel_rfl) (fun _ _ _ h => h) (Or.inl ⟨by rfl, ?_⟩) (by assumption) ?_
    rotate_left
    · intro w hSw
      try dsimp only at hSw
      go_simp
      rw [if_neg (by (try simp only [ByteArray.size_append, k0, k1, k2, k3, k4, k5, k6, k7, k8]); omega)]
      try with_reducible rfl
    try simp only [Act.put, List.getElem_toArray, List.getElem_cons_succ, List.getElem_cons_zero, List.setIfInBounds_toArray, List.set_cons_zero, List.set_cons_succ]
    refine wpAnyH_take (i := 34) (oi := _) (v := ?_) rfl (by kernel_rfl) (by kernel_rfl) (by kernel_rfl) (fun _ _ _ h => h) (Or.inl ⟨by rfl, ?_⟩) (by assumption) ?_
    rotate_left
    · intro w hSw
      try dsimp only at hSw
      go_simp
      rw [if_neg (by (try simp only [ByteArray.size_append, k0, k1, k2, k3, k4, k5, k6, k7, k8]); omega)]
      try with_reducible rfl
    try simp only [Act.put, List.getElem_toArray, List.getElem_cons_succ, List.getElem_cons_zero, List.setIfInBounds_toArray, List.set_cons_zero, List.set_cons_succ]
    refine wpAnyH_ready (rs := [37]) (by kernel_rfl) (by simp) ?_
    refine AllReadyH.cons (o := _) rfl (fun K hK => ?_) AllReadyH.nil
    go_simp
    refine (decimal_any written I7.out _).mono ?_
    rintro r8 w8 ⟨rfl, f8⟩
    replace f8 : Fr [] wc w8 := f7.step f8
    refine hK.out _ _ (⟨f8.keep c0 (by simp), f8.keep c1 (by simp), f8.keep c2 (by simp), f8.keep c3 (by simp), f8.keep c4 (by simp), f8.keep c5 (by simp), f8.keep c6 (by simp), f8.keep c7 (by simp)⟩) (fun hHeld => ?_)
    clear hK K
    try simp only [Act.put, List.getElem_toArray, List.getElem_cons_succ, List.getElem_cons_zero, List.setIfInBounds_toArray, List.set_cons_zero, List.set_cons_succ]
    refine wpAnyH_take (i := 38) (oi := _) (v := ?_) rfl (by kernel_rfl) (by kernel_rfl) (by kernel_rfl) (fun _ _ _ h => h) (Or.inl ⟨by rfl, ?_⟩) (by assumption) ?_
    rotate_left
    · intro w hSw
      try dsimp only at hSw
      go_simp
      rw [if_neg (by (try simp only [ByteArray.size_append, k0, k1, k2, k3, k4, k5, k6, k7, k8]); omega)]
      try with_reducible rfl
    try simp only [Act.put, List.getElem_toArray, List.getElem_cons_succ, List.getElem_cons_zero, List.setIfInBounds_toArray, List.set_cons_zero, List.set_cons_succ]
    refine wpAnyH_take (i := 39) (oi := _) (v := ?_) rfl (by kernel_rfl) (by kernel_rfl) (by kernel_rfl) (fun _ _ _ h => h) (Or.inl ⟨by rfl, ?_⟩) (by assumption) ?_
    rotate_left
    · intro w hSw
      try dsimp only at hSw
      go_simp
      rw [if_neg (by (try simp only [ByteArray.size_append, k0, k1, k2, k3, k4, k5, k6, k7, k8]); omega)]
      try with_reducible rfl
    try simp only [Act.put, List.getElem_toArray, List.getElem_cons_succ, List.getElem_cons_zero, List.setIfInBounds_toArray, List.set_cons_zero, List.set_cons_succ]
    refine wpAnyH_ready (rs := [41]) (by kernel_rfl) (by simp) ?_
    refine AllReadyH.cons (o := _) rfl (fun K hK => ?_) AllReadyH.nil
    go_simp
    refine hK.out _ _ (⟨f8.keep c0 (by simp), f8.keep c1 (by simp), f8.keep c2 (by simp), f8.keep c3 (by simp), f8.keep c4 (by simp), f8.keep c5 (by simp), f8.keep c6 (by simp), f8.keep c7 (by simp)⟩) (fun hHeld => ?_)
    clear hK K
    try simp only [Act.put, List.getElem_toArray, List.getElem_cons_succ, List.getElem_cons_zero, List.setIfInBounds_toArray, List.set_cons_zero, List.set_cons_succ]
    refine wpAnyH_ready (rs := [42]) (by kernel_rfl) (by simp) ?_
    refine AllReadyH.cons (o := _) rfl (fun K hK => ?_) AllReadyH.nil
    go_simp
    refine hK.out _ _ (⟨f8.keep c0 (by simp), f8.keep c1 (by simp), f8.keep c2 (by simp), f8.keep c3 (by simp), f8.keep c4 (by simp), f8.keep c5 (by simp), f8.keep c6 (by simp), f8.keep c7 (by simp)⟩) (fun hHeld => ?_)
    clear hK K
    try simp only [Act.put, List.getElem_toArray, List.getElem_cons_succ, List.getElem_cons_zero, List.setIfInBounds_toArray, List.set_cons_zero, List.set_cons_succ]
    refine wpAnyH_done (by kernel_rfl) ?_ _
    clear c0 c1 c2 c3 c4 c5 c6 c7 hHeld
    go_wp2
    go_ret2
    exact ⟨by rw [HEQ.out]; rfl, F0.out.step f8⟩
theorem taskLineL_any (x : Tk) (hwf : x.wf) (w : World) :
    Calls Tryz.prog 19 #[.agg #[.int .i64 x.t, .int .i64 x.calls, .int .i64 x.refused, .int .i64 x.steps, .int .i64 x.ended, .int .i64 x.failed, .int .i64 x.read, .int .i64 x.written]] w fun r w' => r = .returned (.tuple #[.string (bs (taskB x)), .bool x.ok]) ∧ Fr [] w w' := taskLineL_raw x.t x.calls x.refused x.steps x.ended x.failed x.read x.written hwf w
end Go.Proofs.YtllmejkcohfbiaaGreatDoor
