/- Contract of the law's own step: a call is made. -/
import Derived.Test.YtededfkenlhokaaDoorQ10
import Derived.BigQuiet
import Derived.Outline
namespace Go.Proofs.YtededfkenlhokaaDoor
open Go.RowKit Go.Shelf
set_option linter.unusedVariables false
set_option linter.unusedSimpArgs false
set_option maxRecDepth 100000
set_option maxHeartbeats 8000000

theorem step_call {p m : Nat} {v : Value} {fs : List Ft} {F : LF} (au : Option Addr) (nu cu : Nat) (vl : Value) (L : List Ft) (k : Nat) (hk : k ≤ 24) (x : Ac) (hx0 : x.what = 0) (hb : laneB x.c x.d = true) (hn : 0 ≤ x.n) (hn2 : x.n ≤ 65536) (w : World) (hM : Mods w p m v (.slice au nu cu) fs F vl L k) :
    Calls Tryd.prog 20 #[.pointer (some ⟨p, 0, none⟩), .agg #[.slice au nu cu, vl], .agg #[.int .i64 x.what, .int .i64 x.c, .int .i64 x.d, .int .i64 x.n]] w (StepPost w p m v (.slice au nu cu) fs k) := by
  have g0 : (x.what == 0) = true := beq_iff_eq.2 hx0
  have hI := hM.inv x.c x.d
  have hInv := Lib.hid (hM.inv.call (List.all_eq_true.1 hM.plan.ok) hk (c := x.c) (d := x.d) ⟨hn, hn2⟩)
  obtain ⟨y1, y2, y3, hy⟩ : ∃ y1 y2 y3, effW fs x.c x.d (F x.c x.d).1 (F x.c x.d).2.1 x.n = (y1, y2, y3) := ⟨_, _, _, rfl⟩
  have hLF := Lib.hid (hM.lf.put x.c x.d ((F x.c x.d).1 + 1) (F x.c x.d).2.1 y1)
  have hem := em_effW fs (List.all_eq_true.1 hM.plan.ok) x.c x.d (F x.c x.d).1 (F x.c x.d).2.1 x.n
  rw [hy] at hInv hem
  simp only at hInv
  have HEM := Lib.hid hem
  have HY := Lib.hid hy
  clear hem hy
  have h := hM.plan
  have hr := hM.row
  have hp := hM.inv
  have hl := hM.len
  obtain ⟨a, cap, rfl⟩ := hr.val
  obtain ⟨W0, hW0⟩ : ∃ W, ((w.alloc (.cells #[.slice au nu cu, .slice a L.length cap] 58)).alloc (.cells #[.int .i64 x.what, .int .i64 x.c, .int .i64 x.d, .int .i64 x.n] 44)).alloc (.cells #[.slice none 0 0, .slice none 0 0] 58) = W := ⟨_, rfl⟩
  obtain ⟨s1, s2, s3, s4⟩ := step_start w _ _ x hW0
  have HOF := Lib.hid (ofL_any (.slice au nu cu) (.slice a L.length cap) L (by omega) x.c x.d W0 (hr.new s4))
  obtain ⟨q, b, le, hq⟩ : ∃ q b le, F x.c x.d = (q, b, le) := ⟨_, _, _, rfl⟩
  have hof := hM.lf x.c x.d
  rw [hq] at hof
  simp only at hof
  rw [hof] at HOF
  unfold lnV at HOF
  have S1 := Lib.hid s1
  have S2 := Lib.hid s2
  have S3 := Lib.hid s3
  have S4 := Lib.hid s4
  have HW := Lib.hid hW0
  have HP := Lib.hid h
  have HI := Lib.hid hp
  have HMO := Lib.hid hM
  have HQ := Lib.hid hq
  clear s1 s2 s3 s4 hW0 h hr hM hp hof hq hx0
  obtain ⟨xw, xc, xd, xn⟩ := x
  simp only at HW HOF S2 HQ g0 hb hn hn2 hI hInv hLF HEM HY ⊢
  go_enter Tryd.func20, Tryd.ntmps20
  go_wp2_with fail
  simp only [HW.out]
  refine HOF.out.mono ?_
  rintro e w1 ⟨rfl, f1⟩
  simp only
  have f2 : Fr [] w1 (w1.alloc (.cells #[.int .i64 xc, .int .i64 xd, .int .i64 q, .int .i64 b, .int .i64 le] 97)) := (Fr.refl [] w1).alloc _
  have Y2 := Lib.hid (LnAt.made w1 ⟨xc, xd, q, b, le⟩)
  have ac := S2.out.keep (f1.step f2) (by simp)
  have a0 := ac.c0
  have a1 := ac.c1
  have a2 := ac.c2
  have a3 := ac.c3
  simp only at a0 a1 a2 a3
  have P2 := Lib.hid (HP.out.new (S4.out.step (f1.step f2)))
  have A2 := Lib.hid ac
  have F2 := Lib.hid (f1.step f2)
  have hb1 := S3.out.lt
  have hb2 := f1.size
  clear f1 f2 ac
  rw [HQ.out] at hI hInv hLF HEM HY
  simp only at hI hInv hLF HEM HY
  obtain ⟨⟨q0, q1⟩, ⟨b0, b1⟩, ⟨le0, le1⟩, -⟩ := hI
  have HB := Lib.hid hb
  clear hb
  have HLN := Lib.hid (fun W => laneL_any xc xd W)
  rw [HB.out] at HLN
  have hcl := call_ok xc xd _ P2.out xn HB.out ⟨hn, hn2⟩ (by rw [HQ.out]; exact ⟨q0, by omega⟩)
  rw [HQ.out] at hcl
  simp only at hcl
  rw [HY.out] at hcl
  go_wp2_with fail
  refine hcl.mono ?_
  clear hcl
  rintro e w3 ⟨rfl, p3, f3⟩
  rw [HQ.out] at p3
  simp only at p3 ⊢
  have P3 := Lib.hid p3
  have hAm : w.heap.size ≠ m ∧ w.heap.size + 1 ≠ m ∧ w.heap.size + 1 + 1 ≠ m ∧ w1.heap.size ≠ m := by have := HP.out.lanes.lt; exact ⟨by omega, by omega, by omega, by omega⟩
  have HAM := Lib.hid hAm
  have A4 := A2.out.keep f3 (by rw [List.mem_singleton]; exact HAM.out.2.1)
  have Y4 := Y2.out.keep f3 (by rw [List.mem_singleton]; exact HAM.out.2.2.2)
  have hY := Y4.lt
  have f4 : Fr [] w3 (w3.alloc (.cells #[.int .i64 y1, .int .u64 y2, .int .i64 y3] 51)) := (Fr.refl [] w3).alloc _
  have O4 := Lib.hid (OutAt.made w3 (y1, y2, y3))
  have A5 := A4.keep f4 (by simp)
  have Y5 := Lib.hid (Y4.keep f4 (by simp))
  have c1 := A5.c1
  have c2 := A5.c2
  have c3 := A5.c3
  simp only at c1 c2 c3 O4
  have AH := Lib.hid A5
  have F3 := Lib.hid ((F2.out.mono (T := [m]) (fun _ hx => by cases hx) |>.trans f3 (fun _ hx _ => hx)).step f4)
  have P4 := Lib.hid (P3.out.new f4)
  clear a0 a1 a2 a3 A4 Y4 A5 p3 f3 hAm f4 P3
  go_wp2_with fail
  refine (HLN.out _).mono ?_
  rintro e w' ⟨rfl, rfl⟩
  obtain ⟨w4, hw4⟩ : ∃ W, w3.alloc (.cells #[.int .i64 y1, .int .u64 y2, .int .i64 y3] 51) = W := ⟨_, rfl⟩
  obtain ⟨Y, hYe⟩ : ∃ Y, w1.heap.size = Y := ⟨_, rfl⟩
  have hE1 : w3.heap.size < w4.heap.size := by rw [← hw4]; simp
  simp only [hw4, hYe] at Y5 AH F3 P4 O4 HAM hb2 hY c1 c2 c3 ⊢
  obtain ⟨E1, hEe⟩ : ∃ Y, w3.heap.size = Y := ⟨_, rfl⟩
  simp only [hEe] at O4 hY hE1 ⊢
  clear hw4 hYe hEe
  have M4 := S1.out.keep F3.out (by rw [List.mem_singleton]; exact HAM.out.1)
  have m0 := M4.c0
  have m1 := M4.c1
  have l0 := Y5.out.c0
  have l1 := Y5.out.c1
  have l2 := Y5.out.c2
  have l3 := Y5.out.c3
  have l4 := Y5.out.c4
  simp only at l0 l1 l2 l3 l4
  have MH := Lib.hid M4
  clear M4
  have FA4 := Lib.hid ((S4.out.mono (T := [m]) (fun _ hx => by cases hx)).trans F3.out (fun _ hx _ => hx))
  go_wp2_with fail
  have hef := effectL_any (.slice a L.length cap) (.slice au nu cu) fs (by have := HP.out.len; omega) (List.all_eq_true.1 HP.out.ok) ⟨xc, xd, q, b, le⟩ xn w4 (HMO.out.fts.over FA4.out HMO.out.sepf)
  simp only at hef
  rw [HEM.out] at hef
  simp only at hef
  refine hef.mono ?_
  clear hef
  rintro e w5 ⟨rfl, f5⟩
  have f6 : Fr [] w5 (w5.alloc (.cells #[.int .i64 y1, .int .u64 y2, .int .i64 y3] 51)) := (Fr.refl [] w5).alloc _
  have U6 := Lib.hid (OutAt.made w5 (y1, y2, y3))
  have hE2 := f5.size
  have fs6 := f5.step f6
  have Y6 := Lib.hid (Y5.out.keep fs6 (by simp))
  have O6 := Lib.hid (O4.out.keep fs6 (by simp))
  have M6 := Lib.hid (MH.out.keep fs6 (by simp))
  have P6 := Lib.hid (P4.out.new fs6)
  have FA6 := Lib.hid (FA4.out.step fs6)
  have R6 := Lib.hid ((S3.out.keep F3.out (by rw [List.mem_singleton]; exact HAM.out.2.2.1)).keep fs6 (by simp))
  have l2' := Y6.out.c2
  have l4' := Y6.out.c4
  have lz' := Y6.out.fz
  have u0 := U6.out.c0
  simp only at l2' l4' u0
  clear m0 m1 l0 l1 l2 l3 l4 c1 c2 c3 f5 f6 fs6 Y5 AH O4 MH P4 F3 FA4
  go_wp2_with fail
  obtain ⟨w6, hw6⟩ : ∃ W, w5.alloc (.cells #[.int .i64 y1, .int .u64 y2, .int .i64 y3] 51) = W := ⟨_, rfl⟩
  have hE3 : w5.heap.size < w6.heap.size := by rw [← hw6]; simp
  obtain ⟨E2, hEe⟩ : ∃ Y, w5.heap.size = Y := ⟨_, rfl⟩
  simp only [hw6, hEe] at Y6 O6 U6 M6 P6 FA6 R6 l2' l4' lz' u0 hE2 hE3 ⊢
  clear hw6 hEe
  go_region
  have YD : LnAt ((w6.setCell ⟨Y, 2, none⟩ (.int .i64 (q + 1))).setCell ⟨Y, 4, none⟩ (.int .i64 y1)).drew Y ⟨xc, xd, q + 1, b, y1⟩ := (Y6.out.set2 (q + 1)).set4 y1
  have fW : Fr [Y] w6 ((w6.setCell ⟨Y, 2, none⟩ (.int .i64 (q + 1))).setCell ⟨Y, 4, none⟩ (.int .i64 y1)).drew := (((Fr.refl [Y] w6).setCell (fun _ => by simp) _).setCell (fun _ => by simp) _).drew
  have FW := Lib.hid fW
  have YF := Lib.hid YD
  obtain ⟨V, hV⟩ : ∃ W, ((w6.setCell ⟨Y, 2, none⟩ (.int .i64 (q + 1))).setCell ⟨Y, 4, none⟩ (.int .i64 y1)).drew = W := ⟨_, rfl⟩
  simp only [hV] at FW YF ⊢
  clear fW YD l2' l4' lz' u0 hV
  have hwM : w.heap.size ≠ Y ∧ w.heap.size + 1 + 1 ≠ Y := ⟨by omega, by omega⟩
  have M7 := Lib.hid (M6.out.keep FW.out (by rw [List.mem_singleton]; exact hwM.1))
  have O7 := Lib.hid (O6.out.keep FW.out (by rw [List.mem_singleton]; omega))
  have U7 := Lib.hid (U6.out.keep FW.out (by rw [List.mem_singleton]; omega))
  have R7 := Lib.hid (R6.out.keep FW.out (by rw [List.mem_singleton]; exact hwM.2))
  have FA7 := Lib.hid (FA6.out.sing FW.out (by omega))
  have P7 := Lib.hid (P6.out.keep FW.out (by rw [List.mem_singleton]; have := cell_lt HP.out.c0; omega) (by rw [List.mem_singleton]; exact HAM.out.2.2.2.symm) (fun g off n c e => by rw [List.mem_singleton]; have := HP.out.low g off n c e; omega))
  have hRs : w.heap.size + 1 + 1 < V.heap.size := R7.out.lt
  have hR1 : w.heap.size ≠ w.heap.size + 1 + 1 ∧ Y ≠ w.heap.size + 1 + 1 ∧ E1 ≠ w.heap.size + 1 + 1 ∧ E2 ≠ w.heap.size + 1 + 1 := ⟨by omega, by omega, by omega, by omega⟩
  have HR1 := Lib.hid hR1
  have m0 := M7.out.c0
  have m1 := M7.out.c1
  have l0 := YF.out.c0
  have l1 := YF.out.c1
  have l2 := YF.out.c2
  have l3 := YF.out.c3
  have l4 := YF.out.c4
  have o0 := O7.out.c0
  have o1 := O7.out.c1
  have o2 := O7.out.c2
  have u0 := U7.out.c0
  have u1 := U7.out.c1
  have u2 := U7.out.c2
  simp only at l0 l1 l2 l3 l4 o0 o1 o2 u0 u1 u2
  have heq : ∀ W, (binOp .eql 51 (.agg #[.int .i64 y1, .int .u64 y2, .int .i64 y3]) (.agg #[.int .i64 y1, .int .u64 y2, .int .i64 y3])).run Tryd.prog W = .ok (.bool true) W := fun W => by
    have := eqEf (y1, y2, y3) (y1, y2, y3) W
    rw [decide_eq_true rfl] at this
    exact this
  clear hwM M6 O6 U6 Y6 R6 FA6 P6 hR1
  go_wp2_with fail
  have KS := Lib.hid (fun W' (f : Fr [w.heap.size + 1 + 1] V W') => (show (fun w' => w'.cell? ⟨w.heap.size, 0, none⟩ = some (.slice au nu cu) ∧ w'.cell? ⟨w.heap.size, 1, none⟩ = some (.slice a L.length cap) ∧ w'.cell? ⟨Y, 0, none⟩ = some (.int .i64 xc) ∧ w'.cell? ⟨Y, 1, none⟩ = some (.int .i64 xd) ∧ w'.cell? ⟨Y, 2, none⟩ = some (.int .i64 (q + 1)) ∧ w'.cell? ⟨Y, 3, none⟩ = some (.int .i64 b) ∧ w'.cell? ⟨Y, 4, none⟩ = some (.int .i64 y1) ∧ w'.cell? ⟨E1, 0, none⟩ = some (.int .i64 y1) ∧ w'.cell? ⟨E1, 1, none⟩ = some (.int .u64 y2) ∧ w'.cell? ⟨E1, 2, none⟩ = some (.int .i64 y3) ∧ w'.cell? ⟨E2, 0, none⟩ = some (.int .i64 y1) ∧ w'.cell? ⟨E2, 1, none⟩ = some (.int .u64 y2) ∧ w'.cell? ⟨E2, 2, none⟩ = some (.int .i64 y3)) W' from ⟨f.keep m0 (by rw [List.mem_singleton]; exact HR1.out.1), f.keep m1 (by rw [List.mem_singleton]; exact HR1.out.1), f.keep l0 (by rw [List.mem_singleton]; exact HR1.out.2.1), f.keep l1 (by rw [List.mem_singleton]; exact HR1.out.2.1), f.keep l2 (by rw [List.mem_singleton]; exact HR1.out.2.1), f.keep l3 (by rw [List.mem_singleton]; exact HR1.out.2.1), f.keep l4 (by rw [List.mem_singleton]; exact HR1.out.2.1), f.keep o0 (by rw [List.mem_singleton]; exact HR1.out.2.2.1), f.keep o1 (by rw [List.mem_singleton]; exact HR1.out.2.2.1), f.keep o2 (by rw [List.mem_singleton]; exact HR1.out.2.2.1), f.keep u0 (by rw [List.mem_singleton]; exact HR1.out.2.2.2), f.keep u1 (by rw [List.mem_singleton]; exact HR1.out.2.2.2), f.keep u2 (by rw [List.mem_singleton]; exact HR1.out.2.2.2)⟩))
  refine wp_region_held_drew (S := fun w' => w'.cell? ⟨w.heap.size, 0, none⟩ = some (.slice au nu cu) ∧ w'.cell? ⟨w.heap.size, 1, none⟩ = some (.slice a L.length cap) ∧ w'.cell? ⟨Y, 0, none⟩ = some (.int .i64 xc) ∧ w'.cell? ⟨Y, 1, none⟩ = some (.int .i64 xd) ∧ w'.cell? ⟨Y, 2, none⟩ = some (.int .i64 (q + 1)) ∧ w'.cell? ⟨Y, 3, none⟩ = some (.int .i64 b) ∧ w'.cell? ⟨Y, 4, none⟩ = some (.int .i64 y1) ∧ w'.cell? ⟨E1, 0, none⟩ = some (.int .i64 y1) ∧ w'.cell? ⟨E1, 1, none⟩ = some (.int .u64 y2) ∧ w'.cell? ⟨E1, 2, none⟩ = some (.int .i64 y3) ∧ w'.cell? ⟨E2, 0, none⟩ = some (.int .i64 y1) ∧ w'.cell? ⟨E2, 1, none⟩ = some (.int .u64 y2) ∧ w'.cell? ⟨E2, 2, none⟩ = some (.int .i64 y3)) (by kernel_rfl) (⟨m0, m1, l0, l1, l2, l3, l4, o0, o1, o2, u0, u1, u2⟩) (fun hHeld => ?_)
  refine wpAnyH_take (i := 0) (oi := _) (v := ?_) rfl (by kernel_rfl) (by kernel_rfl) (by kernel_rfl) (fun _ _ _ h => h) (Or.inl ⟨by rfl, ?_⟩) (by assumption) ?_
  rotate_left
  · intro w hSw
    try dsimp only at hSw
    go_simp
    try with_reducible rfl
  try simp only [Act.put, List.setIfInBounds_toArray, List.set_cons_zero, List.set_cons_succ]
  refine wpAnyH_take (i := 1) (oi := _) (v := ?_) rfl (by kernel_rfl) (by kernel_rfl) (by kernel_rfl) (fun _ _ _ h => h) (Or.inl ⟨by rfl, ?_⟩) (by assumption) ?_
  rotate_left
  · intro w hSw
    try dsimp only at hSw
    go_simp
    try with_reducible rfl
  try simp only [Act.put, List.setIfInBounds_toArray, List.set_cons_zero, List.set_cons_succ]
  refine wpAnyH_take (i := 2) (oi := _) (v := ?_) rfl (by kernel_rfl) (by kernel_rfl) (by kernel_rfl) (fun _ _ _ h => h) (Or.inl ⟨by rfl, ?_⟩) (by assumption) ?_
  rotate_left
  · intro w hSw
    try dsimp only at hSw
    go_simp
    try with_reducible rfl
  try simp only [Act.put, List.setIfInBounds_toArray, List.set_cons_zero, List.set_cons_succ]
  refine wpAnyH_take (i := 4) (oi := _) (v := ?_) rfl (by kernel_rfl) (by kernel_rfl) (by kernel_rfl) (fun _ _ _ h => h) (Or.inl ⟨by rfl, ?_⟩) (by assumption) ?_
  rotate_left
  · intro w hSw
    try dsimp only at hSw
    go_simp
    try with_reducible rfl
  try simp only [Act.put, List.setIfInBounds_toArray, List.set_cons_zero, List.set_cons_succ]
  refine wpAnyH_take (i := 5) (oi := _) (v := ?_) rfl (by kernel_rfl) (by kernel_rfl) (by kernel_rfl) (fun _ _ _ h => h) (Or.inl ⟨by rfl, ?_⟩) (by assumption) ?_
  rotate_left
  · intro w hSw
    try dsimp only at hSw
    go_simp
    try with_reducible rfl
  try simp only [Act.put, List.setIfInBounds_toArray, List.set_cons_zero, List.set_cons_succ]
  refine wpAnyH_ready (rs := [3, 6]) (by kernel_rfl) (by simp) ?_
  refine AllReadyH.cons (o := _) rfl (fun K hK => ?_) (AllReadyH.cons (o := _) rfl (fun K hK => ?_) AllReadyH.nil)
  · skip
    go_simp
    refine (with_any au nu cu (.slice a L.length cap) L (by omega) ⟨xc, xd, q + 1, b, y1⟩ _ ((HMO.out.row.over FA7.out HMO.out.sep).new (Fr.refl [] V).drew)).mono ?_
    rintro e w7 ⟨vl0, rfl, r5, n5, f5⟩
    obtain ⟨a5, c5, hv5⟩ := r5.val
    obtain ⟨l5, hl5⟩ : ∃ n, (withL L ⟨xc, xd, q + 1, b, y1⟩).length = n := ⟨_, rfl⟩
    rw [hl5] at hv5
    subst hv5
    replace f5 := (Fr.refl [] V).drew.step f5
    have RR := R7.out.keep f5 (by simp)
    have P8 := P7.out.new f5
    have F8 : Fr [m] w w7 := FA7.out.step f5
    have N5 : ∀ g off n c, Value.slice a5 l5 c5 = .slice (some ⟨g, off, none⟩) n c → w.heap.size ≤ g := fun g off n c e => by have : V.drew.heap.size ≤ g := n5 g off n c e; have : V.heap.size ≤ g := this; omega
    have NR : ∀ g off n c, Value.slice a5 l5 c5 = .slice (some ⟨g, off, none⟩) n c → g ≠ w.heap.size + 1 + 1 := fun g off n c e => by have : V.drew.heap.size ≤ g := n5 g off n c e; have : V.heap.size ≤ g := this; omega
    have MP := Lib.hid (HMO.out.put P8 F8 r5 hLF.out hInv.out (withL_len _ _) N5)
    have F8' := Lib.hid F8
    have NR' := Lib.hid NR
    have R5' := Lib.hid RR
    have r0 := RR.c0
    have r1 := RR.c1
    have rz := RR.fz
    have F5 := Lib.hid f5
    clear r5 n5 f5 P8 F8 RR N5 NR hl5
    refine hK.out _ _ (KS.out _ (F5.out.mono (fun _ hx => by cases hx))) (fun hHeld => ?_)
    clear hK K
    try simp only [Act.put, List.setIfInBounds_toArray, List.set_cons_zero, List.set_cons_succ]
    refine wpAnyH_ready (rs := [6]) (by kernel_rfl) (by simp) ?_
    refine AllReadyH.cons (o := _) rfl (fun K hK => ?_) AllReadyH.nil
    go_simp
    refine hK.out _ _ (KS.out _ (F5.out.mono (fun _ hx => by cases hx))) (fun hHeld => ?_)
    clear hK K
    try simp only [Act.put, List.setIfInBounds_toArray, List.set_cons_zero, List.set_cons_succ]
    refine wpAnyH_take (i := 7) (oi := _) (v := ?_) rfl (by kernel_rfl) (by kernel_rfl) (by kernel_rfl) (fun _ _ _ h => h) (Or.inl ⟨by rfl, ?_⟩) (by assumption) ?_
    rotate_left
    · intro w hSw
      try dsimp only at hSw
      go_simp
      try with_reducible rfl
    try simp only [Act.put, List.setIfInBounds_toArray, List.set_cons_zero, List.set_cons_succ]
    refine wpAnyH_take (i := 8) (oi := _) (v := ?_) rfl (by kernel_rfl) (by kernel_rfl) (by kernel_rfl) (fun _ _ _ h => h) (Or.inl ⟨by rfl, ?_⟩) (by assumption) ?_
    rotate_left
    · intro w hSw
      try dsimp only at hSw
      go_simp
      try with_reducible rfl
    try simp only [Act.put, List.setIfInBounds_toArray, List.set_cons_zero, List.set_cons_succ]
    refine wpAnyH_take (i := 9) (oi := _) (v := ?_) rfl (by kernel_rfl) (by kernel_rfl) (by kernel_rfl) (fun _ _ _ h => h) (Or.inl ⟨by rfl, ?_⟩) (by assumption) ?_
    rotate_left
    · intro w hSw
      try dsimp only at hSw
      go_simp
      try with_reducible rfl
    try simp only [Act.put, List.setIfInBounds_toArray, List.set_cons_zero, List.set_cons_succ]
    refine wpAnyH_take (i := 10) (oi := _) (v := ?_) rfl (by kernel_rfl) (by kernel_rfl) (by kernel_rfl) (fun _ _ _ h => h) (Or.inl ⟨by rfl, ?_⟩) (by assumption) ?_
    rotate_left
    · intro w hSw
      try dsimp only at hSw
      go_simp
      try with_reducible rfl
    try simp only [Act.put, List.setIfInBounds_toArray, List.set_cons_zero, List.set_cons_succ]
    refine wpAnyH_take (i := 11) (oi := _) (v := ?_) rfl (by kernel_rfl) (by kernel_rfl) (by kernel_rfl) (fun _ _ _ h => h) (Or.inl ⟨by rfl, ?_⟩) (by assumption) ?_
    rotate_left
    · intro w hSw
      try dsimp only at hSw
      go_simp
      try with_reducible rfl
    try simp only [Act.put, List.setIfInBounds_toArray, List.set_cons_zero, List.set_cons_succ]
    refine wpAnyH_ready (rs := [12]) (by kernel_rfl) (by simp) ?_
    refine AllReadyH.cons (o := _) rfl (fun K hK => ?_) AllReadyH.nil
    go_simp
    refine hK.out _ _ (KS.out _ ((F5.out.mono (fun _ hx => by cases hx)).trans (fr_two0 w7 _ _) (fun _ hx _ => hx))) (fun hHeld => ?_)
    clear hK K
    try simp only [Act.put, List.setIfInBounds_toArray, List.set_cons_zero, List.set_cons_succ]
    refine wpAnyH_ready (rs := [13]) (by kernel_rfl) (by simp) ?_
    refine AllReadyH.cons (o := _) rfl (fun K hK => ?_) AllReadyH.nil
    go_simp
    refine hK.out _ _ (KS.out _ ((F5.out.mono (fun _ hx => by cases hx)).trans (fr_two0 w7 _ _) (fun _ hx _ => hx))) (fun hHeld => ?_)
    clear hK K
    try simp only [Act.put, List.setIfInBounds_toArray, List.set_cons_zero, List.set_cons_succ]
    refine wpAnyH_done (by kernel_rfl) ?_ _
    clear KS hHeld
    go_wp2_with fail
    have q1 : MdAt ((w7.setCell ⟨w.heap.size + 1 + 1, 0, none⟩ (.slice au nu cu)).setCell ⟨w.heap.size + 1 + 1, 1, none⟩ (.slice a5 l5 c5)) (w.heap.size + 1 + 1) (.slice au nu cu) (.slice a5 l5 c5) := (R5'.out.set0 _).set1 _
    have n0 := q1.c0
    have n1 := q1.c1
    clear r0 r1
    have fR := fr_two0 (R := w.heap.size + 1 + 1) w7 (.slice au nu cu) (.slice a5 l5 c5)
    have MZ := MP.out.ret fR (by have := cell_lt HP.out.c0; omega) (by have := HP.out.lanes.lt; omega) (fun g off n c e => by have := HP.out.low g off n c e; omega) (fun hne g off n c e => by have := HMO.out.fts.low hne g off n c e; omega) (fun _ => NR'.out)
    have MZ' := Lib.hid MZ
    have FE := Lib.hid (F8'.out.sing fR (by omega))
    clear MZ fR q1
    refine bodyPost_ret (v := .tuple #[.pointer (some ⟨p, 0, none⟩), .agg #[.slice au nu cu, .slice a5 l5 c5], .bool true]) (by simp [results, Tryd.results20, go_sem, n0, n1]) rfl ?_
    exact ⟨p, m, _, _, _, rfl, MZ'.out, FE.out, .inl ⟨rfl, rfl⟩⟩
  · skip
    go_simp
    refine hK.out _ _ (KS.out _ ((Fr.refl _ V).drew)) (fun hHeld => ?_)
    clear hK K
    try simp only [Act.put, List.setIfInBounds_toArray, List.set_cons_zero, List.set_cons_succ]
    refine wpAnyH_ready (rs := [3]) (by kernel_rfl) (by simp) ?_
    refine AllReadyH.cons (o := _) rfl (fun K hK => ?_) AllReadyH.nil
    go_simp
    refine (with_any au nu cu (.slice a L.length cap) L (by omega) ⟨xc, xd, q + 1, b, y1⟩ _ ((HMO.out.row.over FA7.out HMO.out.sep).new (Fr.refl [] V).drew)).mono ?_
    rintro e w7 ⟨vl0, rfl, r5, n5, f5⟩
    obtain ⟨a5, c5, hv5⟩ := r5.val
    obtain ⟨l5, hl5⟩ : ∃ n, (withL L ⟨xc, xd, q + 1, b, y1⟩).length = n := ⟨_, rfl⟩
    rw [hl5] at hv5
    subst hv5
    replace f5 := (Fr.refl [] V).drew.step f5
    have RR := R7.out.keep f5 (by simp)
    have P8 := P7.out.new f5
    have F8 : Fr [m] w w7 := FA7.out.step f5
    have N5 : ∀ g off n c, Value.slice a5 l5 c5 = .slice (some ⟨g, off, none⟩) n c → w.heap.size ≤ g := fun g off n c e => by have : V.drew.heap.size ≤ g := n5 g off n c e; have : V.heap.size ≤ g := this; omega
    have NR : ∀ g off n c, Value.slice a5 l5 c5 = .slice (some ⟨g, off, none⟩) n c → g ≠ w.heap.size + 1 + 1 := fun g off n c e => by have : V.drew.heap.size ≤ g := n5 g off n c e; have : V.heap.size ≤ g := this; omega
    have MP := Lib.hid (HMO.out.put P8 F8 r5 hLF.out hInv.out (withL_len _ _) N5)
    have F8' := Lib.hid F8
    have NR' := Lib.hid NR
    have R5' := Lib.hid RR
    have r0 := RR.c0
    have r1 := RR.c1
    have rz := RR.fz
    have F5 := Lib.hid f5
    clear r5 n5 f5 P8 F8 RR N5 NR hl5
    refine hK.out _ _ (KS.out _ (F5.out.mono (fun _ hx => by cases hx))) (fun hHeld => ?_)
    clear hK K
    try simp only [Act.put, List.setIfInBounds_toArray, List.set_cons_zero, List.set_cons_succ]
    refine wpAnyH_take (i := 7) (oi := _) (v := ?_) rfl (by kernel_rfl) (by kernel_rfl) (by kernel_rfl) (fun _ _ _ h => h) (Or.inl ⟨by rfl, ?_⟩) (by assumption) ?_
    rotate_left
    · intro w hSw
      try dsimp only at hSw
      go_simp
      try with_reducible rfl
    try simp only [Act.put, List.setIfInBounds_toArray, List.set_cons_zero, List.set_cons_succ]
    refine wpAnyH_take (i := 8) (oi := _) (v := ?_) rfl (by kernel_rfl) (by kernel_rfl) (by kernel_rfl) (fun _ _ _ h => h) (Or.inl ⟨by rfl, ?_⟩) (by assumption) ?_
    rotate_left
    · intro w hSw
      try dsimp only at hSw
      go_simp
      try with_reducible rfl
    try simp only [Act.put, List.setIfInBounds_toArray, List.set_cons_zero, List.set_cons_succ]
    refine wpAnyH_take (i := 9) (oi := _) (v := ?_) rfl (by kernel_rfl) (by kernel_rfl) (by kernel_rfl) (fun _ _ _ h => h) (Or.inl ⟨by rfl, ?_⟩) (by assumption) ?_
    rotate_left
    · intro w hSw
      try dsimp only at hSw
      go_simp
      try with_reducible rfl
    try simp only [Act.put, List.setIfInBounds_toArray, List.set_cons_zero, List.set_cons_succ]
    refine wpAnyH_take (i := 10) (oi := _) (v := ?_) rfl (by kernel_rfl) (by kernel_rfl) (by kernel_rfl) (fun _ _ _ h => h) (Or.inl ⟨by rfl, ?_⟩) (by assumption) ?_
    rotate_left
    · intro w hSw
      try dsimp only at hSw
      go_simp
      try with_reducible rfl
    try simp only [Act.put, List.setIfInBounds_toArray, List.set_cons_zero, List.set_cons_succ]
    refine wpAnyH_take (i := 11) (oi := _) (v := ?_) rfl (by kernel_rfl) (by kernel_rfl) (by kernel_rfl) (fun _ _ _ h => h) (Or.inl ⟨by rfl, ?_⟩) (by assumption) ?_
    rotate_left
    · intro w hSw
      try dsimp only at hSw
      go_simp
      try with_reducible rfl
    try simp only [Act.put, List.setIfInBounds_toArray, List.set_cons_zero, List.set_cons_succ]
    refine wpAnyH_ready (rs := [12]) (by kernel_rfl) (by simp) ?_
    refine AllReadyH.cons (o := _) rfl (fun K hK => ?_) AllReadyH.nil
    go_simp
    refine hK.out _ _ (KS.out _ ((F5.out.mono (fun _ hx => by cases hx)).trans (fr_two0 w7 _ _) (fun _ hx _ => hx))) (fun hHeld => ?_)
    clear hK K
    try simp only [Act.put, List.setIfInBounds_toArray, List.set_cons_zero, List.set_cons_succ]
    refine wpAnyH_ready (rs := [13]) (by kernel_rfl) (by simp) ?_
    refine AllReadyH.cons (o := _) rfl (fun K hK => ?_) AllReadyH.nil
    go_simp
    refine hK.out _ _ (KS.out _ ((F5.out.mono (fun _ hx => by cases hx)).trans (fr_two0 w7 _ _) (fun _ hx _ => hx))) (fun hHeld => ?_)
    clear hK K
    try simp only [Act.put, List.setIfInBounds_toArray, List.set_cons_zero, List.set_cons_succ]
    refine wpAnyH_done (by kernel_rfl) ?_ _
    clear KS hHeld
    go_wp2_with fail
    have q1 : MdAt ((w7.setCell ⟨w.heap.size + 1 + 1, 0, none⟩ (.slice au nu cu)).setCell ⟨w.heap.size + 1 + 1, 1, none⟩ (.slice a5 l5 c5)) (w.heap.size + 1 + 1) (.slice au nu cu) (.slice a5 l5 c5) := (R5'.out.set0 _).set1 _
    have n0 := q1.c0
    have n1 := q1.c1
    clear r0 r1
    have fR := fr_two0 (R := w.heap.size + 1 + 1) w7 (.slice au nu cu) (.slice a5 l5 c5)
    have MZ := MP.out.ret fR (by have := cell_lt HP.out.c0; omega) (by have := HP.out.lanes.lt; omega) (fun g off n c e => by have := HP.out.low g off n c e; omega) (fun hne g off n c e => by have := HMO.out.fts.low hne g off n c e; omega) (fun _ => NR'.out)
    have MZ' := Lib.hid MZ
    have FE := Lib.hid (F8'.out.sing fR (by omega))
    clear MZ fR q1
    refine bodyPost_ret (v := .tuple #[.pointer (some ⟨p, 0, none⟩), .agg #[.slice au nu cu, .slice a5 l5 c5], .bool true]) (by simp [results, Tryd.results20, go_sem, n0, n1]) rfl ?_
    exact ⟨p, m, _, _, _, rfl, MZ'.out, FE.out, .inl ⟨rfl, rfl⟩⟩
end Go.Proofs.YtededfkenlhokaaDoor
