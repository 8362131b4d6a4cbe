/- Contract of the law's own step: acts that do nothing. -/
import Derived.Test.YtededfkenlhokaaDoorQ7
import Derived.BigQuiet
import Derived.Outline
namespace Go.Proofs.YtededfkenlhokaaDoor
open Go.RowKit Go.Shelf
set_option linter.unusedVariables false
set_option linter.unusedSimpArgs false
set_option maxRecDepth 100000
set_option maxHeartbeats 8000000

theorem step_bad1 {p m : Nat} {v : Value} {fs : List Ft} {F : LF} (au : Option Addr) (nu cu : Nat) (vl : Value) (L : List Ft) (k : Nat) (hk : k ≤ 24) (x : Ac) (hx0 : x.what = 0) (hb : laneB x.c x.d = false) (w : World) (hM : Mods w p m v (.slice au nu cu) fs F vl L k) :
    Calls Tryd.prog 20 #[.pointer (some ⟨p, 0, none⟩), .agg #[.slice au nu cu, vl], .agg #[.int .i64 x.what, .int .i64 x.c, .int .i64 x.d, .int .i64 x.n]] w (StepPost w p m v (.slice au nu cu) fs k) := by
  have g0 : (x.what == 0) = true := beq_iff_eq.2 hx0
  have h := hM.plan
  have hr := hM.row
  have hp := hM.inv
  have hl := hM.len
  obtain ⟨a, cap, rfl⟩ := hr.val
  obtain ⟨W0, hW0⟩ : ∃ W, ((w.alloc (.cells #[.slice au nu cu, .slice a L.length cap] 58)).alloc (.cells #[.int .i64 x.what, .int .i64 x.c, .int .i64 x.d, .int .i64 x.n] 44)).alloc (.cells #[.slice none 0 0, .slice none 0 0] 58) = W := ⟨_, rfl⟩
  obtain ⟨s1, s2, s3, s4⟩ := step_start w _ _ x hW0
  have HOF := Lib.hid (ofL_any (.slice au nu cu) (.slice a L.length cap) L (by omega) x.c x.d W0 (hr.new s4))
  obtain ⟨q, b, le, hq⟩ : ∃ q b le, F x.c x.d = (q, b, le) := ⟨_, _, _, rfl⟩
  have hof := hM.lf x.c x.d
  rw [hq] at hof
  simp only at hof
  rw [hof] at HOF
  unfold lnV at HOF
  have S1 := Lib.hid s1
  have S2 := Lib.hid s2
  have S3 := Lib.hid s3
  have S4 := Lib.hid s4
  have HW := Lib.hid hW0
  have HP := Lib.hid h
  have HI := Lib.hid hp
  have HMO := Lib.hid hM
  have HQ := Lib.hid hq
  clear s1 s2 s3 s4 hW0 h hr hM hp hof hq hx0
  obtain ⟨xw, xc, xd, xn⟩ := x
  simp only at HW HOF S2 HQ g0 hb ⊢
  go_enter Tryd.func20, Tryd.ntmps20
  go_wp2_with fail
  simp only [HW.out]
  refine HOF.out.mono ?_
  rintro e w1 ⟨rfl, f1⟩
  simp only
  have f2 : Fr [] w1 (w1.alloc (.cells #[.int .i64 xc, .int .i64 xd, .int .i64 q, .int .i64 b, .int .i64 le] 97)) := (Fr.refl [] w1).alloc _
  have Y2 := Lib.hid (LnAt.made w1 ⟨xc, xd, q, b, le⟩)
  have ac := S2.out.keep (f1.step f2) (by simp)
  have a0 := ac.c0
  have a1 := ac.c1
  have a2 := ac.c2
  have a3 := ac.c3
  simp only at a0 a1 a2 a3
  have P2 := Lib.hid (HP.out.new (S4.out.step (f1.step f2)))
  have A2 := Lib.hid ac
  have F2 := Lib.hid (f1.step f2)
  have hb1 := S3.out.lt
  have hb2 := f1.size
  clear f1 f2 ac
  have HLN := Lib.hid (fun W => laneL_any xc xd W)
  rw [hb] at HLN
  have HB := Lib.hid hb
  clear hb
  go_wp2_with fail
  refine (call_bad _ _ _ P2.out xn (.inl HB.out)).mono ?_
  rintro e w3 ⟨rfl, f3⟩
  have f4 : Fr [] w3 (w3.alloc (.cells #[.int .i64 0, .int .u64 0, .int .i64 0] 51)) := (Fr.refl [] w3).alloc _
  have O4 := OutAt.made w3 (0, 0, 0)
  have A4 := A2.out.keep (f3.step f4) (by simp)
  have b1 := A4.c1
  have b2 := A4.c2
  have b3 := A4.c3
  have o0 := O4.c0
  have o1 := O4.c1
  have o2 := O4.c2
  simp only at b1 b2 b3 o0 o1 o2
  have heq : ∀ W, (binOp .eql 51 (.agg #[.int .i64 0, .int .u64 0, .int .i64 0]) (.agg #[.int .i64 0, .int .u64 0, .int .i64 0])).run Tryd.prog W = .ok (.bool true) W := fun W => by
    have := eqEf (0, 0, 0) (0, 0, 0) W
    rw [decide_eq_true rfl] at this
    exact this
  have FB := Lib.hid (F2.out.step (f3.step f4))
  obtain ⟨w4, hw4⟩ : ∃ W, w3.alloc (.cells #[.int .i64 0, .int .u64 0, .int .i64 0] 51) = W := ⟨_, rfl⟩
  have HW4 := Lib.hid hw4
  rw [hw4] at FB
  clear a0 a1 a2 a3 A4 O4 f3 f4 hw4
  have FZ := Lib.hid (FB.out)
  have R5 := S3.out.keep FZ.out (by simp)
  have M5 := S1.out.keep FZ.out (by simp)
  have m0 := M5.c0
  have m1 := M5.c1
  have r0 := R5.c0
  have r1 := R5.c1
  have rz := R5.fz
  have R5' := Lib.hid R5
  clear M5 R5
  go_wp2_with fail
  refine (HLN.out _).mono ?_
  rintro e w' ⟨rfl, rfl⟩
  go_wp2_with fail
  simp only [HW4.out] at b1 b2 b3 o0 o1 o2 ⊢
  go_region
  all_goals go_wp2
  have q1 : MdAt ((w4.setCell ⟨w.heap.size + 1 + 1, 0, none⟩ (.slice au nu cu)).setCell ⟨w.heap.size + 1 + 1, 1, none⟩ (.slice a L.length cap)) (w.heap.size + 1 + 1) (.slice au nu cu) (.slice a L.length cap) := (R5'.out.set0 _).set1 _
  have n0 := q1.c0
  have n1 := q1.c1
  clear r0 r1 m0 m1
  have fR := fr_two (R := w.heap.size + 1 + 1) w4 (.slice au nu cu) (.slice a L.length cap)
  have FA := (S4.out.step FZ.out).mono (T := [m]) (fun _ hx => by cases hx)
  have MZ := (HMO.out.skip (S4.out.step FZ.out)).ret fR (by have := cell_lt HP.out.c0; omega) (by have := HP.out.lanes.lt; omega) (fun g off n c e => by have := HP.out.low g off n c e; omega) (fun hne g off n c e => by have := HMO.out.fts.low hne g off n c e; omega) (fun hne g off n c e => by have := HMO.out.row.low hne g off n c e; omega)
  have MZ' := Lib.hid MZ
  have FE := Lib.hid (FA.sing fR (by omega))
  clear MZ fR FA q1
  refine bodyPost_ret (v := .tuple #[.pointer (some ⟨p, 0, none⟩), .agg #[.slice au nu cu, .slice a L.length cap], .bool true]) (by simp [results, Tryd.results20, go_sem, n0, n1]) rfl ?_
  exact ⟨p, m, F, L, _, rfl, MZ'.out, FE.out, .inl ⟨rfl, rfl⟩⟩
theorem step_bad2 {p m : Nat} {v : Value} {fs : List Ft} {F : LF} (au : Option Addr) (nu cu : Nat) (vl : Value) (L : List Ft) (k : Nat) (hk : k ≤ 24) (x : Ac) (hx0 : x.what = 0) (hb : laneB x.c x.d = true) (hn : x.n < 0) (w : World) (hM : Mods w p m v (.slice au nu cu) fs F vl L k) :
    Calls Tryd.prog 20 #[.pointer (some ⟨p, 0, none⟩), .agg #[.slice au nu cu, vl], .agg #[.int .i64 x.what, .int .i64 x.c, .int .i64 x.d, .int .i64 x.n]] w (StepPost w p m v (.slice au nu cu) fs k) := by
  have g0 : (x.what == 0) = true := beq_iff_eq.2 hx0
  have h := hM.plan
  have hr := hM.row
  have hp := hM.inv
  have hl := hM.len
  obtain ⟨a, cap, rfl⟩ := hr.val
  obtain ⟨W0, hW0⟩ : ∃ W, ((w.alloc (.cells #[.slice au nu cu, .slice a L.length cap] 58)).alloc (.cells #[.int .i64 x.what, .int .i64 x.c, .int .i64 x.d, .int .i64 x.n] 44)).alloc (.cells #[.slice none 0 0, .slice none 0 0] 58) = W := ⟨_, rfl⟩
  obtain ⟨s1, s2, s3, s4⟩ := step_start w _ _ x hW0
  have HOF := Lib.hid (ofL_any (.slice au nu cu) (.slice a L.length cap) L (by omega) x.c x.d W0 (hr.new s4))
  obtain ⟨q, b, le, hq⟩ : ∃ q b le, F x.c x.d = (q, b, le) := ⟨_, _, _, rfl⟩
  have hof := hM.lf x.c x.d
  rw [hq] at hof
  simp only at hof
  rw [hof] at HOF
  unfold lnV at HOF
  have S1 := Lib.hid s1
  have S2 := Lib.hid s2
  have S3 := Lib.hid s3
  have S4 := Lib.hid s4
  have HW := Lib.hid hW0
  have HP := Lib.hid h
  have HI := Lib.hid hp
  have HMO := Lib.hid hM
  have HQ := Lib.hid hq
  clear s1 s2 s3 s4 hW0 h hr hM hp hof hq hx0
  obtain ⟨xw, xc, xd, xn⟩ := x
  simp only at HW HOF S2 HQ g0 hb hn ⊢
  go_enter Tryd.func20, Tryd.ntmps20
  go_wp2_with fail
  simp only [HW.out]
  refine HOF.out.mono ?_
  rintro e w1 ⟨rfl, f1⟩
  simp only
  have f2 : Fr [] w1 (w1.alloc (.cells #[.int .i64 xc, .int .i64 xd, .int .i64 q, .int .i64 b, .int .i64 le] 97)) := (Fr.refl [] w1).alloc _
  have Y2 := Lib.hid (LnAt.made w1 ⟨xc, xd, q, b, le⟩)
  have ac := S2.out.keep (f1.step f2) (by simp)
  have a0 := ac.c0
  have a1 := ac.c1
  have a2 := ac.c2
  have a3 := ac.c3
  simp only at a0 a1 a2 a3
  have P2 := Lib.hid (HP.out.new (S4.out.step (f1.step f2)))
  have A2 := Lib.hid ac
  have F2 := Lib.hid (f1.step f2)
  have hb1 := S3.out.lt
  have hb2 := f1.size
  clear f1 f2 ac
  have HLN := Lib.hid (fun W => laneL_any xc xd W)
  rw [hb] at HLN
  have HB := Lib.hid hb
  clear hb
  go_wp2_with fail
  refine (call_bad _ _ _ P2.out xn (.inr (by omega))).mono ?_
  rintro e w3 ⟨rfl, f3⟩
  have f4 : Fr [] w3 (w3.alloc (.cells #[.int .i64 0, .int .u64 0, .int .i64 0] 51)) := (Fr.refl [] w3).alloc _
  have O4 := OutAt.made w3 (0, 0, 0)
  have A4 := A2.out.keep (f3.step f4) (by simp)
  have b1 := A4.c1
  have b2 := A4.c2
  have b3 := A4.c3
  have o0 := O4.c0
  have o1 := O4.c1
  have o2 := O4.c2
  simp only at b1 b2 b3 o0 o1 o2
  have heq : ∀ W, (binOp .eql 51 (.agg #[.int .i64 0, .int .u64 0, .int .i64 0]) (.agg #[.int .i64 0, .int .u64 0, .int .i64 0])).run Tryd.prog W = .ok (.bool true) W := fun W => by
    have := eqEf (0, 0, 0) (0, 0, 0) W
    rw [decide_eq_true rfl] at this
    exact this
  have FB := Lib.hid (F2.out.step (f3.step f4))
  obtain ⟨w4, hw4⟩ : ∃ W, w3.alloc (.cells #[.int .i64 0, .int .u64 0, .int .i64 0] 51) = W := ⟨_, rfl⟩
  have HW4 := Lib.hid hw4
  rw [hw4] at FB
  clear a0 a1 a2 a3 A4 O4 f3 f4 hw4
  have FZ := Lib.hid (FB.out)
  have R5 := S3.out.keep FZ.out (by simp)
  have M5 := S1.out.keep FZ.out (by simp)
  have m0 := M5.c0
  have m1 := M5.c1
  have r0 := R5.c0
  have r1 := R5.c1
  have rz := R5.fz
  have R5' := Lib.hid R5
  clear M5 R5
  go_wp2_with fail
  refine (HLN.out _).mono ?_
  rintro e w' ⟨rfl, rfl⟩
  go_wp2_with fail
  simp only [HW4.out] at b1 b2 b3 o0 o1 o2 ⊢
  go_region
  all_goals go_wp2
  have q1 : MdAt ((w4.setCell ⟨w.heap.size + 1 + 1, 0, none⟩ (.slice au nu cu)).setCell ⟨w.heap.size + 1 + 1, 1, none⟩ (.slice a L.length cap)) (w.heap.size + 1 + 1) (.slice au nu cu) (.slice a L.length cap) := (R5'.out.set0 _).set1 _
  have n0 := q1.c0
  have n1 := q1.c1
  clear r0 r1 m0 m1
  have fR := fr_two (R := w.heap.size + 1 + 1) w4 (.slice au nu cu) (.slice a L.length cap)
  have FA := (S4.out.step FZ.out).mono (T := [m]) (fun _ hx => by cases hx)
  have MZ := (HMO.out.skip (S4.out.step FZ.out)).ret fR (by have := cell_lt HP.out.c0; omega) (by have := HP.out.lanes.lt; omega) (fun g off n c e => by have := HP.out.low g off n c e; omega) (fun hne g off n c e => by have := HMO.out.fts.low hne g off n c e; omega) (fun hne g off n c e => by have := HMO.out.row.low hne g off n c e; omega)
  have MZ' := Lib.hid MZ
  have FE := Lib.hid (FA.sing fR (by omega))
  clear MZ fR FA q1
  refine bodyPost_ret (v := .tuple #[.pointer (some ⟨p, 0, none⟩), .agg #[.slice au nu cu, .slice a L.length cap], .bool true]) (by simp [results, Tryd.results20, go_sem, n0, n1]) rfl ?_
  exact ⟨p, m, F, L, _, rfl, MZ'.out, FE.out, .inl ⟨rfl, rfl⟩⟩
theorem step_bad3 {p m : Nat} {v : Value} {fs : List Ft} {F : LF} (au : Option Addr) (nu cu : Nat) (vl : Value) (L : List Ft) (k : Nat) (hk : k ≤ 24) (x : Ac) (hx0 : x.what = 0) (hb : laneB x.c x.d = true) (hn : 0 ≤ x.n) (hn2 : 65536 < x.n) (w : World) (hM : Mods w p m v (.slice au nu cu) fs F vl L k) :
    Calls Tryd.prog 20 #[.pointer (some ⟨p, 0, none⟩), .agg #[.slice au nu cu, vl], .agg #[.int .i64 x.what, .int .i64 x.c, .int .i64 x.d, .int .i64 x.n]] w (StepPost w p m v (.slice au nu cu) fs k) := by
  have g0 : (x.what == 0) = true := beq_iff_eq.2 hx0
  have h := hM.plan
  have hr := hM.row
  have hp := hM.inv
  have hl := hM.len
  obtain ⟨a, cap, rfl⟩ := hr.val
  obtain ⟨W0, hW0⟩ : ∃ W, ((w.alloc (.cells #[.slice au nu cu, .slice a L.length cap] 58)).alloc (.cells #[.int .i64 x.what, .int .i64 x.c, .int .i64 x.d, .int .i64 x.n] 44)).alloc (.cells #[.slice none 0 0, .slice none 0 0] 58) = W := ⟨_, rfl⟩
  obtain ⟨s1, s2, s3, s4⟩ := step_start w _ _ x hW0
  have HOF := Lib.hid (ofL_any (.slice au nu cu) (.slice a L.length cap) L (by omega) x.c x.d W0 (hr.new s4))
  obtain ⟨q, b, le, hq⟩ : ∃ q b le, F x.c x.d = (q, b, le) := ⟨_, _, _, rfl⟩
  have hof := hM.lf x.c x.d
  rw [hq] at hof
  simp only at hof
  rw [hof] at HOF
  unfold lnV at HOF
  have S1 := Lib.hid s1
  have S2 := Lib.hid s2
  have S3 := Lib.hid s3
  have S4 := Lib.hid s4
  have HW := Lib.hid hW0
  have HP := Lib.hid h
  have HI := Lib.hid hp
  have HMO := Lib.hid hM
  have HQ := Lib.hid hq
  clear s1 s2 s3 s4 hW0 h hr hM hp hof hq hx0
  obtain ⟨xw, xc, xd, xn⟩ := x
  simp only at HW HOF S2 HQ g0 hb hn hn2 ⊢
  go_enter Tryd.func20, Tryd.ntmps20
  go_wp2_with fail
  simp only [HW.out]
  refine HOF.out.mono ?_
  rintro e w1 ⟨rfl, f1⟩
  simp only
  have f2 : Fr [] w1 (w1.alloc (.cells #[.int .i64 xc, .int .i64 xd, .int .i64 q, .int .i64 b, .int .i64 le] 97)) := (Fr.refl [] w1).alloc _
  have Y2 := Lib.hid (LnAt.made w1 ⟨xc, xd, q, b, le⟩)
  have ac := S2.out.keep (f1.step f2) (by simp)
  have a0 := ac.c0
  have a1 := ac.c1
  have a2 := ac.c2
  have a3 := ac.c3
  simp only at a0 a1 a2 a3
  have P2 := Lib.hid (HP.out.new (S4.out.step (f1.step f2)))
  have A2 := Lib.hid ac
  have F2 := Lib.hid (f1.step f2)
  have hb1 := S3.out.lt
  have hb2 := f1.size
  clear f1 f2 ac
  have HLN := Lib.hid (fun W => laneL_any xc xd W)
  rw [hb] at HLN
  have HB := Lib.hid hb
  clear hb
  go_wp2_with fail
  refine (call_bad _ _ _ P2.out xn (.inr (by omega))).mono ?_
  rintro e w3 ⟨rfl, f3⟩
  have f4 : Fr [] w3 (w3.alloc (.cells #[.int .i64 0, .int .u64 0, .int .i64 0] 51)) := (Fr.refl [] w3).alloc _
  have O4 := OutAt.made w3 (0, 0, 0)
  have A4 := A2.out.keep (f3.step f4) (by simp)
  have b1 := A4.c1
  have b2 := A4.c2
  have b3 := A4.c3
  have o0 := O4.c0
  have o1 := O4.c1
  have o2 := O4.c2
  simp only at b1 b2 b3 o0 o1 o2
  have heq : ∀ W, (binOp .eql 51 (.agg #[.int .i64 0, .int .u64 0, .int .i64 0]) (.agg #[.int .i64 0, .int .u64 0, .int .i64 0])).run Tryd.prog W = .ok (.bool true) W := fun W => by
    have := eqEf (0, 0, 0) (0, 0, 0) W
    rw [decide_eq_true rfl] at this
    exact this
  have FB := Lib.hid (F2.out.step (f3.step f4))
  obtain ⟨w4, hw4⟩ : ∃ W, w3.alloc (.cells #[.int .i64 0, .int .u64 0, .int .i64 0] 51) = W := ⟨_, rfl⟩
  have HW4 := Lib.hid hw4
  rw [hw4] at FB
  clear a0 a1 a2 a3 A4 O4 f3 f4 hw4
  have FZ := Lib.hid (FB.out)
  have R5 := S3.out.keep FZ.out (by simp)
  have M5 := S1.out.keep FZ.out (by simp)
  have m0 := M5.c0
  have m1 := M5.c1
  have r0 := R5.c0
  have r1 := R5.c1
  have rz := R5.fz
  have R5' := Lib.hid R5
  clear M5 R5
  go_wp2_with fail
  refine (HLN.out _).mono ?_
  rintro e w' ⟨rfl, rfl⟩
  go_wp2_with fail
  simp only [HW4.out] at b1 b2 b3 o0 o1 o2 ⊢
  go_region
  all_goals go_wp2
  have q1 : MdAt ((w4.setCell ⟨w.heap.size + 1 + 1, 0, none⟩ (.slice au nu cu)).setCell ⟨w.heap.size + 1 + 1, 1, none⟩ (.slice a L.length cap)) (w.heap.size + 1 + 1) (.slice au nu cu) (.slice a L.length cap) := (R5'.out.set0 _).set1 _
  have n0 := q1.c0
  have n1 := q1.c1
  clear r0 r1 m0 m1
  have fR := fr_two (R := w.heap.size + 1 + 1) w4 (.slice au nu cu) (.slice a L.length cap)
  have FA := (S4.out.step FZ.out).mono (T := [m]) (fun _ hx => by cases hx)
  have MZ := (HMO.out.skip (S4.out.step FZ.out)).ret fR (by have := cell_lt HP.out.c0; omega) (by have := HP.out.lanes.lt; omega) (fun g off n c e => by have := HP.out.low g off n c e; omega) (fun hne g off n c e => by have := HMO.out.fts.low hne g off n c e; omega) (fun hne g off n c e => by have := HMO.out.row.low hne g off n c e; omega)
  have MZ' := Lib.hid MZ
  have FE := Lib.hid (FA.sing fR (by omega))
  clear MZ fR FA q1
  refine bodyPost_ret (v := .tuple #[.pointer (some ⟨p, 0, none⟩), .agg #[.slice au nu cu, .slice a L.length cap], .bool true]) (by simp [results, Tryd.results20, go_sem, n0, n1]) rfl ?_
  exact ⟨p, m, F, L, _, rfl, MZ'.out, FE.out, .inl ⟨rfl, rfl⟩⟩
theorem step_bad4 {p m : Nat} {v : Value} {fs : List Ft} {F : LF} (au : Option Addr) (nu cu : Nat) (vl : Value) (L : List Ft) (k : Nat) (hk : k ≤ 24) (x : Ac) (hx1 : x.what = 1) (hb : laneB x.c x.d = false) (w : World) (hM : Mods w p m v (.slice au nu cu) fs F vl L k) :
    Calls Tryd.prog 20 #[.pointer (some ⟨p, 0, none⟩), .agg #[.slice au nu cu, vl], .agg #[.int .i64 x.what, .int .i64 x.c, .int .i64 x.d, .int .i64 x.n]] w (StepPost w p m v (.slice au nu cu) fs k) := by
  have g0 : (x.what == 0) = false := beq_eq_false_iff_ne.2 (by omega)
  have g1 : (x.what == 1) = true := beq_iff_eq.2 hx1
  have h := hM.plan
  have hr := hM.row
  have hp := hM.inv
  have hl := hM.len
  obtain ⟨a, cap, rfl⟩ := hr.val
  obtain ⟨W0, hW0⟩ : ∃ W, ((w.alloc (.cells #[.slice au nu cu, .slice a L.length cap] 58)).alloc (.cells #[.int .i64 x.what, .int .i64 x.c, .int .i64 x.d, .int .i64 x.n] 44)).alloc (.cells #[.slice none 0 0, .slice none 0 0] 58) = W := ⟨_, rfl⟩
  obtain ⟨s1, s2, s3, s4⟩ := step_start w _ _ x hW0
  have HOF := Lib.hid (ofL_any (.slice au nu cu) (.slice a L.length cap) L (by omega) x.c x.d W0 (hr.new s4))
  obtain ⟨q, b, le, hq⟩ : ∃ q b le, F x.c x.d = (q, b, le) := ⟨_, _, _, rfl⟩
  have hof := hM.lf x.c x.d
  rw [hq] at hof
  simp only at hof
  rw [hof] at HOF
  unfold lnV at HOF
  have S1 := Lib.hid s1
  have S2 := Lib.hid s2
  have S3 := Lib.hid s3
  have S4 := Lib.hid s4
  have HW := Lib.hid hW0
  have HP := Lib.hid h
  have HI := Lib.hid hp
  have HMO := Lib.hid hM
  have HQ := Lib.hid hq
  clear s1 s2 s3 s4 hW0 h hr hM hp hof hq hx1
  obtain ⟨xw, xc, xd, xn⟩ := x
  simp only at HW HOF S2 HQ g0 g1 hb ⊢
  go_enter Tryd.func20, Tryd.ntmps20
  go_wp2_with fail
  simp only [HW.out]
  refine HOF.out.mono ?_
  rintro e w1 ⟨rfl, f1⟩
  simp only
  have f2 : Fr [] w1 (w1.alloc (.cells #[.int .i64 xc, .int .i64 xd, .int .i64 q, .int .i64 b, .int .i64 le] 97)) := (Fr.refl [] w1).alloc _
  have Y2 := Lib.hid (LnAt.made w1 ⟨xc, xd, q, b, le⟩)
  have ac := S2.out.keep (f1.step f2) (by simp)
  have a0 := ac.c0
  have a1 := ac.c1
  have a2 := ac.c2
  have a3 := ac.c3
  simp only at a0 a1 a2 a3
  have P2 := Lib.hid (HP.out.new (S4.out.step (f1.step f2)))
  have A2 := Lib.hid ac
  have F2 := Lib.hid (f1.step f2)
  have hb1 := S3.out.lt
  have hb2 := f1.size
  clear f1 f2 ac
  have HLN := Lib.hid (fun W => laneL_any xc xd W)
  rw [hb] at HLN
  have HB := Lib.hid hb
  clear hb
  go_wp2_with fail
  refine (moved_bad _ _ _ P2.out xn (.inl HB.out)).mono ?_
  rintro e w' ⟨rfl, rfl⟩
  go_wp2_with fail
  refine (HLN.out _).mono ?_
  rintro e w' ⟨rfl, rfl⟩
  go_wp2_with fail
  obtain ⟨w4, hw4⟩ : ∃ W, w1.alloc (.cells #[.int .i64 xc, .int .i64 xd, .int .i64 q, .int .i64 b, .int .i64 le] 97) = W := ⟨_, rfl⟩
  simp only [hw4] at F2 ⊢
  clear a0 a1 a2 a3 hw4
  have FZ := Lib.hid (F2.out)
  have R5 := S3.out.keep FZ.out (by simp)
  have M5 := S1.out.keep FZ.out (by simp)
  have m0 := M5.c0
  have m1 := M5.c1
  have r0 := R5.c0
  have r1 := R5.c1
  have rz := R5.fz
  have R5' := Lib.hid R5
  clear M5 R5
  go_region
  all_goals go_wp2
  have q1 : MdAt ((w4.setCell ⟨w.heap.size + 1 + 1, 0, none⟩ (.slice au nu cu)).setCell ⟨w.heap.size + 1 + 1, 1, none⟩ (.slice a L.length cap)) (w.heap.size + 1 + 1) (.slice au nu cu) (.slice a L.length cap) := (R5'.out.set0 _).set1 _
  have n0 := q1.c0
  have n1 := q1.c1
  clear r0 r1 m0 m1
  have fR := fr_two (R := w.heap.size + 1 + 1) w4 (.slice au nu cu) (.slice a L.length cap)
  have FA := (S4.out.step FZ.out).mono (T := [m]) (fun _ hx => by cases hx)
  have MZ := (HMO.out.skip (S4.out.step FZ.out)).ret fR (by have := cell_lt HP.out.c0; omega) (by have := HP.out.lanes.lt; omega) (fun g off n c e => by have := HP.out.low g off n c e; omega) (fun hne g off n c e => by have := HMO.out.fts.low hne g off n c e; omega) (fun hne g off n c e => by have := HMO.out.row.low hne g off n c e; omega)
  have MZ' := Lib.hid MZ
  have FE := Lib.hid (FA.sing fR (by omega))
  clear MZ fR FA q1
  refine bodyPost_ret (v := .tuple #[.pointer (some ⟨p, 0, none⟩), .agg #[.slice au nu cu, .slice a L.length cap], .bool true]) (by simp [results, Tryd.results20, go_sem, n0, n1]) rfl ?_
  exact ⟨p, m, F, L, _, rfl, MZ'.out, FE.out, .inl ⟨rfl, rfl⟩⟩
theorem step_bad5 {p m : Nat} {v : Value} {fs : List Ft} {F : LF} (au : Option Addr) (nu cu : Nat) (vl : Value) (L : List Ft) (k : Nat) (hk : k ≤ 24) (x : Ac) (hx1 : x.what = 1) (hb : laneB x.c x.d = true) (hn : x.n < 0) (w : World) (hM : Mods w p m v (.slice au nu cu) fs F vl L k) :
    Calls Tryd.prog 20 #[.pointer (some ⟨p, 0, none⟩), .agg #[.slice au nu cu, vl], .agg #[.int .i64 x.what, .int .i64 x.c, .int .i64 x.d, .int .i64 x.n]] w (StepPost w p m v (.slice au nu cu) fs k) := by
  have g0 : (x.what == 0) = false := beq_eq_false_iff_ne.2 (by omega)
  have g1 : (x.what == 1) = true := beq_iff_eq.2 hx1
  have h := hM.plan
  have hr := hM.row
  have hp := hM.inv
  have hl := hM.len
  obtain ⟨a, cap, rfl⟩ := hr.val
  obtain ⟨W0, hW0⟩ : ∃ W, ((w.alloc (.cells #[.slice au nu cu, .slice a L.length cap] 58)).alloc (.cells #[.int .i64 x.what, .int .i64 x.c, .int .i64 x.d, .int .i64 x.n] 44)).alloc (.cells #[.slice none 0 0, .slice none 0 0] 58) = W := ⟨_, rfl⟩
  obtain ⟨s1, s2, s3, s4⟩ := step_start w _ _ x hW0
  have HOF := Lib.hid (ofL_any (.slice au nu cu) (.slice a L.length cap) L (by omega) x.c x.d W0 (hr.new s4))
  obtain ⟨q, b, le, hq⟩ : ∃ q b le, F x.c x.d = (q, b, le) := ⟨_, _, _, rfl⟩
  have hof := hM.lf x.c x.d
  rw [hq] at hof
  simp only at hof
  rw [hof] at HOF
  unfold lnV at HOF
  have S1 := Lib.hid s1
  have S2 := Lib.hid s2
  have S3 := Lib.hid s3
  have S4 := Lib.hid s4
  have HW := Lib.hid hW0
  have HP := Lib.hid h
  have HI := Lib.hid hp
  have HMO := Lib.hid hM
  have HQ := Lib.hid hq
  clear s1 s2 s3 s4 hW0 h hr hM hp hof hq hx1
  obtain ⟨xw, xc, xd, xn⟩ := x
  simp only at HW HOF S2 HQ g0 g1 hb hn ⊢
  go_enter Tryd.func20, Tryd.ntmps20
  go_wp2_with fail
  simp only [HW.out]
  refine HOF.out.mono ?_
  rintro e w1 ⟨rfl, f1⟩
  simp only
  have f2 : Fr [] w1 (w1.alloc (.cells #[.int .i64 xc, .int .i64 xd, .int .i64 q, .int .i64 b, .int .i64 le] 97)) := (Fr.refl [] w1).alloc _
  have Y2 := Lib.hid (LnAt.made w1 ⟨xc, xd, q, b, le⟩)
  have ac := S2.out.keep (f1.step f2) (by simp)
  have a0 := ac.c0
  have a1 := ac.c1
  have a2 := ac.c2
  have a3 := ac.c3
  simp only at a0 a1 a2 a3
  have P2 := Lib.hid (HP.out.new (S4.out.step (f1.step f2)))
  have A2 := Lib.hid ac
  have F2 := Lib.hid (f1.step f2)
  have hb1 := S3.out.lt
  have hb2 := f1.size
  clear f1 f2 ac
  have HLN := Lib.hid (fun W => laneL_any xc xd W)
  rw [hb] at HLN
  have HB := Lib.hid hb
  clear hb
  go_wp2_with fail
  refine (moved_bad _ _ _ P2.out xn (.inr hn)).mono ?_
  rintro e w' ⟨rfl, rfl⟩
  go_wp2_with fail
  refine (HLN.out _).mono ?_
  rintro e w' ⟨rfl, rfl⟩
  go_wp2_with fail
  obtain ⟨w4, hw4⟩ : ∃ W, w1.alloc (.cells #[.int .i64 xc, .int .i64 xd, .int .i64 q, .int .i64 b, .int .i64 le] 97) = W := ⟨_, rfl⟩
  simp only [hw4] at F2 ⊢
  clear a0 a1 a2 a3 hw4
  have FZ := Lib.hid (F2.out)
  have R5 := S3.out.keep FZ.out (by simp)
  have M5 := S1.out.keep FZ.out (by simp)
  have m0 := M5.c0
  have m1 := M5.c1
  have r0 := R5.c0
  have r1 := R5.c1
  have rz := R5.fz
  have R5' := Lib.hid R5
  clear M5 R5
  go_region
  all_goals go_wp2
  have q1 : MdAt ((w4.setCell ⟨w.heap.size + 1 + 1, 0, none⟩ (.slice au nu cu)).setCell ⟨w.heap.size + 1 + 1, 1, none⟩ (.slice a L.length cap)) (w.heap.size + 1 + 1) (.slice au nu cu) (.slice a L.length cap) := (R5'.out.set0 _).set1 _
  have n0 := q1.c0
  have n1 := q1.c1
  clear r0 r1 m0 m1
  have fR := fr_two (R := w.heap.size + 1 + 1) w4 (.slice au nu cu) (.slice a L.length cap)
  have FA := (S4.out.step FZ.out).mono (T := [m]) (fun _ hx => by cases hx)
  have MZ := (HMO.out.skip (S4.out.step FZ.out)).ret fR (by have := cell_lt HP.out.c0; omega) (by have := HP.out.lanes.lt; omega) (fun g off n c e => by have := HP.out.low g off n c e; omega) (fun hne g off n c e => by have := HMO.out.fts.low hne g off n c e; omega) (fun hne g off n c e => by have := HMO.out.row.low hne g off n c e; omega)
  have MZ' := Lib.hid MZ
  have FE := Lib.hid (FA.sing fR (by omega))
  clear MZ fR FA q1
  refine bodyPost_ret (v := .tuple #[.pointer (some ⟨p, 0, none⟩), .agg #[.slice au nu cu, .slice a L.length cap], .bool true]) (by simp [results, Tryd.results20, go_sem, n0, n1]) rfl ?_
  exact ⟨p, m, F, L, _, rfl, MZ'.out, FE.out, .inl ⟨rfl, rfl⟩⟩
theorem step_more {p m : Nat} {v : Value} {fs : List Ft} {F : LF} (au : Option Addr) (nu cu : Nat) (vl : Value) (L : List Ft) (k : Nat) (hk : k ≤ 24) (x : Ac) (hx1 : x.what = 1) (hb : laneB x.c x.d = true) (hn : 0 ≤ x.n) (hn2 : (F x.c x.d).2.2 < x.n) (w : World) (hM : Mods w p m v (.slice au nu cu) fs F vl L k) :
    Calls Tryd.prog 20 #[.pointer (some ⟨p, 0, none⟩), .agg #[.slice au nu cu, vl], .agg #[.int .i64 x.what, .int .i64 x.c, .int .i64 x.d, .int .i64 x.n]] w (StepPost w p m v (.slice au nu cu) fs k) := by
  have g0 : (x.what == 0) = false := beq_eq_false_iff_ne.2 (by omega)
  have g1 : (x.what == 1) = true := beq_iff_eq.2 hx1
  have hI := hM.inv x.c x.d
  have h := hM.plan
  have hr := hM.row
  have hp := hM.inv
  have hl := hM.len
  obtain ⟨a, cap, rfl⟩ := hr.val
  obtain ⟨W0, hW0⟩ : ∃ W, ((w.alloc (.cells #[.slice au nu cu, .slice a L.length cap] 58)).alloc (.cells #[.int .i64 x.what, .int .i64 x.c, .int .i64 x.d, .int .i64 x.n] 44)).alloc (.cells #[.slice none 0 0, .slice none 0 0] 58) = W := ⟨_, rfl⟩
  obtain ⟨s1, s2, s3, s4⟩ := step_start w _ _ x hW0
  have HOF := Lib.hid (ofL_any (.slice au nu cu) (.slice a L.length cap) L (by omega) x.c x.d W0 (hr.new s4))
  obtain ⟨q, b, le, hq⟩ : ∃ q b le, F x.c x.d = (q, b, le) := ⟨_, _, _, rfl⟩
  have hof := hM.lf x.c x.d
  rw [hq] at hof
  simp only at hof
  rw [hof] at HOF
  unfold lnV at HOF
  have S1 := Lib.hid s1
  have S2 := Lib.hid s2
  have S3 := Lib.hid s3
  have S4 := Lib.hid s4
  have HW := Lib.hid hW0
  have HP := Lib.hid h
  have HI := Lib.hid hp
  have HMO := Lib.hid hM
  have HQ := Lib.hid hq
  clear s1 s2 s3 s4 hW0 h hr hM hp hof hq hx1
  obtain ⟨xw, xc, xd, xn⟩ := x
  simp only at HW HOF S2 HQ g0 g1 hb hn hn2 hI ⊢
  go_enter Tryd.func20, Tryd.ntmps20
  go_wp2_with fail
  simp only [HW.out]
  refine HOF.out.mono ?_
  rintro e w1 ⟨rfl, f1⟩
  simp only
  have f2 : Fr [] w1 (w1.alloc (.cells #[.int .i64 xc, .int .i64 xd, .int .i64 q, .int .i64 b, .int .i64 le] 97)) := (Fr.refl [] w1).alloc _
  have Y2 := Lib.hid (LnAt.made w1 ⟨xc, xd, q, b, le⟩)
  have ac := S2.out.keep (f1.step f2) (by simp)
  have a0 := ac.c0
  have a1 := ac.c1
  have a2 := ac.c2
  have a3 := ac.c3
  simp only at a0 a1 a2 a3
  have P2 := Lib.hid (HP.out.new (S4.out.step (f1.step f2)))
  have A2 := Lib.hid ac
  have F2 := Lib.hid (f1.step f2)
  have hb1 := S3.out.lt
  have hb2 := f1.size
  clear f1 f2 ac
  rw [HQ.out] at hn2 hI
  simp only at hn2 hI
  obtain ⟨⟨q0, q1⟩, ⟨b0, b1⟩, ⟨le0, le1⟩, -⟩ := hI
  have HB := Lib.hid hb
  clear hb
  have HLN := Lib.hid (fun W => laneL_any xc xd W)
  rw [HB.out] at HLN
  go_wp2_with fail
  refine (movedL_no _ _ xn _ P2.out HB.out HQ.out ⟨hn, hn2⟩ ⟨b0, by omega⟩ ⟨le0, by omega⟩).mono ?_
  rintro e w3 ⟨rfl, p3, f3⟩
  have P3 := Lib.hid p3
  have hAm : w.heap.size ≠ m ∧ w.heap.size + 1 ≠ m ∧ w.heap.size + 1 + 1 ≠ m ∧ w1.heap.size ≠ m := by have := HP.out.lanes.lt; exact ⟨by omega, by omega, by omega, by omega⟩
  have HAM := Lib.hid hAm
  have A4 := A2.out.keep f3 (by rw [List.mem_singleton]; exact HAM.out.2.1)
  have Y4 := Y2.out.keep f3 (by rw [List.mem_singleton]; exact HAM.out.2.2.2)
  have c1 := A4.c1
  have c2 := A4.c2
  have c3 := A4.c3
  have y4 := Y4.c4
  simp only at c1 c2 c3 y4
  have F3 := Lib.hid (F2.out.mono (T := [m]) (fun _ hx => by cases hx) |>.trans f3 (fun _ hx _ => hx))
  clear a0 a1 a2 a3 A4 Y4 p3 f3 hAm
  go_wp2_with fail
  refine (HLN.out _).mono ?_
  rintro e w' ⟨rfl, rfl⟩
  go_wp2_with fail
  have FZ := Lib.hid (F3.out)
  have R5 := S3.out.keep FZ.out (by rw [List.mem_singleton]; first | exact HAM.out.1 | exact HAM.out.2.2.1)
  have M5 := S1.out.keep FZ.out (by rw [List.mem_singleton]; first | exact HAM.out.1 | exact HAM.out.2.2.1)
  have m0 := M5.c0
  have m1 := M5.c1
  have r0 := R5.c0
  have r1 := R5.c1
  have rz := R5.fz
  have R5' := Lib.hid R5
  clear M5 R5
  go_region
  all_goals go_wp2
  have q1 : MdAt ((w3.setCell ⟨w.heap.size + 1 + 1, 0, none⟩ (.slice au nu cu)).setCell ⟨w.heap.size + 1 + 1, 1, none⟩ (.slice a L.length cap)) (w.heap.size + 1 + 1) (.slice au nu cu) (.slice a L.length cap) := (R5'.out.set0 _).set1 _
  have n0 := q1.c0
  have n1 := q1.c1
  clear r0 r1 m0 m1
  have fR := fr_two (R := w.heap.size + 1 + 1) w3 (.slice au nu cu) (.slice a L.length cap)
  have FA := (S4.out.mono (T := [m]) (fun _ hx => by cases hx)).trans F3.out (fun _ hx _ => hx)
  have MZ := (HMO.out.stay P3.out FA).ret fR (by have := cell_lt HP.out.c0; omega) (by have := HP.out.lanes.lt; omega) (fun g off n c e => by have := HP.out.low g off n c e; omega) (fun hne g off n c e => by have := HMO.out.fts.low hne g off n c e; omega) (fun hne g off n c e => by have := HMO.out.row.low hne g off n c e; omega)
  have MZ' := Lib.hid MZ
  have FE := Lib.hid (FA.sing fR (by omega))
  clear MZ fR FA q1
  refine bodyPost_ret (v := .tuple #[.pointer (some ⟨p, 0, none⟩), .agg #[.slice au nu cu, .slice a L.length cap], .bool true]) (by simp [results, Tryd.results20, go_sem, n0, n1]) rfl ?_
  exact ⟨p, m, F, L, _, rfl, MZ'.out, FE.out, .inl ⟨rfl, rfl⟩⟩
end Go.Proofs.YtededfkenlhokaaDoor
