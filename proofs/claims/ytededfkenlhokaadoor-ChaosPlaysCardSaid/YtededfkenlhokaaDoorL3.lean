/- Contract of the law's own known: it answers true. -/
import Derived.Test.YtededfkenlhokaaDoorL2
namespace Go.Proofs.YtededfkenlhokaaDoor
open Go.RowKit Go.Shelf
set_option linter.unusedVariables false
set_option maxRecDepth 100000
set_option maxHeartbeats 4000000

section
variable {p m : Nat} {v : Value} {fs : List Ft} {F : LF}
theorem movedL_yes {q b le : Int} (c d n : Int) (w : World) (h : PlanIs w p m v fs F) (hl : laneB c d = true) (hF : F c d = (q, b, le)) (hn : 0 ≤ n ∧ n ≤ le) (hb : 0 ≤ b ∧ b ≤ 1000000000) (hle : le ≤ 1000000) :
    Calls Tryd.prog 19 #[.pointer (some ⟨p, 0, none⟩), .int .i64 c, .int .i64 d, .int .i64 n] w fun e w' => e = .returned (.int .i64 0) ∧ PlanIs w' p m v fs (F.upd c d (q, b + n, le - n)) ∧ Fr [m] w w' := by
  refine (moved_ok (c := c) (d := d) (w := w) (h := h) n hl hn.1 (by rw [hF]; exact hb) (by rw [hF]; exact ⟨by simp; omega, hle⟩)).mono ?_
  rintro e w' (⟨h1, h2, h3, h4⟩ | ⟨h1, _⟩)
  · rw [hF] at h3
    exact ⟨h2, h3, h4⟩
  · rw [hF] at h1
    simp only at h1
    omega
theorem movedL_no {q b le : Int} (c d n : Int) (w : World) (h : PlanIs w p m v fs F) (hl : laneB c d = true) (hF : F c d = (q, b, le)) (hn : 0 ≤ n ∧ le < n) (hb : 0 ≤ b ∧ b ≤ 1000000000) (hle : 0 ≤ le ∧ le ≤ 1000000) :
    Calls Tryd.prog 19 #[.pointer (some ⟨p, 0, none⟩), .int .i64 c, .int .i64 d, .int .i64 n] w fun e w' => e = .returned (.int .i64 10) ∧ PlanIs w' p m v fs F ∧ Fr [m] w w' := by
  refine (moved_ok (c := c) (d := d) (w := w) (h := h) n hl hn.1 (by rw [hF]; exact hb) (by rw [hF]; exact hle)).mono ?_
  rintro e w' (⟨h1, _⟩ | ⟨h1, h2, h3, h4⟩)
  · rw [hF] at h1
    simp only at h1
    omega
  · exact ⟨h2, h3, h4⟩
theorem callsP_any {q b le : Int} (c d : Int) (w : World) (h : PlanIs w p m v fs F) (hl : laneB c d = true) (hF : F c d = (q, b, le)) :
    Calls Tryd.prog 16 #[.pointer (some ⟨p, 0, none⟩), .int .i64 c, .int .i64 d] w fun e w' => e = .returned (.tuple #[.int .i64 q, .int .i64 0]) ∧ w = w' := by
  have := calls_ok (c := c) (d := d) (w := w) (h := h) hl
  rw [hF] at this
  exact this
theorem bytesP_any {q b le : Int} (c d : Int) (w : World) (h : PlanIs w p m v fs F) (hl : laneB c d = true) (hF : F c d = (q, b, le)) :
    Calls Tryd.prog 17 #[.pointer (some ⟨p, 0, none⟩), .int .i64 c, .int .i64 d] w fun e w' => e = .returned (.tuple #[.int .i64 b, .int .i64 0]) ∧ w = w' := by
  have := bytes_ok (c := c) (d := d) (w := w) (h := h) hl
  rw [hF] at this
  exact this
end
def F0 : LF := fun _ _ => (0, 0, 0)
def F1 : LF := F0.upd 1 0 (0 + 1, 0, 2)
def F2 : LF := F1.upd 1 0 (1, 0 + 2, 2 - 2)
def F3 : LF := F2.upd 1 0 (1 + 1, 2, 3)
def F4 : LF := F3.upd 1 0 (2, 2 + 3, 3 - 3)
def F5 : LF := F4.upd 1 0 (2 + 1, 5, 0)
def F6 : LF := F5.upd 1 1 (0 + 1, 0, 0)
def F7 : LF := F6.upd 1 1 (1 + 1, 0, 4)
theorem known_any (w : World) (he : Env w) :
    Calls Tryd.prog 7 #[] w fun e w' => e = .returned (.bool true) ∧ Fr [] w w' := by
  have HE := Lib.hid he
  clear he
  go_enter Tryd.func7, Tryd.ntmps7
  go_wp2_with fail
  refine (faults_any _).mono ?_
  rintro e w1 ⟨v1, rfl, r1, f1⟩
  go_wp2_with fail
  refine (new_ok v1 exF w1 r1 exF_ok).mono ?_
  rintro e w2 ⟨p, m, v2, rfl, P2, f2, hp2, hm2, -⟩
  have g2 := f1.step f2
  have lm : w.heap.size ≤ m := by have := f1.size; omega
  have A2 := Lib.hid P2
  have G2 := Lib.hid g2
  have LM := Lib.hid lm
  clear r1 P2 f1 f2 g2 hp2 hm2 lm
  go_wp2_with fail
  have hq := parse_any exS (by decide) w2 (HE.out.new G2.out)
  rw [exS_parse] at hq
  refine hq.mono ?_
  clear hq
  rintro e w3 ⟨v3, rfl, r3, f3⟩
  have A3 := Lib.hid (A2.out.new f3)
  have G3 := Lib.hid (G2.out.step f3)
  have R3 := Lib.hid r3
  clear r3 f3
  go_wp2_with fail
  have hq := parse_any exT (by decide) w3 (HE.out.new G3.out)
  rw [exT_parse] at hq
  refine hq.mono ?_
  clear hq
  rintro e w4 ⟨v4, rfl, r4, f4⟩
  have A4 := Lib.hid (A3.out.new f4)
  have G4 := Lib.hid (G3.out.step f4)
  have R4 := Lib.hid (R3.out.new f4)
  clear r4 f4
  go_wp2_with fail
  refine (faults_any _).mono ?_
  rintro e w5 ⟨v5, rfl, r5, f5⟩
  have A5 := Lib.hid (A4.out.new f5)
  have G5 := Lib.hid (G4.out.step f5)
  have R5 := Lib.hid (R4.out.new f5)
  have Q5 := Lib.hid r5
  clear r5 f5
  go_wp2_with fail
  have hq := same_any v3 v5 exF exF (by decide) (by decide) w5 R5.out Q5.out
  rw [decide_eq_true rfl] at hq
  refine hq.mono ?_
  clear hq
  rintro e w6 ⟨rfl, f6⟩
  have A6 := Lib.hid (A5.out.new f6)
  have G6 := Lib.hid (G5.out.step f6)
  clear f6 A2 A3 A4 A5 R3 R4 R5 Q5
  go_wp2_with fail
  have hq := callsL_any (q := 0) (b := 0) (le := 0) 1 0 4 (2, 0, 0) (2, 0, 0) w6 A6.out (by decide) (by omega) rfl (by omega) (by kernel_rfl)
  rw [decide_eq_true rfl] at hq
  refine hq.mono ?_
  clear hq
  rintro e w7 ⟨rfl, P7, f7⟩
  have A7 := Lib.hid (show PlanIs w7 p m v2 exF F1 from P7)
  have G7 := Lib.hid (G6.out.trans f7 (fun x hx hl => by have := LM.out; simp at hx; omega))
  clear P7 f7 A6 G6
  go_wp2_with fail
  have hq := movedL_no (q := 1) (b := 0) (le := 2) 1 0 3 w7 A7.out (by decide) rfl (by omega) (by omega) (by omega)
  refine hq.mono ?_
  clear hq
  rintro e w8 ⟨rfl, P8, f8⟩
  have A8 := Lib.hid (show PlanIs w8 p m v2 exF F1 from P8)
  have G8 := Lib.hid (G7.out.trans f8 (fun x hx hl => by have := LM.out; simp at hx; omega))
  clear P8 f8 A7 G7
  go_wp2_with fail
  have hq := movedL_yes (q := 1) (b := 0) (le := 2) 1 0 2 w8 A8.out (by decide) rfl (by omega) (by omega) (by omega)
  refine hq.mono ?_
  clear hq
  rintro e w9 ⟨rfl, P9, f9⟩
  have A9 := Lib.hid (show PlanIs w9 p m v2 exF F2 from P9)
  have G9 := Lib.hid (G8.out.trans f9 (fun x hx hl => by have := LM.out; simp at hx; omega))
  clear P9 f9 A8 G8
  go_wp2_with fail
  have hq := callsL_any (q := 1) (b := 2) (le := 0) 1 0 4 (3, 7, 0) (3, 7, 0) w9 A9.out (by decide) (by omega) rfl (by omega) (by kernel_rfl)
  rw [decide_eq_true rfl] at hq
  refine hq.mono ?_
  clear hq
  rintro e w10 ⟨rfl, P10, f10⟩
  have A10 := Lib.hid (show PlanIs w10 p m v2 exF F3 from P10)
  have G10 := Lib.hid (G9.out.trans f10 (fun x hx hl => by have := LM.out; simp at hx; omega))
  clear P10 f10 A9 G9
  go_wp2_with fail
  have hq := movedL_yes (q := 2) (b := 2) (le := 3) 1 0 3 w10 A10.out (by decide) rfl (by omega) (by omega) (by omega)
  refine hq.mono ?_
  clear hq
  rintro e w11 ⟨rfl, P11, f11⟩
  have A11 := Lib.hid (show PlanIs w11 p m v2 exF F4 from P11)
  have G11 := Lib.hid (G10.out.trans f11 (fun x hx hl => by have := LM.out; simp at hx; omega))
  clear P11 f11 A10 G10
  go_wp2_with fail
  have hq := callsL_any (q := 2) (b := 5) (le := 0) 1 0 4 (0, 0, 14) (0, 0, 14) w11 A11.out (by decide) (by omega) rfl (by omega) (by kernel_rfl)
  rw [decide_eq_true rfl] at hq
  refine hq.mono ?_
  clear hq
  rintro e w12 ⟨rfl, P12, f12⟩
  have A12 := Lib.hid (show PlanIs w12 p m v2 exF F5 from P12)
  have G12 := Lib.hid (G11.out.trans f12 (fun x hx hl => by have := LM.out; simp at hx; omega))
  clear P12 f12 A11 G11
  go_wp2_with fail
  have hq := callsP_any (q := 3) (b := 5) (le := 0) 1 0 w12 A12.out (by decide) rfl
  refine hq.mono ?_
  clear hq
  rintro e w' ⟨rfl, rfl⟩
  go_wp2_with fail
  have hq := bytesP_any (q := 3) (b := 5) (le := 0) 1 0 w12 A12.out (by decide) rfl
  refine hq.mono ?_
  clear hq
  rintro e w' ⟨rfl, rfl⟩
  go_wp2_with fail
  have hq := callsL_any (q := 0) (b := 0) (le := 0) 1 1 4 (0, 0, 14) (0, 0, 14) w12 A12.out (by decide) (by omega) rfl (by omega) (by kernel_rfl)
  rw [decide_eq_true rfl] at hq
  refine hq.mono ?_
  clear hq
  rintro e w13 ⟨rfl, P13, f13⟩
  have A13 := Lib.hid (show PlanIs w13 p m v2 exF F6 from P13)
  have G13 := Lib.hid (G12.out.trans f13 (fun x hx hl => by have := LM.out; simp at hx; omega))
  clear P13 f13 A12 G12
  go_wp2_with fail
  have hq := callsL_any (q := 1) (b := 0) (le := 0) 1 1 4 (4, 0, 0) (4, 0, 0) w13 A13.out (by decide) (by omega) rfl (by omega) (by kernel_rfl)
  rw [decide_eq_true rfl] at hq
  refine hq.mono ?_
  clear hq
  rintro e w14 ⟨rfl, P14, f14⟩
  have A14 := Lib.hid (show PlanIs w14 p m v2 exF F7 from P14)
  have G14 := Lib.hid (G13.out.trans f14 (fun x hx hl => by have := LM.out; simp at hx; omega))
  clear P14 f14 A13 G13
  go_wp2_with fail
  have hq := callsL_any (q := 0) (b := 0) (le := 0) 2 0 4 (4, 0, 0) (4, 0, 0) w14 A14.out (by decide) (by omega) rfl (by omega) (by kernel_rfl)
  rw [decide_eq_true rfl] at hq
  refine hq.mono ?_
  clear hq
  rintro e w15 ⟨rfl, P15, f15⟩
  have A15 := Lib.hid (show PlanIs w15 p m v2 exF (F7.upd 2 0 (0 + 1, 0, 4)) from P15)
  have G15 := Lib.hid (G14.out.trans f15 (fun x hx hl => by have := LM.out; simp at hx; omega))
  clear P15 f15 A14 G14
  go_wp2_with fail
  go_ret
  exact ⟨rfl, G15.out⟩
end Go.Proofs.YtededfkenlhokaaDoor
