/- Contract of the law's own step: bytes are moved. -/
import Derived.Test.YtededfkenlhokaaDoorQ9
import Derived.BigQuiet
import Derived.Outline
namespace Go.Proofs.YtededfkenlhokaaDoor
open Go.RowKit Go.Shelf
set_option linter.unusedVariables false
set_option linter.unusedSimpArgs false
set_option maxRecDepth 100000
set_option maxHeartbeats 8000000

theorem fr_two0 {R : Nat} (w5 : World) (u1 u2 : Value) : Fr [R] w5 ((w5.setCell ⟨R, 0, none⟩ u1).setCell ⟨R, 1, none⟩ u2) :=
  (((Fr.refl [R] w5).setCell (fun _ => by simp) _).setCell (fun _ => by simp) _)
theorem step_moved {p m : Nat} {v : Value} {fs : List Ft} {F : LF} (au : Option Addr) (nu cu : Nat) (vl : Value) (L : List Ft) (k : Nat) (hk : k ≤ 24) (x : Ac) (hx1 : x.what = 1) (hb : laneB x.c x.d = true) (hn : 0 ≤ x.n) (hn2 : x.n ≤ (F x.c x.d).2.2) (w : World) (hM : Mods w p m v (.slice au nu cu) fs F vl L k) :
    Calls Tryd.prog 20 #[.pointer (some ⟨p, 0, none⟩), .agg #[.slice au nu cu, vl], .agg #[.int .i64 x.what, .int .i64 x.c, .int .i64 x.d, .int .i64 x.n]] w (StepPost w p m v (.slice au nu cu) fs k) := by
  have g0 : (x.what == 0) = false := beq_eq_false_iff_ne.2 (by omega)
  have g1 : (x.what == 1) = true := beq_iff_eq.2 hx1
  have hI := hM.inv x.c x.d
  have hInv := Lib.hid (hM.inv.moved (c := x.c) (d := x.d) ⟨hn, hn2⟩)
  have hLF := Lib.hid (hM.lf.put x.c x.d (F x.c x.d).1 ((F x.c x.d).2.1 + x.n) ((F x.c x.d).2.2 - x.n))
  have h := hM.plan
  have hr := hM.row
  have hp := hM.inv
  have hl := hM.len
  obtain ⟨a, cap, rfl⟩ := hr.val
  obtain ⟨W0, hW0⟩ : ∃ W, ((w.alloc (.cells #[.slice au nu cu, .slice a L.length cap] 58)).alloc (.cells #[.int .i64 x.what, .int .i64 x.c, .int .i64 x.d, .int .i64 x.n] 44)).alloc (.cells #[.slice none 0 0, .slice none 0 0] 58) = W := ⟨_, rfl⟩
  obtain ⟨s1, s2, s3, s4⟩ := step_start w _ _ x hW0
  have HOF := Lib.hid (ofL_any (.slice au nu cu) (.slice a L.length cap) L (by omega) x.c x.d W0 (hr.new s4))
  obtain ⟨q, b, le, hq⟩ : ∃ q b le, F x.c x.d = (q, b, le) := ⟨_, _, _, rfl⟩
  have hof := hM.lf x.c x.d
  rw [hq] at hof
  simp only at hof
  rw [hof] at HOF
  unfold lnV at HOF
  have S1 := Lib.hid s1
  have S2 := Lib.hid s2
  have S3 := Lib.hid s3
  have S4 := Lib.hid s4
  have HW := Lib.hid hW0
  have HP := Lib.hid h
  have HI := Lib.hid hp
  have HMO := Lib.hid hM
  have HQ := Lib.hid hq
  clear s1 s2 s3 s4 hW0 h hr hM hp hof hq hx1
  obtain ⟨xw, xc, xd, xn⟩ := x
  simp only at HW HOF S2 HQ g0 g1 hb hn hn2 hI hInv hLF ⊢
  go_enter Tryd.func20, Tryd.ntmps20
  go_wp2_with fail
  simp only [HW.out]
  refine HOF.out.mono ?_
  rintro e w1 ⟨rfl, f1⟩
  simp only
  have f2 : Fr [] w1 (w1.alloc (.cells #[.int .i64 xc, .int .i64 xd, .int .i64 q, .int .i64 b, .int .i64 le] 97)) := (Fr.refl [] w1).alloc _
  have Y2 := Lib.hid (LnAt.made w1 ⟨xc, xd, q, b, le⟩)
  have ac := S2.out.keep (f1.step f2) (by simp)
  have a0 := ac.c0
  have a1 := ac.c1
  have a2 := ac.c2
  have a3 := ac.c3
  simp only at a0 a1 a2 a3
  have P2 := Lib.hid (HP.out.new (S4.out.step (f1.step f2)))
  have A2 := Lib.hid ac
  have F2 := Lib.hid (f1.step f2)
  have hb1 := S3.out.lt
  have hb2 := f1.size
  clear f1 f2 ac
  rw [HQ.out] at hn2 hI hInv hLF
  simp only at hn2 hI hInv hLF
  obtain ⟨⟨q0, q1⟩, ⟨b0, b1⟩, ⟨le0, le1⟩, -⟩ := hI
  have HB := Lib.hid hb
  clear hb
  have HLN := Lib.hid (fun W => laneL_any xc xd W)
  rw [HB.out] at HLN
  go_wp2_with fail
  refine (movedL_yes _ _ xn _ P2.out HB.out HQ.out ⟨hn, hn2⟩ ⟨b0, by omega⟩ (by omega)).mono ?_
  rintro e w3 ⟨rfl, p3, f3⟩
  have P3 := Lib.hid p3
  have hAm : w.heap.size ≠ m ∧ w.heap.size + 1 ≠ m ∧ w.heap.size + 1 + 1 ≠ m ∧ w1.heap.size ≠ m := by have := HP.out.lanes.lt; exact ⟨by omega, by omega, by omega, by omega⟩
  have HAM := Lib.hid hAm
  have A4 := A2.out.keep f3 (by rw [List.mem_singleton]; exact HAM.out.2.1)
  have Y4 := Y2.out.keep f3 (by rw [List.mem_singleton]; exact HAM.out.2.2.2)
  have c1 := A4.c1
  have c2 := A4.c2
  have c3 := A4.c3
  have y3 := Y4.c3
  have y4 := Y4.c4
  have yz := Y4.fz
  simp only at c1 c2 c3 y3 y4
  have YH := Lib.hid Y4
  have hY := Y4.lt
  have F3 := Lib.hid (F2.out.mono (T := [m]) (fun _ hx => by cases hx) |>.trans f3 (fun _ hx _ => hx))
  obtain ⟨Y, hYe⟩ : ∃ Y, w1.heap.size = Y := ⟨_, rfl⟩
  simp only [hYe] at YH hY y3 y4 yz HAM hb2 ⊢
  clear a0 a1 a2 a3 A4 Y4 p3 f3 hAm hYe
  go_wp2_with fail
  refine (HLN.out _).mono ?_
  rintro e w' ⟨rfl, rfl⟩
  go_wp2_with fail
  go_region
  have fW : Fr [Y] w3 ((w3.setCell ⟨Y, 3, none⟩ (.int .i64 (b + xn))).setCell ⟨Y, 4, none⟩ (.int .i64 (le - xn))).drew := (((Fr.refl [Y] w3).setCell (fun _ => by simp) _).setCell (fun _ => by simp) _).drew
  have YW := (YH.out.set3 (b + xn)).set4 (le - xn)
  have YD : LnAt ((w3.setCell ⟨Y, 3, none⟩ (.int .i64 (b + xn))).setCell ⟨Y, 4, none⟩ (.int .i64 (le - xn))).drew Y ⟨xc, xd, q, b + xn, le - xn⟩ := YW
  have FW := Lib.hid fW
  have YF := Lib.hid YD
  obtain ⟨W4, hW4⟩ : ∃ W, ((w3.setCell ⟨Y, 3, none⟩ (.int .i64 (b + xn))).setCell ⟨Y, 4, none⟩ (.int .i64 (le - xn))).drew = W := ⟨_, rfl⟩
  simp only [hW4] at FW YF ⊢
  clear fW YW YD y3 y4 yz hW4 c1 c2 c3
  have hFA : Fr [m] w w3 := (S4.out.mono (T := [m]) (fun _ hx => by cases hx)).trans F3.out (fun _ hx _ => hx)
  have hwM : w.heap.size ≠ Y ∧ w.heap.size + 1 + 1 ≠ Y := ⟨by omega, by omega⟩
  have M4 := (S1.out.keep F3.out (by rw [List.mem_singleton]; exact HAM.out.1)).keep FW.out (by rw [List.mem_singleton]; exact hwM.1)
  have R4 := (S3.out.keep F3.out (by rw [List.mem_singleton]; exact HAM.out.2.2.1)).keep FW.out (by rw [List.mem_singleton]; exact hwM.2)
  have m0 := M4.c0
  have m1 := M4.c1
  have y0 := YF.out.c0
  have y1 := YF.out.c1
  have y2 := YF.out.c2
  have y3 := YF.out.c3
  have y4 := YF.out.c4
  simp only at y0 y1 y2 y3 y4
  have FA := Lib.hid (hFA.sing FW.out (by omega))
  have RH := Lib.hid R4
  clear hFA M4 R4 hwM
  go_wp2_with fail
  refine (with_any au nu cu (.slice a L.length cap) L (by omega) ⟨xc, xd, q, b + xn, le - xn⟩ W4 ((HMO.out.row.over FA.out HMO.out.sep))).mono ?_
  rintro e w5 ⟨vl0, rfl, r5, n5, f5⟩
  obtain ⟨a5, c5, hv5⟩ := r5.val
  obtain ⟨l5, hl5⟩ : ∃ n, (withL L ⟨xc, xd, q, b + xn, le - xn⟩).length = n := ⟨_, rfl⟩
  rw [hl5] at hv5
  subst hv5
  clear hl5
  have P5 : PlanIs w5 p m v fs (F.upd xc xd (q, b + xn, le - xn)) := (P3.out.keep FW.out (by rw [List.mem_singleton]; have := cell_lt HP.out.c0; omega) (by rw [List.mem_singleton]; exact HAM.out.2.2.2.symm) (fun g off n c e => by rw [List.mem_singleton]; have := HP.out.low g off n c e; omega)).new f5
  have F5 : Fr [m] w w5 := FA.out.step f5
  have R5 := RH.out.keep f5 (by simp)
  have hz5 : w.heap.size + 1 + 1 < W4.heap.size := RH.out.lt
  have N5 : ∀ g off n c, (Value.slice a5 l5 c5) = .slice (some ⟨g, off, none⟩) n c → w.heap.size ≤ g := fun g off n c e => by have := n5 g off n c e; omega
  have NR : ∀ g off n c, (Value.slice a5 l5 c5) = .slice (some ⟨g, off, none⟩) n c → g ≠ w.heap.size + 1 + 1 := fun g off n c e => by have := n5 g off n c e; omega
  have MP := Lib.hid (HMO.out.put P5 F5 r5 hLF.out hInv.out (withL_len _ _) N5)
  have F5' := Lib.hid F5
  have NR' := Lib.hid NR
  have R5' := Lib.hid R5
  have r0 := R5.c0
  have r1 := R5.c1
  have rz := R5.fz
  clear r5 n5 f5 P5 F5 R5 N5 NR hz5 y0 y1 y2 y3 y4 m0 m1
  go_wp2_with fail
  have q1 : MdAt ((w5.setCell ⟨w.heap.size + 1 + 1, 0, none⟩ (.slice au nu cu)).setCell ⟨w.heap.size + 1 + 1, 1, none⟩ (Value.slice a5 l5 c5)) (w.heap.size + 1 + 1) (.slice au nu cu) (Value.slice a5 l5 c5) := (R5'.out.set0 _).set1 _
  have n0 := q1.c0
  have n1 := q1.c1
  clear r0 r1
  have fR := fr_two0 (R := w.heap.size + 1 + 1) w5 (.slice au nu cu) (Value.slice a5 l5 c5)
  have MZ := MP.out.ret fR (by have := cell_lt HP.out.c0; omega) (by have := HP.out.lanes.lt; omega) (fun g off n c e => by have := HP.out.low g off n c e; omega) (fun hne g off n c e => by have := HMO.out.fts.low hne g off n c e; omega) (fun _ => NR'.out)
  have MZ' := Lib.hid MZ
  have FE := Lib.hid (F5'.out.sing fR (by omega))
  clear MZ fR q1
  refine bodyPost_ret (v := .tuple #[.pointer (some ⟨p, 0, none⟩), .agg #[.slice au nu cu, (Value.slice a5 l5 c5)], .bool true]) (by simp [results, Tryd.results20, go_sem, n0, n1]) rfl ?_
  exact ⟨p, m, _, _, _, rfl, MZ'.out, FE.out, .inl ⟨rfl, rfl⟩⟩
end Go.Proofs.YtededfkenlhokaaDoor
