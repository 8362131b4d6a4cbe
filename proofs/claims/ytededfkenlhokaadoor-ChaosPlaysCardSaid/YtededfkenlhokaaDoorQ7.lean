/- Contract of the law's own step, the act is a copy (UNDER WAY). -/
import Derived.Test.YtededfkenlhokaaDoorQ8
import Derived.Deep.CutRange
namespace Go.Proofs.YtededfkenlhokaaDoor
open Go.RowKit Go.Shelf
set_option linter.unusedVariables false
set_option linter.unusedSimpArgs false
set_option maxRecDepth 100000
set_option maxHeartbeats 8000000

theorem step_copy {p m : Nat} {v : Value} {fs : List Ft} {F : LF} (au : Option Addr) (nu cu : Nat) (vl : Value) (L : List Ft) (k : Nat) (hk : k ≤ 24) (x : Ac) (hx0 : x.what ≠ 0) (hx1 : x.what ≠ 1) (w : World) (hM : Mods w p m v (.slice au nu cu) fs F vl L k) :
    Calls Tryd.prog 20 #[.pointer (some ⟨p, 0, none⟩), .agg #[.slice au nu cu, vl], .agg #[.int .i64 x.what, .int .i64 x.c, .int .i64 x.d, .int .i64 x.n]] w (StepPost w p m v (.slice au nu cu) fs k) := by
  have h := hM.plan
  have hr := hM.row
  have hp := hM.inv
  have hl := hM.len
  obtain ⟨a, cap, rfl⟩ := hr.val
  obtain ⟨W0, hW0⟩ : ∃ W, ((w.alloc (.cells #[.slice au nu cu, .slice a L.length cap] 58)).alloc (.cells #[.int .i64 x.what, .int .i64 x.c, .int .i64 x.d, .int .i64 x.n] 44)).alloc (.cells #[.slice none 0 0, .slice none 0 0] 58) = W := ⟨_, rfl⟩
  obtain ⟨s1, s2, s3, s4⟩ := step_start w _ _ x hW0
  have HOF := Lib.hid (ofL_any (.slice au nu cu) (.slice a L.length cap) L (by omega) x.c x.d W0 (hr.new s4))
  obtain ⟨y, hy⟩ : ∃ y, ofL L x.c x.d = y := ⟨_, rfl⟩
  rw [hy] at HOF
  unfold lnV at HOF
  have g0 : (x.what == 0) = false := beq_eq_false_iff_ne.2 hx0
  have g1 : (x.what == 1) = false := beq_eq_false_iff_ne.2 hx1
  have S1 := Lib.hid s1
  have S2 := Lib.hid s2
  have S3 := Lib.hid s3
  have S4 := Lib.hid s4
  have HW := Lib.hid hW0
  have HP := Lib.hid h
  have HR := Lib.hid hr
  have HI := Lib.hid hp
  have HMO := Lib.hid hM
  clear s1 s2 s3 s4 hW0 h hr hM hp hx0 hx1 hy
  obtain ⟨xw, xc, xd, xn⟩ := x
  simp only at HW HOF S2 g0 g1 ⊢
  go_enter Tryd.func20, Tryd.ntmps20
  go_wp2_with fail
  simp only [HW.out]
  refine HOF.out.mono ?_
  rintro e w1 ⟨rfl, f1⟩
  obtain ⟨yk, yc, yd, ya, yg⟩ := y
  simp only
  have f2 : Fr [] w1 (w1.alloc (.cells #[.int .i64 yk, .int .i64 yc, .int .i64 yd, .int .i64 ya, .int .i64 yg] 97)) := (Fr.refl [] w1).alloc _
  have ac := S2.out.keep (f1.step f2) (by simp)
  have a0 := ac.c0
  have a1 := ac.c1
  have a2 := ac.c2
  have P2 := Lib.hid (HP.out.new (S4.out.step (f1.step f2)))
  have A2 := Lib.hid ac
  have F2 := Lib.hid (f1.step f2)
  clear f1 f2 ac
  go_wp2_with fail
  refine (copy_any _ P2.out).mono ?_
  rintro e w3 ⟨p3, m3, rfl, P3, f3, hp3, hm3⟩
  have A3 := Lib.hid (A2.out.keep f3 (by simp))
  have b1 := A3.out.c1
  have b2 := A3.out.c2
  have hmA : w.heap.size + 1 ≠ m := by have := HP.out.lanes.lt; omega
  have HA := Lib.hid hmA
  have P3' := Lib.hid P3
  have Q3 := Lib.hid (P2.out.new f3)
  have F3 := Lib.hid f3
  clear P3 f3 hmA a0 a1 a2
  go_wp2_with fail
  refine (call_free _ _ _ Q3.out HI.out hk).mono ?_
  rintro e w4 ⟨⟨r4, rfl⟩, F4, P4, hp4, f4⟩
  have A4 := Lib.hid (A3.out.keep f4 (by rw [List.mem_singleton]; exact HA.out))
  have d1 := A4.out.c1
  have d2 := A4.out.c2
  clear b1 b2
  go_wp2_with fail
  refine (moved_free _ _ _ P4 hp4 (by omega)).mono ?_
  rintro e w5 ⟨⟨r5, rfl⟩, f5⟩
  clear d1 d2
  have FZ : Fr [m] W0 w5 := ((F2.out.step F3.out).mono (T := [m]) (fun _ hx => by cases hx)).trans (f4.trans f5 (fun _ hx _ => hx)) (fun _ hx _ => hx)
  have hmM : w.heap.size ≠ m ∧ w.heap.size + 1 + 1 ≠ m := by have := HP.out.lanes.lt; omega
  have M5 := S1.out.keep FZ (by rw [List.mem_singleton]; exact hmM.1)
  have R5 := S3.out.keep FZ (by rw [List.mem_singleton]; exact hmM.2)
  have m0 := M5.c0
  have m1 := M5.c1
  have r0 := R5.c0
  have r1 := R5.c1
  have rz := R5.fz
  have hPZ : PlanIs w5 p3 m3 v fs F := by
    have h1 := HP.out.lanes.lt
    have h2 := S4.out.size
    have h3 := F2.out.size
    refine P3'.out.keep (f4.trans f5 (fun _ hx _ => hx)) ?_ ?_ ?_
    · rw [List.mem_singleton]; omega
    · rw [List.mem_singleton]; omega
    · intro g off n c e
      rw [List.mem_singleton]
      exact (HP.out.sep g off n c e).1
  have PZ := Lib.hid hPZ
  have FZ' := Lib.hid FZ
  have R5' := Lib.hid R5
  have hsz : w.heap.size ≤ p3 ∧ w.heap.size ≤ m3 := by
    have h2 := S4.out.size
    have h3 := F2.out.size
    exact ⟨by omega, by omega⟩
  have HSZ := Lib.hid hsz
  have hnr : w.heap.size + 1 + 1 < p3 ∧ w.heap.size + 1 + 1 < m3 := by
    have h1 := S3.out.lt
    have h3 := F2.out.size
    exact ⟨by omega, by omega⟩
  have HNR := Lib.hid hnr
  clear FZ hmM M5 R5 hPZ hp4 hp3 hm3 f4 f5 P4 hsz hnr
  go_wp2_with fail
  go_region
  all_goals go_wp2
  have q1 : MdAt ((w5.setCell ⟨w.heap.size + 1 + 1, 0, none⟩ (.slice au nu cu)).setCell ⟨w.heap.size + 1 + 1, 1, none⟩ (.slice a L.length cap)) (w.heap.size + 1 + 1) (.slice au nu cu) (.slice a L.length cap) := (R5'.out.set0 _).set1 _
  have n0 := q1.c0
  have n1 := q1.c1
  clear r0 r1 m0 m1
  have fR := fr_two (R := w.heap.size + 1 + 1) w5 (.slice au nu cu) (.slice a L.length cap)
  have FA : Fr [m] w w5 := (S4.out.mono (T := [m]) (fun _ hx => by cases hx)).trans FZ'.out (fun _ hx _ => hx)
  have hR := R5'.out.lt
  have hs4 := F2.out.size
  have MZ := (HMO.out.copied PZ.out FA HSZ.out.2).ret fR (by have := HNR.out; omega) (by have := HNR.out; omega) (fun g off n c e => by have := HMO.out.plan.low g off n c e; omega) (fun hne g off n c e => by have := HMO.out.fts.low hne g off n c e; omega) (fun hne g off n c e => by have := HMO.out.row.low hne g off n c e; omega)
  have MZ' := Lib.hid MZ
  have FE := Lib.hid (FA.sing fR (by omega))
  clear MZ fR FA
  refine bodyPost_ret (v := .tuple #[.pointer (some ⟨p3, 0, none⟩), .agg #[.slice au nu cu, .slice a L.length cap], .bool true]) (by simp [results, Tryd.results20, go_sem, n0, n1]) rfl ?_
  exact ⟨p3, m3, F, L, _, rfl, MZ'.out, FE.out, .inr HSZ.out⟩
end Go.Proofs.YtededfkenlhokaaDoor
