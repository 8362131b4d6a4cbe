/- Contract of the law's own alike. -/
import Derived.Test.YtededfkenlhokaaDoorQ2
import Derived.Test.YtededfkenlhokaaDoorL5
namespace Go.Proofs.YtededfkenlhokaaDoor
open Go.RowKit Go.Shelf
set_option linter.unusedVariables false
set_option linter.unusedSimpArgs false
set_option maxRecDepth 100000
set_option maxHeartbeats 4000000

theorem alike_any {p m : Nat} {v : Value} {fs : List Ft} {F : LF} (u vl : Value) (L : List Ft) (hl : L.length ≤ 100000) (c d : Int) (w : World) (h : PlanIs w p m v fs F) (hr : FtRow w vl L) (hf : LaneFun L F) :
    Calls Tryd.prog 21 #[.pointer (some ⟨p, 0, none⟩), .agg #[u, vl], .int .i64 c, .int .i64 d] w fun e w' => e = .returned (.bool true) ∧ Fr [] w w' := by
  have f1 : Fr [] w (w.alloc (.cells #[u, vl] 58)) := (Fr.refl [] w).alloc _
  have md := MdAt.made w u vl
  have md0 := md.c0
  have md1 := md.c1
  have HP := Lib.hid (h.new f1)
  have HR := Lib.hid (hr.new f1)
  have F1 := Lib.hid f1
  have HL1 := Lib.hid (fun W => laneL_any c d W)
  obtain ⟨⟨q, b, le⟩, hq⟩ : ∃ y, F c d = y := ⟨_, rfl⟩
  have hof := hf c d
  rw [hq] at hof
  simp only at hof
  have HQ := Lib.hid hq
  have HOF := Lib.hid (fun W (k : FtRow W vl L) => ofL_any u vl L hl c d W k)
  rw [hof] at HOF
  unfold lnV at HOF
  simp only at HOF
  clear h hr hf f1 md hq hof
  cases hl1 : laneB c d with
  | false =>
    rw [hl1] at HL1
    have L1 := Lib.hid hl1
    clear hl1
    go_enter Tryd.func21, Tryd.ntmps21
    go_wp2_with (first
      | (go_at_call 16; refine (calls_bad (c := c) (d := d) (w := _) (h := HP.out) L1.out).mono ?_; rintro e w' ⟨rfl, rfl⟩)
      | (go_at_call 17; refine (bytes_bad (c := c) (d := d) (w := _) (h := HP.out) L1.out).mono ?_; rintro e w' ⟨rfl, rfl⟩)
      | (go_at_call 15; refine (HL1.out _).mono ?_; rintro e w' ⟨rfl, rfl⟩))
    go_ret
    exact ⟨rfl, F1.out⟩
  | true =>
    rw [hl1] at HL1
    have L1 := Lib.hid hl1
    clear hl1
    go_enter Tryd.func21, Tryd.ntmps21
    go_wp2_with (first
      | (go_at_call 16; refine (callsP_any c d _ HP.out L1.out HQ.out).mono ?_; rintro e w' ⟨rfl, rfl⟩)
      | (go_at_call 17; refine (bytesP_any c d _ HP.out L1.out HQ.out).mono ?_; rintro e w' ⟨rfl, rfl⟩)
      | (go_at_call 15; refine (HL1.out _).mono ?_; rintro e w' ⟨rfl, rfl⟩)
      | (go_at_call 39; refine (HOF.out _ HR.out).mono ?_; rintro e w2 ⟨rfl, f2⟩))
    go_ret
    exact ⟨rfl, (F1.out.step f2).alloc _⟩
end Go.Proofs.YtededfkenlhokaaDoor
