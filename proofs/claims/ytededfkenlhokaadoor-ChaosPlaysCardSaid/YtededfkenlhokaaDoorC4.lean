/- Contracts of chaos's none, may, Calls, Bytes and Moved over a plan in memory. -/
import Derived.Test.YtededfkenlhokaaDoorC3
import Derived.Deep.CutRange
import Derived.StillTailTactics
import Derived.IntWalk
namespace Go.Proofs.YtededfkenlhokaaDoor
open Go.RowKit
open Go.Maps (Keyed)
set_option linter.unusedVariables false
set_option maxRecDepth 100000
set_option maxHeartbeats 4000000

theorem LanesIs.look' {w : World} {m : Nat} {F : LF} (h : LanesIs w m F) (c d : Int) (hc : I64 c) (hd : I64 d) : (Instr.lookup 63 (.map (some m)) (.agg #[.int .i64 c, .int .i64 d]) false).run Tryd.prog w = .ok (.agg #[.int .i64 (F c d).1, .int .i64 (F c d).2.1, .int .i64 (F c d).2.2]) w := h.look c d hc hd
theorem LanesIs.put' {w : World} {m : Nat} {F : LF} (h : LanesIs w m F) (c d : Int) (hc : I64 c) (hd : I64 d) (x0 x1 x2 : Int) :
    ∃ w', (Instr.mapUpdate 63 (.map (some m)) (.agg #[.int .i64 c, .int .i64 d]) (.agg #[.int .i64 x0, .int .i64 x1, .int .i64 x2])).run Tryd.prog w = .ok () w' ∧ LanesIs w' m (F.upd c d (x0, x1, x2)) ∧ Fr [m] w w' := h.put c d hc hd (x0, x1, x2)
theorem newCell (W : World) (c : Array Value) (t : TypeId) (o : Nat) {b : Nat} {v : Value} {W' : World} (h : W' = W.alloc (.cells c t)) (hb : b = W.heap.size) (hc : c[o]? = some v) : W'.cell? ⟨b, o, none⟩ = some v := by
  subst h; subst hb; simpa using hc
theorem laneB_i64 {c d : Int} (h : laneB c d = true) : I64 c ∧ I64 d := by
  unfold laneB at h
  unfold I64
  simp at h
  omega

section
variable {p m : Nat} {v : Value} {fs : List Ft} {F : LF} (c d : Int) (w : World) (h : PlanIs w p m v fs F)
include h
theorem planNone_any : Calls Tryd.prog 42 #[.pointer (some ⟨p, 0, none⟩)] w fun e w' => e = .returned (.bool false) ∧ w = w' := by
  have c1 := h.c1
  have hq : ∀ W : World, (binOp .eql 63 (.map (some m)) (.map none)).run Tryd.prog W = .ok (.bool false) W := fun W => by kernel_rfl
  go_enter Tryd.func42, Tryd.ntmps42
  go_wp2
  go_ret
  exact ⟨rfl, rfl⟩
theorem may_any (is : Bool) : Calls Tryd.prog 36 #[.pointer (some ⟨p, 0, none⟩), .int .i64 c, .int .i64 d, .bool is] w fun e w' => e = .returned (.int .i64 (if (laneB c d && is) = true then 0 else 2)) ∧ w = w' := by
  have HN := Lib.hid (planNone_any w h)
  cases hl : laneB c d <;> cases is
  all_goals
    go_enter Tryd.func36, Tryd.ntmps36
    go_wp2_with (first
      | (go_at_call 42; refine HN.out.mono ?_; rintro e w' ⟨rfl, rfl⟩)
      | (go_at_call 58; refine (right_any _ _ _).mono ?_; rintro e w' ⟨rfl, rfl⟩; rw [hl]))
    go_ret
    exact ⟨rfl, rfl⟩
theorem calls_bad (hl : laneB c d = false) : Calls Tryd.prog 16 #[.pointer (some ⟨p, 0, none⟩), .int .i64 c, .int .i64 d] w fun e w' => e = .returned (.tuple #[.int .i64 0, .int .i64 2]) ∧ w = w' := by
  have hM := may_any c d w h true
  rw [hl] at hM
  simp only [Bool.false_and, Bool.false_eq_true, if_false] at hM
  have HM := Lib.hid hM
  clear hM h
  go_enter Tryd.func16, Tryd.ntmps16
  go_wp2_with (go_at_call 36; refine HM.out.mono ?_; rintro e w' ⟨rfl, rfl⟩)
  go_ret2
  exact ⟨rfl, rfl⟩
theorem bytes_bad (hl : laneB c d = false) : Calls Tryd.prog 17 #[.pointer (some ⟨p, 0, none⟩), .int .i64 c, .int .i64 d] w fun e w' => e = .returned (.tuple #[.int .i64 0, .int .i64 2]) ∧ w = w' := by
  have hM := may_any c d w h true
  rw [hl] at hM
  simp only [Bool.false_and, Bool.false_eq_true, if_false] at hM
  have HM := Lib.hid hM
  clear hM h
  go_enter Tryd.func17, Tryd.ntmps17
  go_wp2_with (go_at_call 36; refine HM.out.mono ?_; rintro e w' ⟨rfl, rfl⟩)
  go_ret2
  exact ⟨rfl, rfl⟩
theorem calls_ok (hl : laneB c d = true) : Calls Tryd.prog 16 #[.pointer (some ⟨p, 0, none⟩), .int .i64 c, .int .i64 d] w fun e w' => e = .returned (.tuple #[.int .i64 (F c d).1, .int .i64 0]) ∧ w = w' := by
  have hM := may_any c d w h true
  rw [hl] at hM
  simp only [Bool.true_and, if_true] at hM
  have HM := Lib.hid hM
  obtain ⟨i1, i2⟩ := laneB_i64 hl
  have c1 := h.c1
  have lk := h.lanes.look' c d i1 i2
  have hf : ∀ (W : World) (x y z : Int), (Instr.field 91 (.agg #[.int .i64 x, .int .i64 y, .int .i64 z]) 0).run Tryd.prog W = .ok (.int .i64 x) W := fun W x y z => by kernel_rfl
  clear hM h
  go_enter Tryd.func16, Tryd.ntmps16
  go_wp2_with (go_at_call 36; refine HM.out.mono ?_; rintro e w' ⟨rfl, rfl⟩)
  go_ret2
  exact ⟨rfl, rfl⟩
theorem bytes_ok (hl : laneB c d = true) : Calls Tryd.prog 17 #[.pointer (some ⟨p, 0, none⟩), .int .i64 c, .int .i64 d] w fun e w' => e = .returned (.tuple #[.int .i64 (F c d).2.1, .int .i64 0]) ∧ w = w' := by
  have hM := may_any c d w h true
  rw [hl] at hM
  simp only [Bool.true_and, if_true] at hM
  have HM := Lib.hid hM
  obtain ⟨i1, i2⟩ := laneB_i64 hl
  have c1 := h.c1
  have lk := h.lanes.look' c d i1 i2
  have hf : ∀ (W : World) (x y z : Int), (Instr.field 91 (.agg #[.int .i64 x, .int .i64 y, .int .i64 z]) 1).run Tryd.prog W = .ok (.int .i64 y) W := fun W x y z => by kernel_rfl
  clear hM h
  go_enter Tryd.func17, Tryd.ntmps17
  go_wp2_with (go_at_call 36; refine HM.out.mono ?_; rintro e w' ⟨rfl, rfl⟩)
  go_ret2
  exact ⟨rfl, rfl⟩
theorem moved_bad (n : Int) (hb : laneB c d = false ∨ n < 0) : Calls Tryd.prog 19 #[.pointer (some ⟨p, 0, none⟩), .int .i64 c, .int .i64 d, .int .i64 n] w fun e w' => e = .returned (.int .i64 2) ∧ w = w' := by
  by_cases hn : 0 ≤ n
  · have hM := may_any c d w h true
    rw [hb.resolve_right (by omega)] at hM
    simp only [Bool.false_and, Bool.false_eq_true, if_false] at hM
    have HM := Lib.hid hM
    clear hM h hb
    go_enter Tryd.func19, Tryd.ntmps19
    go_wp2_with (go_at_call 36; refine HM.out.mono ?_; rintro e w' ⟨rfl, rfl⟩)
    go_ret
    exact ⟨rfl, rfl⟩
  · have hM := may_any c d w h false
    simp only [Bool.and_false, Bool.false_eq_true, if_false] at hM
    have HM := Lib.hid hM
    clear hM h hb
    go_enter Tryd.func19, Tryd.ntmps19
    go_wp2_with (go_at_call 36; refine HM.out.mono ?_; rintro e w' ⟨rfl, rfl⟩)
    go_ret
    exact ⟨rfl, rfl⟩
/-- What Moved leaves. -/
def MovedPost (w : World) (p m : Nat) (v : Value) (fs : List Ft) (F : LF) (c d n : Int) (e : Ending) (w' : World) : Prop :=
  (n ≤ (F c d).2.2 ∧ e = .returned (.int .i64 0) ∧ PlanIs w' p m v fs (F.upd c d ((F c d).1, (F c d).2.1 + n, (F c d).2.2 - n)) ∧ Fr [m] w w') ∨
  ((F c d).2.2 < n ∧ e = .returned (.int .i64 10) ∧ PlanIs w' p m v fs F ∧ Fr [m] w w')
theorem moved_ok (n : Int) (hl : laneB c d = true) (hn : 0 ≤ n) (hb : 0 ≤ (F c d).2.1 ∧ (F c d).2.1 ≤ 1000000000) (hle : 0 ≤ (F c d).2.2 ∧ (F c d).2.2 ≤ 1000000) : Calls Tryd.prog 19 #[.pointer (some ⟨p, 0, none⟩), .int .i64 c, .int .i64 d, .int .i64 n] w (MovedPost w p m v fs F c d n) := by
  have hM := may_any c d w h true
  rw [hl] at hM
  simp only [Bool.true_and, if_true] at hM
  have HM := Lib.hid hM
  obtain ⟨i1, i2⟩ := laneB_i64 hl
  have c1 := h.c1
  have f0 : Fr [] w (w.alloc (.cells #[.int .i64 c, .int .i64 d] 93)) := (Fr.refl [] w).alloc _
  have k1 := f0.keep c1 (by simp)
  have lk := (h.lanes.keep f0 (by simp)).look' c d i1 i2
  have lk2 := (h.lanes.keep f0.drew (by simp)).look' c d i1 i2
  have f1 : Fr [] w ((w.alloc (.cells #[.int .i64 c, .int .i64 d] 93)).alloc (.cells #[.int .i64 0, .int .i64 0, .int .i64 0] 91)).drew := (f0.alloc _).drew
  have k2 := f1.keep c1 (by simp)
  have lk3 := (h.lanes.keep f1 (by simp)).look' c d i1 i2
  have f2 : Fr [] (w.alloc (.cells #[.int .i64 c, .int .i64 d] 93)) ((w.alloc (.cells #[.int .i64 c, .int .i64 d] 93)).alloc (.cells #[.int .i64 0, .int .i64 0, .int .i64 0] 91)).drew := ((Fr.refl [] _).alloc _).drew
  have j0 := f2.keep (b := w.heap.size) (o := 0) (v := .int .i64 c) (by simp) (by simp)
  have j1 := f2.keep (b := w.heap.size) (o := 1) (v := .int .i64 d) (by simp) (by simp)
  have HH := Lib.hid h
  obtain ⟨x, hx⟩ : ∃ x, F c d = x := ⟨_, rfl⟩
  rw [hx] at hb hle lk lk2 lk3
  have HX := Lib.hid hx
  obtain ⟨x0, x1, x2⟩ := x
  simp only at hb hle lk lk2 lk3
  clear hM h hl hx c1
  go_enter Tryd.func19, Tryd.ntmps19
  go_wp2_with (go_at_call 36; refine HM.out.mono ?_; rintro e w' ⟨rfl, rfl⟩)
  go_cut [11] from 24 to 29 (fun s11 wc => ∃ D, s11 = .pointer (some ⟨D, 0, none⟩) ∧ w.heap.size < D ∧ wc.cell? ⟨D, 0, none⟩ = some (.int .i64 x0) ∧ wc.cell? ⟨D, 1, none⟩ = some (.int .i64 x1) ∧ wc.cell? ⟨D, 2, none⟩ = some (.int .i64 x2) ∧ (∀ o, wc.frozen? ⟨D, o, none⟩ = false) ∧ Fr [] (w.alloc (.cells #[.int .i64 c, .int .i64 d] 93)) wc)
  case first =>
    go_region
    all_goals go_wp2
    all_goals go_meet
    case' rel => skip
    all_goals exact ⟨_, rfl, by first | omega | (simp; omega), (World.cell?_drew _ _).trans (newCell _ _ _ 0 rfl (by simp) rfl), (World.cell?_drew _ _).trans (newCell _ _ _ 1 rfl (by simp) rfl), (World.cell?_drew _ _).trans (newCell _ _ _ 2 rfl (by simp) rfl), fun o => by simp, ((Fr.refl [] _).alloc _).drew⟩
  case rest =>
    obtain ⟨D, rfl, hD, d0, d1, d2, dz, fc⟩ := hcut
    have gc : Fr [] w wc := f0.step fc
    have l0 : wc.cell? ⟨w.heap.size, 0, none⟩ = some (.int .i64 c) := fc.keep (by simp) (by simp)
    have l1 : wc.cell? ⟨w.heap.size, 1, none⟩ = some (.int .i64 d) := fc.keep (by simp) (by simp)
    have hD' : w.heap.size ≠ D := by omega
    have Dl := cell_lt d0
    have z1 := dz 1
    have z2 := dz 2
    clear dz
    clear k1 k2 lk lk2 lk3 j0 j1 f1 f2
    by_cases hgt : n ≤ x2
    · have hp := HH.out.new gc
      have pD : p ≠ D := by have := cell_lt HH.out.c0; omega
      have mD : m ≠ D := by have := HH.out.lanes.lt; omega
      have c1 := hp.c1
      have HP := Lib.hid hp
      clear hp
      have e1 : IntKind.i64.wrap (x1 + n) = x1 + n := IntWalk.i64_in _ (by omega)
      have e2 : IntKind.i64.wrap (x2 - n) = x2 - n := IntWalk.i64_in _ (by omega)
      have g9 : Fr [D] wc ((wc.setCell ⟨D, 1, none⟩ (.int .i64 (x1 + n))).setCell ⟨D, 2, none⟩ (.int .i64 (x2 - n))) := ((Fr.refl _ _).setCell (fun _ => by simp) _).setCell (fun _ => by simp) _
      have hl9 := HP.out.lanes.keep g9.drew (by simp; omega)
      obtain ⟨w9, hput, hlF, f9⟩ := hl9.put' c d i1 i2 x0 (x1 + n) (x2 - n)
      have q0 := g9.keep l0 (by simp; omega)
      have q1 := g9.keep l1 (by simp; omega)
      have qc := g9.keep c1 (by simp; omega)
      have HF := Lib.hid (And.intro hlF (And.intro f9 g9.drew))
      clear hl9 hlF f9 g9
      have s0 : ((wc.setCell ⟨D, 1, none⟩ (.int .i64 (x1 + n))).setCell ⟨D, 2, none⟩ (.int .i64 (x2 - n))).cell? ⟨D, 0, none⟩ = some (.int .i64 x0) := by
        rw [World.cell?_setCell_other _ _ _ _ (by simp), World.cell?_setCell_other _ _ _ _ (by simp)]
        exact d0
      have s1 : ((wc.setCell ⟨D, 1, none⟩ (.int .i64 (x1 + n))).setCell ⟨D, 2, none⟩ (.int .i64 (x2 - n))).cell? ⟨D, 1, none⟩ = some (.int .i64 (x1 + n)) := by
        rw [World.cell?_setCell_other _ _ _ _ (by simp)]
        exact World.cell?_setCell_same' _ _ _ (by rw [d1]; rfl)
      have s2 : ((wc.setCell ⟨D, 1, none⟩ (.int .i64 (x1 + n))).setCell ⟨D, 2, none⟩ (.int .i64 (x2 - n))).cell? ⟨D, 2, none⟩ = some (.int .i64 (x2 - n)) :=
        World.cell?_setCell_same' _ _ _ (by rw [World.cell?_setCell_other _ _ _ _ (by simp), d2]; rfl)
      go_wp2_with fail
      generalize (wc.setCell ⟨D, 1, none⟩ (.int .i64 (x1 + n))).setCell ⟨D, 2, none⟩ (.int .i64 (x2 - n)) = W0 at hput HF q0 q1 qc s0 s1 s2 ⊢
      have j0 : ({ W0 with drawn := W0.drawn + 1 } : World).cell? ⟨w.heap.size, 0, none⟩ = some (.int .i64 c) := q0
      have j1 : ({ W0 with drawn := W0.drawn + 1 } : World).cell? ⟨w.heap.size, 1, none⟩ = some (.int .i64 d) := q1
      have jc : ({ W0 with drawn := W0.drawn + 1 } : World).cell? ⟨p, 1, none⟩ = some (.map (some m)) := qc
      have t0 : ({ W0 with drawn := W0.drawn + 1 } : World).cell? ⟨D, 0, none⟩ = some (.int .i64 x0) := s0
      have t1 : ({ W0 with drawn := W0.drawn + 1 } : World).cell? ⟨D, 1, none⟩ = some (.int .i64 (x1 + n)) := s1
      have t2 : ({ W0 with drawn := W0.drawn + 1 } : World).cell? ⟨D, 2, none⟩ = some (.int .i64 (x2 - n)) := s2
      go_still_tail 6, (by kernel_rfl)
      repeat still_step
      change wpList _ _ _ _ _ (World.drew W0)
      clear j0 j1 jc t0 t1 t2 q0 q1 qc s0 s1 s2
      generalize W0.drew = W1 at hput HF ⊢
      go_wp2
      go_ret
      obtain ⟨hlF, f9, g9⟩ := HF.out
      have hw : Fr [m] w w9 := ((gc.mono (T := [m]) (fun x hx => by cases hx)).trans g9 (fun x hx hl => by simp at hx; omega)).trans f9 (fun x hx _ => hx)
      refine .inl ⟨by rw [HX.out]; exact hgt, rfl, ?_, hw⟩
      rw [HX.out]
      exact HH.out.turn hw hlF
    · go_wp2_with fail
      go_ret
      have hp := HH.out.new gc
      exact .inr ⟨by rw [HX.out]; simp only; omega, rfl, hp, gc.mono (fun x hx => by cases hx)⟩
end
end Go.Proofs.YtededfkenlhokaaDoor
