/- Contract of chaos's Call over a plan in memory. -/
import Derived.Test.YtededfkenlhokaaDoorC7
import Derived.Deep.CutRange
import Derived.StillTailTactics
import Derived.IntWalk
namespace Go.Proofs.YtededfkenlhokaaDoor
open Go.RowKit
open Go.Maps (Keyed)
set_option linter.unusedVariables false
set_option maxRecDepth 100000
set_option maxHeartbeats 4000000

section
variable {p m : Nat} {v : Value} {fs : List Ft} {F : LF} (c d : Int) (w : World) (h : PlanIs w p m v fs F)
include h
theorem call_bad (n : Int) (hb : laneB c d = false ∨ ¬ (0 ≤ n ∧ n ≤ 65536)) : Calls Tryd.prog 18 #[.pointer (some ⟨p, 0, none⟩), .int .i64 c, .int .i64 d, .int .i64 n] w fun e w' => e = .returned (.tuple #[.agg #[.int .i64 0, .int .u64 0, .int .i64 0], .int .i64 2]) ∧ Fr [] w w' := by
  have f0 : Fr [] w (w.alloc (.cells #[.int .i64 0, .int .u64 0, .int .i64 0] 51)) := (Fr.refl [] w).alloc _
  have h0 := h.new f0
  have hM := may_any c d _ h0 (decide (0 ≤ n ∧ n ≤ 65536))
  have e : (laneB c d && decide (0 ≤ n ∧ n ≤ 65536)) = false := by
    rcases hb with hb | hb
    · simp [hb]
    · rw [decide_eq_false hb]; simp
  rw [e] at hM
  simp only [Bool.false_eq_true, if_false] at hM
  have HM := Lib.hid hM
  obtain ⟨bn, hbn⟩ : ∃ bn, decide (0 ≤ n ∧ n ≤ 65536) = bn := ⟨_, rfl⟩
  rw [hbn] at HM
  have HB := Lib.hid hbn
  clear hM h hb e hbn h0
  go_enter Tryd.func18, Tryd.ntmps18
  go_wp2_with (first
    | (go_at_call 37; refine (within_any _ _ _ _).mono ?_; rintro e w' ⟨rfl, rfl⟩; rw [HB.out])
    | (go_at_call 36; refine HM.out.mono ?_; rintro e w' ⟨rfl, rfl⟩))
  refine bodyPost_ret (v := .tuple #[.agg #[.int .i64 0, .int .u64 0, .int .i64 0], .int .i64 2]) (by simp [results, Tryd.results18, go_sem]) rfl ⟨rfl, f0⟩
/-- What Call leaves. -/
def CallPost (w : World) (p m : Nat) (v : Value) (fs : List Ft) (F : LF) (c d : Int) (y : Int × Int × Int) (e : Ending) (w' : World) : Prop :=
  e = .returned (.tuple #[.agg #[.int .i64 y.1, .int .u64 y.2.1, .int .i64 y.2.2], .int .i64 0]) ∧ PlanIs w' p m v fs (F.upd c d ((F c d).1 + 1, (F c d).2.1, y.1)) ∧ Fr [m] w w'
theorem call_ok (n : Int) (hl : laneB c d = true) (hn : 0 ≤ n ∧ n ≤ 65536) (hb : 0 ≤ (F c d).1 ∧ (F c d).1 ≤ 1000000) : Calls Tryd.prog 18 #[.pointer (some ⟨p, 0, none⟩), .int .i64 c, .int .i64 d, .int .i64 n] w (CallPost w p m v fs F c d (effW fs c d (F c d).1 (F c d).2.1 n)) := by
  obtain ⟨y, hy⟩ : ∃ y, effW fs c d (F c d).1 (F c d).2.1 n = y := ⟨_, rfl⟩
  rw [hy]
  have fz : Fr [] w (w.alloc (.cells #[.int .i64 0, .int .u64 0, .int .i64 0] 51)) := (Fr.refl [] w).alloc _
  have hM := may_any c d _ (h.new fz) true
  rw [hl] at hM
  simp only [Bool.true_and, if_true] at hM
  have HM := Lib.hid hM
  have HN := Lib.hid (decide_eq_true hn)
  obtain ⟨i1, i2⟩ := laneB_i64 hl
  have z0 : OutAt (w.alloc (.cells #[.int .i64 0, .int .u64 0, .int .i64 0] 51)) w.heap.size (0, 0, 0) := World.alloc_heap_new w _
  have HH := Lib.hid h
  obtain ⟨x, hx⟩ : ∃ x, F c d = x := ⟨_, rfl⟩
  rw [hx] at hb hy
  have HX := Lib.hid hx
  obtain ⟨x0, x1, x2⟩ := x
  simp only at hb hy
  have HY := Lib.hid hy
  clear hM h hl hx hy hn
  go_enter Tryd.func18, Tryd.ntmps18
  go_wp2_with (first
    | (go_at_call 37; refine (within_any _ _ _ _).mono ?_; rintro e w' ⟨rfl, rfl⟩; rw [HN.out])
    | (go_at_call 36; refine HM.out.mono ?_; rintro e w' ⟨rfl, rfl⟩))
  have hsz : (w.alloc (.cells #[.int .i64 0, .int .u64 0, .int .i64 0] 51)).heap.size = w.heap.size + 1 := by simp
  obtain ⟨Z, hZ⟩ : ∃ Z, w.heap.size = Z := ⟨_, rfl⟩
  rw [hZ] at z0
  rw [← hsz]
  have HZ := Lib.hid hZ
  generalize w.alloc (.cells #[.int .i64 0, .int .u64 0, .int .i64 0] 51) = V at fz z0 hsz ⊢
  rw [hZ]
  have hsz' : V.heap.size = Z + 1 := by omega
  have HSZ := Lib.hid hsz'
  have zl : Z < V.heap.size := by omega
  clear hsz hZ hsz'
  have hV := HH.out.new fz
  have f0 : Fr [] V (V.alloc (.cells #[.int .i64 c, .int .i64 d] 93)) := (Fr.refl [] V).alloc _
  have c1 := hV.c1
  have k1 := f0.keep c1 (by simp)
  have lk := (hV.lanes.keep f0 (by simp)).look' c d i1 i2
  have lk2 := (hV.lanes.keep f0.drew (by simp)).look' c d i1 i2
  have f1 : Fr [] V ((V.alloc (.cells #[.int .i64 c, .int .i64 d] 93)).alloc (.cells #[.int .i64 0, .int .i64 0, .int .i64 0] 91)).drew := (f0.alloc _).drew
  have k2 := f1.keep c1 (by simp)
  have lk3 := (hV.lanes.keep f1 (by simp)).look' c d i1 i2
  have f2 : Fr [] (V.alloc (.cells #[.int .i64 c, .int .i64 d] 93)) ((V.alloc (.cells #[.int .i64 c, .int .i64 d] 93)).alloc (.cells #[.int .i64 0, .int .i64 0, .int .i64 0] 91)).drew := ((Fr.refl [] _).alloc _).drew
  have j0 := f2.keep (b := V.heap.size) (o := 0) (v := .int .i64 c) (by simp) (by simp)
  have j1 := f2.keep (b := V.heap.size) (o := 1) (v := .int .i64 d) (by simp) (by simp)
  rw [HX.out] at lk lk2 lk3
  simp only at lk lk2 lk3
  have HV := Lib.hid hV
  clear hV c1
  go_cut [12] from 27 to 32 (fun s12 wc => ∃ D, s12 = .pointer (some ⟨D, 0, none⟩) ∧ V.heap.size < D ∧ wc.cell? ⟨D, 0, none⟩ = some (.int .i64 x0) ∧ wc.cell? ⟨D, 1, none⟩ = some (.int .i64 x1) ∧ wc.cell? ⟨D, 2, none⟩ = some (.int .i64 x2) ∧ Fr [] (V.alloc (.cells #[.int .i64 c, .int .i64 d] 93)) wc)
  case first =>
    go_region
    all_goals go_wp2
    all_goals go_meet
    case' rel => skip
    all_goals exact ⟨_, rfl, by first | omega | (simp; omega), (World.cell?_drew _ _).trans (newCell _ _ _ 0 rfl (by simp) rfl), (World.cell?_drew _ _).trans (newCell _ _ _ 1 rfl (by simp) rfl), (World.cell?_drew _ _).trans (newCell _ _ _ 2 rfl (by simp) rfl), ((Fr.refl [] _).alloc _).drew⟩
  case rest =>
    obtain ⟨D, rfl, hD, d0, d1, d2, fc⟩ := hcut
    have gc : Fr [] V wc := f0.step fc
    have l0 : wc.cell? ⟨V.heap.size, 0, none⟩ = some (.int .i64 c) := fc.keep (by simp) (by simp)
    have l1 : wc.cell? ⟨V.heap.size, 1, none⟩ = some (.int .i64 d) := fc.keep (by simp) (by simp)
    clear k1 k2 lk lk2 lk3 j0 j1 f1 f2 f0 fc
    have HP := Lib.hid (HV.out.new gc)
    have hE := effect_any c d x0 x1 x2 n _ HP.out
    rw [HY.out] at hE
    have HE := Lib.hid hE
    clear hE
    obtain ⟨y0, y1, y2⟩ := y
    unfold EffPost at HE
    simp only at HE
    go_wp2_with (go_at_call 38; refine HE.out.mono ?_; rintro e w2 ⟨rfl, f2⟩)
    have g3 : Fr [] wc (w2.alloc (.cells #[.int .i64 y0, .int .u64 y1, .int .i64 y2] 51)) := f2.alloc _
    have o3 : OutAt (w2.alloc (.cells #[.int .i64 y0, .int .u64 y1, .int .i64 y2] 51)) w2.heap.size (y0, y1, y2) := World.alloc_heap_new w2 _
    have g4 : Fr [] V (w2.alloc (.cells #[.int .i64 y0, .int .u64 y1, .int .i64 y2] 51)) := gc.step g3
    obtain ⟨O, hO⟩ : ∃ O, w2.heap.size = O := ⟨_, rfl⟩
    have hOV : V.heap.size ≤ O := by have := gc.size; have := f2.size; omega
    rw [hO] at o3 ⊢
    clear hO
    generalize w2.alloc (.cells #[.int .i64 y0, .int .u64 y1, .int .i64 y2] 51) = W0 at g3 o3 g4 ⊢
    have hl9 := (HV.out.lanes.keep g4 (by simp)).keep (Fr.refl [] W0).drew (by simp)
    have e1 : IntKind.i64.wrap (x0 + 1) = x0 + 1 := IntWalk.i64_in _ (by omega)
    obtain ⟨w9, hput, hlF, f9⟩ := hl9.put' c d i1 i2 (x0 + 1) x1 y0
    have HF := Lib.hid (And.intro hlF f9)
    have hp := (HV.out.new g4).c1
    have q0 := g3.keep l0 (by simp)
    have q1 := g3.keep l1 (by simp)
    have s0 := g3.keep d0 (by simp)
    have s1 := g3.keep d1 (by simp)
    have t0 := o3.c0
    have HO3 := Lib.hid o3
    clear hl9 hlF f9 o3 l0 l1 d0 d1 d2
    have k0 : ({ W0 with drawn := W0.drawn + 1 } : World).cell? ⟨V.heap.size, 0, none⟩ = some (.int .i64 c) := q0
    have k1 : ({ W0 with drawn := W0.drawn + 1 } : World).cell? ⟨V.heap.size, 1, none⟩ = some (.int .i64 d) := q1
    have k2 : ({ W0 with drawn := W0.drawn + 1 } : World).cell? ⟨p, 1, none⟩ = some (.map (some m)) := hp
    have k3 : ({ W0 with drawn := W0.drawn + 1 } : World).cell? ⟨D, 0, none⟩ = some (.int .i64 x0) := s0
    have k4 : ({ W0 with drawn := W0.drawn + 1 } : World).cell? ⟨D, 1, none⟩ = some (.int .i64 x1) := s1
    have k5 : ({ W0 with drawn := W0.drawn + 1 } : World).cell? ⟨O, 0, none⟩ = some (.int .i64 y0) := t0
    go_still_tail 13, (by kernel_rfl)
    repeat still_step
    change wpList _ _ _ _ _ (World.drew W0)
    clear k0 k1 k2 k3 k4 k5 q0 q1 s0 s1 t0 hp
    have mlt := HH.out.lanes.lt
    rw [HZ.out] at mlt
    have f9 := HF.out.2
    have o9 := (HO3.out.keep (Fr.refl [] W0).drew (by simp)).keep f9 (by simp; omega)
    have z9 := ((z0.keep g4 (by simp)).keep (Fr.refl [] W0).drew (by simp)).keep f9 (by simp; omega)
    have oc0 := o9.c0
    have oc1 := o9.c1
    have oc2 := o9.c2
    have zc0 := z9.c0
    have zc1 := z9.c1
    have zc2 := z9.c2
    have zz0 := z9.fz 0
    have zz1 := z9.fz 1
    have zz2 := z9.fz 2
    have HZ9 := Lib.hid z9
    simp only at oc0 oc1 oc2 zc0 zc1 zc2
    have F9 := Lib.hid f9
    clear o9 z9 f9 z0
    go_wp2
    have z10 := ((HZ9.out.set0 y0).set1 y1).set2 y2
    have a0 := z10.c0
    have a1 := z10.c1
    have a2 := z10.c2
    simp only at a0 a1 a2
    refine bodyPost_ret (v := .tuple #[.agg #[.int .i64 y0, .int .u64 y1, .int .i64 y2], .int .i64 0]) (by simp [results, Tryd.results18, go_sem, a0, a1, a2]) rfl ?_
    have hw : Fr [m] w (((w9.setCell ⟨Z, 0, none⟩ (.int .i64 y0)).setCell ⟨Z, 1, none⟩ (.int .u64 y1)).setCell ⟨Z, 2, none⟩ (.int .i64 y2)) := by
      have h1 : Fr [m] w w9 := (((fz.step g4).drew).mono (T := [m]) (fun x hx => by cases hx)).trans F9.out (fun x hx _ => hx)
      have hz := HZ.out
      exact ((h1.setCell (fun h => by simp at h; omega) _).setCell (fun h => by simp at h; omega) _).setCell (fun h => by simp at h; omega) _
    refine ⟨rfl, ?_, hw⟩
    rw [HX.out]
    refine HH.out.turn hw ?_
    have h2 : Fr [Z] w9 (((w9.setCell ⟨Z, 0, none⟩ (.int .i64 y0)).setCell ⟨Z, 1, none⟩ (.int .u64 y1)).setCell ⟨Z, 2, none⟩ (.int .i64 y2)) := (((Fr.refl _ _).setCell (fun _ => by simp) _).setCell (fun _ => by simp) _).setCell (fun _ => by simp) _
    exact HF.out.1.keep h2 (by simp; omega)
end
end Go.Proofs.YtededfkenlhokaaDoor
