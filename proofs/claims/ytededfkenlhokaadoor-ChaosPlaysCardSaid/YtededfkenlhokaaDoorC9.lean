/- Contract of chaos's Copy; the methods of a nil and of a zero plan. -/
import Derived.Test.YtededfkenlhokaaDoorC8
namespace Go.Proofs.YtededfkenlhokaaDoor
open Go.RowKit Go.Shelf
open Go.Maps (Keyed)
set_option linter.unusedVariables false
set_option maxRecDepth 100000
set_option maxHeartbeats 4000000

theorem clone_run {r : Nat} {es : Array MapEntry} {clock : Nat} (t : TypeId) (w : World) (hb : w.heap[r]? = some (.map es clock)) :
    (Extern.MapsClone.clone #[.iface t (.map (some r))]).run Tryd.prog w = .ok (.iface t (.map (some w.heap.size))) (w.alloc (.map es clock)) := by
  have e : Extern.MapsClone.clone #[.iface t (.map (some r))] = (getObj r >>= fun o => match o with
      | .map entries clock => (newObj (.map entries clock) >>= fun n => pure (.iface t (.map (some n))))
      | _ => stuck "maps.clone: a map expected") := rfl
  rw [e]
  simp [MapKept.run_getObj_map hb, Result.andThen, go_sem]
theorem mapsClone_any (m : Nat) (F : LF) (w : World) (h : LanesIs w m F) :
    Calls Tryd.prog 43 #[.map (some m)] w fun e w' => e = .returned (.map (some w.heap.size)) ∧ LanesIs w' w.heap.size F ∧ Fr [] w w' := by
  obtain ⟨f, ⟨es, clock, hb, hs, hk, hf⟩, h2, h3⟩ := h
  have hq : ∀ W : World, (binOp .eql 63 (.map (some m)) (.map none)).run Tryd.prog W = .ok (.bool false) W := fun W => by kernel_rfl
  have hta : ∀ (W : World) (r : Nat), (Instr.typeAssert (.iface 63 (.map (some r))) 20 63 false).run Tryd.prog W = .ok (.map (some r)) W := fun W r => by kernel_rfl
  have HC := Lib.hid (clone_run 63 w hb)
  go_enter Tryd.func43, Tryd.ntmps43
  go_wp2
  rw [run_callFunc_extern Tryd.func60 (by kernel_rfl) (by kernel_rfl) (by kernel_rfl) (e := Extern.MapsClone.clone) (by kernel_rfl), HC.out]
  simp only [Result.andThen]
  rw [Oper.upon_value]
  go_wp2
  go_ret
  exact ⟨rfl, ⟨f, ⟨es, clock, (MapKept.heap_alloc w _).1, hs, hk, hf⟩, h2, h3⟩, (Fr.refl [] w).alloc _⟩

theorem copy_any {p m : Nat} {v : Value} {fs : List Ft} {F : LF} (w : World) (h : PlanIs w p m v fs F) :
    Calls Tryd.prog 22 #[.pointer (some ⟨p, 0, none⟩)] w fun e w' => ∃ p' m', e = .returned (.pointer (some ⟨p', 0, none⟩)) ∧ PlanIs w' p' m' v fs F ∧ Fr [] w w' ∧ w.heap.size ≤ p' ∧ w.heap.size ≤ m' := by
  obtain ⟨a, cap, rfl⟩ := h.row.val
  have c0 := h.c0
  have c1 := h.c1
  have HN := Lib.hid (planNone_any w h)
  have HH := Lib.hid h
  have HL := Lib.hid h.lanes
  clear h
  go_enter Tryd.func22, Tryd.ntmps22
  go_wp2_with (go_at_call 42; refine HN.out.mono ?_; rintro e w' ⟨rfl, rfl⟩)
  go_region_with (go_at_call 43; refine (mapsClone_any m F _ (HL.out.keep ((Fr.refl [] w).drewN 1) (by simp))).mono ?_; rintro e w1 ⟨rfl, m1, f1⟩; have d0 := f1.keep (w := w.drewN 1) c0 (by simp); have d1 := f1.keep (w := w.drewN 1) c1 (by simp))
  all_goals go_wp2
  all_goals go_ret
  all_goals (
    have g1 : Fr [] w w1 := ⟨f1.os, f1.tape, f1.output, f1.size, f1.block⟩
    have z1 := g1.size
    have z2 := m1.lt
    have z3 : (w.drewN 1).heap.size = w.heap.size := rfl
    have fa : Fr [] w1 (w1.alloc (.cells #[.slice a fs.length cap, .map (some w.heap.size)] 65)) := (Fr.refl [] _).alloc _
    refine ⟨w1.heap.size, w.heap.size, rfl, ⟨by simp, by simp, HH.out.row.new (g1.step fa), m1.keep fa (by simp), by omega, fun g off n c he => ?_, HH.out.ok, HH.out.len, fun g off n c he => ?_⟩, g1.step fa, z1, Nat.le_refl _⟩
    · have := HH.out.low g off n c he
      omega
    · have := HH.out.low g off n c he
      have := fa.size
      omega)

/-- No plan: nil, or zero. -/
def NoPlan (w : World) (v : Value) : Prop := v = .pointer none ∨ ∃ n, v = .pointer (some ⟨n, 0, none⟩) ∧ w.cell? ⟨n, 1, none⟩ = some (.map none)
theorem NoPlan.new {w w' : World} {v : Value} (h : NoPlan w v) (hf : Fr [] w w') : NoPlan w' v := by
  rcases h with h | ⟨n, h, h1⟩
  · exact .inl h
  · exact .inr ⟨n, h, hf.keep h1 (by simp)⟩
theorem noNone {v : Value} (w : World) (h : NoPlan w v) :
    Calls Tryd.prog 42 #[v] w fun e w' => e = .returned (.bool true) ∧ w = w' := by
  have hq : ∀ W : World, (binOp .eql 63 (.map none) (.map none)).run Tryd.prog W = .ok (.bool true) W := fun W => by kernel_rfl
  rcases h with rfl | ⟨n, rfl, h⟩
  · go_enter Tryd.func42, Tryd.ntmps42
    go_wp2
    go_ret
    exact ⟨rfl, rfl⟩
  · go_enter Tryd.func42, Tryd.ntmps42
    go_wp2
    go_ret
    exact ⟨rfl, rfl⟩
section
variable {v : Value} (w : World) (h : NoPlan w v) (c d : Int)
include h
theorem noMay (b : Bool) : Calls Tryd.prog 36 #[v, .int .i64 c, .int .i64 d, .bool b] w fun e w' => e = .returned (.int .i64 1) ∧ w = w' := by
  have HN := Lib.hid (noNone w h)
  go_enter Tryd.func36, Tryd.ntmps36
  go_wp2_with (go_at_call 42; refine HN.out.mono ?_; rintro e w' ⟨rfl, rfl⟩)
  go_ret
  exact ⟨rfl, rfl⟩
theorem noCalls : Calls Tryd.prog 16 #[v, .int .i64 c, .int .i64 d] w fun e w' => e = .returned (.tuple #[.int .i64 0, .int .i64 1]) ∧ w = w' := by
  have HM := Lib.hid (noMay w h c d true)
  go_enter Tryd.func16, Tryd.ntmps16
  go_wp2_with (go_at_call 36; refine HM.out.mono ?_; rintro e w' ⟨rfl, rfl⟩)
  go_ret2
  exact ⟨rfl, rfl⟩
theorem noBytes : Calls Tryd.prog 17 #[v, .int .i64 c, .int .i64 d] w fun e w' => e = .returned (.tuple #[.int .i64 0, .int .i64 1]) ∧ w = w' := by
  have HM := Lib.hid (noMay w h c d true)
  go_enter Tryd.func17, Tryd.ntmps17
  go_wp2_with (go_at_call 36; refine HM.out.mono ?_; rintro e w' ⟨rfl, rfl⟩)
  go_ret2
  exact ⟨rfl, rfl⟩
theorem noMoved (n : Int) : Calls Tryd.prog 19 #[v, .int .i64 c, .int .i64 d, .int .i64 n] w fun e w' => e = .returned (.int .i64 1) ∧ w = w' := by
  have HM := Lib.hid (fun b => noMay w h c d b)
  by_cases hn : 0 ≤ n
  all_goals
    go_enter Tryd.func19, Tryd.ntmps19
    go_wp2_with (go_at_call 36; refine (HM.out _).mono ?_; rintro e w' ⟨rfl, rfl⟩)
    go_ret
    exact ⟨rfl, rfl⟩
theorem noCopy : Calls Tryd.prog 22 #[v] w fun e w' => e = .returned (.pointer none) ∧ w = w' := by
  have HN := Lib.hid (noNone w h)
  go_enter Tryd.func22, Tryd.ntmps22
  go_wp2_with (go_at_call 42; refine HN.out.mono ?_; rintro e w' ⟨rfl, rfl⟩)
  go_ret
  exact ⟨rfl, rfl⟩
theorem noCall (n : Int) : Calls Tryd.prog 18 #[v, .int .i64 c, .int .i64 d, .int .i64 n] w fun e w' => e = .returned (.tuple #[.agg #[.int .i64 0, .int .u64 0, .int .i64 0], .int .i64 1]) ∧ Fr [] w w' := by
  have f0 : Fr [] w (w.alloc (.cells #[.int .i64 0, .int .u64 0, .int .i64 0] 51)) := (Fr.refl [] w).alloc _
  have HM := Lib.hid (fun b => noMay _ (h.new f0) c d b)
  obtain ⟨bn, hbn⟩ : ∃ bn, decide (0 ≤ n ∧ n ≤ 65536) = bn := ⟨_, rfl⟩
  have HB := Lib.hid hbn
  clear hbn
  go_enter Tryd.func18, Tryd.ntmps18
  go_wp2_with (first
    | (go_at_call 37; refine (within_any _ _ _ _).mono ?_; rintro e w' ⟨rfl, rfl⟩; rw [HB.out])
    | (go_at_call 36; refine (HM.out _).mono ?_; rintro e w' ⟨rfl, rfl⟩))
  refine bodyPost_ret (v := .tuple #[.agg #[.int .i64 0, .int .u64 0, .int .i64 0], .int .i64 1]) (by simp [results, Tryd.results18, go_sem]) rfl ⟨rfl, f0⟩
end
end Go.Proofs.YtededfkenlhokaaDoor
