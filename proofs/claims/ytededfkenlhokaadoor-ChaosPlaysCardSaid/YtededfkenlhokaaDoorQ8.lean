/- Call and Moved of one byte, whatever the lane: the plan goes on by itself. -/
import Derived.Test.YtededfkenlhokaaDoorQ6
import Derived.Test.YtededfkenlhokaaDoorC9
namespace Go.Proofs.YtededfkenlhokaaDoor
open Go.RowKit Go.Shelf
set_option linter.unusedVariables false
set_option linter.unusedSimpArgs false
set_option maxRecDepth 100000
set_option maxHeartbeats 4000000

theorem call_free {p m : Nat} {v : Value} {fs : List Ft} {F : LF} {k : Nat} (c d : Int) (w : World) (h : PlanIs w p m v fs F) (hp : PInv fs F k) (hk : k ≤ 24) :
    Calls Tryd.prog 18 #[.pointer (some ⟨p, 0, none⟩), .int .i64 c, .int .i64 d, .int .i64 1] w fun e w' => (∃ r, e = .returned r) ∧ ∃ F', PlanIs w' p m v fs F' ∧ PInv fs F' (k + 1) ∧ Fr [m] w w' := by
  cases hl : laneB c d with
  | false =>
    refine (call_bad c d w h 1 (.inl hl)).mono ?_
    rintro e w' ⟨rfl, f⟩
    exact ⟨⟨_, rfl⟩, F, h.new f, hp.skip, f.mono (fun _ hx => by cases hx)⟩
  | true =>
    have hb := hp c d
    refine (call_ok c d w h 1 hl ⟨by omega, by omega⟩ ⟨hb.1.1, by omega⟩).mono ?_
    rintro e w' ⟨rfl, P, f⟩
    exact ⟨⟨_, rfl⟩, _, P, hp.call (List.all_eq_true.1 h.ok) hk ⟨by omega, by omega⟩, f⟩
theorem moved_free {p m : Nat} {v : Value} {fs : List Ft} {F : LF} {k : Nat} (c d : Int) (w : World) (h : PlanIs w p m v fs F) (hp : PInv fs F k) (hk : k ≤ 25) :
    Calls Tryd.prog 19 #[.pointer (some ⟨p, 0, none⟩), .int .i64 c, .int .i64 d, .int .i64 1] w fun e w' => (∃ r, e = .returned r) ∧ Fr [m] w w' := by
  cases hl : laneB c d with
  | false =>
    refine (moved_bad c d w h 1 (.inl hl)).mono ?_
    rintro e w' ⟨rfl, rfl⟩
    exact ⟨⟨_, rfl⟩, Fr.refl _ _⟩
  | true =>
    have hb := hp c d
    refine (moved_ok c d w h 1 hl (by omega) ⟨by omega, by omega⟩ ⟨by omega, by omega⟩).mono ?_
    rintro e w' (⟨_, rfl, _, f⟩ | ⟨_, rfl, _, f⟩)
    · exact ⟨⟨_, rfl⟩, f⟩
    · exact ⟨⟨_, rfl⟩, f⟩
end Go.Proofs.YtededfkenlhokaaDoor
