/- '==' and '!=' of addresses; a row of addresses by its cells; what is stored into it. -/
import Derived.Test.YtbilaapikclhlaaDoorSort
import Derived.Laws.StructEq
import Derived.Lib.SlicesCompact
import Derived.Deep.QuietTactic
import Derived.Lib.Hide
namespace Go.Proofs.YtbilaapikclhlaaDoor
open Go.RowKit Go.Sort Go.Proofs Go.Shelf
set_option linter.unusedVariables false
set_option maxRecDepth 100000
set_option maxHeartbeats 4000000

theorem eqRaw (x y : Ad) (w : World) : (Op.equalIn 10000 23 (.agg #[.string x.1, .int .i64 x.2]) (.agg #[.string y.1, .int .i64 y.2])).run Tryd.prog w = .ok (decide (x = y)) w := by
  have u9 := Tryd.underlying9
  have a9 := Tryd.isAgg9
  have z9 := Tryd.sizeOf9
  have u3 := Tryd.underlying3
  have a3 := Tryd.isAgg3
  have z3 := Tryd.sizeOf3
  have hS : Tryd.prog.underlying 23 = some (.struct (Tryd.prog.fieldsOf 23)) := by kernel_rfl
  have hp : Tryd.prog.stoodInHeld 23 = false := by kernel_rfl
  have hE : ∀ r : Bool, (r = true ↔ x = y) → r = decide (x = y) := fun r h => by
    cases r
    · have : ¬ x = y := fun e => by have := h.2 e; cases this
      simp [this]
    · simp [h.1 rfl]
  rw [show (10000 : Nat) = 9999 + 1 from rfl, run_equalIn_agg w 9999 23 _ _ hS hp]
  simp only [Program.fieldsOf, Tryd.underlying23]
  go_simp
  obtain ⟨s, p⟩ := x
  obtain ⟨t, q⟩ := y
  have ht : (s.toList = t.toList) = (s = t) := by
    rw [ByteArray.toList_eq, ByteArray.toList_eq]
    obtain ⟨⟨a⟩⟩ := s
    obtain ⟨⟨b⟩⟩ := t
    simp
  by_cases h1 : s = t <;> by_cases h2 : p = q <;> simp [ht, h1, h2]
theorem eqA (x y : Ad) (w : World) : (binOp .eql 23 (.agg #[.string x.1, .int .i64 x.2]) (.agg #[.string y.1, .int .i64 y.2])).run Tryd.prog w = .ok (.bool (decide (x = y))) w := by
  rw [run_eql_struct, eqRaw]
  rfl
theorem neA (x y : Ad) (w : World) : (binOp .neq 23 (.agg #[.string x.1, .int .i64 x.2]) (.agg #[.string y.1, .int .i64 y.2])).run Tryd.prog w = .ok (.bool (!decide (x = y))) w := by
  rw [run_neq_struct, eqRaw]
  rfl

/-- The addresses of a row, by its cells: element i of n is f i. -/
structure RowA (w : World) (g off n : Nat) (f : Nat → Ad) : Prop where
  s : ∀ i, i < n → w.cell? ⟨g, off + i * 2, none⟩ = some (.string (f i).1)
  p : ∀ i, i < n → w.cell? ⟨g, off + i * 2 + 1, none⟩ = some (.int .i64 (f i).2)
theorem RowA.keep {S : List Nat} {w w' : World} {g off n : Nat} {f : Nat → Ad} (h : RowA w g off n f) (hf : Fr S w w') (hg : g ∉ S) : RowA w' g off n f :=
  ⟨fun i hi => hf.keep (h.s i hi) hg, fun i hi => hf.keep (h.p i hi) hg⟩
theorem RowA.new {w w' : World} {g off n : Nat} {f : Nat → Ad} (h : RowA w g off n f) (hf : Fr [] w w') : RowA w' g off n f := h.keep hf (by simp)
theorem RowA.of_holds {w : World} {g off : Nat} {d : Array Ad} (h : HoldsK encA 2 w g off d) : RowA w g off d.size (fun i => d[i]!) :=
  ⟨fun i hi => by simpa [encA] using (HoldsK.cell h (i := i) (c := 0) hi (by omega)).1, fun i hi => by simpa [encA] using (HoldsK.cell h (i := i) (c := 1) hi (by omega)).1⟩
theorem frozen_holds {w : World} {g off : Nat} {d : Array Ad} (h : HoldsK encA 2 w g off d) (i : Nat) (hi : i < d.size) : w.frozen? ⟨g, off + i * 2, none⟩ = false ∧ w.frozen? ⟨g, off + i * 2 + 1, none⟩ = false :=
  ⟨by simpa using (HoldsK.cell h (i := i) (c := 0) hi (by omega)).2, (HoldsK.cell h (i := i) (c := 1) hi (by omega)).2⟩
theorem holds_of_row {w : World} {g off : Nat} {d : Array Ad} (h : RowA w g off d.size (fun i => d[i]!)) (hf : ∀ i, i < d.size → w.frozen? ⟨g, off + i * 2, none⟩ = false ∧ w.frozen? ⟨g, off + i * 2 + 1, none⟩ = false) : HoldsK encA 2 w g off d := by
  intro t ht
  rw [size_flatK] at ht
  have hi : t / 2 < d.size := by omega
  rw [get_flatK _ _ _ _ ht]
  rcases Nat.mod_two_eq_zero_or_one t with e | e
  · have e2 : t = t / 2 * 2 := by omega
    rw [e]
    have a := h.s (t / 2) hi
    have b := (hf (t / 2) hi).1
    rw [← e2] at a b
    exact ⟨by simpa [encA] using a, b⟩
  · have e2 : off + t = off + t / 2 * 2 + 1 := by omega
    rw [e]
    have a := h.p (t / 2) hi
    have b := (hf (t / 2) hi).2
    rw [← e2] at a b
    exact ⟨by simpa [encA] using a, b⟩
/-- Element k stored over. -/
theorem holds_set {w : World} {g off : Nat} {d : Array Ad} (h : HoldsK encA 2 w g off d) (k : Nat) (hk : k < d.size) (u : Ad) : HoldsK encA 2 ((w.setCell ⟨g, off + k * 2, none⟩ (.string u.1)).setCell ⟨g, off + k * 2 + 1, none⟩ (.int .i64 u.2)) g off (d.setIfInBounds k u) := by
  have R := RowA.of_holds h
  have F := frozen_holds h
  refine holds_of_row ⟨fun i hi => ?_, fun i hi => ?_⟩ (fun i hi => ⟨?_, ?_⟩)
  · have hi' : i < d.size := by simpa using hi
    rw [World.cell?_setCell_other _ _ _ _ (by first | (simp; done) | (simp; omega))]
    by_cases e : i = k
    · subst e
      rw [World.cell?_setCell_same _ _ _ (R.s i hi')]
      simp [hi']
    · rw [World.cell?_setCell_other _ _ _ _ (by first | (simp; done) | (simp; omega)), R.s i hi']
      simp [hi', Ne.symm e]
  · have hi' : i < d.size := by simpa using hi
    by_cases e : i = k
    · subst e
      have := R.p i hi'
      rw [World.cell?_setCell_same _ _ _ ((World.cell?_setCell_other _ _ _ _ (by simp)).trans this)]
      simp [hi']
    · rw [World.cell?_setCell_other _ _ _ _ (by first | (simp; done) | (simp; omega)), World.cell?_setCell_other _ _ _ _ (by first | (simp; done) | (simp; omega)), R.p i hi']
      simp [hi', Ne.symm e]
  · simpa using (F i (by simpa using hi)).1
  · simpa using (F i (by simpa using hi)).2
end Go.Proofs.YtbilaapikclhlaaDoor
