/- The law's arguments opened: the row of calls. -/
import Derived.Test.YtmdhlodafjpnmaaGreatN27
import Derived.Test.YtmdhlodafjpnmaaGreatOpenL
import Derived.Deep.Slices
namespace Go.Proofs.YtmdhlodafjpnmaaGreat
open Go.ChangeShapes Go.WideShapes Go.ChangeAt Go.RowKit
set_option linter.unusedVariables false
set_option maxRecDepth 100000

theorem cellsAct19 : Tryz.prog.cellsOf 68 = 7 := by kernel_rfl
theorem cellsU8s : Tryz.prog.cellsOf 22 = 1 := by kernel_rfl
theorem a19_of {H : Type} {enc : TypeId × Value → H} {w : World} {n : Nat} {cs : List Value} {y : DataW H × List MemPlace} (hl : cs.length = 7) (h : DataW.trod enc Tryz.prog w 0 (fun _ => true) true n 68 cs = some y) :
    ∃ x : A19, cs = a19C x ∧ I64 x.what ∧ I64 x.p ∧ I64 x.ref ∧ I64 x.en ∧ I64 x.n := by
  obtain ⟨xs, m, _, _, _, hxs, hf⟩ := DataW.trod_struct Tryz.underlying68 h
  match cs, hl with
  | [c0, c1, c2, c3, c4, c5, c6], _ =>
    match xs, hxs with
    | [z0, z1, z2, z3, z4, z5], _ =>
      have f0 : DataW.trod enc Tryz.prog w 0 (fun _ => true) true m 3 [c0] = some z0 := by have := hf 0 _ rfl; simpa [cellsI] using this
      have f1 : DataW.trod enc Tryz.prog w 0 (fun _ => true) true m 28 [c1, c2] = some z1 := by have := hf 1 _ rfl; simpa [cellsI, cellsA] using this
      have f2 : DataW.trod enc Tryz.prog w 0 (fun _ => true) true m 3 [c3] = some z2 := by have := hf 2 _ rfl; simpa [cellsI, cellsA] using this
      have f3 : DataW.trod enc Tryz.prog w 0 (fun _ => true) true m 3 [c4] = some z3 := by have := hf 3 _ rfl; simpa [cellsI, cellsA] using this
      have f4 : DataW.trod enc Tryz.prog w 0 (fun _ => true) true m 3 [c5] = some z4 := by have := hf 4 _ rfl; simpa [cellsI, cellsA] using this
      have f5 : DataW.trod enc Tryz.prog w 0 (fun _ => true) true m 22 [c6] = some z5 := by have := hf 5 _ rfl; simpa [cellsI, cellsA, cellsU8s] using this
      obtain ⟨x0, e0, _, w0⟩ := DataW.trod_int Tryz.underlying3 f0
      obtain ⟨s, p, e1, _, w1⟩ := addr_of rfl f1
      obtain ⟨x2, e2, _, w2⟩ := DataW.trod_int Tryz.underlying3 f2
      obtain ⟨x3, e3, _, w3⟩ := DataW.trod_int Tryz.underlying3 f3
      obtain ⟨x4, e4, _, w4⟩ := DataW.trod_int Tryz.underlying3 f4
      have e5 : ∃ d : Sli, c6 = slv d := by
        rcases DataW.trod_slice Tryz.underlying22 f5 with ⟨h0, _⟩ | ⟨a, len, cap, elems, rest, n, _, h0, _⟩
        · simp only [List.cons.injEq, and_true] at h0
          exact ⟨(none, 0, 0), h0⟩
        · simp only [List.cons.injEq, and_true] at h0
          exact ⟨(some a, len, cap), h0⟩
      obtain ⟨d, rfl⟩ := e5
      simp only [List.cons.injEq, and_true] at e0 e1 e2 e3 e4
      obtain ⟨rfl, rfl⟩ := e1
      subst e0 e2 e3 e4
      exact ⟨⟨x0, s, p, x2, x3, x4, d⟩, rfl, i64_bd w0, i64_bd w1, i64_bd w2, i64_bd w3, i64_bd w4⟩
theorem acts19_of {H : Type} {enc : TypeId × Value → H} {w : World} {fuel : Nat} {sa : Option Addr} {n c : Nat} {x : DataW H × List MemPlace} (h : DataW.trod enc Tryz.prog w 0 (fun _ => true) true fuel 63 [.slice sa n c] = some x) :
    n ≤ maxLen ∧ ∃ g : Nat → A19, A19Row w sa n g ∧ ∀ j, j < n → I64 (g j).what ∧ I64 (g j).p ∧ I64 (g j).ref ∧ I64 (g j).en ∧ I64 (g j).n := by
  have z : Nat → A19 := fun _ => ⟨0, ⟨#[]⟩, 0, 0, 0, 0, (none, 0, 0)⟩
  rcases laws.open_rows Tryz.underlying63 cellsAct19 (by omega) h with ⟨rfl, rfl, rfl⟩ | ⟨hl, hm, a, rfl, hz | ⟨b, off, rfl, hrows⟩⟩
  · exact ⟨Nat.zero_le _, z, .inl rfl, fun j hj => absurd hj (Nat.not_lt_zero _)⟩
  · subst hz
    exact ⟨Nat.zero_le _, z, .inl rfl, fun j hj => absurd hj (Nat.not_lt_zero _)⟩
  · refine ⟨by omega, ?_⟩
    have hx : ∀ i, i < n → ∃ x : A19, LiesAt w b (off + i * 7) (a19C x) ∧ I64 x.what ∧ I64 x.p ∧ I64 x.ref ∧ I64 x.en ∧ I64 x.n := fun i hi => by
      obtain ⟨cs, m, y, hlen, hcell, hy⟩ := hrows i hi
      obtain ⟨x, rfl, hb⟩ := a19_of hlen hy
      exact ⟨x, fun j u hj => by
        have h1 := (List.getElem?_eq_some_iff.1 hj).1
        have h2 := hcell j (by simpa [a19C] using h1)
        rw [h2, hj], hb⟩
    by_cases h0 : n = 0
    · subst h0
      exact ⟨z, .inl rfl, fun j hj => absurd hj (Nat.not_lt_zero _)⟩
    · refine ⟨fun i => if h : i < n then (hx i h).choose else z i, .inr ⟨b, off, rfl, cell_lt ((hx 0 (by omega)).choose_spec.1 0 _ rfl), fun i hi => ?_⟩, fun i hi => ?_⟩
      · simp only [hi, dif_pos]
        exact (hx i hi).choose_spec.1
      · simp only [hi, dif_pos]
        exact (hx i hi).choose_spec.2
end Go.Proofs.YtmdhlodafjpnmaaGreat
