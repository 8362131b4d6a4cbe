/- The law DialHolds' arguments opened: the row of Starts and the row of Acts. -/
import Derived.Test.YtgbmenfmaphciaaGreatOpen
import Derived.Test.YtgbmenfmaphciaaGreatFew
import Derived.Deep.Slices
namespace Go.Proofs.YtgbmenfmaphciaaGreat
open Go.ChangeShapes Go.WideShapes Go.ChangeAt Go.RowKit
set_option linter.unusedVariables false
set_option maxRecDepth 100000
theorem cellsAct : Tryz.prog.cellsOf 48 = 6 := by kernel_rfl
theorem act_of {H : Type} {enc : TypeId × Value → H} {w : World} {n : Nat} {cs : List Value} {y : DataW H × List MemPlace} (hl : cs.length = 6) (h : DataW.trod enc Tryz.prog w 0 (fun _ => true) true n 48 cs = some y) :
  ∃ x : Ac, cs = [.int .i64 x.what, .int .i64 x.which, .int .i64 x.n, .string x.s, .int .i64 x.p, .int .u64 x.now] ∧ (-9223372036854775808 ≤ x.which ∧ x.which ≤ 9223372036854775807) ∧ (-9223372036854775808 ≤ x.n ∧ x.n ≤ 9223372036854775807) ∧ (0 ≤ x.now ∧ x.now ≤ 18446744073709551615) := by
 obtain ⟨xs, m, _, _, _, hxs, hf⟩ := DataW.trod_struct Tryz.underlying48 h
 match cs, hl with
 | [c0, c1, c2, c3, c4, c5], _ =>
  match xs, hxs with
  | [z0, z1, z2, z3, z4], _ =>
   have f0 : DataW.trod enc Tryz.prog w 0 (fun _ => true) true m 3 [c0] = some z0 := by have := hf 0 _ rfl; simpa [cellsI] using this
   have f1 : DataW.trod enc Tryz.prog w 0 (fun _ => true) true m 3 [c1] = some z1 := by have := hf 1 _ rfl; simpa [cellsI] using this
   have f2 : DataW.trod enc Tryz.prog w 0 (fun _ => true) true m 3 [c2] = some z2 := by have := hf 2 _ rfl; simpa [cellsI] using this
   have f3 : DataW.trod enc Tryz.prog w 0 (fun _ => true) true m 36 [c3, c4] = some z3 := by have := hf 3 _ rfl; simpa [cellsI, cellsA] using this
   have f4 : DataW.trod enc Tryz.prog w 0 (fun _ => true) true m 38 [c5] = some z4 := by have := hf 4 _ rfl; simpa [cellsI, cellsA, cellsT] using this
   obtain ⟨x0, e0, _, w0⟩ := DataW.trod_int Tryz.underlying3 f0
   obtain ⟨x1, e1, _, w1⟩ := DataW.trod_int Tryz.underlying3 f1
   obtain ⟨x2, e2, _, w2⟩ := DataW.trod_int Tryz.underlying3 f2
   obtain ⟨s, p, e3, _, _⟩ := addr_of rfl f3
   obtain ⟨x5, e5, _, w5⟩ := DataW.trod_int Tryz.underlying38 f4
   simp only [List.cons.injEq, and_true] at e0 e1 e2 e3 e5
   obtain ⟨rfl, rfl⟩ := e3
   subst e0 e1 e2 e5
   exact ⟨⟨x0, x1, x2, s, p, x5⟩, rfl, i64_bd w1, i64_bd w2, u64_bd w5⟩
theorem starts_of {H : Type} {enc : TypeId × Value → H} {w : World} {fuel : Nat} {sa : Option Addr} {n c : Nat} {x : DataW H × List MemPlace} (h : DataW.trod enc Tryz.prog w 0 (fun _ => true) true fuel 22 [.slice sa n c] = some x) :
  n ≤ maxLen ∧ ∃ f : Nat → St, StRow w sa n f := by
 rcases laws.open_rows Tryz.underlying22 cellsStart (by omega) h with ⟨rfl, rfl, rfl⟩ | ⟨hl, hm, a, rfl, hz | ⟨b, off, rfl, hrows⟩⟩
 ·exact ⟨Nat.zero_le _, fun _ => ⟨⟨#[]⟩, 0, 0, 0⟩, .inl rfl⟩
 ·exact ⟨by omega, fun _ => ⟨⟨#[]⟩, 0, 0, 0⟩, .inl hz⟩
 ·refine ⟨by omega, ?_⟩
  have hx : ∀ i, i < n → ∃ x : St, w.cell? ⟨b, off + i * 4, none⟩ = some (.string x.s) ∧ w.cell? ⟨b, off + i * 4 + 1, none⟩ = some (.int .i64 x.p) ∧ w.cell? ⟨b, off + i * 4 + 2, none⟩ = some (.int .i64 x.c) ∧ w.cell? ⟨b, off + i * 4 + 3, none⟩ = some (.int .u64 x.un) := fun i hi => by
   obtain ⟨cs, m, y, hlen, hcell, hy⟩ := hrows i hi
   obtain ⟨s, p, cc, un, rfl, _⟩ := start_of hlen hy
   exact ⟨⟨s, p, cc, un⟩, hcell 0 (by omega), hcell 1 (by omega), hcell 2 (by omega), hcell 3 (by omega)⟩
  have hne : Nonempty (Nat → St) := ⟨fun _ => ⟨⟨#[]⟩, 0, 0, 0⟩⟩
  by_cases h0 : n = 0
  ·exact ⟨fun _ => ⟨⟨#[]⟩, 0, 0, 0⟩, .inl h0⟩
  ·have : ∃ f : Nat → St, ∀ i, i < n → w.cell? ⟨b, off + i * 4, none⟩ = some (.string (f i).s) ∧ w.cell? ⟨b, off + i * 4 + 1, none⟩ = some (.int .i64 (f i).p) ∧ w.cell? ⟨b, off + i * 4 + 2, none⟩ = some (.int .i64 (f i).c) ∧ w.cell? ⟨b, off + i * 4 + 3, none⟩ = some (.int .u64 (f i).un) := by
    refine ⟨fun i => if h : i < n then (hx i h).choose else ⟨⟨#[]⟩, 0, 0, 0⟩, fun i hi => ?_⟩
    simp only [hi, dif_pos]
    exact (hx i hi).choose_spec
   obtain ⟨f, hf⟩ := this
   exact ⟨f, .inr ⟨b, off, rfl, cell_lt (hf 0 (by omega)).1, hf⟩⟩
theorem acts_of {H : Type} {enc : TypeId × Value → H} {w : World} {fuel : Nat} {sa : Option Addr} {n c : Nat} {x : DataW H × List MemPlace} (h : DataW.trod enc Tryz.prog w 0 (fun _ => true) true fuel 23 [.slice sa n c] = some x) :
  n ≤ maxLen ∧ ∃ g : Nat → Ac, AcRow w sa n g ∧ ∀ j, j < n → (-9223372036854775808 ≤ (g j).which ∧ (g j).which ≤ 9223372036854775807) ∧ (-9223372036854775808 ≤ (g j).n ∧ (g j).n ≤ 9223372036854775807) ∧ (0 ≤ (g j).now ∧ (g j).now ≤ 18446744073709551615) := by
 rcases laws.open_rows Tryz.underlying23 cellsAct (by omega) h with ⟨rfl, rfl, rfl⟩ | ⟨hl, hm, a, rfl, hz | ⟨b, off, rfl, hrows⟩⟩
 ·exact ⟨Nat.zero_le _, fun _ => ⟨0, 0, 0, ⟨#[]⟩, 0, 0⟩, .inl rfl, fun j hj => absurd hj (Nat.not_lt_zero _)⟩
 ·subst hz
  exact ⟨Nat.zero_le _, fun _ => ⟨0, 0, 0, ⟨#[]⟩, 0, 0⟩, .inl rfl, fun j hj => absurd hj (Nat.not_lt_zero _)⟩
 ·refine ⟨by omega, ?_⟩
  have hx : ∀ i, i < n → ∃ x : Ac, (w.cell? ⟨b, off + i * 6, none⟩ = some (.int .i64 x.what) ∧ w.cell? ⟨b, off + i * 6 + 1, none⟩ = some (.int .i64 x.which) ∧ w.cell? ⟨b, off + i * 6 + 2, none⟩ = some (.int .i64 x.n) ∧ w.cell? ⟨b, off + i * 6 + 3, none⟩ = some (.string x.s) ∧ w.cell? ⟨b, off + i * 6 + 4, none⟩ = some (.int .i64 x.p) ∧ w.cell? ⟨b, off + i * 6 + 5, none⟩ = some (.int .u64 x.now)) ∧
    (-9223372036854775808 ≤ x.which ∧ x.which ≤ 9223372036854775807) ∧ (-9223372036854775808 ≤ x.n ∧ x.n ≤ 9223372036854775807) ∧ (0 ≤ x.now ∧ x.now ≤ 18446744073709551615) := fun i hi => by
   obtain ⟨cs, m, y, hlen, hcell, hy⟩ := hrows i hi
   obtain ⟨x, rfl, hb⟩ := act_of hlen hy
   exact ⟨x, ⟨hcell 0 (by omega), hcell 1 (by omega), hcell 2 (by omega), hcell 3 (by omega), hcell 4 (by omega), hcell 5 (by omega)⟩, hb⟩
  by_cases h0 : n = 0
  ·subst h0
   exact ⟨fun _ => ⟨0, 0, 0, ⟨#[]⟩, 0, 0⟩, .inl rfl, fun j hj => absurd hj (Nat.not_lt_zero _)⟩
  ·refine ⟨fun i => if h : i < n then (hx i h).choose else ⟨0, 0, 0, ⟨#[]⟩, 0, 0⟩, .inr ⟨b, off, rfl, cell_lt (hx 0 (by omega)).choose_spec.1.1, fun i hi => ?_⟩, fun i hi => ?_⟩
   ·simp only [hi, dif_pos]
    exact (hx i hi).choose_spec.1
   ·simp only [hi, dif_pos]
    exact (hx i hi).choose_spec.2
end Go.Proofs.YtgbmenfmaphciaaGreat
