/- The laws' arguments opened: an address, and a Start, by value or as a row of a slice. -/
import Derived.Test.YtgbmenfmaphciaaGreatLaw
import Derived.Test.YtgbmenfmaphciaaGreatRows
namespace Go.Proofs.YtgbmenfmaphciaaGreat
open Go.ChangeShapes Go.WideShapes Go.ChangeAt Go.RowKit
set_option linter.unusedVariables false
set_option maxRecDepth 100000
theorem own : ownKnob Tryz.prog.godebug = none := by kernel_rfl
theorem u64_bd {x : Int} (h : (Lit.int .u64 x).wf = true) : 0 ≤ x ∧ x ≤ 18446744073709551615 := by
 simpa [Lit.wf, IntKind.min, IntKind.max, IntKind.signed, IntKind.bits] using h
theorem i64_bd {x : Int} (h : (Lit.int .i64 x).wf = true) : -9223372036854775808 ≤ x ∧ x ≤ 9223372036854775807 := by
 simpa [Lit.wf, IntKind.min, IntKind.max, IntKind.signed, IntKind.bits] using h
theorem cellsS : Tryz.prog.cellsOf 9 = 1 := by kernel_rfl
theorem cellsI : Tryz.prog.cellsOf 3 = 1 := by kernel_rfl
theorem cellsT : Tryz.prog.cellsOf 38 = 1 := by kernel_rfl
theorem cellsA : Tryz.prog.cellsOf 36 = 2 := by kernel_rfl
theorem cellsStart : Tryz.prog.cellsOf 40 = 4 := by kernel_rfl
theorem addr_of {H : Type} {enc : TypeId × Value → H} {w : World} {n : Nat} {cs : List Value} {y : DataW H × List MemPlace} (hl : cs.length = 2) (h : DataW.trod enc Tryz.prog w 0 (fun _ => true) true n 36 cs = some y) :
  ∃ (s : ByteArray) (p : Int), cs = [.string s, .int .i64 p] ∧ s.size ≤ maxLen ∧ (Lit.int .i64 p).wf = true := by
 obtain ⟨xs, m, _, _, _, hxs, hf⟩ := DataW.trod_struct Tryz.underlying36 h
 match cs, hl with
 | [c0, c1], _ =>
  match xs, hxs with
  | [z0, z1], _ =>
   have f0 : DataW.trod enc Tryz.prog w 0 (fun _ => true) true m 9 [c0] = some z0 := by have := hf 0 _ rfl; simpa [cellsS] using this
   have f1 : DataW.trod enc Tryz.prog w 0 (fun _ => true) true m 3 [c1] = some z1 := by have := hf 1 _ rfl; simpa [cellsI] using this
   obtain ⟨s, e0, _, w0⟩ := DataW.trod_string Tryz.underlying9 f0
   obtain ⟨x1, e1, _, w1⟩ := DataW.trod_int Tryz.underlying3 f1
   simp only [List.cons.injEq, and_true] at e0 e1
   subst e0 e1
   exact ⟨s, x1, rfl, w0, w1⟩
theorem start_of {H : Type} {enc : TypeId × Value → H} {w : World} {n : Nat} {cs : List Value} {y : DataW H × List MemPlace} (hl : cs.length = 4) (h : DataW.trod enc Tryz.prog w 0 (fun _ => true) true n 40 cs = some y) :
  ∃ (s : ByteArray) (p c un : Int), cs = [.string s, .int .i64 p, .int .i64 c, .int .u64 un] ∧ s.size ≤ maxLen ∧ (Lit.int .i64 p).wf = true ∧ (Lit.int .i64 c).wf = true ∧ 0 ≤ un ∧ un ≤ 18446744073709551615 := by
 obtain ⟨xs, m, _, _, _, hxs, hf⟩ := DataW.trod_struct Tryz.underlying40 h
 match cs, hl with
 | [c0, c1, c2, c3], _ =>
  match xs, hxs with
  | [z0, z1, z2], _ =>
   have f0 : DataW.trod enc Tryz.prog w 0 (fun _ => true) true m 36 [c0, c1] = some z0 := by have := hf 0 _ rfl; simpa [cellsA] using this
   have f1 : DataW.trod enc Tryz.prog w 0 (fun _ => true) true m 3 [c2] = some z1 := by have := hf 1 _ rfl; simpa [cellsI] using this
   have f2 : DataW.trod enc Tryz.prog w 0 (fun _ => true) true m 38 [c3] = some z2 := by have := hf 2 _ rfl; simpa [cellsT] using this
   obtain ⟨s, p, e0, w0, w0'⟩ := addr_of rfl f0
   obtain ⟨x1, e1, _, w1⟩ := DataW.trod_int Tryz.underlying3 f1
   obtain ⟨x2, e2, _, w2⟩ := DataW.trod_int Tryz.underlying38 f2
   simp only [List.cons.injEq, and_true] at e0 e1 e2
   obtain ⟨rfl, rfl⟩ := e0
   subst e1 e2
   exact ⟨s, p, x1, x2, rfl, w0, w0', w1, u64_bd w2⟩
end Go.Proofs.YtgbmenfmaphciaaGreat
