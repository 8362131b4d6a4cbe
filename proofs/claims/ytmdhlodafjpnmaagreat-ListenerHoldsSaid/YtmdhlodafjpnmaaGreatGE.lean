/- Rows of integers that can be read; addresses compared. -/
import Derived.Test.YtmdhlodafjpnmaaGreatG6
import Derived.Test.YtmdhlodafjpnmaaGreatSlc
import Derived.Laws.StructEq
import Derived.BigQuiet
namespace Go.Proofs.YtmdhlodafjpnmaaGreat
open Go.RowKit
set_option linter.unusedVariables false
set_option linter.unusedSimpArgs false
set_option maxRecDepth 100000
set_option maxHeartbeats 8000000

theorem IntRow.ofV {w : World} {v : Value} {l : List Int} (h : RowV w v l.length 1 (intsV l)) (hl : l.length ≤ 100000) : IntRow w v l := by
  rcases h.2 with ⟨h0, a, c, rfl⟩ | ⟨g, off, c, rfl, hg, hc⟩
  · exact .inl ⟨List.eq_nil_of_length_eq_zero h0, a, c, rfl⟩
  · refine .inr ⟨g, off, c, rfl, by unfold maxLen; omega, fun i x hx => hc i _ ?_⟩
    simp [intsV, hx]
theorem Blk.farRow {w w' : World} {b B n sz : Nat} {t e : TypeId} {ys xs : List Value} {u : Value} (h : Blk w b t ys) (hu : w.ownsRow B e sz u n xs) (f : Fr u.ownBlock.toList w w') (hne : t ≠ e) : Blk w' b t ys :=
  h.keep f (fun hm => by
    have : u.ownBlock = some b := by simpa using hm
    exact blkNe h hu hne this)
theorem Fr.ownRow {w w1 w2 : World} {B n sz : Nat} {e : TypeId} {xs : List Value} {u : Value} (h : Fr [] w w1) (hu : w1.ownsRow B e sz u n xs) (f : Fr u.ownBlock.toList w1 w2) (hB : w.heap.size ≤ B) : Fr [] w w2 :=
  h.trans f (fun x hx hl => by
    have hx' : u.ownBlock = some x := by simpa using hx
    have := (hu.lt x hx').1
    omega)
theorem bytes_eq (a b : ByteArray) : (a.toList == b.toList) = decide (a = b) := by
  by_cases e : a = b
  · subst e
    simp
  · rw [decide_eq_false e]
    refine beq_eq_false_iff_ne.2 (fun h => e ?_)
    rw [ByteArray.toList_eq, ByteArray.toList_eq] at h
    exact ByteArray.ext (Array.toList_inj.1 h)
theorem eqAdrRaw (s1 s2 : ByteArray) (p1 p2 : Int) (w : World) : (Op.equalIn 10000 28 (.agg #[.string s1, .int .i64 p1]) (.agg #[.string s2, .int .i64 p2])).run Tryz.prog w = .ok (decide (s1 = s2 ∧ p1 = p2)) w := by
  have u1 := Tryz.underlying3
  have a1 := Tryz.isAgg3
  have z1 := Tryz.sizeOf3
  have u2 := Tryz.underlying9
  have a2 := Tryz.isAgg9
  have z2 := Tryz.sizeOf9
  have hS : Tryz.prog.underlying 28 = some (.struct (Tryz.prog.fieldsOf 28)) := by kernel_rfl
  have hp : Tryz.prog.stoodInHeld 28 = false := by kernel_rfl
  rw [show (10000 : Nat) = 9999 + 1 from rfl, run_equalIn_agg w 9999 28 _ _ hS hp]
  simp only [Program.fieldsOf, Tryz.underlying28]
  have hb := bytes_eq s1 s2
  go_simp
  by_cases h1 : s1 = s2 <;> by_cases h2 : p1 = p2 <;> simp [h1, h2, bytes_eq]
end Go.Proofs.YtmdhlodafjpnmaaGreat
