/- Structs in memory as lists of cells: loaded and stored whole, at any type. -/
import Derived.Test.YtemihaijhcpnfaaGreatDoorFr
import Derived.Test.YtemihaijhcpnfaaGreatDoorProg
import Derived.WalkKit
import Derived.Laws.CopyRow
import Derived.Laws.Cells
import Derived.Laws.Tables
import Derived.Laws.Rows
import Derived.Lib.Hide
namespace Go.Proofs.YtemihaijhcpnfaaGreatDoor
open Go.RowKit
set_option linter.unusedVariables false
set_option linter.unusedSimpArgs false
set_option maxRecDepth 100000
set_option maxHeartbeats 4000000

section
variable {P : Program} {ops : Array Oper} {rest : List Oper} {o : Oper} {a : Act} {w w' : World} {Q : Exit → Act → World → Prop}
theorem wpList_val (hg : o.guard = none) {v : Value} (hrun : (execOp a.eval o).run P w = .ok (.value v) w') (hK : wpList P ops Q rest (a.put o.dst v) w') : wpList P ops Q (o :: rest) a w := by
  refine wpList_plain hg fun K hK' => ?_
  unfold Oper.wp
  rw [hrun]
  exact hK' _ _ hK
theorem wpList_skp (hg : o.guard = none) (hrun : (execOp a.eval o).run P w = .ok .skip w') (hK : wpList P ops Q rest (a.put o.dst undef) w') : wpList P ops Q (o :: rest) a w := by
  refine wpList_plain hg fun K hK' => ?_
  unfold Oper.wp
  rw [hrun]
  exact hK' _ _ hK
theorem wp_skp {K : Act → World → Prop} (hrun : (execOp a.eval o).run P w = .ok .skip w') (hK : K (a.put o.dst undef) w') : o.wp P a w K Q := by
  unfold Oper.wp
  rw [hrun]
  exact hK
end
/-- Cells that lie at a place. -/
def LiesAt (w : World) (g o : Nat) (xs : List Value) : Prop := ∀ (j : Nat) u, xs[j]? = some u → w.cell? ⟨g, o + j, none⟩ = some u
/-- A block of its own. -/
def Blk (w : World) (b : Nat) (t : TypeId) (xs : List Value) : Prop := w.heap[b]? = some (.cells xs.toArray t)
theorem LiesAt.keep {S : List Nat} {w w' : World} {g o : Nat} {xs : List Value} (h : LiesAt w g o xs) (f : Fr S w w') (hn : g ∉ S) : LiesAt w' g o xs := fun j u hj => f.keep (h j u hj) hn
theorem Blk.at {w : World} {b : Nat} {t : TypeId} {xs : List Value} (h : Blk w b t xs) : LiesAt w b 0 xs := fun j u hj => by
  unfold Blk at h
  rw [Nat.zero_add]
  simp [World.cell?, h, hj]
theorem Blk.keep {S : List Nat} {w w' : World} {b : Nat} {t : TypeId} {xs : List Value} (h : Blk w b t xs) (f : Fr S w w') (hn : b ∉ S) : Blk w' b t xs := (f.block b (Array.getElem?_eq_some_iff.1 h).1 hn).trans h
theorem Blk.lt {w : World} {b : Nat} {t : TypeId} {xs : List Value} (h : Blk w b t xs) : b < w.heap.size := (Array.getElem?_eq_some_iff.1 h).1
theorem Blk.made (w : World) (t : TypeId) (xs : List Value) : Blk (w.alloc (.cells xs.toArray t)) w.heap.size t xs := heap_alloc_new w _
theorem load_all {w : World} {g o n : Nat} {t : TypeId} {xs : List Value} (hA : ∀ w, (isAgg t).run Tryz.prog w = .ok true w) (hS : ∀ w, (sizeOf t).run Tryz.prog w = .ok n w) (hn : xs.length = n) (h : LiesAt w g o xs) : (Instr.loadAt t (.pointer (some ⟨g, o, none⟩))).run Tryz.prog w = .ok (.agg xs.toArray) w := by
  have hl := run_loadCells_list (P := Tryz.prog) w ⟨g, o, none⟩ xs (fun j v hj => by rw [Addr.add_lit]; exact h j v hj)
  rw [hn] at hl
  have hs : (Instr.sureAddr (.pointer (some ⟨g, o, none⟩))).run Tryz.prog w = .ok ⟨g, o, none⟩ w := by simp [Instr.sureAddr]
  unfold Instr.loadAt
  rw [Sem.run_bind, hs]
  simp only [Result.andThen_ok]
  unfold loadVar
  rw [Sem.run_bind, hA]
  simp only [Result.andThen_ok, if_true]
  rw [Sem.run_bind, hS]
  simp only [Result.andThen_ok]
  rw [Sem.run_bind, hl]
  rfl
theorem load_var {w : World} {g o n : Nat} {t : TypeId} {xs : List Value} (hA : ∀ w, (isAgg t).run Tryz.prog w = .ok true w) (hS : ∀ w, (sizeOf t).run Tryz.prog w = .ok n w) (hn : xs.length = n) (h : LiesAt w g o xs) : (loadVar t ⟨g, o, none⟩).run Tryz.prog w = .ok (.agg xs.toArray) w := by
  have hl := run_loadCells_list (P := Tryz.prog) w ⟨g, o, none⟩ xs (fun j v hj => by rw [Addr.add_lit]; exact h j v hj)
  rw [hn] at hl
  unfold loadVar
  rw [Sem.run_bind, hA]
  simp only [Result.andThen_ok, if_true]
  rw [Sem.run_bind, hS]
  simp only [Result.andThen_ok]
  rw [Sem.run_bind, hl]
  rfl
theorem as_addr (a : Addr) (w : World) : (asAddr (.pointer (some a))).run Tryz.prog w = .ok a w := by simp [asAddr]
theorem store_all {w : World} {b n : Nat} {t : TypeId} {ys : List Value} (xs : List Value) (hS : ∀ w, (sizeOf t).run Tryz.prog w = .ok n w) (hn : xs.length = n) (h1 : ∀ u ∈ xs, u.oneCell' = true) (hb : Blk w b t ys) (hc : ys.length = n) :
    ∃ w', (Instr.storeAt t (.pointer (some ⟨b, 0, none⟩)) (.agg xs.toArray)).run Tryz.prog w = .ok () w' ∧ Blk w' b t xs ∧ Fr [b] w w' := by
  have hst := run_storeCells_at Tryz.prog b 0 t xs 0 ys.toArray w hb (by simp only [List.size_toArray]; omega) h1
  have hs : (Instr.sureAddr (.pointer (some ⟨b, 0, none⟩))).run Tryz.prog w = .ok ⟨b, 0, none⟩ w := by simp [Instr.sureAddr]
  have hrow : (List.take (0 + 0) ys.toArray.toList ++ xs ++ List.drop (0 + 0 + xs.length) ys.toArray.toList).toArray = xs.toArray := by
    rw [List.drop_of_length_le (by simp; omega)]
    simp
  rw [hrow] at hst
  refine ⟨_, ?_, setRow_heap w b ys.toArray _ _ _ hb, ?_⟩
  · unfold Instr.storeAt
    rw [Sem.run_bind, hs]
    simp only [Result.andThen_ok]
    unfold storeVar
    rw [Sem.run_bind, hS]
    simp only [Result.andThen_ok]
    rw [if_neg (by show ¬ ((Value.agg xs.toArray).cells.size ≠ n); simp [Value.cells, hn])]
    have : (Value.agg xs.toArray).cells.toList = xs := by simp [Value.cells]
    rw [this]
    exact hst
  · exact ⟨rfl, rfl, rfl, by simp [World.setRow], fun k hk hn => setRow_other w b k _ (by simpa using hn)⟩
/-- A part of a block, stored whole. -/
theorem store_part {w : World} {b o n : Nat} {t t' : TypeId} {ys : List Value} (xs : List Value) (hS : ∀ w, (sizeOf t).run Tryz.prog w = .ok n w) (hn : xs.length = n) (h1 : ∀ u ∈ xs, u.oneCell' = true) (hb : Blk w b t' ys) (hc : o + n ≤ ys.length) :
    ∃ w', (Instr.storeAt t (.pointer (some ⟨b, o, none⟩)) (.agg xs.toArray)).run Tryz.prog w = .ok () w' ∧ Blk w' b t' (ys.take o ++ xs ++ ys.drop (o + n)) ∧ Fr [b] w w' := by
  have hst := run_storeCells_at Tryz.prog b o t' xs 0 ys.toArray w hb (by simp only [List.size_toArray]; omega) h1
  have hs : (Instr.sureAddr (.pointer (some ⟨b, o, none⟩))).run Tryz.prog w = .ok ⟨b, o, none⟩ w := by simp [Instr.sureAddr]
  have hrow : (List.take (o + 0) ys.toArray.toList ++ xs ++ List.drop (o + 0 + xs.length) ys.toArray.toList) = ys.take o ++ xs ++ ys.drop (o + n) := by
    rw [hn]
    simp
  rw [hrow] at hst
  refine ⟨_, ?_, setRow_heap w b ys.toArray _ _ _ hb, ?_⟩
  · unfold Instr.storeAt
    rw [Sem.run_bind, hs]
    simp only [Result.andThen_ok]
    unfold storeVar
    rw [Sem.run_bind, hS]
    simp only [Result.andThen_ok]
    rw [if_neg (by show ¬ ((Value.agg xs.toArray).cells.size ≠ n); simp [Value.cells, hn])]
    have : (Value.agg xs.toArray).cells.toList = xs := by simp [Value.cells]
    rw [this]
    exact hst
  · exact ⟨rfl, rfl, rfl, by simp [World.setRow], fun k hk hn => setRow_other w b k _ (by simpa using hn)⟩
theorem LiesAt.part {w : World} {g o k n : Nat} {xs ys : List Value} (h : LiesAt w g o xs) (hy : (xs.drop k).take n = ys) : LiesAt w g (o + k) ys := fun j u hj => by
  rw [← hy, List.getElem?_take] at hj
  split at hj
  · rw [List.getElem?_drop] at hj
    have := h (k + j) u hj
    rwa [← Nat.add_assoc] at this
  · cases hj
theorem agg94 : ∀ w, (isAgg 96).run Tryz.prog w = .ok true w := fun w => by kernel_rfl
theorem size94 : ∀ w, (sizeOf 96).run Tryz.prog w = .ok 16 w := fun w => by kernel_rfl
theorem agg90 : ∀ w, (isAgg 92).run Tryz.prog w = .ok true w := fun w => by kernel_rfl
theorem size90 : ∀ w, (sizeOf 92).run Tryz.prog w = .ok 7 w := fun w => by kernel_rfl
theorem agg96 : ∀ w, (isAgg 98).run Tryz.prog w = .ok true w := fun w => by kernel_rfl
theorem size96 : ∀ w, (sizeOf 98).run Tryz.prog w = .ok 17 w := fun w => by kernel_rfl
end Go.Proofs.YtemihaijhcpnfaaGreatDoor
