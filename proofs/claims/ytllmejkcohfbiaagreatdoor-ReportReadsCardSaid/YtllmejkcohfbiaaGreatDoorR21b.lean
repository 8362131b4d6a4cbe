/- Report: an event loaded and stored whole, as one step. -/
import Derived.Test.YtllmejkcohfbiaaGreatDoorR21
import Derived.Lib.Hide
namespace Go.Proofs.YtllmejkcohfbiaaGreatDoor
open Go.RowKit Go.Shelf Go.Sort Go.Lib
set_option linter.unusedVariables false
set_option linter.unusedSimpArgs false
set_option maxRecDepth 100000
set_option maxHeartbeats 4000000

section
variable {P : Program} {ops : Array Oper} {rest : List Oper} {o : Oper} {a : Act} {w w' : World} {Q : Exit → Act → World → Prop}
theorem wpList_val (hg : o.guard = none) {v : Value} (hrun : (execOp a.eval o).run P w = .ok (.value v) w') (hK : wpList P ops Q rest (a.put o.dst v) w') : wpList P ops Q (o :: rest) a w := by
  refine wpList_plain hg fun K hK' => ?_
  unfold Oper.wp
  rw [hrun]
  exact hK' _ _ hK
theorem wpList_skp (hg : o.guard = none) (hrun : (execOp a.eval o).run P w = .ok .skip w') (hK : wpList P ops Q rest (a.put o.dst undef) w') : wpList P ops Q (o :: rest) a w := by
  refine wpList_plain hg fun K hK' => ?_
  unfold Oper.wp
  rw [hrun]
  exact hK' _ _ hK
end
def evV (x : Ev) : Value := .agg (evL x).toArray
theorem evL_len (x : Ev) : (evL x).length = 30 := rfl
theorem evL_one (x : Ev) : ∀ v ∈ evL x, v.oneCell' = true := by
  intro v hv
  unfold evL at hv
  simp only [List.mem_cons, List.not_mem_nil, or_false] at hv
  rcases hv with rfl | rfl | rfl | rfl | rfl | rfl | rfl | rfl | rfl | rfl | rfl | rfl | rfl | rfl | rfl | rfl | rfl | rfl | rfl | rfl | rfl | rfl | rfl | rfl | rfl | rfl | rfl | rfl | rfl | rfl <;> rfl
theorem ev_load {w : World} {g o : Nat} {x : Ev} (h : EvAt w g o x) : (Instr.loadAt 103 (.pointer (some ⟨g, o, none⟩))).run Tryz.prog w = .ok (evV x) w := by
  have hl := run_loadCells_list (P := Tryz.prog) w ⟨g, o, none⟩ (evL x) (fun j v hj => by rw [Addr.add_lit]; exact h j v hj)
  rw [evL_len] at hl
  have hs : (Instr.sureAddr (.pointer (some ⟨g, o, none⟩))).run Tryz.prog w = .ok ⟨g, o, none⟩ w := by simp [Instr.sureAddr]
  unfold Instr.loadAt
  rw [Sem.run_bind, hs]
  simp only [Result.andThen_ok]
  unfold loadVar
  rw [Sem.run_bind, Tryz.isAgg103]
  simp only [Result.andThen_ok, if_true]
  rw [Sem.run_bind, Tryz.sizeOf103]
  simp only [Result.andThen_ok]
  rw [Sem.run_bind, hl]
  rfl
/-- An event in a block of its own. -/
def EvBlk (w : World) (b : Nat) (x : Ev) : Prop := w.heap[b]? = some (.cells (evL x).toArray 103)
theorem EvBlk.at {w : World} {b : Nat} {x : Ev} (h : EvBlk w b x) : EvAt w b 0 x := fun j u hj => by
  unfold EvBlk at h
  rw [Nat.zero_add]
  simp [World.cell?, h, hj]
theorem EvBlk.keep {S : List Nat} {w w' : World} {b : Nat} {x : Ev} (h : EvBlk w b x) (f : Fr S w w') (hn : b ∉ S) : EvBlk w' b x := (f.block b (Array.getElem?_eq_some_iff.1 h).1 hn).trans h
theorem ev_store {w : World} {b : Nat} {cs : Array Value} (x : Ev) (hb : w.heap[b]? = some (.cells cs 103)) (hc : cs.size = 30) : ∃ w', (Instr.storeAt 103 (.pointer (some ⟨b, 0, none⟩)) (evV x)).run Tryz.prog w = .ok () w' ∧ EvBlk w' b x ∧ Fr [b] w w' := by
  have hst := run_storeCells_at Tryz.prog b 0 103 (evL x) 0 cs w hb (by rw [evL_len, hc]; omega) (evL_one x)
  have hs : (Instr.sureAddr (.pointer (some ⟨b, 0, none⟩))).run Tryz.prog w = .ok ⟨b, 0, none⟩ w := by simp [Instr.sureAddr]
  have hrow : (List.take (0 + 0) cs.toList ++ evL x ++ List.drop (0 + 0 + (evL x).length) cs.toList).toArray = (evL x).toArray := by
    rw [evL_len, List.drop_of_length_le (by simp [hc])]
    simp
  rw [hrow] at hst
  refine ⟨_, ?_, setRow_heap w b cs _ _ _ hb, ?_⟩
  · unfold Instr.storeAt
    rw [Sem.run_bind, hs]
    simp only [Result.andThen_ok]
    unfold storeVar
    rw [Sem.run_bind, Tryz.sizeOf103]
    simp only [Result.andThen_ok]
    rw [if_neg (by show ¬ ((evV x).cells.size ≠ 30); simp [evV, Value.cells, evL])]
    have : (evV x).cells.toList = evL x := by simp [evV, Value.cells]
    rw [this]
    exact hst
  · exact ⟨rfl, rfl, rfl, by simp [World.setRow], fun k hk hn => setRow_other w b k _ (by simpa using hn)⟩
end Go.Proofs.YtllmejkcohfbiaaGreatDoor
