/- Report: reading lists line by line: what is the same for all. -/
import Derived.Test.YtllmejkcohfbiaaGreatDoorR17
import Derived.Test.YtllmejkcohfbiaaGreatDoorRLines
namespace Go.Proofs.YtllmejkcohfbiaaGreatDoor
open Go.RowKit Go.Shelf Go.Sort Go.Lib
set_option linter.unusedVariables false
set_option maxRecDepth 100000
set_option maxHeartbeats 4000000

theorem ownX_boxed {β : Type} {X B b : Nat} {t : TypeId} (f : β → Value) (hb : b < B) (hne : b ≠ X) : OwnX X B (fun s W => Boxed W b t (f s)) := fun s W W' row hs hg hr =>
  hs.kept hg (fun e => by rcases hr b e.symm with h | h <;> omega)
theorem ownX_fr {β : Type} {X B : Nat} {w : World} (hB : w.heap.size ≤ B) (hX : w.heap.size ≤ X) : OwnX X B (fun (_ : β) W => Fr [] w W) := fun _ A C row hs hg hr =>
  hs.trans (grownFr (S := row.toList) hg (fun k e => by simp [e])) (fun x hx hl => by
    rcases hr x (by simpa using hx) with h | h <;> omega)
theorem row_keep {X B n k : Nat} {W W' : World} {row : Option Nat} {v : Value} {xs : List Value} {E : TypeId} {sz : Nat} (hX : X < n) (hs : W.ownsRow n E sz v k xs) (hg : W.grownBy W' row)
    (hr : ∀ r, row = some r → r = X ∨ (B ≤ r ∧ ∃ o : Obj, W.heap[r]? = some o ∧ o.isCells = false)) : W'.ownsRow n E sz v k xs := by
  refine hs.kept hg ?_
  rcases hs.2 with ⟨rfl, _⟩ | ⟨g, cap, cur, rfl, hn, hgb, _⟩
  · exact .inl rfl
  · refine .inr fun e => ?_
    rcases hr g (by rw [← e]; rfl) with h | ⟨_, o, ho, hc⟩
    · omega
    · rw [hgb] at ho
      cases ho
      cases hc
theorem boxed_keep {W W' : World} {S : List Nat} {b : Nat} {t : TypeId} {v : Value} (h : Boxed W b t v) (hf : Fr S W W') (hn : b ∉ S) : Boxed W' b t v := (hf.block b h.lt hn).trans h
theorem others_fr {S : List Nat} {W W' : World} (h : Fr [] W W') : KeepsOthers W W' := ⟨h.size, fun k o hk _ => (h.block k (Array.getElem?_eq_some_iff.1 hk).1 (by simp)).trans hk⟩
theorem row_val {n k : Nat} {W : World} {v : Value} {xs : List Value} {E : TypeId} {sz : Nat} (hs : W.ownsRow n E sz v k xs) : ∃ a c, v = .slice a k c := by
  rcases hs.2 with ⟨rfl, rfl⟩ | ⟨g, cap, cur, rfl, _⟩
  · exact ⟨_, _, rfl⟩
  · exact ⟨_, _, rfl⟩
theorem row_val' {n k : Nat} {W : World} {v : Value} {xs : List Value} {E : TypeId} {sz : Nat} (hs : W.ownsRow n E sz v k xs) : ∃ a c, v = .slice a k c := row_val hs
theorem grown_box' {n k b : Nat} {W W' : World} {v u : Value} {xs : List Value} {t E : TypeId} {sz : Nat} (hb : Boxed W b t u) (hs : W.ownsRow n E sz v k xs) (hn : b < n) (hg : W.grownBy W' v.ownBlock) : Boxed W' b t u :=
  hb.kept hg (fun e => by have := hs.lt b e.symm; omega)
theorem alloc_kept {W : World} {k : Nat} {o : Obj} (o' : Obj) (h : W.heap[k]? = some o) : (W.alloc o').heap[k]? = some o := (((Fr.refl [] W).alloc o').block k (Array.getElem?_eq_some_iff.1 h).1 (by simp)).trans h
theorem alloc_last (W : World) (o : Obj) {n : Nat} (h : W.heap.size = n) : (W.alloc o).heap[n]? = some o := by
  subst h
  exact World.alloc_heap_new W o
theorem allocs7 (w : World) (o0 o1 o2 o3 o4 o5 o6 : Obj) (W : World) (h : (((((((w.alloc o0).alloc o1).alloc o2).alloc o3).alloc o4).alloc o5).alloc o6) = W) : W.heap.size = w.heap.size + 7 ∧ Fr [] w W ∧ W.heap[w.heap.size]? = some o0 ∧ W.heap[w.heap.size + 1]? = some o1 ∧ W.heap[w.heap.size + 1 + 1]? = some o2 ∧ W.heap[w.heap.size + 1 + 1 + 1]? = some o3 ∧ W.heap[w.heap.size + 1 + 1 + 1 + 1]? = some o4 ∧ W.heap[w.heap.size + 1 + 1 + 1 + 1 + 1]? = some o5 ∧ W.heap[w.heap.size + 6]? = some o6 := by
  subst h
  refine ⟨by simp, (((((((Fr.refl [] w).alloc _).alloc _).alloc _).alloc _).alloc _).alloc _).alloc _, ?_, ?_, ?_, ?_, ?_, ?_, ?_⟩
  · exact alloc_kept _ (alloc_kept _ (alloc_kept _ (alloc_kept _ (alloc_kept _ (alloc_kept _ (alloc_last _ _ (by simp)))))))
  · exact alloc_kept _ (alloc_kept _ (alloc_kept _ (alloc_kept _ (alloc_kept _ (alloc_last _ _ (by simp))))))
  · exact alloc_kept _ (alloc_kept _ (alloc_kept _ (alloc_kept _ (alloc_last _ _ (by simp)))))
  · exact alloc_kept _ (alloc_kept _ (alloc_kept _ (alloc_last _ _ (by simp))))
  · exact alloc_kept _ (alloc_kept _ (alloc_last _ _ (by simp)))
  · exact alloc_kept _ (alloc_last _ _ (by simp))
  · exact alloc_last _ _ (by simp)
end Go.Proofs.YtllmejkcohfbiaaGreatDoor
