/- DialHolds: the dialings are made. -/
import Derived.Test.YtgbmenfmaphciaaFew
import Derived.Test.YtgbmenfmaphciaaKnown3
import Derived.Test.YtgbmenfmaphciaaListenW
import Derived.Test.YtgbmenfmaphciaaClose3
import Derived.Deep.AppendLies
import Derived.Deep.RegionLaw
namespace Go.Proofs.Ytgbmenfmaphciaa
open Go.RowKit
open Go.Maps (Keyed)
set_option linter.unusedVariables false
set_option maxRecDepth 100000
set_option maxHeartbeats 8000000

theorem infoState : (Try.prog.info? 43).map (fun i => (i.zero, i.size, i.bytes)) = some (some (.int .i64 0), 1, 8) := by kernel_rfl
theorem infoDl : (Try.prog.info? 31).map (fun i => (i.zero, i.size, i.bytes)) = some (some (.pointer none), 1, 8) := by kernel_rfl
theorem infoSt : (Try.prog.info? 27).map (fun i => (i.zero, i.size, i.bytes)) = some (some (.agg #[.string ⟨#[]⟩, .int .i64 0, .int .i64 0, .int .u64 0]), 4, 40) := by kernel_rfl
theorem rowFr {S : List Nat} {w w' : World} {base : Nat} {e : TypeId} {size : Nat} {v : Value} {n : Nat} {xs : List Value} (h : w.ownsRow base e size v n xs) (hf : Fr S w w') (hS : ∀ g, v.ownBlock = some g → g ∉ S) : w'.ownsRow base e size v n xs := by
  refine ⟨h.1, h.2.imp id ?_⟩
  rintro ⟨g, cap, cur, rfl, h2, h3, h4⟩
  exact ⟨g, cap, cur, rfl, h2, (hf.block g (Array.getElem?_eq_some_iff.1 h3).1 (hS g rfl)).trans h3, h4⟩
theorem ownNe {w : World} {base b : Nat} {e : TypeId} {size : Nat} {v : Value} {n : Nat} {xs : List Value} (h : w.ownsRow base e size v n xs) (hb : b < base) : b ∉ v.ownBlock.toList := by
  rcases h.2 with ⟨rfl, _⟩ | ⟨g, cap, cur, rfl, h2, h3, h4⟩
  · simp [Value.ownBlock]
  · simp [Value.ownBlock]; omega
theorem ownApart {w : World} {base base' : Nat} {e e' : TypeId} {size size' : Nat} {v v' : Value} {n n' : Nat} {xs xs' : List Value} (h : w.ownsRow base e size v n xs) (h' : w.ownsRow base' e' size' v' n' xs') (hne : e ≠ e') : ∀ g, v'.ownBlock = some g → g ∉ v.ownBlock.toList := by
  intro g hg hm
  rcases h.2 with ⟨rfl, _⟩ | ⟨g1, cap, cur, rfl, h2, h3, h4⟩
  · simp [Value.ownBlock] at hm
  · rcases h'.2 with ⟨rfl, _⟩ | ⟨g2, cap', cur', rfl, h2', h3', h4'⟩
    · simp [Value.ownBlock] at hg
    · simp [Value.ownBlock] at hg hm
      subst hg
      subst hm
      rw [h3] at h3'
      simp only [Option.some.injEq, Obj.cells.injEq] at h3'
      exact hne h3'.2.1
theorem ownFr {w w' : World} {v : Value} {ob : Obj} (h : (w.alloc ob).grownBy w' v.ownBlock) : Fr v.ownBlock.toList w w' :=
  (((Fr.refl [] w).alloc ob).mono (fun x hx => by cases hx)).trans (grownFr h (fun k hk => by simp [hk])) (fun x hx _ => hx)
theorem ownFrD {w w' : World} {v : Value} {ob : Obj} (h : ((w.alloc ob).drew).grownBy w' v.ownBlock) : Fr v.ownBlock.toList w w' :=
  ((((Fr.refl [] w).alloc ob).drew).mono (fun x hx => by cases hx)).trans (grownFr h (fun k hk => by simp [hk])) (fun x hx _ => hx)
theorem ownFrDD {w w' : World} {v : Value} {ob ob' : Obj} (h : (((w.alloc ob).alloc ob').drew).grownBy w' v.ownBlock) : Fr v.ownBlock.toList w w' :=
  (((((Fr.refl [] w).alloc ob).alloc ob').drew).mono (fun x hx => by cases hx)).trans (grownFr h (fun k hk => by simp [hk])) (fun x hx _ => hx)
theorem ownLt {w : World} {base : Nat} {e : TypeId} {size : Nat} {v : Value} {n : Nat} {xs : List Value} (h : w.ownsRow base e size v n xs) : ∀ g, v.ownBlock = some g → g < w.heap.size := by
  intro g hg
  rcases h.2 with ⟨rfl, _⟩ | ⟨g1, cap, cur, rfl, h2, h3, h4⟩
  · simp [Value.ownBlock] at hg
  · simp [Value.ownBlock] at hg
    subst hg
    exact (Array.getElem?_eq_some_iff.1 h3).1
theorem heap2 (w : World) (o o' : Obj) : ((w.alloc o).alloc o').drew.heap[w.heap.size]? = some o :=
  (Below.heap_alloc (w.alloc o) o' w.heap.size (by simp)).trans (World.alloc_heap_new w o)
theorem heap2b (w : World) (o o' : Obj) : ((w.alloc o).alloc o').drew.heap[w.heap.size + 1]? = some o' := by
  have := World.alloc_heap_new (w.alloc o) o'
  rwa [World.size_alloc] at this
theorem heap3b {w w' : World} {v : Value} {o o' : Obj} (h : (((w.alloc o).alloc o').drew).grownBy w' v.ownBlock) (hv : ∀ g, v.ownBlock = some g → g < w.heap.size) : w'.heap[w.heap.size]? = some o := by
  refine (h.block _ (by simp; omega) (fun he => ?_)).trans (heap2 w o o')
  have := hv _ he.symm
  omega
theorem heap3 {w w' : World} {v : Value} {o o' : Obj} (h : (((w.alloc o).alloc o').drew).grownBy w' v.ownBlock) (hv : ∀ g, v.ownBlock = some g → g < w.heap.size) : w'.heap[w.heap.size + 1]? = some o' := by
  have e : (((w.alloc o).alloc o').drew).heap[w.heap.size + 1]? = some o' := by
    have := World.alloc_heap_new (w.alloc o) o'
    rwa [World.size_alloc] at this
  refine (h.block _ (by simp) (fun he => ?_)).trans e
  have := hv _ he.symm
  omega
def ptrs (ids : Nat → Nat × Nat) (n : Nat) : List Value := (List.range n).map fun i => .pointer (some ⟨(ids i).1, 0, none⟩)
def cellsOfSt (x : St) : List Value := [.string x.s, .int .i64 x.p, .int .i64 x.c, .int .u64 x.un]
/-- The dialings so far: D, from the starts O. -/
structure MadeR (w0 : World) (own0 : Nat → Nat) (B : NB) (base k : Nat) (w : World) (own : Nat → Nat) (ids : Nat → Nat × Nat) (D : List PN.PD) (O : List St) (v6 v7 : Value) : Prop where
  len : D.length ≤ k ∧ O.length = D.length
  net : NetW w own B [] [] 0
  dials : DialsW w own ids D
  fresh : ∀ x ∈ D, x.st = 0 ∧ x.tr = 0
  same : ∀ i (h : i < D.length) (h' : i < O.length), (D[i]).s = (O[i]).s ∧ (D[i]).p = (O[i]).p ∧ (D[i]).un = (O[i]).un
  r6 : w.ownsRow base 31 1 v6 D.length (ptrs ids D.length)
  r7 : w.ownsRow base 27 4 v7 D.length (O.flatMap cellsOfSt)
  nil : D.length = 0 → v6 = .slice none 0 0 ∧ v7 = .slice none 0 0
  o6 : ∀ g, v6.ownBlock = some g → own g = 4
  o7 : ∀ g, v7.ownBlock = some g → own g = 4
  ext : Ext w0 own0 own
  fr : Fr [] w0 w
end Go.Proofs.Ytgbmenfmaphciaa
