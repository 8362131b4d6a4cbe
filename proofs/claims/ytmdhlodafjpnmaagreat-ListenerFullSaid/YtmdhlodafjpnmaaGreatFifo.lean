/- Contracts of fifo's New, Len and Push over a queue's cells and its map of nodes, for every queue of at most 4096 values. -/
import Derived.Test.YtmdhlodafjpnmaaGreatProg
import Derived.Test.YtmdhlodafjpnmaaGreatMap
import Derived.Lib.Hide
import Derived.WalkLawsBesides
import Derived.WalkSpells
import Derived.StillTailTactics
import Derived.BigRegion
namespace Go.Proofs.YtmdhlodafjpnmaaGreat
open Go.RowKit
open Go.Maps (Keyed)
set_option linter.unusedVariables false

theorem key64 : Keyed Tryz.prog 181 := Maps.int_keyed Tryz.underlying181
theorem key64_of (x : Int) (h0 : 0 ≤ x) (h1 : x ≤ 18446744073709551615) : keyOf Tryz.prog 181 (.int .u64 x) = some (.int .u64 x) :=
  Maps.keyOf_int_mk Tryz.underlying181 (by simp [Lit.wf, IntKind.min, IntKind.max, IntKind.signed, IntKind.bits]; omega)
theorem zeroNode (w : World) : (zeroValue 230).run Tryz.prog w = .ok (.agg #[.int .i64 0, .int .u64 0, .int .u64 0]) w := by kernel_rfl

def nodeV (v : Int) (b n : Nat) : Value := .agg #[.int .i64 v, .int .u64 b, .int .u64 n]
def headT : List (Nat × Int) → Nat
  | [] => 0
  | (t, _) :: _ => t
def lastT (p : Nat) : List (Nat × Int) → Nat
  | [] => p
  | (t, _) :: r => lastT t r
/-- The nodes of a list of tickets with their values, p being the ticket before. -/
def nodesOf (p : Nat) : List (Nat × Int) → List (Value × Value)
  | [] => []
  | (t, v) :: r => (.int .u64 t, nodeV v p (headT r)) :: nodesOf t r

/-- A queue in block b, its map of nodes in block m, with the tickets and values l; g is the last ticket that was given. -/
structure FifoIs (w : World) (b m : Nat) (l : List (Nat × Int)) (g : Nat) : Prop where
  c0 : w.cell? ⟨b, 0, none⟩ = some (.int .u64 (headT l))
  c1 : w.cell? ⟨b, 1, none⟩ = some (.int .u64 (lastT 0 l))
  c2 : w.cell? ⟨b, 2, none⟩ = some (.int .u64 g)
  c3 : w.cell? ⟨b, 3, none⟩ = some (.map (some m))
  z0 : w.frozen? ⟨b, 0, none⟩ = false
  z1 : w.frozen? ⟨b, 1, none⟩ = false
  z2 : w.frozen? ⟨b, 2, none⟩ = false
  ne : b ≠ m
  nodes : ∃ f, MapIs Tryz.prog 181 w m f ∧ f.Perm (nodesOf 0 l)
  tickets : ∀ x ∈ l, 1 ≤ x.1 ∧ x.1 ≤ g
  sorted : (l.map (·.1)).Pairwise (· < ·)

theorem FifoIs.keep {S : List Nat} {w w' : World} {b m : Nat} {l : List (Nat × Int)} {g : Nat} (h : FifoIs w b m l g) (hf : Fr S w w') (hb : b ∉ S) (hm : m ∉ S) : FifoIs w' b m l g := by
  obtain ⟨f, h1, h2⟩ := h.nodes
  have hlt := cell_lt h.c0
  exact ⟨hf.keep h.c0 hb, hf.keep h.c1 hb, hf.keep h.c2 hb, hf.keep h.c3 hb, by rw [hf.frozen hlt hb]; exact h.z0, by rw [hf.frozen hlt hb]; exact h.z1, by rw [hf.frozen hlt hb]; exact h.z2, h.ne, ⟨f, h1.keep hf hm, h2⟩, h.tickets, h.sorted⟩
theorem nodesOf_length : ∀ (l : List (Nat × Int)) (p : Nat), (nodesOf p l).length = l.length
  | [], _ => rfl
  | (t, v) :: r, p => by simp [nodesOf, nodesOf_length r t]

set_option maxRecDepth 100000 in
set_option maxHeartbeats 400000 in
theorem fifoNew_any (w : World) :
    Calls Tryz.prog 121 #[] w fun e w' => e = .returned (.pointer (some ⟨w.heap.size + 1, 0, none⟩)) ∧ FifoIs w' (w.heap.size + 1) w.heap.size [] 0 ∧ Fr [] w w' := by
  have hmm := @run_makeMap Tryz.prog
  go_enter Tryz.func121, Tryz.ntmps121
  go_wp2
  go_ret
  refine ⟨rfl, ⟨by simp [headT], by simp [lastT], by simp, by simp, by simp, by simp, by simp, by omega, ⟨[], ?_, by simp [nodesOf]⟩, by simp, by simp⟩, ((Fr.refl [] w).alloc _).alloc _⟩
  exact (MapIs.made Tryz.prog 181 w).keep ((Fr.refl [] _).alloc _) (by simp)

set_option maxRecDepth 100000 in
set_option maxHeartbeats 400000 in
theorem fifoLen_any (b m : Nat) (l : List (Nat × Int)) (g : Nat) (w : World) (h : FifoIs w b m l g) :
    Calls Tryz.prog 123 #[.pointer (some ⟨b, 0, none⟩)] w fun e w' => e = .returned (.int .i64 l.length) ∧ w' = w := by
  obtain ⟨f, hm, hp⟩ := h.nodes
  have hlen : f.length = l.length := by rw [hp.length_eq, nodesOf_length]
  have hl := hm.len (e := 230) (t := 226) Tryz.underlying226
  rw [hlen] at hl
  have c3 := h.c3
  have hne : ∀ W : World, (binOp .eql 226 (.map (some m)) (.map none)).run Tryz.prog W = .ok (.bool false) W := fun W => by kernel_rfl
  clear hlen hp
  go_enter Tryz.func123, Tryz.ntmps123
  go_wp2
  go_ret
  exact ⟨rfl, rfl⟩

set_option maxRecDepth 100000 in
set_option maxHeartbeats 400000 in
theorem fifoZero_any (b m : Nat) (l : List (Nat × Int)) (g : Nat) (w : World) (h : FifoIs w b m l g) :
    Calls Tryz.prog 155 #[.pointer (some ⟨b, 0, none⟩)] w fun e w' => e = .returned (.bool false) ∧ w = w' := by
  have c3 := h.c3
  have hne : ∀ W : World, (binOp .eql 226 (.map (some m)) (.map none)).run Tryz.prog W = .ok (.bool false) W := fun W => by kernel_rfl
  go_enter Tryz.func155, Tryz.ntmps155
  go_wp2
  go_ret
  exact ⟨rfl, rfl⟩

theorem lastT_le : ∀ (l : List (Nat × Int)) (p g : Nat), p ≤ g → (∀ x ∈ l, x.1 ≤ g) → lastT p l ≤ g
  | [], p, g, h, _ => h
  | (t, v) :: r, p, g, _, hx => lastT_le r t g (hx (t, v) List.mem_cons_self) (fun x hx' => hx x (List.mem_cons_of_mem _ hx'))
theorem keys_nodes : ∀ (l : List (Nat × Int)) (p : Nat), (nodesOf p l).map (·.1) = l.map fun x => Value.int .u64 x.1
  | [], _ => rfl
  | (t, v) :: r, p => by simp [nodesOf, keys_nodes r t]
/-- A further node at the end of a list that is not empty. -/
theorem nodes_snoc : ∀ (l : List (Nat × Int)) (p t : Nat) (v : Int) (t0 : Nat) (v0 : Int), ∃ (A : List (Value × Value)) (pr : Nat), nodesOf p (l ++ [(t0, v0)]) = A ++ [(.int .u64 t0, nodeV v0 pr 0)] ∧ nodesOf p (l ++ [(t0, v0)] ++ [(t, v)]) = A ++ [(.int .u64 t0, nodeV v0 pr t), (.int .u64 t, nodeV v t0 0)]
  | [], p, t, v, t0, v0 => ⟨[], p, rfl, rfl⟩
  | (t1, v1) :: r, p, t, v, t0, v0 => by
    obtain ⟨A, pr, h1, h2⟩ := nodes_snoc r t1 t v t0 v0
    have hh : headT (r ++ [(t0, v0)] ++ [(t, v)]) = headT (r ++ [(t0, v0)]) := by cases r <;> rfl
    refine ⟨(.int .u64 t1, nodeV v1 p (headT (r ++ [(t0, v0)]))) :: A, pr, ?_, ?_⟩
    · simp only [List.cons_append, nodesOf, h1]
    · simp only [List.cons_append, nodesOf, h2, hh]
theorem lastT_snoc : ∀ (l : List (Nat × Int)) (p t : Nat) (v : Int), lastT p (l ++ [(t, v)]) = t
  | [], _, _, _ => rfl
  | (t1, v1) :: r, _, t, v => lastT_snoc r t1 t v
theorem headT_snoc (l : List (Nat × Int)) (t : Nat) (v : Int) (h : l ≠ []) : headT (l ++ [(t, v)]) = headT l := by
  cases l with
  | nil => exact absurd rfl h
  | cons x r => rfl

set_option maxRecDepth 100000 in
set_option maxHeartbeats 1000000 in
theorem fifoPush_empty (b m : Nat) (v : Int) (g : Nat) (hg : g < 4611686018427387904) (w : World) (h : FifoIs w b m [] g) :
    Calls Tryz.prog 124 #[.pointer (some ⟨b, 0, none⟩), .int .i64 v] w fun e w' => e = .returned (.tuple #[.int .u64 (g + 1), .int .i64 0]) ∧ FifoIs w' b m [(g + 1, v)] (g + 1) ∧ Fr [b, m] w w' := by
  obtain ⟨f, hm, hp⟩ := h.nodes
  have hf : f = [] := by simpa [nodesOf] using hp
  subst hf
  have c0 := h.c0
  have c1 := h.c1
  have c2 := h.c2
  have c3 := h.c3
  have z0 := h.z0
  have z1 := h.z1
  have z2 := h.z2
  have hne := h.ne
  simp only [headT, lastT, show ((0 : Nat) : Int) = 0 from rfl] at c0 c1
  have hl := hm.len (e := 230) (t := 226) Tryz.underlying226
  simp only [List.length_nil, show ((0 : Nat) : Int) = 0 from rfl] at hl
  have f0 : Fr [b] w (w.setCell ⟨b, 2, none⟩ (.int .u64 (g + 1))).drew := ((Fr.refl _ _).setCell (fun _ => by simp) _).drew
  have f1 : Fr [b, m] w (w.setCell ⟨b, 2, none⟩ (.int .u64 (g + 1))).drew := f0.mono (fun x hx _ => by simp at hx; simp [hx])
  have hm1 := hm.keep f0 (by simp; omega)
  obtain ⟨w2, hrun, hm2, f2⟩ := hm1.put key64 (t := 226) (e := 230) Tryz.underlying226 (x := .int .u64 (g + 1)) (key64_of _ (by omega) (by omega)) (by simp) (nodeV v 0 0)
  simp only [nodeV, show ((0 : Nat) : Int) = 0 from rfl] at hrun
  have hbm : b ∉ [m] := by simpa using hne
  have d0 : w2.cell? ⟨b, 0, none⟩ = some (.int .u64 0) := f2.keep (by rw [World.cell?_drew, World.cell?_setCell_other _ _ _ _ (by simp)]; exact c0) hbm
  have d1 : w2.cell? ⟨b, 1, none⟩ = some (.int .u64 0) := f2.keep (by rw [World.cell?_drew, World.cell?_setCell_other _ _ _ _ (by simp)]; exact c1) hbm
  have d2 : w2.cell? ⟨b, 2, none⟩ = some (.int .u64 (g + 1)) := f2.keep (by rw [World.cell?_drew]; exact World.cell?_setCell_same _ _ _ c2) hbm
  have d3 : w2.cell? ⟨b, 3, none⟩ = some (.map (some m)) := f2.keep (by rw [World.cell?_drew, World.cell?_setCell_other _ _ _ _ (by simp)]; exact c3) hbm
  have y : ∀ o, w2.frozen? ⟨b, o, none⟩ = w.frozen? ⟨b, o, none⟩ := fun o => by
    rw [f2.frozen (by simpa using cell_lt c0) hbm]
    simp
  have y0 : w2.frozen? ⟨b, 0, none⟩ = false := by rw [y]; exact z0
  have y1 : w2.frozen? ⟨b, 1, none⟩ = false := by rw [y]; exact z1
  have y2 : w2.frozen? ⟨b, 2, none⟩ = false := by rw [y]; exact z2
  clear y
  go_enter Tryz.func124, Tryz.ntmps124
  go_wp2_with (go_at_call 155; refine (fifoZero_any b m [] g _ h).mono ?_; rintro e w' ⟨rfl, rfl⟩)
  go_region
  go_wp2
  go_ret2
  have f3 : Fr [b] w2 ((w2.setCell ⟨b, 0, none⟩ (.int .u64 (g + 1))).setCell ⟨b, 1, none⟩ (.int .u64 (g + 1))) := ((Fr.refl _ _).setCell (fun _ => by simp) _).setCell (fun _ => by simp) _
  refine ⟨rfl, ⟨?_, ?_, ?_, ?_, ?_, ?_, ?_, hne, ⟨_, hm2.keep f3 (by simpa using Ne.symm hne), ?_⟩, ?_, ?_⟩, ?_⟩
  · simp [headT, World.cell?_setCell_other, World.cell?_setCell_same _ _ _ d0]
  · simp [lastT, World.cell?_setCell_same _ _ _ (show (w2.setCell ⟨b, 0, none⟩ (.int .u64 (g + 1))).cell? ⟨b, 1, none⟩ = _ from by rw [World.cell?_setCell_other _ _ _ _ (by simp)]; exact d1)]
  · simp [World.cell?_setCell_other, d2]
  · simp [World.cell?_setCell_other, d3]
  · simp [y0]
  · simp [y1]
  · simp [y2]
  · simp [nodesOf, nodeV, headT]
  · intro x hx
    simp at hx
    subst hx
    simp
  · simp
  · exact ((f1.trans f2 (T := [m]) (S := [b, m]) (fun x hx _ => by simp at hx; simp [hx])).trans f3 (fun x hx _ => by simp at hx; simp [hx]))
end Go.Proofs.YtmdhlodafjpnmaaGreat
