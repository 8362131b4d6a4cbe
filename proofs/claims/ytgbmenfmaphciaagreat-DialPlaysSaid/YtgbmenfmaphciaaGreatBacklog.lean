/- Contracts of fifo's New, Len and Push over a queue's cells and its map of nodes, for every queue of at most 4096 values. -/
/- Contracts of slices.Index and slices.Contains over a row of integers. -/
/- Contracts of backlog's New, Room and Push over a backlog's cells, its queue and its map of tickets. -/
import Derived.Test.YtgbmenfmaphciaaGreatProg
import Derived.Test.YtgbmenfmaphciaaGreatRange
import Derived.Lib.Hide
import Derived.WalkLawsBesides
import Derived.WalkSpells
import Derived.StillTailTactics
import Derived.BigRegion
namespace Go.Proofs.YtgbmenfmaphciaaGreat
open Go.RowKit
open Go.Maps (Keyed)
set_option linter.unusedVariables false
theorem key64 : Keyed Tryz.prog 37 := Maps.int_keyed Tryz.underlying37
theorem key64_of (x : Int) (h0 : 0 ≤ x) (h1 : x ≤ 18446744073709551615) : keyOf Tryz.prog 37 (.int .u64 x) = some (.int .u64 x) :=
 Maps.keyOf_int_mk Tryz.underlying37 (by simp [Lit.wf, IntKind.min, IntKind.max, IntKind.signed, IntKind.bits]; omega)
def nodeV (v : Int) (b n : Nat) : Value := .agg #[.int .i64 v, .int .u64 b, .int .u64 n]
def headT : List (Nat × Int) → Nat
 | [] => 0
 | (t, _) :: _ => t
def lastT (p : Nat) : List (Nat × Int) → Nat
 | [] => p
 | (t, _) :: r => lastT t r
def nodesOf (p : Nat) : List (Nat × Int) → List (Value × Value)
 | [] => []
 | (t, v) :: r => (.int .u64 t, nodeV v p (headT r)) :: nodesOf t r
structure FifoIs (w : World) (b m : Nat) (l : List (Nat × Int)) (g : Nat) : Prop where
 c0 : w.cell? ⟨b, 0, none⟩ = some (.int .u64 (headT l))
 c1 : w.cell? ⟨b, 1, none⟩ = some (.int .u64 (lastT 0 l))
 c2 : w.cell? ⟨b, 2, none⟩ = some (.int .u64 g)
 c3 : w.cell? ⟨b, 3, none⟩ = some (.map (some m))
 z0 : w.frozen? ⟨b, 0, none⟩ = false
 z1 : w.frozen? ⟨b, 1, none⟩ = false
 z2 : w.frozen? ⟨b, 2, none⟩ = false
 ne : b ≠ m
 nodes : ∃ f, MapIs Tryz.prog 37 w m f ∧ f.Perm (nodesOf 0 l)
 tickets : ∀ x ∈ l, 1 ≤ x.1 ∧ x.1 ≤ g
 sorted : (l.map (·.1)).Pairwise (· < ·)
theorem FifoIs.keep {S : List Nat} {w w' : World} {b m : Nat} {l : List (Nat × Int)} {g : Nat} (h : FifoIs w b m l g) (hf : Fr S w w') (hb : b ∉ S) (hm : m ∉ S) : FifoIs w' b m l g := by
 obtain ⟨f, h1, h2⟩ := h.nodes
 have hlt := cell_lt h.c0
 exact ⟨hf.keep h.c0 hb, hf.keep h.c1 hb, hf.keep h.c2 hb, hf.keep h.c3 hb, by rw [hf.frozen hlt hb]; exact h.z0, by rw [hf.frozen hlt hb]; exact h.z1, by rw [hf.frozen hlt hb]; exact h.z2, h.ne, ⟨f, h1.keep hf hm, h2⟩, h.tickets, h.sorted⟩
theorem nodesOf_length : ∀ (l : List (Nat × Int)) (p : Nat), (nodesOf p l).length = l.length
 | [], _ => rfl
 | (t, v) :: r, p => by simp [nodesOf, nodesOf_length r t]
set_option maxRecDepth 100000 in
set_option maxHeartbeats 400000 in
theorem fifoNew_any (w : World) :
  Calls Tryz.prog 86 #[] w fun e w' => e = .returned (.pointer (some ⟨w.heap.size + 1, 0, none⟩)) ∧ FifoIs w' (w.heap.size + 1) w.heap.size [] 0 ∧ Fr [] w w' := by
 have hmm := @run_makeMap Tryz.prog
 go_enter Tryz.func86, Tryz.ntmps86
 go_wp2
 go_ret
 refine ⟨rfl, ⟨by simp [headT], by simp [lastT], by simp, by simp, by simp, by simp, by simp, by omega, ⟨[], ?_, by simp [nodesOf]⟩, by simp, by simp⟩, ((Fr.refl [] w).alloc _).alloc _⟩
 exact (MapIs.made Tryz.prog 37 w).keep ((Fr.refl [] _).alloc _) (by simp)
set_option maxRecDepth 100000 in
set_option maxHeartbeats 400000 in
theorem fifoLen_any (b m : Nat) (l : List (Nat × Int)) (g : Nat) (w : World) (h : FifoIs w b m l g) :
  Calls Tryz.prog 132 #[.pointer (some ⟨b, 0, none⟩)] w fun e w' => e = .returned (.int .i64 l.length) ∧ w' = w := by
 obtain ⟨f, hm, hp⟩ := h.nodes
 have hlen : f.length = l.length := by rw [hp.length_eq, nodesOf_length]
 have hl := hm.len (e := 222) (t := 210) Tryz.underlying210
 rw [hlen] at hl
 have c3 := h.c3
 have hne : ∀ W : World, (binOp .eql 210 (.map (some m)) (.map none)).run Tryz.prog W = .ok (.bool false) W := fun W => by kernel_rfl
 clear hlen hp
 go_enter Tryz.func132, Tryz.ntmps132
 go_wp2
 go_ret
 exact ⟨rfl, rfl⟩
set_option maxRecDepth 100000 in
set_option maxHeartbeats 400000 in
theorem fifoZero_any (b m : Nat) (l : List (Nat × Int)) (g : Nat) (w : World) (h : FifoIs w b m l g) :
  Calls Tryz.prog 135 #[.pointer (some ⟨b, 0, none⟩)] w fun e w' => e = .returned (.bool false) ∧ w = w' := by
 have c3 := h.c3
 have hne : ∀ W : World, (binOp .eql 210 (.map (some m)) (.map none)).run Tryz.prog W = .ok (.bool false) W := fun W => by kernel_rfl
 go_enter Tryz.func135, Tryz.ntmps135
 go_wp2
 go_ret
 exact ⟨rfl, rfl⟩
theorem keys_nodes : ∀ (l : List (Nat × Int)) (p : Nat), (nodesOf p l).map (·.1) = l.map fun x => Value.int .u64 x.1
 | [], _ => rfl
 | (t, v) :: r, p => by simp [nodesOf, keys_nodes r t]
theorem nodes_snoc : ∀ (l : List (Nat × Int)) (p t : Nat) (v : Int) (t0 : Nat) (v0 : Int), ∃ (A : List (Value × Value)) (pr : Nat), nodesOf p (l ++ [(t0, v0)]) = A ++ [(.int .u64 t0, nodeV v0 pr 0)] ∧ nodesOf p (l ++ [(t0, v0)] ++ [(t, v)]) = A ++ [(.int .u64 t0, nodeV v0 pr t), (.int .u64 t, nodeV v t0 0)]
 | [], p, t, v, t0, v0 => ⟨[], p, rfl, rfl⟩
 | (t1, v1) :: r, p, t, v, t0, v0 => by
  obtain ⟨A, pr, h1, h2⟩ := nodes_snoc r t1 t v t0 v0
  have hh : headT (r ++ [(t0, v0)] ++ [(t, v)]) = headT (r ++ [(t0, v0)]) := by cases r <;> rfl
  refine ⟨(.int .u64 t1, nodeV v1 p (headT (r ++ [(t0, v0)]))) :: A, pr, ?_, ?_⟩
  ·simp only [List.cons_append, nodesOf, h1]
  ·simp only [List.cons_append, nodesOf, h2, hh]
theorem lastT_snoc : ∀ (l : List (Nat × Int)) (p t : Nat) (v : Int), lastT p (l ++ [(t, v)]) = t
 | [], _, _, _ => rfl
 | (t1, v1) :: r, _, t, v => lastT_snoc r t1 t v
theorem headT_snoc (l : List (Nat × Int)) (t : Nat) (v : Int) (h : l ≠ []) : headT (l ++ [(t, v)]) = headT l := by
 cases l with
 | nil => exact absurd rfl h
 | cons x r => rfl
set_option maxRecDepth 100000 in
set_option maxHeartbeats 1000000 in
theorem fifoPush_empty (b m : Nat) (v : Int) (g : Nat) (hg : g < 4611686018427387904) (w : World) (h : FifoIs w b m [] g) :
  Calls Tryz.prog 134 #[.pointer (some ⟨b, 0, none⟩), .int .i64 v] w fun e w' => e = .returned (.tuple #[.int .u64 (g + 1), .int .i64 0]) ∧ FifoIs w' b m [(g + 1, v)] (g + 1) ∧ Fr [b, m] w w' := by
 obtain ⟨f, hm, hp⟩ := h.nodes
 have hf : f = [] := by simpa [nodesOf] using hp
 subst hf
 have c0 := h.c0
 have c1 := h.c1
 have c2 := h.c2
 have c3 := h.c3
 have z0 := h.z0
 have z1 := h.z1
 have z2 := h.z2
 have hne := h.ne
 simp only [headT, lastT, show ((0 : Nat) : Int) = 0 from rfl] at c0 c1
 have hl := hm.len (e := 222) (t := 210) Tryz.underlying210
 simp only [List.length_nil, show ((0 : Nat) : Int) = 0 from rfl] at hl
 have f0 : Fr [b] w (w.setCell ⟨b, 2, none⟩ (.int .u64 (g + 1))).drew := ((Fr.refl _ _).setCell (fun _ => by simp) _).drew
 have f1 : Fr [b, m] w (w.setCell ⟨b, 2, none⟩ (.int .u64 (g + 1))).drew := f0.mono (fun x hx _ => by simp at hx; simp [hx])
 have hm1 := hm.keep f0 (by simp; omega)
 obtain ⟨w2, hrun, hm2, f2⟩ := hm1.put key64 (t := 210) (e := 222) Tryz.underlying210 (x := .int .u64 (g + 1)) (key64_of _ (by omega) (by omega)) (by simp) (nodeV v 0 0)
 simp only [nodeV, show ((0 : Nat) : Int) = 0 from rfl] at hrun
 have hbm : b ∉ [m] := by simpa using hne
 have d0 : w2.cell? ⟨b, 0, none⟩ = some (.int .u64 0) := f2.keep (by rw [World.cell?_drew, World.cell?_setCell_other _ _ _ _ (by simp)]; exact c0) hbm
 have d1 : w2.cell? ⟨b, 1, none⟩ = some (.int .u64 0) := f2.keep (by rw [World.cell?_drew, World.cell?_setCell_other _ _ _ _ (by simp)]; exact c1) hbm
 have d2 : w2.cell? ⟨b, 2, none⟩ = some (.int .u64 (g + 1)) := f2.keep (by rw [World.cell?_drew]; exact World.cell?_setCell_same _ _ _ c2) hbm
 have d3 : w2.cell? ⟨b, 3, none⟩ = some (.map (some m)) := f2.keep (by rw [World.cell?_drew, World.cell?_setCell_other _ _ _ _ (by simp)]; exact c3) hbm
 have y : ∀ o, w2.frozen? ⟨b, o, none⟩ = w.frozen? ⟨b, o, none⟩ := fun o => by
  rw [f2.frozen (by simpa using cell_lt c0) hbm]
  simp
 have y0 : w2.frozen? ⟨b, 0, none⟩ = false := by rw [y]; exact z0
 have y1 : w2.frozen? ⟨b, 1, none⟩ = false := by rw [y]; exact z1
 have y2 : w2.frozen? ⟨b, 2, none⟩ = false := by rw [y]; exact z2
 clear y
 go_enter Tryz.func134, Tryz.ntmps134
 go_wp2_with (go_at_call 135; refine (fifoZero_any b m [] g _ h).mono ?_; rintro e w' ⟨rfl, rfl⟩)
 go_region
 go_wp2
 go_ret2
 have f3 : Fr [b] w2 ((w2.setCell ⟨b, 0, none⟩ (.int .u64 (g + 1))).setCell ⟨b, 1, none⟩ (.int .u64 (g + 1))) := ((Fr.refl _ _).setCell (fun _ => by simp) _).setCell (fun _ => by simp) _
 refine ⟨rfl, ⟨?_, ?_, ?_, ?_, ?_, ?_, ?_, hne, ⟨_, hm2.keep f3 (by simpa using Ne.symm hne), ?_⟩, ?_, ?_⟩, ?_⟩
 ·simp [headT, World.cell?_setCell_other, World.cell?_setCell_same _ _ _ d0]
 ·simp [lastT, World.cell?_setCell_same _ _ _ (show (w2.setCell ⟨b, 0, none⟩ (.int .u64 (g + 1))).cell? ⟨b, 1, none⟩ = _ from by rw [World.cell?_setCell_other _ _ _ _ (by simp)]; exact d1)]
 ·simp [World.cell?_setCell_other, d2]
 ·simp [World.cell?_setCell_other, d3]
 ·simp [y0]
 ·simp [y1]
 ·simp [y2]
 ·simp [nodesOf, nodeV, headT]
 ·intro x hx
  simp at hx
  subst hx
  simp
 ·simp
 ·exact ((f1.trans f2 (T := [m]) (S := [b, m]) (fun x hx _ => by simp at hx; simp [hx])).trans f3 (fun x hx _ => by simp at hx; simp [hx]))
end Go.Proofs.YtgbmenfmaphciaaGreat
namespace Go.Proofs.YtgbmenfmaphciaaGreat
open Go.RowKit
set_option linter.unusedVariables false
set_option maxRecDepth 100000
set_option maxHeartbeats 4000000
def idxOf (k : Int) : List Int → Int
 | [] => -1
 | x :: r => if x = k then 0 else (let i := idxOf k r; if i < 0 then -1 else i + 1)
def IntRow (w : World) (v : Value) (xs : List Int) : Prop :=
 (xs = [] ∧ ∃ a c, v = .slice a 0 c) ∨ ∃ g off cap, v = .slice (some ⟨g, off, none⟩) xs.length cap ∧ xs.length ≤ maxLen ∧ ∀ i x, xs[i]? = some x → w.cell? ⟨g, off + i, none⟩ = some (.int .i64 x)
theorem sliceIndex_any (k : Int) (v : Value) (xs : List Int) (w : World) (h : IntRow w v xs) :
  Calls Tryz.prog 121 #[v, .int .i64 k] w fun e w' => (∃ i : Int, e = .returned (.int .i64 i) ∧ (0 ≤ i ↔ k ∈ xs)) ∧ w = w' := by
 rcases h with ⟨rfl, a, c, rfl⟩ | ⟨g, off, cap, rfl, hm, hc⟩
 ·go_enter Tryz.func121, Tryz.ntmps121
  go_wp2
  refine wp_loop_rounds 1 ?_
  rw [rounds_succ]
  go_wp2
  go_ret
  exact ⟨⟨-1, rfl, by simp⟩, rfl⟩
 ·obtain ⟨n, hn⟩ : ∃ n, xs.length = n := ⟨_, rfl⟩
  rw [hn] at hm ⊢
  have HC := Lib.hid hc
  have hm2 : n ≤ 9223372036854775807 := by simp only [maxLen] at hm; omega
  clear hc
  go_enter Tryz.func121, Tryz.ntmps121
  go_wp2
  go_loop [8] (fun j => ∃ q : Nat, j = .int .i64 q ∧ q ≤ n ∧ ∀ i x, i < q → xs[i]? = some x → x ≠ k) (fun j => n - (intOf j).toNat)
  case atStart => exact ⟨0, rfl, by omega, fun i x hi => by omega⟩
  case round =>
   obtain ⟨q, rfl, hq, hno⟩ := hrel
   have HNO := Lib.hid hno
   clear hno
   by_cases hlt : q < n
   ·have hx := List.getElem?_eq_getElem (l := xs) (i := q) (by omega)
    have hcq := HC.out q _ hx
    generalize xs[q] = y at hx hcq
    have HX := Lib.hid hx
    clear hx
    by_cases hy : k = y
    ·subst hy
     have hkk : (k == k) = true := by simp
     go_wp2
     go_ret
     exact ⟨⟨q, rfl, by
      constructor
      ·intro _
       exact List.mem_of_getElem? HX.out
      ·intro _
       omega⟩, rfl⟩
    ·have hkk : (k == y) = false := by rw [beq_eq_false_iff_ne]; exact hy
     go_wp2
     go_round
     case rel => exact ⟨q + 1, by go_num, by omega, fun i x hi hx => by
      rcases Nat.lt_or_ge i q with h | h
      ·exact HNO.out i x h hx
      ·obtain rfl : i = q := by omega
       rw [HX.out] at hx
       cases hx
       exact Ne.symm hy⟩
     case measure => simp [intOf]; omega
   ·go_wp2
    go_ret
    exact ⟨⟨-1, rfl, by
     constructor
     ·intro h
      omega
     ·intro h
      obtain ⟨i, hi⟩ := List.getElem?_of_mem h
      have := (List.getElem?_eq_some_iff.1 hi).1
      exact absurd rfl (HNO.out i k (by omega) hi)⟩, rfl⟩
theorem sliceContains_any (k : Int) (v : Value) (xs : List Int) (w : World) (h : IntRow w v xs) :
  Calls Tryz.prog 98 #[v, .int .i64 k] w fun e w' => e = .returned (.bool (decide (k ∈ xs))) ∧ w = w' := by
 go_enter Tryz.func98, Tryz.ntmps98
 go_wp2_with (go_at_call 121; refine (sliceIndex_any k v xs w h).mono ?_; rintro e w' ⟨⟨i, rfl, hi⟩, rfl⟩)
 by_cases hm : k ∈ xs
 ·have h0 := hi.2 hm
  rw [decide_eq_true hm]
  go_wp2
  go_ret
  exact ⟨by simp, rfl⟩
 ·have h0 : ¬ 0 ≤ i := fun h => hm (hi.1 h)
  rw [decide_eq_false hm]
  go_wp2
  go_ret
  exact ⟨by simp, rfl⟩
end Go.Proofs.YtgbmenfmaphciaaGreat
namespace Go.Proofs.YtgbmenfmaphciaaGreat
open Go.RowKit
open Go.Maps (Keyed)
set_option linter.unusedVariables false
theorem keyInt : Keyed Tryz.prog 3 := Maps.int_keyed Tryz.underlying3
theorem keyInt_of (x : Int) (h0 : -9223372036854775808 ≤ x) (h1 : x ≤ 9223372036854775807) : keyOf Tryz.prog 3 (.int .i64 x) = some (.int .i64 x) :=
 Maps.keyOf_int_mk Tryz.underlying3 (by simp [Lit.wf, IntKind.min, IntKind.max, IntKind.signed, IntKind.bits]; omega)
theorem zeroU64 (w : World) : (zeroValue 37).run Tryz.prog w = .ok (.int .u64 0) w := by kernel_rfl
theorem retI {k : IntKind} {a b : Int} (h : a = b) : Ending.returned (.int k a) = .returned (.int k b) := by rw [h]
theorem FifoIs.drewN {w : World} {b m : Nat} {l : List (Nat × Int)} {g : Nat} (h : FifoIs w b m l g) (n : Nat) : FifoIs (w.drewN n) b m l g :=
 ⟨h.c0, h.c1, h.c2, h.c3, h.z0, h.z1, h.z2, h.ne, h.nodes, h.tickets, h.sorted⟩
def tickV (x : Nat × Int) : Value × Value := (.int .i64 x.2, .int .u64 x.1)
structure BackIs (w : World) (b q m t : Nat) (most : Int) (closed : Bool) (l : List (Nat × Int)) (g : Nat) : Prop where
 c0 : w.cell? ⟨b, 0, none⟩ = some (.pointer (some ⟨q, 0, none⟩))
 c1 : w.cell? ⟨b, 1, none⟩ = some (.int .i64 most)
 c2 : w.cell? ⟨b, 2, none⟩ = some (.bool closed)
 c3 : w.cell? ⟨b, 3, none⟩ = some (.map (some t))
 free : ∀ o, w.frozen? ⟨b, o, none⟩ = false
 ne : b ≠ q ∧ b ≠ m ∧ b ≠ t ∧ q ≠ t ∧ m ≠ t
 queue : FifoIs w q m l g
 tickets : ∃ f, MapIs Tryz.prog 3 w t f ∧ f.Perm (l.map tickV)
theorem BackIs.keep {S : List Nat} {w w' : World} {b q m t : Nat} {most : Int} {closed : Bool} {l : List (Nat × Int)} {g : Nat} (h : BackIs w b q m t most closed l g) (hf : Fr S w w') (hb : b ∉ S) (hq : q ∉ S) (hm : m ∉ S) (ht : t ∉ S) : BackIs w' b q m t most closed l g := by
 obtain ⟨f, h1, h2⟩ := h.tickets
 exact ⟨hf.keep h.c0 hb, hf.keep h.c1 hb, hf.keep h.c2 hb, hf.keep h.c3 hb, fun o => by rw [hf.frozen (cell_lt h.c0) hb]; exact h.free o, h.ne, h.queue.keep hf hq hm, ⟨f, h1.keep hf ht, h2⟩⟩
theorem BackIs.drewN {w : World} {b q m t : Nat} {most : Int} {closed : Bool} {l : List (Nat × Int)} {g : Nat} (h : BackIs w b q m t most closed l g) (n : Nat) : BackIs (w.drewN n) b q m t most closed l g :=
 ⟨h.c0, h.c1, h.c2, h.c3, h.free, h.ne, h.queue.drewN n, h.tickets⟩
set_option maxRecDepth 100000 in
set_option maxHeartbeats 400000 in
theorem backNew_bad (most : Int) (w : World) (h : most < 1 ∨ 128 < most) :
  Calls Tryz.prog 50 #[.int .i64 most] w fun e w' => e = .returned (.tuple #[.pointer none, .int .i64 2]) ∧ w = w' := by
 rcases h with h | h
 ·go_enter Tryz.func50, Tryz.ntmps50
  go_wp2
  go_ret2
  exact ⟨rfl, rfl⟩
 ·have h' : ¬ most < 1 := by omega
  go_enter Tryz.func50, Tryz.ntmps50
  go_wp2
  go_ret2
  exact ⟨rfl, rfl⟩
set_option maxRecDepth 100000 in
set_option maxHeartbeats 400000 in
theorem backNew_ok (most : Int) (w : World) (h : ¬ most < 1) (h' : ¬ 128 < most) :
  Calls Tryz.prog 50 #[.int .i64 most] w fun e w' => ∃ b q m t, e = .returned (.tuple #[.pointer (some ⟨b, 0, none⟩), .int .i64 0]) ∧ BackIs w' b q m t most false [] 0 ∧ Fr [] w w' ∧ w.heap.size ≤ b ∧ w.heap.size ≤ q ∧ w.heap.size ≤ m ∧ w.heap.size ≤ t := by
 have hmm := @run_makeMap Tryz.prog
 go_enter Tryz.func50, Tryz.ntmps50
 go_wp2_with (go_at_call 86; refine (fifoNew_any _).mono ?_; rintro e w1 ⟨rfl, q1, f1⟩)
 go_ret2
 have hlt := cell_lt q1.c0
 have f2 : Fr [] w1 ((w1.alloc (.map #[] 0)).alloc (.cells #[.pointer (some ⟨w.heap.size + 1, 0, none⟩), .int .i64 most, .bool false, .map (some w1.heap.size)] 178)) := ((Fr.refl [] w1).alloc _).alloc _
 refine ⟨w1.heap.size + 1, w.heap.size + 1, w.heap.size, w1.heap.size, rfl, ⟨by simp, by simp, by simp, by simp, fun o => by simp, ⟨by omega, by omega, by omega, by omega, by omega⟩, q1.keep f2 (by simp) (by simp), ⟨[], ?_, by simp⟩⟩, f1.step f2, by omega, by omega, by omega, by omega⟩
 exact (MapIs.made Tryz.prog 3 w1).keep ((Fr.refl [] _).alloc _) (by simp)
set_option maxRecDepth 100000 in
set_option maxHeartbeats 400000 in
theorem backRoom_any (b q m t : Nat) (most : Int) (l : List (Nat × Int)) (g : Nat) (w : World) (h : BackIs w b q m t most false l g) (hm : 0 ≤ most) (hm' : most ≤ 128) (hl : l.length ≤ 128) :
  Calls Tryz.prog 111 #[.pointer (some ⟨b, 0, none⟩)] w fun e w' => e = .returned (.int .i64 (most - l.length)) ∧ ∃ n, w' = w.drewN n := by
 have c0 := h.c0
 have c1 := h.c1
 have c2 := h.c2
 have hq := h.queue
 go_enter Tryz.func111, Tryz.ntmps111
 go_wp2
 go_quiet ((go_at_call 132; exact Calls.quiet_of_same (fifoLen_any q m l g _ (hq.drewN _))))
 go_wp2
 go_ret
 exact ⟨retI (IntWalk.i64_in _ ⟨by omega, by omega⟩), _, rfl⟩
set_option maxRecDepth 100000 in
set_option maxHeartbeats 1000000 in
theorem backPush_empty (b q m t : Nat) (most : Int) (g : Nat) (conn : Int) (w : World) (h : BackIs w b q m t most false [] g) (hm : 1 ≤ most) (hm' : most ≤ 128) (hg : g < 4611686018427387904) (hc : 0 ≤ conn) (hc' : conn ≤ 1000000) :
  Calls Tryz.prog 113 #[.pointer (some ⟨b, 0, none⟩), .int .i64 conn] w fun e w' => e = .returned (.int .i64 0) ∧ BackIs w' b q m t most false [(g + 1, conn)] (g + 1) ∧ Fr [q, m, t] w w' := by
 have c0 := h.c0
 have c1 := h.c1
 have c2 := h.c2
 have c3 := h.c3
 have hq := h.queue
 obtain ⟨n1, n2, n3, n4, n5⟩ := h.ne
 obtain ⟨f, hmt, hp⟩ := h.tickets
 have hf : f = [] := by simpa using hp
 subst hf
 have hlk := hmt.miss keyInt (t := 176) (e := 37) Tryz.underlying176 (x := .int .i64 conn) (keyInt_of conn (by omega) (by omega)) (by simp) (zeroU64 w) true
 simp only [if_true] at hlk
 have hq0 : ((0 : Int) == most) = false := by rw [beq_eq_false_iff_ne]; omega
 go_enter Tryz.func113, Tryz.ntmps113
 go_wp2
 go_quiet ((go_at_call 132; exact Calls.quiet_of_same (fifoLen_any q m [] g _ (hq.drewN _))))
 go_wp2_with fail
 refine (fifoPush_empty q m conn g hg _ (hq.drewN nq)).mono ?_
 rintro e w2 ⟨rfl, hq2, f2⟩
 have hb2 := (h.drewN nq).keep (S := [q, m]) f2
 have c3' := f2.keep (w := w.drewN nq) c3 (by simp; omega)
 obtain ⟨w3, hrun, hmt3, f3⟩ := ((hmt.drewN nq).keep f2 (by simp; omega)).put keyInt (t := 176) (e := 37) Tryz.underlying176 (x := .int .i64 conn) (keyInt_of conn (by omega) (by omega)) (by simp) (.int .u64 (g + 1))
 clear hb2
 go_wp2
 go_ret
 have fd : Fr [] w (w.drewN nq) := (Fr.refl [] w).drewN nq
 have f4 : Fr [q, m, t] w w3 := ((fd.mono (T := [q, m, t]) (fun x hx => by cases hx)).trans f2 (fun x hx _ => by simp at hx; simp; omega)).trans f3 (fun x hx _ => by simp at hx; simp [hx])
 have hb : b ∉ [q, m, t] := by simp; omega
 exact ⟨rfl, ⟨f4.keep h.c0 hb, f4.keep h.c1 hb, f4.keep h.c2 hb, f4.keep h.c3 hb, fun o => by rw [f4.frozen (cell_lt h.c0) hb]; exact h.free o, h.ne, hq2.keep f3 (by simp; omega) (by simp; omega), ⟨_, hmt3, by simp [tickV]⟩⟩, f4⟩
end Go.Proofs.YtgbmenfmaphciaaGreat
