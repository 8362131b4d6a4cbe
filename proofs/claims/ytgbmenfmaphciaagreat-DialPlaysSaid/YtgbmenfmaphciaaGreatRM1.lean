/- Structs in memory as lists of cells: loaded and stored whole, at any type. -/
/- Rows of cells in memory, at any element type: what a slice holds; append of such a row. -/
/- The reference's connections without bytes, in memory: New, Copy. -/
import Derived.Test.YtgbmenfmaphciaaGreatRange
import Derived.Test.YtgbmenfmaphciaaGreatProg
import Derived.WalkKit
import Derived.Laws.CopyRow
import Derived.Laws.Cells
import Derived.Laws.Tables
import Derived.Laws.Rows
import Derived.Lib.Hide
import Derived.Laws.AppendOwn
import Derived.Laws.OwnMore
import Derived.OwnWalk
import Derived.Tactics
import Derived.Tactics2
namespace Go.Proofs.YtgbmenfmaphciaaGreat
set_option linter.unusedVariables false
set_option linter.unusedSimpArgs false
set_option linter.unusedSectionVars false
open Go.RowKit
set_option linter.unusedVariables false
set_option linter.unusedSimpArgs false
set_option maxRecDepth 100000
set_option maxHeartbeats 4000000
section
variable {P : Program} {ops : Array Oper} {rest : List Oper} {o : Oper} {a : Act} {w w' : World} {Q : Exit → Act → World → Prop}
theorem wpList_val (hg : o.guard = none) {v : Value} (hrun : (execOp a.eval o).run P w = .ok (.value v) w') (hK : wpList P ops Q rest (a.put o.dst v) w') : wpList P ops Q (o :: rest) a w := by
 refine wpList_plain hg fun K hK' => ?_
 unfold Oper.wp
 rw [hrun]
 exact hK' _ _ hK
theorem wpList_skp (hg : o.guard = none) (hrun : (execOp a.eval o).run P w = .ok .skip w') (hK : wpList P ops Q rest (a.put o.dst undef) w') : wpList P ops Q (o :: rest) a w := by
 refine wpList_plain hg fun K hK' => ?_
 unfold Oper.wp
 rw [hrun]
 exact hK' _ _ hK
theorem wp_skp {K : Act → World → Prop} (hrun : (execOp a.eval o).run P w = .ok .skip w') (hK : K (a.put o.dst undef) w') : o.wp P a w K Q := by
 unfold Oper.wp
 rw [hrun]
 exact hK
end
def LiesAt (w : World) (g o : Nat) (xs : List Value) : Prop := ∀ (j : Nat) u, xs[j]? = some u → w.cell? ⟨g, o + j, none⟩ = some u
def Blk (w : World) (b : Nat) (t : TypeId) (xs : List Value) : Prop := w.heap[b]? = some (.cells xs.toArray t)
theorem LiesAt.keep {S : List Nat} {w w' : World} {g o : Nat} {xs : List Value} (h : LiesAt w g o xs) (f : Fr S w w') (hn : g ∉ S) : LiesAt w' g o xs := fun j u hj => f.keep (h j u hj) hn
theorem Blk.at {w : World} {b : Nat} {t : TypeId} {xs : List Value} (h : Blk w b t xs) : LiesAt w b 0 xs := fun j u hj => by
 unfold Blk at h
 rw [Nat.zero_add]
 simp [World.cell?, h, hj]
theorem Blk.keep {S : List Nat} {w w' : World} {b : Nat} {t : TypeId} {xs : List Value} (h : Blk w b t xs) (f : Fr S w w') (hn : b ∉ S) : Blk w' b t xs := (f.block b (Array.getElem?_eq_some_iff.1 h).1 hn).trans h
theorem Blk.lt {w : World} {b : Nat} {t : TypeId} {xs : List Value} (h : Blk w b t xs) : b < w.heap.size := (Array.getElem?_eq_some_iff.1 h).1
theorem Blk.made (w : World) (t : TypeId) (xs : List Value) : Blk (w.alloc (.cells xs.toArray t)) w.heap.size t xs := heap_alloc_new w _
theorem load_all {w : World} {g o n : Nat} {t : TypeId} {xs : List Value} (hA : ∀ w, (isAgg t).run Tryz.prog w = .ok true w) (hS : ∀ w, (sizeOf t).run Tryz.prog w = .ok n w) (hn : xs.length = n) (h : LiesAt w g o xs) : (Instr.loadAt t (.pointer (some ⟨g, o, none⟩))).run Tryz.prog w = .ok (.agg xs.toArray) w := by
 have hl := run_loadCells_list (P := Tryz.prog) w ⟨g, o, none⟩ xs (fun j v hj => by rw [Addr.add_lit]; exact h j v hj)
 rw [hn] at hl
 have hs : (Instr.sureAddr (.pointer (some ⟨g, o, none⟩))).run Tryz.prog w = .ok ⟨g, o, none⟩ w := by simp [Instr.sureAddr]
 unfold Instr.loadAt
 rw [Sem.run_bind, hs]
 simp only [Result.andThen_ok]
 unfold loadVar
 rw [Sem.run_bind, hA]
 simp only [Result.andThen_ok, if_true]
 rw [Sem.run_bind, hS]
 simp only [Result.andThen_ok]
 rw [Sem.run_bind, hl]
 rfl
theorem load_var {w : World} {g o n : Nat} {t : TypeId} {xs : List Value} (hA : ∀ w, (isAgg t).run Tryz.prog w = .ok true w) (hS : ∀ w, (sizeOf t).run Tryz.prog w = .ok n w) (hn : xs.length = n) (h : LiesAt w g o xs) : (loadVar t ⟨g, o, none⟩).run Tryz.prog w = .ok (.agg xs.toArray) w := by
 have hl := run_loadCells_list (P := Tryz.prog) w ⟨g, o, none⟩ xs (fun j v hj => by rw [Addr.add_lit]; exact h j v hj)
 rw [hn] at hl
 unfold loadVar
 rw [Sem.run_bind, hA]
 simp only [Result.andThen_ok, if_true]
 rw [Sem.run_bind, hS]
 simp only [Result.andThen_ok]
 rw [Sem.run_bind, hl]
 rfl
theorem as_addr (a : Addr) (w : World) : (asAddr (.pointer (some a))).run Tryz.prog w = .ok a w := by simp [asAddr]
theorem store_all {w : World} {b n : Nat} {t : TypeId} {ys : List Value} (xs : List Value) (hS : ∀ w, (sizeOf t).run Tryz.prog w = .ok n w) (hn : xs.length = n) (h1 : ∀ u ∈ xs, u.oneCell' = true) (hb : Blk w b t ys) (hc : ys.length = n) :
  ∃ w', (Instr.storeAt t (.pointer (some ⟨b, 0, none⟩)) (.agg xs.toArray)).run Tryz.prog w = .ok () w' ∧ Blk w' b t xs ∧ Fr [b] w w' := by
 have hst := run_storeCells_at Tryz.prog b 0 t xs 0 ys.toArray w hb (by simp only [List.size_toArray]; omega) h1
 have hs : (Instr.sureAddr (.pointer (some ⟨b, 0, none⟩))).run Tryz.prog w = .ok ⟨b, 0, none⟩ w := by simp [Instr.sureAddr]
 have hrow : (List.take (0 + 0) ys.toArray.toList ++ xs ++ List.drop (0 + 0 + xs.length) ys.toArray.toList).toArray = xs.toArray := by
  rw [List.drop_of_length_le (by simp; omega)]
  simp
 rw [hrow] at hst
 refine ⟨_, ?_, setRow_heap w b ys.toArray _ _ _ hb, ?_⟩
 ·unfold Instr.storeAt
  rw [Sem.run_bind, hs]
  simp only [Result.andThen_ok]
  unfold storeVar
  rw [Sem.run_bind, hS]
  simp only [Result.andThen_ok]
  rw [if_neg (by show ¬ ((Value.agg xs.toArray).cells.size ≠ n); simp [Value.cells, hn])]
  have : (Value.agg xs.toArray).cells.toList = xs := by simp [Value.cells]
  rw [this]
  exact hst
 ·exact ⟨rfl, rfl, rfl, by simp [World.setRow], fun k hk hn => setRow_other w b k _ (by simpa using hn)⟩
theorem store_part {w : World} {b o n : Nat} {t t' : TypeId} {ys : List Value} (xs : List Value) (hS : ∀ w, (sizeOf t).run Tryz.prog w = .ok n w) (hn : xs.length = n) (h1 : ∀ u ∈ xs, u.oneCell' = true) (hb : Blk w b t' ys) (hc : o + n ≤ ys.length) :
  ∃ w', (Instr.storeAt t (.pointer (some ⟨b, o, none⟩)) (.agg xs.toArray)).run Tryz.prog w = .ok () w' ∧ Blk w' b t' (ys.take o ++ xs ++ ys.drop (o + n)) ∧ Fr [b] w w' := by
 have hst := run_storeCells_at Tryz.prog b o t' xs 0 ys.toArray w hb (by simp only [List.size_toArray]; omega) h1
 have hs : (Instr.sureAddr (.pointer (some ⟨b, o, none⟩))).run Tryz.prog w = .ok ⟨b, o, none⟩ w := by simp [Instr.sureAddr]
 have hrow : (List.take (o + 0) ys.toArray.toList ++ xs ++ List.drop (o + 0 + xs.length) ys.toArray.toList) = ys.take o ++ xs ++ ys.drop (o + n) := by
  rw [hn]
  simp
 rw [hrow] at hst
 refine ⟨_, ?_, setRow_heap w b ys.toArray _ _ _ hb, ?_⟩
 ·unfold Instr.storeAt
  rw [Sem.run_bind, hs]
  simp only [Result.andThen_ok]
  unfold storeVar
  rw [Sem.run_bind, hS]
  simp only [Result.andThen_ok]
  rw [if_neg (by show ¬ ((Value.agg xs.toArray).cells.size ≠ n); simp [Value.cells, hn])]
  have : (Value.agg xs.toArray).cells.toList = xs := by simp [Value.cells]
  rw [this]
  exact hst
 ·exact ⟨rfl, rfl, rfl, by simp [World.setRow], fun k hk hn => setRow_other w b k _ (by simpa using hn)⟩
theorem LiesAt.part {w : World} {g o k n : Nat} {xs ys : List Value} (h : LiesAt w g o xs) (hy : (xs.drop k).take n = ys) : LiesAt w g (o + k) ys := fun j u hj => by
 rw [← hy, List.getElem?_take] at hj
 split at hj
 ·rw [List.getElem?_drop] at hj
  have := h (k + j) u hj
  rwa [← Nat.add_assoc] at this
 ·cases hj
theorem agg94 : ∀ w, (isAgg 99).run Tryz.prog w = .ok true w := fun w => by kernel_rfl
theorem size94 : ∀ w, (sizeOf 99).run Tryz.prog w = .ok 16 w := fun w => by kernel_rfl
theorem agg90 : ∀ w, (isAgg 95).run Tryz.prog w = .ok true w := fun w => by kernel_rfl
theorem size90 : ∀ w, (sizeOf 95).run Tryz.prog w = .ok 7 w := fun w => by kernel_rfl
abbrev Sli := Option Addr × Nat × Nat
def slv (s : Sli) : Value := .slice s.1 s.2.1 s.2.2
def RowV (w : World) (v : Value) (n sz : Nat) (xs : List Value) : Prop :=
 xs.length = n * sz ∧ ((n = 0 ∧ ∃ a c, v = .slice a 0 c) ∨ ∃ g off c, v = .slice (some ⟨g, off, none⟩) n c ∧ g < w.heap.size ∧ ∀ j u, xs[j]? = some u → w.cell? ⟨g, off + j, none⟩ = some u)
section
variable {w w' : World} {v : Value} {n sz : Nat} {xs : List Value}
theorem RowV.keep {S : List Nat} (h : RowV w v n sz xs) (f : Fr S w w') (hS : ∀ x ∈ S, w.heap.size ≤ x) : RowV w' v n sz xs := by
 refine ⟨h.1, h.2.imp id ?_⟩
 rintro ⟨g, off, c, rfl, h1, h2⟩
 exact ⟨g, off, c, rfl, Nat.lt_of_lt_of_le h1 f.size, fun j u hj => f.keep (h2 j u hj) (fun hm => by have := hS g hm; omega)⟩
theorem RowV.new (h : RowV w v n sz xs) (f : Fr [] w w') : RowV w' v n sz xs := h.keep f (fun x hx => by cases hx)
theorem RowV.not {S : List Nat} (h : RowV w v n sz xs) (f : Fr S w w') (hS : ∀ g, v.ownBlock = some g → g ∉ S) : RowV w' v n sz xs := by
 refine ⟨h.1, h.2.imp id ?_⟩
 rintro ⟨g, off, c, rfl, h1, h2⟩
 exact ⟨g, off, c, rfl, Nat.lt_of_lt_of_le h1 f.size, fun j u hj => f.keep (h2 j u hj) (hS g rfl)⟩
theorem RowV.val (h : RowV w v n sz xs) : ∃ a c, v = .slice a n c := by
 rcases h.2 with ⟨rfl, a, c, rfl⟩ | ⟨g, off, c, rfl, _, _⟩
 ·exact ⟨a, c, rfl⟩
 ·exact ⟨_, c, rfl⟩
theorem RowV.sli (h : RowV w v n sz xs) : ∃ s : Sli, v = slv s ∧ s.2.1 = n := by
 obtain ⟨a, c, rfl⟩ := h.val
 exact ⟨(a, n, c), rfl, rfl⟩
theorem RowV.nil (w : World) (sz : Nat) (a : Option Addr) (c : Nat) : RowV w (.slice a 0 c) 0 sz [] := ⟨by simp, .inl ⟨rfl, a, c, rfl⟩⟩
theorem RowV.at (h : RowV w v n sz xs) {i : Nat} (hi : i < n) : ∃ g off c, v = .slice (some ⟨g, off, none⟩) n c ∧ g < w.heap.size ∧ LiesAt w g (off + i * sz) ((xs.drop (i * sz)).take sz) := by
 rcases h.2 with ⟨rfl, _⟩ | ⟨g, off, c, rfl, h1, h2⟩
 ·omega
 ·refine ⟨g, off, c, rfl, h1, fun j u hj => ?_⟩
  rw [List.getElem?_take] at hj
  split at hj
  ·rw [List.getElem?_drop] at hj
   have := h2 _ u hj
   rwa [← Nat.add_assoc] at this
  ·cases hj
theorem RowV.of_own {base : Nat} {e : TypeId} (h : w.ownsRow base e sz v n xs) : RowV w v n sz xs := by
 refine ⟨h.1, ?_⟩
 rcases h.2 with ⟨rfl, rfl⟩ | ⟨g, cap, cur, rfl, hb, hg, _⟩
 ·exact .inl ⟨rfl, _, _, rfl⟩
 ·refine .inr ⟨g, 0, cap, rfl, (Array.getElem?_eq_some_iff.1 hg).1, fun j u hj => ?_⟩
  have := World.ownsRow.cells h (g := g) rfl j u hj
  rwa [Addr.add_lit] at this
theorem RowV.part {i k : Nat} (h : RowV w v n sz xs) (hik : i + k ≤ n) : ∀ (a : Option Addr) (c c' : Nat), v = .slice a n c → (∀ g off, a = some ⟨g, off, none⟩ → RowV w (.slice (some ⟨g, off + i * sz, none⟩) k c') k sz ((xs.drop (i * sz)).take (k * sz))) := by
 rintro a c c' rfl g off rfl
 refine ⟨?_, ?_⟩
 ·rw [List.length_take, List.length_drop, h.1, Nat.min_eq_left]
  have : i * sz + k * sz ≤ n * sz := by rw [← Nat.add_mul]; exact Nat.mul_le_mul_right _ hik
  omega
 ·rcases h.2 with ⟨rfl, a', c1, he⟩ | ⟨g', off', c1, he, h1, h2⟩
  ·obtain rfl : k = 0 := by omega
   exact .inl ⟨rfl, _, _, rfl⟩
  ·cases he
   refine .inr ⟨g, _, _, rfl, h1, fun j u hj => ?_⟩
   rw [List.getElem?_take] at hj
   split at hj
   ·rw [List.getElem?_drop] at hj
    have := h2 _ u hj
    rwa [← Nat.add_assoc] at this
   ·cases hj
end
theorem rowFr' {S : List Nat} {w w' : World} {base : Nat} {e : TypeId} {size : Nat} {v : Value} {n : Nat} {xs : List Value} (h : w.ownsRow base e size v n xs) (hf : Fr S w w') (hS : ∀ g, v.ownBlock = some g → g ∉ S) : w'.ownsRow base e size v n xs := by
 refine ⟨h.1, h.2.imp id ?_⟩
 rintro ⟨g, cap, cur, rfl, h2, h3, h4⟩
 exact ⟨g, cap, cur, rfl, h2, (hf.block g (Array.getElem?_eq_some_iff.1 h3).1 (hS g rfl)).trans h3, h4⟩
theorem rowNew {w w' : World} {base : Nat} {e : TypeId} {size : Nat} {v : Value} {n : Nat} {xs : List Value} (h : w.ownsRow base e size v n xs) (hf : Fr [] w w') : w'.ownsRow base e size v n xs := rowFr' h hf (fun g _ hm => by cases hm)
theorem rowBase {w : World} {base base' : Nat} {e : TypeId} {size : Nat} {v : Value} {n : Nat} {xs : List Value} (h : w.ownsRow base e size v n xs) (hb : base' ≤ base) : w.ownsRow base' e size v n xs := by
 refine ⟨h.1, h.2.imp id ?_⟩
 rintro ⟨g, cap, cur, rfl, h2, h3⟩
 exact ⟨g, cap, cur, rfl, Nat.le_trans hb h2, h3⟩
theorem rowApart {w : World} {base base' : Nat} {e e' : TypeId} {size size' : Nat} {v v' : Value} {n n' : Nat} {xs xs' : List Value} (h : w.ownsRow base e size v n xs) (h' : w.ownsRow base' e' size' v' n' xs') (hne : e ≠ e') : ∀ g, v'.ownBlock = some g → v.ownBlock ≠ some g := by
 intro g hg hm
 rcases h.2 with ⟨rfl, _⟩ | ⟨g1, cap, cur, rfl, h2, h3, h4⟩
 ·simp [Value.ownBlock] at hm
 ·rcases h'.2 with ⟨rfl, _⟩ | ⟨g2, cap', cur', rfl, h2', h3', h4'⟩
  ·simp [Value.ownBlock] at hg
  ·simp [Value.ownBlock] at hg hm
   subst hg
   subst hm
   rw [h3] at h3'
   simp only [Option.some.injEq, Obj.cells.injEq] at h3'
   exact hne h3'.2.1
theorem grownFr' {w w' : World} {row : Option Nat} (h : w.grownBy w' row) : Fr row.toList w w' :=
 ⟨h.os, h.tape, h.output, h.size, fun k hk hn => h.block k hk (fun e => hn (by simp [← e]))⟩
section
variable {P : Program}
theorem run_append_any (w : World) (base : Nat) (t ty e : TypeId) (i : TypeInfo) (z : Value) (size bytes : Nat) (ht : P.underlying t = some (.slice e)) (hi : P.info? e = some i) (hz : i.zero = some z)
  (hsize : i.size = size) (hby : i.bytes = bytes) (hzs : z.cells.size = size) (hsz : 0 < size)
  (v : Value) (n : Nat) (xs : List Value) (hown : w.ownsRow base e size v n xs)
  (x : Value) (m : Nat) (news : List Value) (hx : RowV w x m size news) (h1 : ∀ u ∈ news, u.oneCell' = true)
  (h63 : n + m ≤ maxLen) (hbytes : (n + m) * bytes ≤ 140737488355328) (hbase : base ≤ w.heap.size) :
  ∃ v' w', (Builtin.append_ #[t, t] ty #[v, x]).run P w = .ok v' w' ∧ w'.ownsRow base e size v' (n + m) (xs ++ news) ∧ w.grownBy w' v.ownBlock := by
 rcases hx with ⟨hl, ⟨rfl, a, c, rfl⟩ | ⟨g, off, c, rfl, hg, hc⟩⟩
 ·obtain rfl : news = [] := List.eq_nil_of_length_eq_zero (by simpa using hl)
  cases a with
  | none =>
   refine ⟨v, w, ?_, by simpa using hown, ⟨rfl, rfl, rfl, Nat.le_refl _, fun _ _ _ => rfl⟩⟩
   rcases hown.2 with ⟨rfl, rfl⟩ | ⟨g, cap, cur, rfl, _, _, hnc, _⟩
   ·simp [Builtin.append_, run_underlying ht, sizeOf, typeInfo, hi, Builtin.lenOf, Builtin.firstCells]
   ·simp [Builtin.append_, run_underlying ht, sizeOf, typeInfo, hi, Builtin.lenOf, Builtin.firstCells, hnc, storeCells]
  | some ad =>
   obtain ⟨v', w', hr, h2, h3, _⟩ := run_append_own (P := P) w base t ty e i z size bytes ht hi hz hsize hby hzs hsz v n xs hown ad 0 c [] (by simp) (fun j u hj => by simp at hj) (fun u hu => by cases hu) h63 hbytes hbase
   exact ⟨v', w', hr, h2, h3⟩
 ·obtain ⟨v', w', hr, h2, h3, _⟩ := run_append_own (P := P) w base t ty e i z size bytes ht hi hz hsize hby hzs hsz v n xs hown ⟨g, off, none⟩ m c news hl (fun j u hj => by rw [Addr.add_lit]; exact hc j u hj) h1 h63 hbytes hbase
  exact ⟨v', w', hr, h2, h3⟩
theorem run_append_cap (w : World) (t ty e : TypeId) (i : TypeInfo) (z : Value) (size bytes : Nat) (ht : P.underlying t = some (.slice e)) (hi : P.info? e = some i) (hz : i.zero = some z)
  (hsize : i.size = size) (hby : i.bytes = bytes) (hzs : z.cells.size = size) (hsz : 0 < size)
  (a0 : Option Addr) (n : Nat) (xs : List Value) (hrow : RowV w (.slice a0 n n) n size xs)
  (x : Value) (m : Nat) (news : List Value) (hx : RowV w x m size news) (hm : 0 < m)
  (h63 : n + m ≤ maxLen) (hbytes : (n + m) * bytes ≤ 140737488355328) :
  ∃ v' w', (Builtin.append_ #[t, t] ty #[.slice a0 n n, x]).run P w = .ok v' w' ∧ w'.ownsRow w.heap.size e size v' (n + m) (xs ++ news) ∧ w.grownBy w' none := by
 subst hsize
 subst hby
 have hsmall : n + m ≤ 9223372036854775807 := by simp only [maxLen] at h63; omega
 obtain ⟨hl, hx⟩ := hx
 rcases hx with ⟨rfl, _⟩ | ⟨g, off, c, rfl, hg, hc⟩
 ·omega
 have hlen : (xs ++ news).length = (n + m) * i.size := by rw [List.length_append, hrow.1, hl, Nat.add_mul]
 have grown : ∀ (old : Nat), old < n + m →
   (w.drew.alloc (.cells (xs.toArray ++ news.toArray ++ Builtin.zeroCells z.cells (grownCap w (n + m) old e - (n + m))) e)).ownsRow w.heap.size e i.size
    (.slice (some ⟨w.heap.size, 0, none⟩) (n + m) (grownCap w (n + m) old e)) (n + m) (xs ++ news) ∧
   w.grownBy (w.drew.alloc (.cells (xs.toArray ++ news.toArray ++ Builtin.zeroCells z.cells (grownCap w (n + m) old e - (n + m))) e)) none := by
  intro old ho
  have hge := grownCap_ge w (n + m) old e
  have hcm : grownCap w (n + m) old e ≤ maxLen := grownCap_le_maxLen w (n + m) old e h63
  refine ⟨⟨hlen, .inr ⟨w.heap.size, _, _, rfl, Nat.le_refl _, heap_alloc_new w.drew _, hge, hcm, ?_, ?_⟩⟩, ⟨rfl, rfl, rfl, by simp, fun k hk _ => heap_alloc_old w.drew _ hk⟩⟩
  ·simp only [Array.size_append, List.size_toArray, size_zeroCells, hzs, hrow.1, hl, ← Nat.add_mul]
   congr 1
   omega
  ·simp only [Array.toList_append, List.append_assoc]
   rw [← List.append_assoc, ← hlen]
   exact List.take_left
 have hnews : ∀ j u, news[j]? = some u → w.cell? ((⟨g, off, none⟩ : Addr).add j) = some u := fun j u hj => by rw [Addr.add_lit]; exact hc j u hj
 rcases hrow.2 with ⟨rfl, a, c', he⟩ | ⟨g', off', c', he, hg', hc'⟩
 ·cases he
  obtain rfl : xs = [] := List.eq_nil_of_length_eq_zero (by simpa using hrow.1)
  cases a0 with
  | none =>
   have hr := run_append_nil (P := P) w t ty e i z ht hi hz ⟨g, off, none⟩ m c news hl hnews (by omega) (by omega) (by have hb := hbytes; simp only [Nat.zero_add] at hb; omega)
   have hgr := grown 0 (by omega)
   simp only [Nat.zero_add, List.nil_append, Array.empty_append] at hgr ⊢
   exact ⟨_, _, hr, hgr.1, hgr.2⟩
  | some ad =>
   have hr := run_append_grow (P := P) w t ty e i z ht hi hz ad 0 0 [] (by simp) (fun j u hj => by simp at hj) ⟨g, off, none⟩ m c news hl hnews (by omega) (by omega) (growslice_fits (by omega) hbytes)
   have hgr := grown 0 (by omega)
   exact ⟨_, _, hr, hgr.1, hgr.2⟩
 ·cases he
  have hr := run_append_grow (P := P) w t ty e i z ht hi hz ⟨g', off', none⟩ n n xs hrow.1 (fun j u hj => by rw [Addr.add_lit]; exact hc' j u hj) ⟨g, off, none⟩ m c news hl hnews (by omega) (by omega) (growslice_fits (by omega) hbytes)
  have hgr := grown n (by omega)
  exact ⟨_, _, hr, hgr.1, hgr.2⟩
end
structure Elem (P : Program) (t e : TypeId) (size bytes : Nat) : Prop where
 ht : P.underlying t = some (.slice e)
 hi : ∃ i z, P.info? e = some i ∧ i.zero = some z ∧ i.size = size ∧ i.bytes = bytes ∧ z.cells.size = size
 pos : 0 < size
theorem Elem.mk' {P : Program} {t e : TypeId} {z : Value} {size bytes : Nat} (ht : P.underlying t = some (.slice e)) (h : (P.info? e).map (fun i => (i.zero, i.size, i.bytes)) = some (some z, size, bytes)) (hz : z.cells.size = size) (hp : 0 < size) : Elem P t e size bytes := by
 obtain ⟨i, h1, h2, h3, h4⟩ := info_parts h
 exact ⟨ht, ⟨i, z, h1, h2, h3, h4, hz⟩, hp⟩
theorem elemU8 : Elem Tryz.prog 93 5 1 1 := Elem.mk' Tryz.underlying93 (z := .int .u8 0) (by kernel_rfl) rfl (by decide)
theorem elemInt : Elem Tryz.prog 64 3 1 8 := Elem.mk' Tryz.underlying64 (z := .int .i64 0) (by kernel_rfl) rfl (by decide)
theorem elemConn : Elem Tryz.prog 29 138 17 192 := Elem.mk' Tryz.underlying29 (z := .agg #[.int .i64 0, .int .i64 0, .slice none 0 0, .bool false, .slice none 0 0, .int .i64 0, .int .i64 0, .int .i64 0, .int .i64 0, .slice none 0 0, .bool false, .slice none 0 0, .int .i64 0, .int .i64 0, .int .i64 0, .bool false, .bool false]) (by kernel_rfl) rfl (by decide)
theorem elemLis : Elem Tryz.prog 28 122 5 64 := Elem.mk' Tryz.underlying28 (z := .agg #[.int .i64 0, .string ⟨#[]⟩, .int .i64 0, .int .i64 0, .slice none 0 0]) (by kernel_rfl) rfl (by decide)
section
variable {P : Program} {ops : Array Oper} {rest : List Oper} {o : Oper} {a : Act} {w : World} {Q : Exit → Act → World → Prop}
theorem wp_append_any {K : Act → World → Prop} {t e : TypeId} {size bytes : Nat} (E : Elem P t e size bytes) (s x : Operand)
  (ho : o.op = .call { callee := .builtin .append, args := #[s, x], argTypes := #[t, t] }) (base : Nat)
  {v : Value} {n : Nat} {xs : List Value} (hs : a.eval s = v) (hown : w.ownsRow base e size v n xs)
  {X : Value} {m : Nat} {news : List Value} (hX : a.eval x = X) (hx : RowV w X m size news) (h1 : ∀ u ∈ news, u.oneCell' = true)
  (h63 : n + m ≤ 1000000) (hb : bytes ≤ 1000) (hbase : base ≤ w.heap.size)
  (h : ∀ s' w', w'.ownsRow base e size (slv s') (n + m) (xs ++ news) → Fr v.ownBlock.toList w w' → K (a.put o.dst (slv s')) w') : o.wp P a w K Q := by
 obtain ⟨i, z, hi, hz, h2, h3, h4⟩ := E.hi
 have hbb : (n + m) * bytes ≤ 1000000 * 1000 := Nat.mul_le_mul h63 hb
 obtain ⟨v', w', hrun, ho2, hg⟩ := run_append_any (P := P) w base t o.type e i z size bytes E.ht hi hz h2 h3 h4 E.pos v n xs hown X m news hx h1 (by simp only [maxLen]; omega) (by omega) hbase
 obtain ⟨s', rfl, _⟩ := (RowV.of_own ho2).sli
 unfold Oper.wp
 simp [execOp, ho, resolve, invoke, builtin, hs, hX, hrun, Result.andThen]
 exact h s' w' ho2 (grownFr' hg)
theorem wpList_append_any {t e : TypeId} {size bytes : Nat} (E : Elem P t e size bytes) (hgd : o.guard = none) (s x : Operand)
  (ho : o.op = .call { callee := .builtin .append, args := #[s, x], argTypes := #[t, t] }) (base : Nat)
  {v : Value} {n : Nat} {xs : List Value} (hs : a.eval s = v) (hown : w.ownsRow base e size v n xs)
  {X : Value} {m : Nat} {news : List Value} (hX : a.eval x = X) (hx : RowV w X m size news) (h1 : ∀ u ∈ news, u.oneCell' = true)
  (h63 : n + m ≤ 1000000) (hb : bytes ≤ 1000) (hbase : base ≤ w.heap.size)
  (h : ∀ s' w', w'.ownsRow base e size (slv s') (n + m) (xs ++ news) → Fr v.ownBlock.toList w w' → wpList P ops Q rest (a.put o.dst (slv s')) w') : wpList P ops Q (o :: rest) a w :=
 wpList_plain hgd fun K hK => wp_append_any E s x ho base hs hown hX hx h1 h63 hb hbase fun s' w' h2 h3 => hK _ _ (h s' w' h2 h3)
theorem wp_append_cap {K : Act → World → Prop} {t e : TypeId} {size bytes : Nat} (E : Elem P t e size bytes) (s x : Operand)
  (ho : o.op = .call { callee := .builtin .append, args := #[s, x], argTypes := #[t, t] })
  {a0 : Option Addr} {n : Nat} {xs : List Value} (hs : a.eval s = .slice a0 n n) (hrow : RowV w (.slice a0 n n) n size xs)
  {X : Value} {m : Nat} {news : List Value} (hX : a.eval x = X) (hx : RowV w X m size news) (hm : 0 < m)
  (h63 : n + m ≤ 1000000) (hb : bytes ≤ 1000)
  (h : ∀ s' w', w'.ownsRow w.heap.size e size (slv s') (n + m) (xs ++ news) → Fr [] w w' → K (a.put o.dst (slv s')) w') : o.wp P a w K Q := by
 obtain ⟨i, z, hi, hz, h2, h3, h4⟩ := E.hi
 have hbb : (n + m) * bytes ≤ 1000000 * 1000 := Nat.mul_le_mul h63 hb
 obtain ⟨v', w', hrun, ho2, hg⟩ := run_append_cap (P := P) w t o.type e i z size bytes E.ht hi hz h2 h3 h4 E.pos a0 n xs hrow X m news hx hm (by simp only [maxLen]; omega) (by omega)
 obtain ⟨s', rfl, _⟩ := (RowV.of_own ho2).sli
 unfold Oper.wp
 simp [execOp, ho, resolve, invoke, builtin, hs, hX, hrun, Result.andThen]
 exact h s' w' ho2 (grownFr' hg)
theorem wpList_append_cap {t e : TypeId} {size bytes : Nat} (E : Elem P t e size bytes) (hgd : o.guard = none) (s x : Operand)
  (ho : o.op = .call { callee := .builtin .append, args := #[s, x], argTypes := #[t, t] })
  {a0 : Option Addr} {n : Nat} {xs : List Value} (hs : a.eval s = .slice a0 n n) (hrow : RowV w (.slice a0 n n) n size xs)
  {X : Value} {m : Nat} {news : List Value} (hX : a.eval x = X) (hx : RowV w X m size news) (hm : 0 < m)
  (h63 : n + m ≤ 1000000) (hb : bytes ≤ 1000)
  (h : ∀ s' w', w'.ownsRow w.heap.size e size (slv s') (n + m) (xs ++ news) → Fr [] w w' → wpList P ops Q rest (a.put o.dst (slv s')) w') : wpList P ops Q (o :: rest) a w := by
 obtain ⟨i, z, hi, hz, h2, h3, h4⟩ := E.hi
 have hbb : (n + m) * bytes ≤ 1000000 * 1000 := Nat.mul_le_mul h63 hb
 obtain ⟨v', w', hrun, ho2, hg⟩ := run_append_cap (P := P) w t o.type e i z size bytes E.ht hi hz h2 h3 h4 E.pos a0 n xs hrow X m news hx hm (by simp only [maxLen]; omega) (by omega)
 obtain ⟨s', rfl, _⟩ := (RowV.of_own ho2).sli
 refine wpList_plain hgd fun K hK => ?_
 unfold Oper.wp
 simp [execOp, ho, resolve, invoke, builtin, hs, hX, hrun, Result.andThen]
 exact hK _ _ (h s' w' ho2 (grownFr' hg))
end
set_option maxHeartbeats 8000000
def stV (c w r : Int) : Value := .agg #[.int .i64 c, .slice none 0 0, .bool false, .slice none 0 0, .int .i64 0, .int .i64 w, .int .i64 r]
def wrE (a : Bool) : Int := if a = true then 13 else 0
def rdE (a : Bool) : Int := if a = true then 14 else 0
def cnV (c w0 r0 w1 r1 : Int) (a0 a1 : Bool) : Value := .agg #[.int .i64 c, .slice none 0 0, .bool false, .slice none 0 0, .int .i64 0, .int .i64 w0, .int .i64 r0, .int .i64 c, .slice none 0 0, .bool false, .slice none 0 0, .int .i64 0, .int .i64 w1, .int .i64 r1, .bool a0, .bool a1]
theorem stNew_any (c : Int) (w : World) :
  Calls Tryz.prog 74 #[.int .i64 c] w fun e w' => e = .returned (.tuple #[if 0 ≤ c ∧ c ≤ 4096 then stV c 0 0 else stV 0 0 0, .int .i64 (if 0 ≤ c ∧ c ≤ 4096 then 0 else 2)]) ∧ Fr [] w w' := by
 by_cases h0 : c < 0
 ·have d0 : decide (c < 0) = true := decide_eq_true h0
  have hn : ¬ (0 ≤ c ∧ c ≤ 4096) := by omega
  rw [if_neg hn, if_neg hn]
  clear hn
  unfold stV
  go_enter Tryz.func74, Tryz.ntmps74
  go_wp2
  refine bodyPost_ret (v := .tuple #[.agg #[.int .i64 0, .slice none 0 0, .bool false, .slice none 0 0, .int .i64 0, .int .i64 0, .int .i64 0], .int .i64 2]) (by simp [results, Tryz.results74, go_sem]) rfl ?_
  exact ⟨rfl, (Fr.refl [] w).alloc _⟩
 ·have d0 : decide (c < 0) = false := decide_eq_false h0
  by_cases h1 : 4096 < c
  ·have d1 : decide (4096 < c) = true := decide_eq_true h1
   have hn : ¬ (0 ≤ c ∧ c ≤ 4096) := by omega
   rw [if_neg hn, if_neg hn]
   clear hn
   unfold stV
   go_enter Tryz.func74, Tryz.ntmps74
   go_wp2
   refine bodyPost_ret (v := .tuple #[.agg #[.int .i64 0, .slice none 0 0, .bool false, .slice none 0 0, .int .i64 0, .int .i64 0, .int .i64 0], .int .i64 2]) (by simp [results, Tryz.results74, go_sem]) rfl ?_
   exact ⟨rfl, (Fr.refl [] w).alloc _⟩
  ·have d1 : decide (4096 < c) = false := decide_eq_false h1
   have hn : 0 ≤ c ∧ c ≤ 4096 := by omega
   rw [if_pos hn, if_pos hn]
   clear hn
   unfold stV
   go_enter Tryz.func74, Tryz.ntmps74
   go_wp2
   refine bodyPost_ret (v := .tuple #[.agg #[.int .i64 c, .slice none 0 0, .bool false, .slice none 0 0, .int .i64 0, .int .i64 0, .int .i64 0], .int .i64 0]) (by simp [results, Tryz.results74, go_sem]) rfl ?_
   exact ⟨rfl, (Fr.refl [] w).alloc _⟩
end Go.Proofs.YtgbmenfmaphciaaGreat
