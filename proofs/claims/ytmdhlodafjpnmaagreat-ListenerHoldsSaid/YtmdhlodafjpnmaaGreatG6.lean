/- The reference's connections in memory, with their bytes: a direction closed. -/
/- The reference's connections in memory, with their bytes: an end closed. -/
/- Rows of structs in memory: lists of records, each with its cells; structs built. -/
import Derived.Test.YtmdhlodafjpnmaaGreatG3
import Derived.Test.YtmdhlodafjpnmaaGreatBP3
namespace Go.Proofs.YtmdhlodafjpnmaaGreat
open Go.RowKit
set_option linter.unusedVariables false
set_option linter.unusedSimpArgs false
set_option maxRecDepth 100000
set_option maxHeartbeats 8000000

def CC.closeW (x : CC) (e : Bool) : CC × Int := if e then ({ x with s1 := (x.s1.closeW 13).1 }, (x.s1.closeW 13).2) else ({ x with s0 := (x.s0.closeW 13).1 }, (x.s0.closeW 13).2)
def CC.closeR (x : CC) (e : Bool) : CC × Int := if e then ({ x with s0 := (x.s0.closeR 14).1 }, (x.s0.closeR 14).2) else ({ x with s1 := (x.s1.closeR 14).1 }, (x.s1.closeR 14).2)
/-- The slices behind closeR. -/
def CC.closeRq (x : CC) (q : Q4) (e : Bool) : Q4 := if e then { q with b0 := x.s0.closeRb q.b0 } else { q with b1 := x.s1.closeRb q.b1 }
end Go.Proofs.YtmdhlodafjpnmaaGreat
namespace Go.Proofs.YtmdhlodafjpnmaaGreat
open Go.RowKit
set_option linter.unusedVariables false
set_option linter.unusedSimpArgs false
set_option maxRecDepth 100000
set_option maxHeartbeats 8000000

def CC.shut (x : CC) (e : Bool) : CC := if e then { x with a1 := true } else { x with a0 := true }
def CC.isShut (x : CC) (e : Bool) : Bool := if e then x.a1 else x.a0
def CC.close (x : CC) (e : Bool) : CC × Int := if x.isShut e = true then (x, 14) else ((((x.shut e).closeW e).1.closeR e).1, 0)
def CC.closeq (x : CC) (q : Q4) (e : Bool) : Q4 := if x.isShut e = true then q else ((x.shut e).closeW e).1.closeRq q e
end Go.Proofs.YtmdhlodafjpnmaaGreat
namespace Go.Proofs.YtmdhlodafjpnmaaGreat
open Go.RowKit
set_option linter.unusedVariables false
set_option linter.unusedSimpArgs false
set_option maxRecDepth 100000
set_option maxHeartbeats 8000000

theorem flat_at {sz : Nat} : ∀ {Xs : List (List Value)} {i : Nat} {X : List Value}, (∀ X ∈ Xs, X.length = sz) → Xs[i]? = some X → (Xs.flatten.drop (i * sz)).take sz = X
  | [], i, X, _, h => by simp at h
  | Y :: r, 0, X, hl, h => by
    simp only [List.getElem?_cons_zero, Option.some.injEq] at h
    subst h
    have h1 := hl Y List.mem_cons_self
    simp only [List.flatten_cons, Nat.zero_mul, List.drop_zero]
    rw [← h1, List.take_left]
  | Y :: r, i + 1, X, hl, h => by
    have h1 := hl Y List.mem_cons_self
    have h2 := flat_at (Xs := r) (i := i) (fun Y hY => hl Y (List.mem_cons_of_mem _ hY)) (by simpa using h)
    rw [List.flatten_cons, Nat.add_mul, Nat.one_mul, Nat.add_comm, ← List.drop_drop]
    rw [← h1, List.drop_left, h1]
    exact h2
section
variable {α : Type}
/-- Records' cells beside the list. -/
structure Recs (sz : Nat) (El : List Value → α → Prop) (Xs : List (List Value)) (D : List α) : Prop where
  len : Xs.length = D.length
  sz : ∀ X ∈ Xs, X.length = sz
  one : ∀ X ∈ Xs, ∀ u ∈ X, u.oneCell' = true
  el : ∀ (i : Nat) (X : List Value) (y : α), Xs[i]? = some X → D[i]? = some y → El X y
variable {sz : Nat} {El El' : List Value → α → Prop} {Xs : List (List Value)} {D : List α}
theorem Recs.nil : Recs sz El [] ([] : List α) := ⟨rfl, (fun X hX => by cases hX), (fun X hX => by cases hX), (fun i X y h => by simp at h)⟩
theorem Recs.mono (h : Recs sz El Xs D) (hm : ∀ X y, El X y → El' X y) : Recs sz El' Xs D := ⟨h.len, h.sz, h.one, fun i X y hX hy => hm _ _ (h.el i X y hX hy)⟩
theorem Recs.push (h : Recs sz El Xs D) {X : List Value} {y : α} (h1 : X.length = sz) (h2 : ∀ u ∈ X, u.oneCell' = true) (h3 : El X y) : Recs sz El (Xs ++ [X]) (D ++ [y]) := by
  refine ⟨by simp [h.len], ?_, ?_, ?_⟩
  · intro Y hY
    rcases List.mem_append.1 hY with hY | hY
    · exact h.sz Y hY
    · rw [List.mem_singleton] at hY
      rw [hY]
      exact h1
  · intro Y hY
    rcases List.mem_append.1 hY with hY | hY
    · exact h.one Y hY
    · rw [List.mem_singleton] at hY
      rw [hY]
      exact h2
  · intro i Y z hY hz
    rcases Nat.lt_trichotomy i Xs.length with hi | hi | hi
    · rw [List.getElem?_append_left hi] at hY
      rw [List.getElem?_append_left (by rw [← h.len]; exact hi)] at hz
      exact h.el i Y z hY hz
    · subst hi
      rw [h.len] at hz
      simp at hY hz
      rw [← hY, ← hz]
      exact h3
    · rw [List.getElem?_eq_none (by simp; omega)] at hY
      cases hY
theorem Recs.take (h : Recs sz El Xs D) (k : Nat) : Recs sz El (Xs.take k) (D.take k) := by
  refine ⟨by simp [h.len], fun X hX => h.sz X (List.mem_of_mem_take hX), fun X hX => h.one X (List.mem_of_mem_take hX), fun i X y hX hy => ?_⟩
  rw [List.getElem?_take] at hX hy
  split at hX
  · rename_i hk
    rw [if_pos hk] at hy
    exact h.el i X y hX hy
  · cases hX
theorem Recs.drop (h : Recs sz El Xs D) (k : Nat) : Recs sz El (Xs.drop k) (D.drop k) := by
  refine ⟨by simp [h.len], fun X hX => h.sz X (List.mem_of_mem_drop hX), fun X hX => h.one X (List.mem_of_mem_drop hX), fun i X y hX hy => ?_⟩
  rw [List.getElem?_drop] at hX hy
  exact h.el _ X y hX hy
theorem Recs.set (h : Recs sz El Xs D) (i : Nat) {X : List Value} {y : α} (h1 : X.length = sz) (h2 : ∀ u ∈ X, u.oneCell' = true) (h3 : El X y) : Recs sz El (Xs.set i X) (D.set i y) := by
  refine ⟨by simp [h.len], ?_, ?_, ?_⟩
  · intro Y hY
    rcases List.mem_or_eq_of_mem_set hY with hY | rfl
    · exact h.sz Y hY
    · exact h1
  · intro Y hY
    rcases List.mem_or_eq_of_mem_set hY with hY | rfl
    · exact h.one Y hY
    · exact h2
  · intro j Y z hY hz
    by_cases hij : i = j
    · subst hij
      rw [List.getElem?_set] at hY hz
      simp only [if_true] at hY hz
      split at hY
      · split at hz
        · cases hY
          cases hz
          exact h3
        · cases hz
      · cases hY
    · rw [List.getElem?_set_ne hij] at hY hz
      exact h.el j Y z hY hz
end

/-- A row of structs that can be read. -/
def RowR {α : Type} (sz : Nat) (El : World → List Value → α → Prop) (w : World) (v : Value) (D : List α) : Prop := ∃ Xs, Recs sz (El w) Xs D ∧ RowV w v D.length sz Xs.flatten
/-- .. of one's own. -/
def RowO {α : Type} (e : TypeId) (sz : Nat) (El : World → List Value → α → Prop) (w : World) (B : Nat) (v : Value) (D : List α) : Prop := ∃ Xs, Recs sz (El w) Xs D ∧ w.ownsRow B e sz v D.length Xs.flatten
section
variable {α : Type} {sz : Nat} {El : World → List Value → α → Prop} {w w' : World} {v : Value} {D : List α}
theorem RowR.val (h : RowR sz El w v D) : ∃ a c, v = .slice a D.length c := by
  obtain ⟨Xs, _, h2⟩ := h
  exact h2.val
theorem RowR.new (h : RowR sz El w v D) (hEl : ∀ X y, El w X y → El w' X y) (f : Fr [] w w') : RowR sz El w' v D := by
  obtain ⟨Xs, h1, h2⟩ := h
  exact ⟨Xs, h1.mono hEl, h2.new f⟩
theorem RowR.lies (h : RowR sz El w v D) {i : Nat} {y : α} (hy : D[i]? = some y) : ∃ g off c X, v = .slice (some ⟨g, off, none⟩) D.length c ∧ g < w.heap.size ∧ X.length = sz ∧ LiesAt w g (off + i * sz) X ∧ El w X y := by
  obtain ⟨Xs, h1, h2⟩ := h
  have hi := (List.getElem?_eq_some_iff.1 hy).1
  have hX := List.getElem?_eq_getElem (l := Xs) (i := i) (by rw [h1.len]; exact hi)
  obtain ⟨g, off, c, rfl, hg, hl⟩ := h2.at hi
  rw [flat_at h1.sz hX] at hl
  exact ⟨g, off, c, _, rfl, hg, h1.sz _ (List.getElem_mem _), hl, h1.el i _ y hX hy⟩
theorem RowR.nil (w : World) (a : Option Addr) (c : Nat) : RowR sz El w (.slice a 0 c) ([] : List α) := ⟨[], Recs.nil, RowV.nil w sz a c⟩
end

/-- A listener's cells. -/
def lsC (x : PN.PL) (q : Sli) : List Value := [.int .i64 x.ref, .string x.s, .int .i64 x.p, .int .i64 x.most, .slice q.1 q.2.1 q.2.2]
theorem lsC_one (x : PN.PL) (q : Sli) : ∀ u ∈ lsC x q, u.oneCell' = true := by
  intro u hu
  simp only [lsC, List.mem_cons, List.not_mem_nil, or_false] at hu
  rcases hu with rfl | rfl | rfl | rfl | rfl <;> rfl
def intsV (l : List Int) : List Value := l.map (Value.int .i64)
/-- A connection with its number. -/
structure PG where
  ref : Nat
  c : CC
def pgC (y : PG) (q : Q4) : List Value := .int .i64 y.ref :: cnC y.c q
theorem pgC_one (y : PG) (q : Q4) : ∀ u ∈ pgC y q, u.oneCell' = true := by
  intro u hu
  rcases List.mem_cons.1 hu with rfl | hu
  · rfl
  · exact cnC_one _ _ u hu
def ElL (w : World) (X : List Value) (y : PN.PL) : Prop := ∃ q : Sli, X = lsC y q ∧ RowV w (slv q) y.l.length 1 (intsV y.l)
def ElC (w : World) (X : List Value) (y : PG) : Prop := ∃ q : Q4, X = pgC y q ∧ CnB w y.c q
def ElLO (B : Nat) (w : World) (X : List Value) (y : PN.PL) : Prop := ∃ q : Sli, X = lsC y q ∧ w.ownsRow B 3 1 (slv q) y.l.length (intsV y.l)
def ElCO (B : Nat) (w : World) (X : List Value) (y : PG) : Prop := ∃ q : Q4, X = pgC y q ∧ CnO w B y.c q
theorem ElL.new {w w' : World} {X : List Value} {y : PN.PL} (h : ElL w X y) (f : Fr [] w w') : ElL w' X y := by
  obtain ⟨q, h1, h2⟩ := h
  exact ⟨q, h1, h2.new f⟩
theorem ElC.new {w w' : World} {X : List Value} {y : PG} (h : ElC w X y) (f : Fr [] w w') : ElC w' X y := by
  obtain ⟨q, h1, h2⟩ := h
  exact ⟨q, h1, h2.new f⟩
theorem ElLO.el {B : Nat} {w : World} {X : List Value} {y : PN.PL} (h : ElLO B w X y) : ElL w X y := by
  obtain ⟨q, h1, h2⟩ := h
  exact ⟨q, h1, RowV.of_own h2⟩
theorem ElCO.el {B : Nat} {w : World} {X : List Value} {y : PG} (h : ElCO B w X y) : ElC w X y := by
  obtain ⟨q, h1, h2⟩ := h
  exact ⟨q, h1, h2.b⟩
abbrev LRow : World → Value → List PN.PL → Prop := RowR 5 ElL
abbrev CRow : World → Value → List PG → Prop := RowR 17 ElC
/-- The block of a listener's queue. -/
def qBlk (X : List Value) : Option Nat := (X[4]?).bind Value.ownBlock
def Sep (Xs : List (List Value)) : Prop := Xs.Pairwise fun X Y => ∀ g, qBlk X = some g → qBlk Y ≠ some g
def LOwn (w : World) (B : Nat) (v : Value) (D : List PN.PL) : Prop := ∃ Xs, Recs 5 (ElLO B w) Xs D ∧ w.ownsRow B 100 5 v D.length Xs.flatten ∧ Sep Xs
theorem Sep.ne {Xs : List (List Value)} (h : Sep Xs) {i j : Nat} {X Y : List Value} (hij : i ≠ j) (hX : Xs[i]? = some X) (hY : Xs[j]? = some Y) : ∀ g, qBlk X = some g → qBlk Y ≠ some g := by
  obtain ⟨hi, rfl⟩ := List.getElem?_eq_some_iff.1 hX
  obtain ⟨hj, rfl⟩ := List.getElem?_eq_some_iff.1 hY
  have hp := List.pairwise_iff_getElem.1 h
  rcases Nat.lt_or_gt_of_ne hij with hl | hl
  · exact hp i j hi hj hl
  · intro g h1 h2
    exact hp j i hj hi hl g h2 h1
abbrev COwn (w : World) (B : Nat) : Value → List PG → Prop := RowO 96 17 (ElCO B) w B
section
variable {w w' : World} {B : Nat} {v : Value} {D : List PN.PL} {C : List PG}
theorem LRow.next (h : LRow w v D) (f : Fr [] w w') : LRow w' v D := RowR.new h (fun X y h => ElL.new h f) f
theorem CRow.next (h : CRow w v C) (f : Fr [] w w') : CRow w' v C := RowR.new h (fun X y h => ElC.new h f) f
theorem LOwn.row (h : LOwn w B v D) : LRow w v D := by
  obtain ⟨Xs, h1, h2, _⟩ := h
  exact ⟨Xs, h1.mono (fun X y h => h.el), RowV.of_own h2⟩
theorem COwn.row (h : COwn w B v C) : CRow w v C := by
  obtain ⟨Xs, h1, h2⟩ := h
  exact ⟨Xs, h1.mono (fun X y h => h.el), RowV.of_own h2⟩
theorem LOwn.next (h : LOwn w B v D) (f : Fr [] w w') : LOwn w' B v D := by
  obtain ⟨Xs, h1, h2, h3⟩ := h
  exact ⟨Xs, h1.mono (fun X y ⟨q, e1, e2⟩ => ⟨q, e1, rowNew e2 f⟩), rowNew h2 f, h3⟩
theorem COwn.next (h : COwn w B v C) (f : Fr [] w w') : COwn w' B v C := by
  obtain ⟨Xs, h1, h2⟩ := h
  exact ⟨Xs, h1.mono (fun X y ⟨q, e1, e2⟩ => ⟨q, e1, e2.new f⟩), rowNew h2 f⟩
theorem LOwn.base {B' : Nat} (h : LOwn w B v D) (hb : B' ≤ B) : LOwn w B' v D := by
  obtain ⟨Xs, h1, h2, h3⟩ := h
  exact ⟨Xs, h1.mono (fun X y ⟨q, e1, e2⟩ => ⟨q, e1, rowBase e2 hb⟩), rowBase h2 hb, h3⟩
theorem COwn.base {B' : Nat} (h : COwn w B v C) (hb : B' ≤ B) : COwn w B' v C := by
  obtain ⟨Xs, h1, h2⟩ := h
  exact ⟨Xs, h1.mono (fun X y ⟨q, e1, e2⟩ => ⟨q, e1, e2.base hb⟩), rowBase h2 hb⟩
/-- A step that turns only a block of another kind. -/
theorem LOwn.far {b : Nat} {t : TypeId} {ys : List Value} (h : LOwn w B v D) (hb : Blk w b t ys) (f : Fr [b] w w') (h1 : t ≠ 100) (h2 : t ≠ 3) : LOwn w' B v D := by
  obtain ⟨Xs, r1, r2, r3⟩ := h
  exact ⟨Xs, r1.mono (fun X y ⟨q, e1, e2⟩ => ⟨q, e1, rowFr' e2 f (fun g hg hm => by rw [List.mem_singleton] at hm; subst hm; exact blkNe hb e2 h2 hg)⟩), rowFr' r2 f (fun g hg hm => by rw [List.mem_singleton] at hm; subst hm; exact blkNe hb r2 h1 hg), r3⟩
theorem COwn.far {b : Nat} {t : TypeId} {ys : List Value} (h : COwn w B v C) (hb : Blk w b t ys) (f : Fr [b] w w') (h1 : t ≠ 96) (h2 : t ≠ 5) : COwn w' B v C := by
  obtain ⟨Xs, r1, r2⟩ := h
  exact ⟨Xs, r1.mono (fun X y ⟨q, e1, e2⟩ => ⟨q, e1, e2.store hb f h2⟩), rowFr' r2 f (fun g hg hm => by rw [List.mem_singleton] at hm; subst hm; exact blkNe hb r2 h1 hg)⟩
theorem rowFar {w w' : World} {B B' n m sz sz' : Nat} {t e : TypeId} {v u : Value} {xs ys : List Value} (h : w.ownsRow B e sz v n xs) (hu : w.ownsRow B' t sz' u m ys) (f : Fr u.ownBlock.toList w w') (hne : t ≠ e) : w'.ownsRow B e sz v n xs :=
  rowFr' h f (fun g hg hm => by
    have : u.ownBlock = some g := by simpa using hm
    exact rowApart hu h hne g hg this)
theorem LOwn.farRow {B' n sz : Nat} {e : TypeId} {u : Value} {xs : List Value} (h : LOwn w B v D) (hu : w.ownsRow B' e sz u n xs) (f : Fr u.ownBlock.toList w w') (h1 : e ≠ 100) (h2 : e ≠ 3) : LOwn w' B v D := by
  obtain ⟨Xs, r1, r2, r3⟩ := h
  exact ⟨Xs, r1.mono (fun X y ⟨q, e1, e2⟩ => ⟨q, e1, rowFar e2 hu f h2⟩), rowFar r2 hu f h1, r3⟩
theorem COwn.farRow {B' n sz : Nat} {e : TypeId} {u : Value} {xs : List Value} (h : COwn w B v C) (hu : w.ownsRow B' e sz u n xs) (f : Fr u.ownBlock.toList w w') (h1 : e ≠ 96) (h2 : e ≠ 5) : COwn w' B v C := by
  obtain ⟨Xs, r1, r2⟩ := h
  exact ⟨Xs, r1.mono (fun X y ⟨q, e1, e2⟩ => ⟨q, e1, ⟨rowFar e2.b0 hu f h2, rowFar e2.r0 hu f h2, rowFar e2.b1 hu f h2, rowFar e2.r1 hu f h2⟩⟩), rowFar r2 hu f h1⟩
end
theorem agg96g : ∀ w, (isAgg 96).run Tryz.prog w = .ok true w := fun w => by kernel_rfl
theorem agg100 : ∀ w, (isAgg 100).run Tryz.prog w = .ok true w := fun w => by kernel_rfl
theorem size100 : ∀ w, (sizeOf 100).run Tryz.prog w = .ok 5 w := fun w => by kernel_rfl
section
variable {P : Program} {ops : Array Oper} {rest : List Oper} {o : Oper} {a : Act} {w w' : World} {Q : Exit → Act → World → Prop} {v : Value}
theorem exec_bsl {t : TypeId} {x : Operand} {V : Value} (ho : o.op = .buildSlice t 1 #[(0, x)]) (hx : a.eval x = V) (hrun : (Instr.buildSlice t 1 #[(0, V)]).run P w = .ok v w') : (execOp a.eval o).run P w = .ok (.value v) w' := by
  simp [execOp, ho, hx, hrun]
theorem exec_bld2 {t : TypeId} {x y : Operand} {V U : Value} (ho : o.op = .build t #[(0, x), (1, y)]) (hx : a.eval x = V) (hy : a.eval y = U) (hrun : (Instr.build t #[(0, V), (1, U)]).run P w = .ok v w') : (execOp a.eval o).run P w = .ok (.value v) w' := by
  simp [execOp, ho, hx, hy, hrun]
end
theorem bldConn (y : PG) (q : Q4) : ∀ w, (Instr.build 96 #[(0, .int .i64 y.ref), (1, .agg (cnC y.c q).toArray)]).run Tryz.prog w = .ok (.agg (pgC y q).toArray) w := fun w => by kernel_rfl
theorem bslConn (y : PG) (q : Q4) : ∀ w : World, (Instr.buildSlice 32 1 #[(0, .agg (pgC y q).toArray)]).run Tryz.prog w = .ok (.slice (some ⟨w.heap.size, 0, none⟩) 1 1) (w.alloc (.cells (pgC y q).toArray 96)) := fun w => by kernel_rfl
theorem bslLis (y : PN.PL) (q : Sli) : ∀ w : World, (Instr.buildSlice 31 1 #[(0, .agg (lsC y q).toArray)]).run Tryz.prog w = .ok (.slice (some ⟨w.heap.size, 0, none⟩) 1 1) (w.alloc (.cells (lsC y q).toArray 100)) := fun w => by kernel_rfl
end Go.Proofs.YtmdhlodafjpnmaaGreat
