/- Report: what tasks have done, in plain, and the map in which it is reckoned. -/
/- Report: OfTasks, walked. -/
import Derived.Test.YtllmejkcohfbiaaGreatDoorR22
import Derived.Test.YtllmejkcohfbiaaGreatDoorR18Tk
namespace Go.Proofs.YtllmejkcohfbiaaGreatDoor
open Go.RowKit Go.Shelf Go.Sort Go.Lib
set_option linter.unusedVariables false
set_option linter.unusedSimpArgs false
set_option maxRecDepth 100000
set_option maxHeartbeats 8000000

/-- Whether an event counts for its task. -/
def Ev.counts (v : Ev) : Bool := (v.kind == 1) || ((v.kind == 2) && (v.err == 0))
def upA (v : Ev) (x : Tk) : Tk := if (v.kind == 1) = true then (if (v.err == 0) = true then { x with calls := x.calls + 1 } else { x with refused := x.refused + 1 }) else { x with steps := x.steps + 1 }
def upB (v : Ev) (x : Tk) : Tk := { x with ended := x.ended + 1 }
def upC (v : Ev) (x : Tk) : Tk := if (v.eErr == 0) = true then x else { x with failed := x.failed + 1 }
def upD (v : Ev) (x : Tk) : Tk := if (v.eKind == 5) = true then { x with read := x.read + (v.eD.2.1 : Int) } else x
def upE (v : Ev) (x : Tk) : Tk := if ((v.eKind == 6) && (decide (0 ≤ v.eN) && decide (v.eN ≤ 65536))) = true then { x with written := x.written + v.eN } else x
def upT (v : Ev) (x : Tk) : Tk := if v.ended = true then upE v (upD v (upC v (upB v (upA v x)))) else upA v x
def tk0 (t : Int) : Tk := ⟨t, 0, 0, 0, 0, 0, 0, 0⟩
/-- How great the numbers may be after q events. -/
structure Tk.lim (x : Tk) (q : Nat) : Prop where
  a : 0 ≤ x.calls ∧ x.calls ≤ q
  b : 0 ≤ x.refused ∧ x.refused ≤ q
  c : 0 ≤ x.steps ∧ x.steps ≤ q
  d : 0 ≤ x.ended ∧ x.ended ≤ q
  e : 0 ≤ x.failed ∧ x.failed ≤ q
  f : 0 ≤ x.read ∧ x.read ≤ q * 100000
  g : 0 ≤ x.written ∧ x.written ≤ q * 65536
theorem lim0 (t : Int) (q : Nat) : (tk0 t).lim q := ⟨by simp [tk0], by simp [tk0], by simp [tk0], by simp [tk0], by simp [tk0], by simp [tk0]; omega, by simp [tk0]; omega⟩
theorem Tk.lim.up {x : Tk} {q : Nat} (h : x.lim q) : x.lim (q + 1) := by
  obtain ⟨a, b, c, d, e, f, g⟩ := h
  exact ⟨⟨a.1, by omega⟩, ⟨b.1, by omega⟩, ⟨c.1, by omega⟩, ⟨d.1, by omega⟩, ⟨e.1, by omega⟩, ⟨f.1, by omega⟩, ⟨g.1, by omega⟩⟩
theorem upT_t (v : Ev) (x : Tk) : (upT v x).t = x.t := by
  unfold upT upE upD upC upB upA
  repeat' split
  all_goals rfl
theorem upT_lim {x : Tk} {q : Nat} (v : Ev) (h : x.lim q) (hv : v.eD.2.1 ≤ 100000) : (upT v x).lim (q + 1) := by
  obtain ⟨a, b, c, d, e, f, g⟩ := h
  unfold upT upE upD upC upB upA
  have hn : ((v.eKind == 6) && (decide (0 ≤ v.eN) && decide (v.eN ≤ 65536))) = true → 0 ≤ v.eN ∧ v.eN ≤ 65536 := by
    simp only [Bool.and_eq_true, decide_eq_true_eq]
    exact fun h => h.2
  repeat' split
  all_goals (
    first
      | (have hw := hn (by assumption); clear hn)
      | clear hn
    constructor <;> (dsimp only; omega))
/-- The tasks so far, each with the block of what it has done. -/
abbrev TD := List (Int × Nat × Tk)
def tdPairs (D : TD) : List (Value × Value) := D.map fun p => (.int .i64 p.1, .pointer (some ⟨p.2.1, 0, none⟩))
structure TdR (W : World) (M : Nat) (D : TD) : Prop where
  map : MapIs Tryz.prog 3 W M (tdPairs D)
  at' : ∀ p ∈ D, TkAt W p.2.1 p.2.2
  nodup : (D.map fun p => p.2.1).Nodup
  ne : ∀ p ∈ D, p.2.1 ≠ M
theorem TdR.keep {S : List Nat} {W W' : World} {M : Nat} {D : TD} (h : TdR W M D) (f : Fr S W W') (hM : M ∉ S) (hD : ∀ p ∈ D, p.2.1 ∉ S) : TdR W' M D :=
  ⟨h.map.keep f hM, fun p hp => (h.at' p hp).keep f (hD p hp), h.nodup, h.ne⟩
theorem TdR.new {W W' : World} {M : Nat} {D : TD} (h : TdR W M D) (f : Fr [] W W') : TdR W' M D := h.keep f (by simp) (fun _ _ => by simp)
theorem tdPairs_app (A B : TD) : tdPairs (A ++ B) = tdPairs A ++ tdPairs B := by simp [tdPairs]
/-- One of the blocks has turned. -/
theorem TdR.turn {W W' : World} {M b : Nat} {t : Int} {A B : TD} {x y : Tk} (h : TdR W M (A ++ (t, b, x) :: B)) (f : Fr [b] W W') (hy : TkAt W' b y) : TdR W' M (A ++ (t, b, y) :: B) := by
  have hnd := h.nodup
  have hbM : b ≠ M := h.ne (t, b, x) (by simp)
  have hpairs : tdPairs (A ++ (t, b, y) :: B) = tdPairs (A ++ (t, b, x) :: B) := by simp [tdPairs]
  have hblk : (A ++ (t, b, y) :: B).map (fun p => p.2.1) = (A ++ (t, b, x) :: B).map (fun p => p.2.1) := by simp
  simp only [List.map_append, List.map_cons] at hnd
  rw [List.nodup_append] at hnd
  obtain ⟨_, h2, h3⟩ := hnd
  rw [List.nodup_cons] at h2
  refine ⟨by rw [hpairs]; exact h.map.keep f (by simpa using Ne.symm hbM), fun p hp => ?_, by rw [hblk]; exact h.nodup, fun p hp => ?_⟩
  · rcases List.mem_append.1 hp with hp | hp
    · refine (h.at' p (by simp [hp])).keep f (fun hm => ?_)
      rw [List.mem_singleton] at hm
      exact h3 p.2.1 (List.mem_map.2 ⟨p, hp, rfl⟩) b (by simp) hm
    · rcases List.mem_cons.1 hp with rfl | hp
      · exact hy
      · refine (h.at' p (by simp [hp])).keep f (fun hm => ?_)
        rw [List.mem_singleton] at hm
        exact h2.1 (by rw [← hm]; exact List.mem_map.2 ⟨p, hp, rfl⟩)
  · rcases List.mem_append.1 hp with hp | hp
    · exact h.ne p (by simp [hp])
    · rcases List.mem_cons.1 hp with rfl | hp
      · exact hbM
      · exact h.ne p (by simp [hp])
/-- Is the task there? -/
theorem td_split (D : TD) (t : Int) : (∃ A b x B, D = A ++ (t, b, x) :: B) ∨ ∀ p ∈ D, p.1 ≠ t := by
  induction D with
  | nil => exact .inr (fun p hp => by cases hp)
  | cons p r ih =>
    by_cases hp : p.1 = t
    · exact .inl ⟨[], p.2.1, p.2.2, r, by rw [← hp]; rfl⟩
    · rcases ih with ⟨A, b, x, B, rfl⟩ | h
      · exact .inl ⟨p :: A, b, x, B, rfl⟩
      · refine .inr (fun q hq => ?_)
        rcases List.mem_cons.1 hq with rfl | hq
        · exact hp
        · exact h q hq
/-- What the tasks have done, in the order in which they came. -/
def tdStep (D : List (Int × Tk)) (v : Ev) : List (Int × Tk) :=
  if v.counts = true then (if (D.any fun p => p.1 == v.task) = true then D.map (fun p => if p.1 = v.task then (p.1, upT v p.2) else p) else D ++ [(v.task, upT v (tk0 v.task))]) else D
def tdOf (l : List Ev) : List (Int × Tk) := l.foldl tdStep []
def tdPlain (D : TD) : List (Int × Tk) := D.map fun p => (p.1, p.2.2)
end Go.Proofs.YtllmejkcohfbiaaGreatDoor
namespace Go.Proofs.YtllmejkcohfbiaaGreatDoor
open Go.RowKit Go.Maps Go.Shelf Go.Sort Go.Lib
set_option linter.unusedVariables false
set_option linter.unusedSimpArgs false
set_option maxRecDepth 100000
set_option maxHeartbeats 16000000

theorem EvBlk.c {w : World} {b : Nat} {x : Ev} (h : EvBlk w b x) (j : Nat) (u : Value) (hj : (evL x)[j]? = some u) : w.cell? ⟨b, j, none⟩ = some u := by
  have := h.at j u hj
  rwa [Nat.zero_add] at this
theorem EvBlk.lt {w : World} {b : Nat} {x : Ev} (h : EvBlk w b x) : b < w.heap.size := (Array.getElem?_eq_some_iff.1 h).1
theorem keyInt : Keyed Tryz.prog 3 := Maps.int_keyed Tryz.underlying3
/-- The state of the reckoning: D as it is, q events done. -/
structure TdS (w W : World) (M q : Nat) (D : TD) : Prop where
  r : TdR W M D
  lim : ∀ p ∈ D, p.2.2.lim q
  own : ∀ p ∈ D, w.heap.size ≤ p.2.1
  keys : ∀ p ∈ D, I64 p.1
  fr : Fr [] w W
theorem tdPlain_app (A B : TD) : tdPlain (A ++ B) = tdPlain A ++ tdPlain B := by simp [tdPlain]
theorem step_here {A B : TD} {b : Nat} {x : Tk} {v : Ev} (hc : v.counts = true) (hA : ∀ p ∈ A, p.1 ≠ v.task) (hB : ∀ p ∈ B, p.1 ≠ v.task) : tdStep (tdPlain (A ++ (v.task, b, x) :: B)) v = tdPlain (A ++ (v.task, b, upT v x) :: B) := by
  have hid : ∀ l : TD, (∀ p ∈ l, p.1 ≠ v.task) → (tdPlain l).map (fun p => if p.1 = v.task then (p.1, upT v p.2) else p) = tdPlain l := by
    intro l hl
    unfold tdPlain
    rw [List.map_map]
    refine List.map_congr_left (fun p hp => ?_)
    simp only [Function.comp]
    rw [if_neg (hl p hp)]
  have hany : (tdPlain (A ++ (v.task, b, x) :: B)).any (fun p => p.1 == v.task) = true := by
    rw [List.any_eq_true]
    exact ⟨(v.task, x), by simp [tdPlain], by simp⟩
  unfold tdStep
  rw [if_pos hc, if_pos hany, tdPlain_app, List.map_append, hid A hA, tdPlain_app]
  congr 1
  show List.map _ ((v.task, x) :: tdPlain B) = (v.task, upT v x) :: tdPlain B
  rw [List.map_cons, hid B hB]
  simp
theorem step_new {D : TD} {b : Nat} {v : Ev} (hc : v.counts = true) (hD : ∀ p ∈ D, p.1 ≠ v.task) : tdStep (tdPlain D) v = tdPlain (D ++ [(v.task, b, upT v (tk0 v.task))]) := by
  have hany : (tdPlain D).any (fun p => p.1 == v.task) = false := by
    rw [List.any_eq_false]
    intro p hp
    obtain ⟨y, hy, rfl⟩ := List.mem_map.1 hp
    simpa using hD y hy
  unfold tdStep
  rw [if_pos hc, if_neg (by rw [hany]; simp), tdPlain_app]
  rfl
theorem step_idle {D : List (Int × Tk)} {v : Ev} (hc : v.counts = false) : tdStep D v = D := by
  unfold tdStep
  rw [hc]
  rfl
theorem tdOf_succ (l : List Ev) (q : Nat) (v : Ev) (h : l[q]? = some v) : tdOf (l.take (q + 1)) = tdStep (tdOf (l.take q)) v := by
  unfold tdOf
  rw [List.take_add_one, h, List.foldl_append]
  rfl
end Go.Proofs.YtllmejkcohfbiaaGreatDoor
