/- Plain laws of the model of ChaosPlays: what its effect computes is the program's; its list of lanes as a total function. -/
import Derived.Test.YtededfkenlhokaaDoorHP
namespace Go.Proofs.YtededfkenlhokaaDoor
open Go.RowKit
set_option linter.unusedVariables false
set_option linter.unusedSimpArgs false

/-- Most, delay, cut, fail: as the model's loop keeps them. -/
abbrev EM := Int × Int × Bool × Int
def emStep (c d q b : Int) (s : EM) (f : Ft) : EM :=
  if f.c = c ∧ f.d = d then
    if f.k = 1 then (if f.a = q then min s.1 f.g else s.1, s.2.1, s.2.2.1, s.2.2.2)
    else if f.k = 2 then (s.1, if f.a = q then IntKind.u64.wrap (s.2.1 + IntKind.u64.wrap f.g) else s.2.1, s.2.2.1, s.2.2.2)
    else if f.k = 3 then (s.1, s.2.1, s.2.2.1, if f.a = q ∧ s.2.2.2 = 0 then f.g else s.2.2.2)
    else if f.k = 4 then (min s.1 (wrap64 (f.a - b)), s.2.1, s.2.2.1 || decide (f.a ≤ b), s.2.2.2)
    else s
  else s
def emRes (s : EM) : Int × Int × Int := if s.2.2.1 = true then (0, s.2.1, 14) else if s.2.2.2 ≠ 0 then (0, s.2.1, s.2.2.2) else (s.1, s.2.1, 0)
def delA (q D : Int) (l : List Ft) : Int := l.foldl (fun D f => if f.a = q then IntKind.u64.wrap (D + IntKind.u64.wrap f.g) else D) D
def failA (q z : Int) (l : List Ft) : Int := if z ≠ 0 then z else match l.find? (fun f => decide (f.a = q)) with | some f => f.g | none => 0
theorem cutS_min (b : Int) : ∀ (l : List Ft) (n g : Int), cutS b (min n g) l = min (cutS b n l) g
  | [], n, g => rfl
  | x :: l, n, g => by
    have e : ∀ n, cutS b n (x :: l) = cutS b (min n (wrap64 (x.a - b))) l := fun n => rfl
    rw [e, e, show min (min n g) (wrap64 (x.a - b)) = min (min n (wrap64 (x.a - b))) g by omega]
    exact cutS_min b l _ g
theorem em_fold (c d q b : Int) : ∀ (l : List Ft) (s : EM), (∀ f ∈ l, f.ok = true) →
    l.foldl (emStep c d q b) s = (shortS q (cutS b s.1 (l.filter (mt 4 c d))) (l.filter (mt 1 c d)), delA q s.2.1 (l.filter (mt 2 c d)), s.2.2.1 || (l.filter (mt 4 c d)).any (fun f => decide (f.a ≤ b)), failA q s.2.2.2 (l.filter (mt 3 c d)))
  | [], s, _ => by
    obtain ⟨s1, s2, s3, s4⟩ := s
    simp [shortS, cutS, delA, failA]
    try (intro h; exact h.symm)
  | x :: l, s, hok => by
    have hx := hok x List.mem_cons_self
    have ih := fun s => em_fold c d q b l s (fun f hf => hok f (List.mem_cons_of_mem _ hf))
    obtain ⟨s1, s2, s3, s4⟩ := s
    rw [List.foldl_cons, ih]
    have hk := (Ft.ok_iff.1 hx).2.2.2
    unfold emStep
    by_cases hcd : x.c = c ∧ x.d = d
    · rw [if_pos hcd]
      obtain ⟨h1, h2⟩ := hcd
      rcases hk with ⟨k, g⟩ | ⟨k, g⟩ | ⟨k, g⟩ | ⟨k, g⟩
      · have m1 : mt 1 c d x = true := mt_of.2 ⟨k, h1, h2⟩
        have m2 : mt 2 c d x = false := by simp [mt, k]
        have m3 : mt 3 c d x = false := by simp [mt, k]
        have m4 : mt 4 c d x = false := by simp [mt, k]
        simp only [List.filter_cons, m1, m2, m3, m4, if_true, Bool.false_eq_true, if_false, k]
        have e : shortS q (cutS b s1 (l.filter (mt 4 c d))) (x :: l.filter (mt 1 c d)) = shortS q (if x.a = q then min (cutS b s1 (l.filter (mt 4 c d))) x.g else cutS b s1 (l.filter (mt 4 c d))) (l.filter (mt 1 c d)) := rfl
        rw [e]
        split
        · rw [cutS_min]
        · rfl
      · have m1 : mt 1 c d x = false := by simp [mt, k]
        have m2 : mt 2 c d x = true := mt_of.2 ⟨k, h1, h2⟩
        have m3 : mt 3 c d x = false := by simp [mt, k]
        have m4 : mt 4 c d x = false := by simp [mt, k]
        simp [List.filter_cons, m1, m2, m3, m4, k, delA]
      · have m1 : mt 1 c d x = false := by simp [mt, k]
        have m2 : mt 2 c d x = false := by simp [mt, k]
        have m3 : mt 3 c d x = true := mt_of.2 ⟨k, h1, h2⟩
        have m4 : mt 4 c d x = false := by simp [mt, k]
        have e : failA q (if x.a = q ∧ s4 = 0 then x.g else s4) (l.filter (mt 3 c d)) = failA q s4 (x :: l.filter (mt 3 c d)) := by
          unfold failA
          by_cases ha : x.a = q
          · by_cases hs : s4 = 0
            · have hg : x.g ≠ 0 := by omega
              simp [ha, hs, hg]
            · simp [hs]
          · simp [ha]
        simp only [List.filter_cons, m1, m2, m3, m4, if_true, Bool.false_eq_true, if_false, k]
        rw [if_neg (by omega), if_neg (by omega)]
        simp only
        rw [e]
      · have m1 : mt 1 c d x = false := by simp [mt, k]
        have m2 : mt 2 c d x = false := by simp [mt, k]
        have m3 : mt 3 c d x = false := by simp [mt, k]
        have m4 : mt 4 c d x = true := mt_of.2 ⟨k, h1, h2⟩
        simp [List.filter_cons, m1, m2, m3, m4, k, cutS, Bool.or_assoc]
    · rw [if_neg hcd]
      have m : ∀ i, mt i c d x = false := fun i => by
        rw [Bool.eq_false_iff]
        intro h
        exact hcd (mt_of.1 h).2
      simp [List.filter_cons, m]
theorem em_effW (fs : List Ft) (hok : ∀ f ∈ fs, f.ok = true) (c d q b n : Int) : emRes (fs.foldl (emStep c d q b) (n, 0, false, 0)) = effW fs c d q b n := by
  rw [em_fold c d q b fs _ hok]
  unfold emRes effW
  simp only [Bool.false_or, ne_eq]
  split
  · rfl
  · unfold failA
    simp only [ne_eq, not_true_eq_false, if_false]
    cases hf : (fs.filter (mt 3 c d)).find? (fun f => decide (f.a = q)) with
    | none => simp [delA, delS]
    | some f =>
      have h1 : f ∈ fs.filter (mt 3 c d) := List.mem_of_find?_eq_some hf
      obtain ⟨h2, h3⟩ := List.mem_filter.1 h1
      have h4 := (Ft.ok_iff.1 (hok f h2)).2.2.2
      have h5 := (mt_of.1 h3).1
      have hg : f.g ≠ 0 := by omega
      simp [hg, delA, delS]

/-- A lane of the model: the fields stand as a fault's (conn, dir, calls, bytes, left). -/
def laneIs (c d : Int) (x : Ft) : Bool := x.k == c && x.c == d
def ofL (L : List Ft) (c d : Int) : Ft := match L.find? (laneIs c d) with | some x => x | none => ⟨c, d, 0, 0, 0⟩
def withL (L : List Ft) (x : Ft) : List Ft := x :: L.filter (fun y => !laneIs x.k x.c y)
/-- A list of lanes says what a total function says. -/
def LaneFun (L : List Ft) (F : LF) : Prop := ∀ c d, ofL L c d = ⟨c, d, (F c d).1, (F c d).2.1, (F c d).2.2⟩
theorem LaneFun.start : LaneFun [] (fun _ _ => (0, 0, 0)) := fun c d => rfl
theorem laneIs_iff {c d : Int} {x : Ft} : laneIs c d x = true ↔ x.k = c ∧ x.c = d := by simp [laneIs]
theorem LaneFun.put {L : List Ft} {F : LF} (h : LaneFun L F) (c d q b le : Int) : LaneFun (withL L ⟨c, d, q, b, le⟩) (F.upd c d (q, b, le)) := fun c' d' => by
  unfold withL ofL
  by_cases he : c' = c ∧ d' = d
  · obtain ⟨rfl, rfl⟩ := he
    have e : laneIs c' d' ⟨c', d', q, b, le⟩ = true := laneIs_iff.2 ⟨rfl, rfl⟩
    rw [List.find?_cons, e]
    simp [LF.upd]
  · have e : laneIs c' d' ⟨c, d, q, b, le⟩ = false := by
      rw [Bool.eq_false_iff]
      intro h
      have := laneIs_iff.1 h
      exact he ⟨this.1.symm, this.2.symm⟩
    rw [List.find?_cons, e]
    have e2 : (L.filter (fun y => !laneIs c d y)).find? (laneIs c' d') = L.find? (laneIs c' d') := by
      rw [List.find?_filter]
      congr 1
      funext y
      cases hy : laneIs c' d' y with
      | false => simp
      | true =>
        have h1 := laneIs_iff.1 hy
        have : laneIs c d y = false := by
          rw [Bool.eq_false_iff]
          intro h
          have h2 := laneIs_iff.1 h
          exact he ⟨h1.1.symm.trans h2.1, h1.2.symm.trans h2.2⟩
        simp [this]
    simp only
    rw [e2]
    have e3 : F.upd c d (q, b, le) c' d' = F c' d' := by
      unfold LF.upd
      rw [if_neg he]
    rw [e3]
    exact h c' d'
end Go.Proofs.YtededfkenlhokaaDoor
