/- Report: the tasks in the law's own way, in plain. -/
import Derived.Test.YtllmejkcohfbiaaGreatDoorT2
namespace Go.Proofs.YtllmejkcohfbiaaGreatDoor
open Go.RowKit Go.Maps Go.Shelf Go.Sort Go.Lib
set_option linter.unusedVariables false
set_option linter.unusedSimpArgs false
set_option maxRecDepth 100000
set_option maxHeartbeats 8000000

theorem lookup_up (f : Tk → Tk) (t n : Int) : ∀ D : List (Int × Tk), (D.map fun p => if p.1 = t then (p.1, f p.2) else p).lookup n = (D.lookup n).map fun x => if n = t then f x else x
  | [] => rfl
  | p :: r => by
    have ih := lookup_up f t n r
    simp only [List.map_cons]
    by_cases hp : p.1 = t
    · rw [if_pos hp]
      simp only [List.lookup]
      by_cases hn : n = p.1
      · rw [show (n == p.1) = true from by simpa using hn]
        simp only [Option.map_some]
        rw [if_pos (hn.trans hp)]
      · rw [show (n == p.1) = false from by simpa using hn]
        exact ih
    · rw [if_neg hp]
      simp only [List.lookup]
      by_cases hn : n = p.1
      · rw [show (n == p.1) = true from by simpa using hn]
        simp only [Option.map_some]
        rw [if_neg (fun h => hp (hn.symm.trans h))]
      · rw [show (n == p.1) = false from by simpa using hn]
        exact ih
theorem lookup_snoc (t n : Int) (y : Tk) : ∀ D : List (Int × Tk), (D ++ [(t, y)]).lookup n = (D.lookup n).or (if n = t then some y else none)
  | [] => by
    simp only [List.nil_append, List.lookup]
    by_cases h : n = t
    · rw [show (n == t) = true from by simpa using h, if_pos h]
      rfl
    · rw [show (n == t) = false from by simpa using h, if_neg h]
      rfl
  | p :: r => by
    simp only [List.cons_append, List.lookup]
    cases (n == p.1)
    · exact lookup_snoc t n y r
    · rfl
theorem lookup_any (t : Int) : ∀ D : List (Int × Tk), (D.any fun p => p.1 == t) = (D.lookup t).isSome
  | [] => rfl
  | p :: r => by
    simp only [List.any_cons, List.lookup]
    by_cases h : p.1 = t
    · rw [show (p.1 == t) = true from by simpa using h, show (t == p.1) = true from by simpa using h.symm]
      rfl
    · rw [show (p.1 == t) = false from by simpa using h, show (t == p.1) = false from by simpa using fun e => h (Eq.symm e)]
      exact lookup_any t r
theorem tkOf_step (D : List (Int × Tk)) (v : Ev) (n : Int) : tkOf (tdStep D v) n = dnStep n (tkOf D n) v := by
  unfold tdStep dnStep
  cases hc : v.counts with
  | false => simp
  | true =>
    rw [if_pos rfl]
    cases ha : (D.any fun p => p.1 == v.task) with
    | true =>
      rw [if_pos rfl]
      unfold tkOf
      rw [lookup_up]
      by_cases hn : v.task = n
      · subst hn
        rw [lookup_any] at ha
        obtain ⟨x, hx⟩ := Option.isSome_iff_exists.1 ha
        rw [hx, if_pos rfl, if_pos rfl]
        simp
      · rw [if_neg hn]
        have : ∀ o : Option Tk, o.map (fun x => if n = v.task then upT v x else x) = o := fun o => by
          cases o with
          | none => rfl
          | some x => simp only [Option.map_some]; rw [if_neg (fun e => hn e.symm)]
        rw [this]
    | false =>
      rw [if_neg (by simp)]
      unfold tkOf
      rw [lookup_snoc]
      by_cases hn : v.task = n
      · subst hn
        rw [lookup_any] at ha
        have : D.lookup v.task = none := by simpa using ha
        rw [this, if_pos rfl, if_pos rfl, if_pos rfl]
        rfl
      · rw [if_neg hn, if_neg (fun e => hn e.symm)]
        simp
theorem tkOf_dn (l : List Ev) (n : Int) : tkOf (tdOf l) n = dnOf n l := by
  have : ∀ (l : List Ev) D x, tkOf D n = x → tkOf (l.foldl tdStep D) n = l.foldl (dnStep n) x := by
    intro l
    induction l with
    | nil => intro D x h; exact h
    | cons v r ih =>
      intro D x h
      exact ih _ _ (by rw [tkOf_step, h])
  exact this l [] (tk0 n) rfl
theorem step_keys (D : List (Int × Tk)) (v : Ev) : (tdStep D v).map (·.1) = if v.counts = true ∧ v.task ∉ D.map (·.1) then D.map (·.1) ++ [v.task] else D.map (·.1) := by
  unfold tdStep
  cases hc : v.counts with
  | false => simp
  | true =>
    rw [if_pos rfl]
    cases ha : (D.any fun p => p.1 == v.task) with
    | true =>
      rw [if_pos rfl, if_neg]
      · rw [List.map_map]
        refine List.map_congr_left (fun p _ => ?_)
        simp only [Function.comp]
        by_cases h : p.1 = v.task
        · rw [if_pos h]
        · rw [if_neg h]
      · rintro ⟨_, h⟩
        rw [List.any_eq_true] at ha
        obtain ⟨p, hp, hpe⟩ := ha
        exact h (List.mem_map.2 ⟨p, hp, by simpa using hpe⟩)
    | false =>
      rw [if_neg (by simp), if_pos]
      · rw [List.map_append]
        rfl
      · refine ⟨rfl, fun h => ?_⟩
        obtain ⟨p, hp, hpe⟩ := List.mem_map.1 h
        rw [List.any_eq_false] at ha
        exact ha p hp (by simpa using hpe)
theorem keys_mem (l : List Ev) (t : Int) : t ∈ (tdOf l).map (·.1) ↔ ∃ v ∈ l, v.counts = true ∧ v.task = t := by
  have : ∀ (l : List Ev) (D : List (Int × Tk)), t ∈ (l.foldl tdStep D).map (·.1) ↔ t ∈ D.map (·.1) ∨ ∃ v ∈ l, v.counts = true ∧ v.task = t := by
    intro l
    induction l with
    | nil => intro D; simp
    | cons v r ih =>
      intro D
      rw [List.foldl_cons, ih, step_keys]
      by_cases h : v.counts = true ∧ v.task ∉ D.map (·.1)
      · rw [if_pos h, List.mem_append, List.mem_singleton]
        constructor
        · rintro ((h1 | h1) | ⟨u, hu, h2⟩)
          · exact .inl h1
          · exact .inr ⟨v, by simp, h.1, h1.symm⟩
          · exact .inr ⟨u, by simp [hu], h2⟩
        · rintro (h1 | ⟨u, hu, h2, h3⟩)
          · exact .inl (.inl h1)
          · rcases List.mem_cons.1 hu with rfl | hu
            · exact .inl (.inr h3.symm)
            · exact .inr ⟨u, hu, h2, h3⟩
      · rw [if_neg h]
        constructor
        · rintro (h1 | ⟨u, hu, h2⟩)
          · exact .inl h1
          · exact .inr ⟨u, by simp [hu], h2⟩
        · rintro (h1 | ⟨u, hu, h2, h3⟩)
          · exact .inl h1
          · rcases List.mem_cons.1 hu with rfl | hu
            · refine .inl (Classical.byContradiction fun hm => h ⟨h2, ?_⟩)
              rw [h3]
              exact hm
            · exact .inr ⟨u, hu, h2, h3⟩
  simpa [tdOf] using this l []
theorem keys_nodup (l : List Ev) : ((tdOf l).map (·.1)).Nodup := by
  have : ∀ (l : List Ev) (D : List (Int × Tk)), (D.map (·.1)).Nodup → ((l.foldl tdStep D).map (·.1)).Nodup := by
    intro l
    induction l with
    | nil => intro D h; exact h
    | cons v r ih =>
      intro D h
      refine ih _ ?_
      rw [step_keys]
      split
      · next hc =>
        rw [List.nodup_append]
        exact ⟨h, by simp, fun a ha b hb e => by
          rw [List.mem_singleton] at hb
          subst hb e
          exact hc.2 ha⟩
      · exact h
  exact this l [] (by simp)
/-- The tasks in order. -/
def taskS (l : List Ev) : List Int := ((tdOf l).map (·.1)).mergeSort (fun x y => decide (x ≤ y))
theorem taskS_mem (l : List Ev) (t : Int) : t ∈ taskS l ↔ ∃ v ∈ l, v.counts = true ∧ v.task = t := by
  unfold taskS
  rw [List.mem_mergeSort, keys_mem]
theorem taskS_lt (l : List Ev) : (taskS l).Pairwise (fun a b : Int => a < b) := by
  have h1 : (taskS l).Pairwise (fun x y => decide (x ≤ y) = true) := List.pairwise_mergeSort (fun a b c h1 h2 => by simp only [decide_eq_true_eq] at *; omega) (fun a b => by simp only [Bool.or_eq_true, decide_eq_true_eq]; omega) _
  have h2 : (taskS l).Nodup := (List.mergeSort_perm _ _).nodup_iff.2 (keys_nodup l)
  exact (List.Pairwise.and h1 h2).imp (fun {a b} h => by
    have := of_decide_eq_true h.1
    have := h.2
    omega)
theorem taskS_len (l : List Ev) : (taskS l).length ≤ l.length := by
  unfold taskS
  rw [List.length_mergeSort, List.length_map]
  exact tdOf_len l
theorem tasksOf_dn (l : List Ev) : tasksOf (tdOf l) = (taskS l).map fun t => dnOf t l := by
  unfold tasksOf taskS
  exact List.map_congr_left (fun t _ => tkOf_dn l t)
/-- An event of a task behind those that were there. -/
def candB (lo : Option Int) (v : Ev) : Bool := v.counts && (match lo with | none => true | some t => decide (t < v.task))
def lessB (b : Option Int) (v : Ev) : Bool := match b with | none => true | some t => decide (v.task < t)
def bestStep (lo : Option Int) (b : Option Int) (v : Ev) : Option Int := if (candB lo v && lessB b v) = true then some v.task else b
def bestOf (lo : Option Int) (l : List Ev) : Option Int := l.foldl (bestStep lo) none
theorem bestOf_succ (lo : Option Int) (l : List Ev) (q : Nat) (v : Ev) (h : l[q]? = some v) : bestOf lo (l.take (q + 1)) = bestStep lo (bestOf lo (l.take q)) v := by
  unfold bestOf
  rw [List.take_add_one, h, List.foldl_append]
  rfl
def BestI (lo : Option Int) (seen : Ev → Prop) (b : Option Int) : Prop :=
  (b = none ∧ ∀ v, seen v → candB lo v = false) ∨ ∃ t, b = some t ∧ (∃ v, seen v ∧ candB lo v = true ∧ v.task = t) ∧ ∀ v, seen v → candB lo v = true → t ≤ v.task
theorem BestI.step {lo : Option Int} {seen : Ev → Prop} {b : Option Int} (h : BestI lo seen b) (v : Ev) : BestI lo (fun u => seen u ∨ u = v) (bestStep lo b v) := by
  unfold bestStep
  cases hc : candB lo v with
  | false =>
    rw [Bool.false_and, if_neg (by simp)]
    rcases h with ⟨rfl, h⟩ | ⟨t, rfl, ⟨u, hu, h2⟩, h3⟩
    · exact .inl ⟨rfl, fun u hu => by
        rcases hu with hu | rfl
        · exact h u hu
        · exact hc⟩
    · exact .inr ⟨t, rfl, ⟨u, .inl hu, h2⟩, fun x hx hxc => by
        rcases hx with hx | rfl
        · exact h3 x hx hxc
        · rw [hc] at hxc; cases hxc⟩
  | true =>
    rw [Bool.true_and]
    rcases h with ⟨rfl, h⟩ | ⟨t, rfl, ⟨u, hu, h2⟩, h3⟩
    · rw [show lessB none v = true from rfl, if_pos rfl]
      exact .inr ⟨v.task, rfl, ⟨v, .inr rfl, hc, rfl⟩, fun x hx hxc => by
        rcases hx with hx | rfl
        · rw [h x hx] at hxc; cases hxc
        · exact Int.le_refl _⟩
    · cases hl : lessB (some t) v with
      | true =>
        have hlt : v.task < t := of_decide_eq_true hl
        rw [if_pos rfl]
        exact .inr ⟨v.task, rfl, ⟨v, .inr rfl, hc, rfl⟩, fun x hx hxc => by
          rcases hx with hx | rfl
          · have := h3 x hx hxc
            omega
          · exact Int.le_refl _⟩
      | false =>
        have hlt : ¬ v.task < t := of_decide_eq_false hl
        rw [if_neg (by simp)]
        exact .inr ⟨t, rfl, ⟨u, .inl hu, h2⟩, fun x hx hxc => by
          rcases hx with hx | rfl
          · exact h3 x hx hxc
          · omega⟩
theorem bestOf_spec (lo : Option Int) (l : List Ev) : BestI lo (fun u => u ∈ l) (bestOf lo l) := by
  have : ∀ (l : List Ev) (seen : Ev → Prop) b, BestI lo seen b → BestI lo (fun u => seen u ∨ u ∈ l) (l.foldl (bestStep lo) b) := by
    intro l
    induction l with
    | nil => intro seen b h; simpa using h
    | cons v r ih =>
      intro seen b h
      have h2 := ih _ _ (h.step v)
      have e : (fun u => (seen u ∨ u = v) ∨ u ∈ r) = fun u => seen u ∨ u ∈ v :: r := by
        funext u
        rw [List.mem_cons, or_assoc]
      rw [e] at h2
      exact h2
  have h := this l (fun _ => False) none (.inl ⟨rfl, fun _ h => h.elim⟩)
  simpa [bestOf] using h
/-- What the law looks for next. -/
def loOf (l : List Ev) (p : Nat) : Option Int := if p = 0 then none else (taskS l)[p - 1]?
theorem best_at (l : List Ev) (p : Nat) (hp : p ≤ (taskS l).length) : bestOf (loOf l p) l = (taskS l)[p]? := by
  have hlt := taskS_lt l
  have hmono : ∀ (i j : Nat) (a b : Int), i < j → (taskS l)[i]? = some a → (taskS l)[j]? = some b → a < b := by
    intro i j a b hij ha hb
    obtain ⟨hi, rfl⟩ := List.getElem?_eq_some_iff.1 ha
    obtain ⟨hj, rfl⟩ := List.getElem?_eq_some_iff.1 hb
    exact List.pairwise_iff_getElem.1 (taskS_lt l) i j hi hj hij
  have hlo : ∀ v ∈ l, ∀ j, (taskS l)[j]? = some v.task → v.counts = true → (candB (loOf l p) v = true ↔ p ≤ j) := by
    intro v hv j hj hc
    unfold candB loOf
    rw [hc, Bool.true_and]
    by_cases h0 : p = 0
    · subst h0
      simp
    · rw [if_neg h0]
      have hb : p - 1 < (taskS l).length := by omega
      rw [List.getElem?_eq_getElem hb]
      simp only [decide_eq_true_eq]
      have hb2 := List.getElem?_eq_getElem hb
      constructor
      · intro hl
        by_cases hj2 : p ≤ j
        · exact hj2
        · by_cases he : j = p - 1
          · subst he
            rw [hb2] at hj
            simp only [Option.some.injEq] at hj
            omega
          · have := hmono j (p - 1) _ _ (by omega) hj hb2
            omega
      · intro hl
        exact hmono (p - 1) j _ _ (by omega) hb2 hj
  have hat : ∀ v ∈ l, candB (loOf l p) v = true → ∃ j, p ≤ j ∧ (taskS l)[j]? = some v.task := by
    intro v hv hc
    have hcc : v.counts = true := by
      unfold candB at hc
      exact (Bool.and_eq_true_iff.1 hc).1
    have hm : v.task ∈ taskS l := (taskS_mem l v.task).2 ⟨v, hv, hcc, rfl⟩
    obtain ⟨j, hj⟩ := List.mem_iff_getElem?.1 hm
    exact ⟨j, (hlo v hv j hj hcc).1 hc, hj⟩
  rcases bestOf_spec (loOf l p) l with ⟨h1, h2⟩ | ⟨t, h1, ⟨v, hv, hvc, rfl⟩, h3⟩
  · rw [h1]
    symm
    rw [List.getElem?_eq_none_iff]
    refine Nat.le_of_not_lt (fun hlt2 => ?_)
    have hx := List.getElem?_eq_getElem hlt2
    obtain ⟨v, hv, hc, he⟩ := (taskS_mem l _).1 (List.mem_of_getElem? hx)
    rw [← he] at hx
    have := (hlo v hv p hx hc).2 (Nat.le_refl _)
    rw [h2 v hv] at this
    cases this
  · rw [h1]
    obtain ⟨j, hpj, hj⟩ := hat v hv hvc
    by_cases he : j = p
    · rw [← he, hj]
    · exfalso
      have hjl := (List.getElem?_eq_some_iff.1 hj).1
      have hpl : p < (taskS l).length := by omega
      have hx := List.getElem?_eq_getElem hpl
      obtain ⟨u, hu, hc, hue⟩ := (taskS_mem l _).1 (List.mem_of_getElem? hx)
      rw [← hue] at hx
      have h5 := h3 u hu ((hlo u hu p hx hc).2 (Nat.le_refl _))
      have h6 := hmono p j _ _ (by omega) hx hj
      omega
end Go.Proofs.YtllmejkcohfbiaaGreatDoor
