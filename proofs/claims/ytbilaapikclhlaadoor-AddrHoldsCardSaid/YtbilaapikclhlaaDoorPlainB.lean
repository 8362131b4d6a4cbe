/- Plain laws on the different addresses in order: strictly ordered, the same members, one such list. -/
import Derived.Test.YtbilaapikclhlaaDoorPlainA
namespace Go.Proofs.YtbilaapikclhlaaDoor
open Go.RowKit Go.Sort
set_option linter.unusedVariables false

/-- Neighbours that are equal left out, behind x. -/
def ddFrom (x : Ad) : List Ad → List Ad
  | [] => []
  | y :: r => (if y = x then [] else [y]) ++ ddFrom y r
def dd : List Ad → List Ad
  | [] => []
  | x :: r => x :: ddFrom x r
theorem ddFrom_snoc : ∀ (l : List Ad) (x y : Ad), ddFrom x (l ++ [y]) = ddFrom x l ++ (if y = (x :: l).getLast (by simp) then [] else [y])
  | [], x, y => by
    simp only [List.nil_append, ddFrom, List.append_nil]
    rfl
  | z :: l, x, y => by
    have ih := ddFrom_snoc l z y
    simp only [List.cons_append, ddFrom]
    rw [ih, List.append_assoc]
    rfl
theorem dd_snoc (l : List Ad) (y : Ad) : dd (l ++ [y]) = dd l ++ (if h : l = [] then [y] else if y = l.getLast h then [] else [y]) := by
  cases l with
  | nil => simp [dd, ddFrom]
  | cons x r =>
    rw [dif_neg (by simp)]
    simp only [List.cons_append, dd, ddFrom_snoc]
theorem compact_dd (d : Array Ad) : ∀ m, m ≤ d.size → Lib.compactUpTo d m = dd (d.toList.take m)
  | 0, _ => by simp [Lib.compactUpTo, dd]
  | m + 1, h => by
    have ih := compact_dd d m (by omega)
    have hm : m < d.toList.length := by simp; omega
    rw [Lib.compactUpTo_succ, ih, List.take_succ_eq_append_getElem hm, dd_snoc]
    congr 1
    have e1 : d[m]! = d.toList[m] := by
      rw [getElem!_pos d m (by simpa using hm)]
      simp
    by_cases h0 : m = 0
    · subst h0
      simp [Lib.keeps, e1]
    · have hne : d.toList.take m ≠ [] := by
        intro e
        have h9 := congrArg List.length e
        rw [List.length_take] at h9
        simp only [List.length_nil] at h9
        omega
      rw [dif_neg hne]
      have e2 : d[m - 1]! = (d.toList.take m).getLast hne := by
        rw [List.getLast_eq_getElem]
        have h3 : (d.toList.take m).length = m := by simp; omega
        simp only [List.getElem_take, h3]
        rw [getElem!_pos d (m - 1) (by omega)]
        simp
      by_cases hk : d[m]! = d[m - 1]!
      · have hk' : Lib.keeps d m = false := by simp [Lib.keeps, h0, hk]
        rw [hk', if_neg (by simp), if_pos (by rw [← e1, ← e2]; exact hk)]
      · have hk' : Lib.keeps d m = true := by simp [Lib.keeps, hk]
        rw [hk', if_pos rfl, if_neg (by rw [← e1, ← e2]; exact hk), e1]
theorem csA_dd (l : List Ad) : csA l = dd (sortA l) := by
  unfold csA
  rw [compact_dd _ _ (by simp [sortA_length])]
  congr 1
  simp only
  exact List.take_of_length_le (by simp [sortA_length])
theorem sortA_pw (l : List Ad) : (sortA l).Pairwise (fun a b => leA a b = true) := List.pairwise_mergeSort leA_trans leA_total l
theorem lt_of_le_ne {a b : Ad} (h : leA a b = true) (hn : ¬ b = a) : cmpA a b < 0 := by
  have h1 := (leA_iff a b).1 h
  have h2 : cmpA a b ≠ 0 := fun e => hn ((cmpA_zero a b).1 e).symm
  omega
theorem ltT {a b c : Ad} (h1 : cmpA a b < 0) (h2 : cmpA b c < 0) : cmpA a c < 0 := by
  have := swoA.trans a b c (by simpa [ltOf] using h1) (by simpa [ltOf] using h2)
  simpa [ltOf] using this
theorem ddFrom_strict : ∀ (l : List Ad) (x : Ad), (x :: l).Pairwise (fun a b => leA a b = true) → (∀ e ∈ ddFrom x l, cmpA x e < 0) ∧ (ddFrom x l).Pairwise (fun a b => cmpA a b < 0)
  | [], x, _ => ⟨fun e he => (by cases he), List.Pairwise.nil⟩
  | y :: r, x, h => by
    have h1 := List.pairwise_cons.1 h
    obtain ⟨i1, i2⟩ := ddFrom_strict r y h1.2
    by_cases hxy : y = x
    · subst hxy
      simp only [ddFrom, if_true, List.nil_append]
      exact ⟨i1, i2⟩
    · simp only [ddFrom, if_neg hxy, List.cons_append, List.nil_append]
      have hlt := lt_of_le_ne (h1.1 y List.mem_cons_self) hxy
      refine ⟨fun e he => ?_, List.pairwise_cons.2 ⟨i1, i2⟩⟩
      rcases List.mem_cons.1 he with rfl | he
      · exact hlt
      · exact ltT hlt (i1 e he)
theorem csA_strict (l : List Ad) : (csA l).Pairwise (fun a b => cmpA a b < 0) := by
  rw [csA_dd]
  have := sortA_pw l
  cases h : sortA l with
  | nil => exact List.Pairwise.nil
  | cons x r =>
    rw [h] at this
    obtain ⟨i1, i2⟩ := ddFrom_strict r x this
    exact List.pairwise_cons.2 ⟨i1, i2⟩
theorem ddFrom_mem : ∀ (l : List Ad) (x e : Ad), e ∈ ddFrom x l → e ∈ l
  | [], _, _, h => h
  | y :: r, x, e, h => by
    simp only [ddFrom] at h
    rcases List.mem_append.1 h with h | h
    · by_cases hxy : y = x
      · rw [if_pos hxy] at h
        cases h
      · rw [if_neg hxy] at h
        rw [List.mem_singleton] at h
        rw [h]
        exact List.mem_cons_self
    · exact List.mem_cons_of_mem _ (ddFrom_mem r y e h)
theorem mem_ddFrom : ∀ (l : List Ad) (x e : Ad), e ∈ l → e = x ∨ e ∈ ddFrom x l
  | [], _, _, h => by cases h
  | y :: r, x, e, h => by
    simp only [ddFrom]
    rcases List.mem_cons.1 h with rfl | h
    · by_cases hxy : e = x
      · exact .inl hxy
      · rw [if_neg hxy]
        exact .inr (by simp)
    · rcases mem_ddFrom r y e h with rfl | h
      · by_cases hxy : e = x
        · exact .inl hxy
        · rw [if_neg hxy]
          exact .inr (by simp)
      · exact .inr (List.mem_append_right _ h)
theorem csA_mem (l : List Ad) (e : Ad) : e ∈ csA l ↔ e ∈ l := by
  rw [csA_dd]
  have hp : (sortA l).Perm l := List.mergeSort_perm _ _
  rw [← hp.mem_iff]
  cases sortA l with
  | nil => rfl
  | cons x r =>
    simp only [dd]
    constructor
    · intro h
      rcases List.mem_cons.1 h with rfl | h
      · exact List.mem_cons_self
      · exact List.mem_cons_of_mem _ (ddFrom_mem r x e h)
    · intro h
      rcases List.mem_cons.1 h with rfl | h
      · exact List.mem_cons_self
      · rcases mem_ddFrom r x e h with rfl | h
        · exact List.mem_cons_self
        · exact List.mem_cons_of_mem _ h
/-- Two strictly ordered lists with the same members are equal. -/
theorem strict_eq : ∀ (l m : List Ad), l.Pairwise (fun a b => cmpA a b < 0) → m.Pairwise (fun a b => cmpA a b < 0) → (∀ e, e ∈ l ↔ e ∈ m) → l = m
  | [], [], _, _, _ => rfl
  | [], y :: m, _, _, h => by
    have := (h y).2 List.mem_cons_self
    cases this
  | x :: l, [], _, _, h => by
    have := (h x).1 List.mem_cons_self
    cases this
  | x :: l, y :: m, h1, h2, h => by
    have a := List.pairwise_cons.1 h1
    have b := List.pairwise_cons.1 h2
    have hxx : ∀ z : Ad, ¬ cmpA z z < 0 := fun z hz => by rw [(cmpA_zero z z).2 rfl] at hz; omega
    have hxy : x = y := by
      rcases List.mem_cons.1 ((h x).1 List.mem_cons_self) with e | e
      · exact e
      · rcases List.mem_cons.1 ((h y).2 List.mem_cons_self) with e' | e'
        · exact e'.symm
        · exact absurd (ltT (a.1 y e') (b.1 x e)) (hxx x)
    subst hxy
    rw [strict_eq l m a.2 b.2 (fun e => ?_)]
    constructor
    · intro he
      rcases List.mem_cons.1 ((h e).1 (List.mem_cons_of_mem _ he)) with q | q
      · subst q
        exact absurd (a.1 e he) (hxx e)
      · exact q
    · intro he
      rcases List.mem_cons.1 ((h e).2 (List.mem_cons_of_mem _ he)) with q | q
      · subst q
        exact absurd (b.1 e he) (hxx e)
      · exact q
theorem csA_eq {l m : List Ad} (hm : m.Pairwise (fun a b => cmpA a b < 0)) (h : ∀ e, e ∈ m ↔ e ∈ l) : csA l = m :=
  strict_eq _ _ (csA_strict l) hm (fun e => by rw [csA_mem, h])
theorem csA_csA (l : List Ad) : csA (csA l) = csA l := csA_eq (csA_strict l) (fun e => Iff.rfl)
theorem dd_length : ∀ (l : List Ad) (x : Ad), (ddFrom x l).length ≤ l.length
  | [], _ => Nat.le_refl _
  | y :: r, x => by
    have := dd_length r y
    simp only [ddFrom, List.length_append, List.length_cons]
    split <;> simp <;> omega
theorem csA_length (l : List Ad) : (csA l).length ≤ l.length := by
  rw [csA_dd, ← sortA_length l]
  cases sortA l with
  | nil => exact Nat.le_refl _
  | cons x r =>
    have := dd_length r x
    simp only [dd, List.length_cons]
    omega
theorem csA_pos (l : List Ad) (h : 0 < l.length) : 0 < (csA l).length := by
  cases l with
  | nil => simp at h
  | cons x r =>
    have := (csA_mem (x :: r) x).2 List.mem_cons_self
    exact List.length_pos_of_mem this
theorem upto_get (l : List Ad) : upto (fun i => l[i]!) l.length = l := by
  apply List.ext_getElem
  · simp [upto]
  · intro i h1 h2
    simp [upto, h2]
end Go.Proofs.YtbilaapikclhlaaDoor
