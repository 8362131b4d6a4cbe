/- Report: how calls have ended, in plain, and the map in which it is counted. -/
import Derived.Test.YtllmejkcohfbiaaGreatDoorR25K
import Derived.Test.YtllmejkcohfbiaaGreatDoorR14
import Derived.DeepKeys4
namespace Go.Proofs.YtllmejkcohfbiaaGreatDoor
open Go.RowKit Go.Maps Go.Shelf Go.Sort Go.Lib
set_option linter.unusedVariables false
set_option linter.unusedSimpArgs false
set_option maxRecDepth 100000
set_option maxHeartbeats 8000000

def Ev.key (v : Ev) : Int × Int := (v.eKind, v.eErr)
abbrev CD := List ((Int × Int) × Nat)
/-- How many ends a kind and a code have. -/
def cnt (l : List Ev) (k : Int × Int) : Nat := l.countP fun v => v.ended && decide (v.key = k)
/-- The map of the ends so far. -/
structure CdR (l : List Ev) (D : CD) : Prop where
  nodup : (D.map (·.1)).Nodup
  num : ∀ p ∈ D, p.2 = cnt l p.1 ∧ 0 < p.2
  all : ∀ v ∈ l, v.ended = true → v.key ∈ D.map (·.1)
  sum : (D.map (·.2)).sum = l.countP (·.ended)
  key : ∀ p ∈ D, I64 p.1.1 ∧ I64 p.1.2
theorem cnt_app (l : List Ev) (v : Ev) (k : Int × Int) : cnt (l ++ [v]) k = cnt l k + if (v.ended && decide (v.key = k)) = true then 1 else 0 := by
  unfold cnt
  rw [List.countP_append, List.countP_singleton]
theorem CdR.zero : CdR [] [] := ⟨by simp, (fun p hp => by cases hp), (fun v hv => by cases hv), rfl, (fun p hp => by cases hp)⟩
theorem CdR.idle {l : List Ev} {D : CD} {v : Ev} (h : CdR l D) (hv : v.ended = false) : CdR (l ++ [v]) D := by
  refine ⟨h.nodup, fun p hp => ?_, fun u hu he => ?_, ?_, h.key⟩
  · rw [cnt_app, hv]
    exact h.num p hp
  · rcases List.mem_append.1 hu with hu | hu
    · exact h.all u hu he
    · rw [List.mem_singleton] at hu
      rw [hu, hv] at he
      cases he
  · rw [h.sum, List.countP_append, List.countP_singleton, hv]
    rfl
theorem CdR.others {l : List Ev} {A B : CD} {k : Int × Int} {n : Nat} (h : CdR l (A ++ (k, n) :: B)) : (∀ p ∈ A, p.1 ≠ k) ∧ ∀ p ∈ B, p.1 ≠ k := by
  have hnd := h.nodup
  rw [List.map_append, List.map_cons, List.nodup_append] at hnd
  obtain ⟨_, h2, h3⟩ := hnd
  rw [List.nodup_cons] at h2
  exact ⟨fun p hp e => h3 p.1 (List.mem_map.2 ⟨p, hp, rfl⟩) k (by simp) e, fun p hp e => h2.1 (by rw [← e]; exact List.mem_map.2 ⟨p, hp, rfl⟩)⟩
theorem CdR.hit {l : List Ev} {A B : CD} {v : Ev} {n : Nat} (h : CdR l (A ++ (v.key, n) :: B)) (hv : v.ended = true) : CdR (l ++ [v]) (A ++ (v.key, n + 1) :: B) := by
  obtain ⟨hA, hB⟩ := h.others
  have hk : (A ++ (v.key, n + 1) :: B).map (·.1) = (A ++ (v.key, n) :: B).map (·.1) := by simp
  have hother : ∀ p : (Int × Int) × Nat, p.1 ≠ v.key → p ∈ A ++ (v.key, n) :: B → p.2 = cnt (l ++ [v]) p.1 ∧ 0 < p.2 := fun p hne hp => by
    rw [cnt_app, hv, decide_eq_false (fun e => hne e.symm)]
    exact h.num p hp
  refine ⟨by rw [hk]; exact h.nodup, fun p hp => ?_, fun u hu he => ?_, ?_, fun p hp => ?_⟩
  · rcases List.mem_append.1 hp with hp | hp
    · exact hother p (hA p hp) (by simp [hp])
    · rcases List.mem_cons.1 hp with rfl | hp
      · have := (h.num (v.key, n) (by simp)).1
        dsimp only at this ⊢
        rw [cnt_app, hv, decide_eq_true rfl, ← this]
        exact ⟨rfl, by omega⟩
      · exact hother p (hB p hp) (by simp [hp])
  · rw [hk]
    rcases List.mem_append.1 hu with hu | hu
    · exact h.all u hu he
    · rw [List.mem_singleton] at hu
      subst hu
      simp
  · have := h.sum
    simp only [List.map_append, List.map_cons, List.sum_append, List.sum_cons] at this ⊢
    rw [List.countP_append, List.countP_singleton, hv]
    simp only [if_true]
    omega
  · rcases List.mem_append.1 hp with hp | hp
    · exact h.key p (by simp [hp])
    · rcases List.mem_cons.1 hp with rfl | hp
      · exact h.key (v.key, n) (by simp)
      · exact h.key p (by simp [hp])
theorem CdR.new {l : List Ev} {D : CD} {v : Ev} (h : CdR l D) (hv : v.ended = true) (hn : ∀ p ∈ D, p.1 ≠ v.key) (hk : I64 v.eKind ∧ I64 v.eErr) : CdR (l ++ [v]) (D ++ [(v.key, 1)]) := by
  have h0 : cnt l v.key = 0 := by
    unfold cnt
    rw [List.countP_eq_zero]
    intro u hu hc
    rw [Bool.and_eq_true] at hc
    have := h.all u hu hc.1
    rw [of_decide_eq_true hc.2] at this
    obtain ⟨p, hp, he⟩ := List.mem_map.1 this
    exact hn p hp he
  refine ⟨?_, fun p hp => ?_, fun u hu he => ?_, ?_, fun p hp => ?_⟩
  · rw [List.map_append, List.nodup_append]
    refine ⟨h.nodup, by simp, fun a ha b hb e => ?_⟩
    obtain ⟨p, hp, rfl⟩ := List.mem_map.1 ha
    simp only [List.map_cons, List.map_nil, List.mem_singleton] at hb
    exact hn p hp (e.trans hb)
  · rcases List.mem_append.1 hp with hp | hp
    · rw [cnt_app, hv, decide_eq_false (fun e => hn p hp e.symm)]
      exact h.num p hp
    · rw [List.mem_singleton] at hp
      subst hp
      dsimp only
      rw [cnt_app, hv, decide_eq_true rfl, h0]
      exact ⟨rfl, by omega⟩
  · rw [List.map_append, List.mem_append]
    rcases List.mem_append.1 hu with hu | hu
    · exact .inl (h.all u hu he)
    · rw [List.mem_singleton] at hu
      subst hu
      exact .inr (by simp)
  · rw [List.map_append, List.sum_append, h.sum, List.countP_append, List.countP_singleton, hv]
    rfl
  · rcases List.mem_append.1 hp with hp | hp
    · exact h.key p hp
    · rw [List.mem_singleton] at hp
      subst hp
      exact hk
theorem sum_ge : ∀ D : CD, (∀ p ∈ D, 0 < p.2) → D.length ≤ (D.map (·.2)).sum
  | [], _ => by simp
  | p :: r, h => by
    have h1 := h p (by simp)
    have h2 := sum_ge r (fun q hq => h q (by simp [hq]))
    simp only [List.map_cons, List.sum_cons, List.length_cons]
    omega
theorem CdR.len {l : List Ev} {D : CD} (h : CdR l D) : D.length ≤ l.length := by
  have h1 := sum_ge D (fun p hp => (h.num p hp).2)
  rw [h.sum] at h1
  exact Nat.le_trans h1 List.countP_le_length
theorem cd_split (D : CD) (k : Int × Int) : (∃ A n B, D = A ++ (k, n) :: B) ∨ ∀ p ∈ D, p.1 ≠ k := by
  induction D with
  | nil => exact .inr (fun p hp => by cases hp)
  | cons p r ih =>
    by_cases hp : p.1 = k
    · exact .inl ⟨[], p.2, r, by rw [← hp]; rfl⟩
    · rcases ih with ⟨A, n, B, rfl⟩ | h
      · exact .inl ⟨p :: A, n, B, rfl⟩
      · refine .inr (fun q hq => ?_)
        rcases List.mem_cons.1 hq with rfl | hq
        · exact hp
        · exact h q hq
/-- A pair of the map as it is handed back. -/
def cdOf (p : (Int × Int) × Nat) : Cd := ⟨p.1.1, p.1.2, (p.2 : Int)⟩
def cdLt (a b : Cd) : Prop := a.call < b.call ∨ a.call = b.call ∧ a.err < b.err
/-- How calls have ended, in order. -/
structure CodesAre (l : List Ev) (L : List Cd) : Prop where
  num : ∀ x ∈ L, x.n = (cnt l (x.call, x.err) : Int) ∧ 0 < cnt l (x.call, x.err)
  lt : L.Pairwise cdLt
  sum : (L.map (·.n)).sum = (l.countP (·.ended) : Int)
  len : L.length ≤ l.length
theorem sum_cast : ∀ D : CD, (D.map (fun p => (p.2 : Int))).sum = ((D.map (·.2)).sum : Nat)
  | [] => rfl
  | p :: r => by
    simp only [List.map_cons, List.sum_cons]
    rw [sum_cast r]
    omega
theorem perm_sum : ∀ {a b : List Int}, a.Perm b → a.sum = b.sum := by
  intro a b h
  induction h with
  | nil => rfl
  | cons x _ ih => simp only [List.sum_cons]; rw [ih]
  | swap x y l => simp only [List.sum_cons]; omega
  | trans _ _ h1 h2 => exact h1.trans h2
theorem CodesAre.of {l : List Ev} {D : CD} {L : List Cd} (h : CdR l D) (hp : L.Perm (D.map cdOf)) (hs : L.Pairwise (fun a b => ¬ cdLt b a)) : CodesAre l L := by
  have hmem : ∀ x ∈ L, ∃ p ∈ D, cdOf p = x := fun x hx => by
    have := hp.mem_iff.1 hx
    obtain ⟨p, hp, he⟩ := List.mem_map.1 this
    exact ⟨p, hp, he⟩
  refine ⟨fun x hx => ?_, ?_, ?_, ?_⟩
  · obtain ⟨p, hp, rfl⟩ := hmem x hx
    have := h.num p hp
    exact ⟨by show (p.2 : Int) = _; rw [this.1]; rfl, by show 0 < cnt l p.1; rw [← this.1]; exact this.2⟩
  · have hnd : (L.map (fun x : Cd => (x.call, x.err))).Nodup := by
      refine (hp.map _).nodup_iff.2 ?_
      rw [List.map_map]
      exact h.nodup
    rw [List.nodup_iff_pairwise_ne, List.pairwise_map] at hnd
    refine (List.Pairwise.and hs hnd).imp (fun {a b} hab => ?_)
    obtain ⟨h1, h2⟩ := hab
    unfold cdLt at h1 ⊢
    by_cases e : a.call = b.call
    · by_cases e2 : a.err = b.err
      · exact absurd (by rw [e, e2]) h2
      · omega
    · omega
  · rw [perm_sum (hp.map _), List.map_map]
    show (D.map (fun p => (p.2 : Int))).sum = _
    rw [sum_cast, h.sum]
  · rw [hp.length_eq, List.length_map]
    exact h.len
end Go.Proofs.YtllmejkcohfbiaaGreatDoor
