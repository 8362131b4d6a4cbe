/- Plain laws of no program: dialings and a net; trying in turn, and that what is stable stays so. -/
import Derived.Test.YtgbmenfmaphciaaPN
namespace Go.Proofs.Ytgbmenfmaphciaa.PN
set_option linter.unusedVariables false

/-- A dialing. -/
structure PD where
  s : ByteArray
  p : Int
  c : Nat
  un : Int
  st : Int
  conn : Int
  er : Int
  tr : Int
def pass (a b : Int) : Bool := (b != 18446744073709551615) && decide (a ≤ b)
/-- A dialing and the net after a try, the number, the error. -/
def tryD (now : Int) (d : PD) (N : Net) : PD × Net × Int × Int :=
  if d.st ≠ 0 then (d, N, 0, 8)
  else if pass d.un now then ({ d with st := 2, er := 12 }, N, 0, 12)
  else ({ d with st := if (connect N d.s d.p d.c).2.2 = 0 then 1 else if (connect N d.s d.p d.c).2.2 = 16 then 0 else 2,
                 conn := if (connect N d.s d.p d.c).2.2 = 0 then (connect N d.s d.p d.c).2.1 else d.conn,
                 er := if (connect N d.s d.p d.c).2.2 = 0 ∨ (connect N d.s d.p d.c).2.2 = 16 then d.er else (connect N d.s d.p d.c).2.2,
                 tr := d.tr + 1 }, (connect N d.s d.p d.c).1,
        if (connect N d.s d.p d.c).2.2 = 0 ∨ (connect N d.s d.p d.c).2.2 = 16 then (connect N d.s d.p d.c).2.1 else 0, (connect N d.s d.p d.c).2.2)
/-- One round: the dialings, the net, how many tries. -/
def roundD (now : Int) : List PD → Net → List PD × Net × Int
  | [], N => ([], N, 0)
  | d :: r, N => ((tryD now d N).1 :: (roundD now r (tryD now d N).2.1).1, (roundD now r (tryD now d N).2.1).2.1, ((tryD now d N).1.tr - d.tr) + (roundD now r (tryD now d N).2.1).2.2)
def sts (D : List PD) : List Int := D.map (·.st)
def trying (D : List PD) : Nat := (D.filter fun d => decide (d.st = 0)).length
/-- Rounds until no state changes. -/
def allD (now : Int) : Nat → List PD → Net → List PD × Net × Int
  | 0, D, N => (D, N, 0)
  | f + 1, D, N =>
    if sts (roundD now D N).1 = sts D then roundD now D N
    else ((allD now f (roundD now D N).1 (roundD now D N).2.1).1, (allD now f (roundD now D N).1 (roundD now D N).2.1).2.1, (roundD now D N).2.2 + (allD now f (roundD now D N).1 (roundD now D N).2.1).2.2)

theorem tryD_done {now : Int} {d : PD} {N : Net} (h : d.st ≠ 0) : tryD now d N = (d, N, 0, 8) := if_pos h
theorem tryD_fix (now : Int) (d : PD) (N : Net) : (tryD now d N).1.s = d.s ∧ (tryD now d N).1.p = d.p ∧ (tryD now d N).1.c = d.c ∧ (tryD now d N).1.un = d.un := by
  unfold tryD
  split
  · exact ⟨rfl, rfl, rfl, rfl⟩
  · split <;> exact ⟨rfl, rfl, rfl, rfl⟩
/-- Where a state stays 'trying', the net stays as it was. -/
theorem tryD_block {now : Int} {d : PD} {N : Net} (h : d.st = 0) (h' : (tryD now d N).1.st = 0) : pass d.un now = false ∧ (connect N d.s d.p d.c).2.2 = 16 := by
  unfold tryD at h'
  rw [if_neg (by omega)] at h'
  by_cases hp : pass d.un now = true
  · rw [if_pos hp] at h'
    simp at h'
  · rw [if_neg hp] at h'
    simp only at h'
    refine ⟨by simpa using hp, ?_⟩
    split at h'
    · omega
    · split at h'
      · assumption
      · omega
theorem connect_block {N : Net} {s : ByteArray} {p : Int} {c : Nat} (h : (connect N s p c).2.2 = 16) : (connect N s p c).1 = N ∧ (connect N s p c).2.1 = 0 := by
  unfold connect at h ⊢
  split at h
  · simp at h
  · split at h
    · rename_i hf
      rw [if_pos hf]
      exact ⟨rfl, rfl⟩
    · split at h <;> simp at h
theorem tryD_16 {now : Int} {d : PD} {N : Net} (h0 : d.st = 0) (h1 : pass d.un now = false) (h2 : (connect N d.s d.p d.c).2.2 = 16) : tryD now d N = ({ d with tr := d.tr + 1 }, N, 0, 16) := by
  obtain ⟨h3, h4⟩ := connect_block h2
  obtain ⟨s, p, c, un, st, conn, er, tr⟩ := d
  simp only at h0 h1 h2 h3 h4
  subst h0
  simp [tryD, h1, h2, h3, h4]
/-- A try that leaves the state as it was changes nothing but the number of tries. -/
theorem tryD_same {now : Int} {d : PD} {N : Net} (h : (tryD now d N).1.st = d.st) :
    (tryD now d N).2.1 = N ∧ (tryD now d N).1 = { d with tr := d.tr + if d.st = 0 then 1 else 0 } := by
  by_cases h0 : d.st = 0
  · obtain ⟨h1, h2⟩ := tryD_block h0 (h.trans h0)
    rw [tryD_16 h0 h1 h2, if_pos h0]
    exact ⟨rfl, rfl⟩
  · rw [tryD_done h0]
    exact ⟨rfl, by simp [h0]⟩

def bump (d : PD) : PD := { d with tr := d.tr + if d.st = 0 then 1 else 0 }
theorem round_same {now : Int} : ∀ {D : List PD} {N : Net}, sts (roundD now D N).1 = sts D → roundD now D N = (D.map bump, N, (trying D : Int))
  | [], N, _ => rfl
  | d :: r, N, h => by
    simp only [roundD, sts, List.map_cons, List.cons.injEq] at h
    obtain ⟨h1, h2⟩ := h
    obtain ⟨h3, h4⟩ := tryD_same h1
    simp only [roundD]
    rw [h3] at h2 ⊢
    have ih := round_same (D := r) (N := N) h2
    rw [ih, h4]
    refine congr (congrArg Prod.mk rfl) (congrArg (Prod.mk N) ?_)
    by_cases h0 : d.st = 0
    · simp [trying, h0]; omega
    · simp [trying, h0]
/-- A round that changes no state does the same once more. -/
theorem round_again {now : Int} : ∀ {D : List PD} {N : Net}, sts (roundD now D N).1 = sts D → sts (roundD now (D.map bump) N).1 = sts D
  | [], N, _ => rfl
  | d :: r, N, h => by
    simp only [roundD, sts, List.map_cons, List.cons.injEq] at h
    obtain ⟨h1, h2⟩ := h
    obtain ⟨h3, h4⟩ := tryD_same h1
    rw [h3] at h2
    have ih := round_again (D := r) (N := N) h2
    have e : (tryD now (bump d) N).1.st = d.st ∧ (tryD now (bump d) N).2.1 = N := by
      by_cases h0 : d.st = 0
      · obtain ⟨k1, k2⟩ := tryD_block h0 (h1.trans h0)
        rw [tryD_16 (d := bump d) h0 k1 k2]
        exact ⟨rfl, rfl⟩
      · have hb : (bump d).st ≠ 0 := h0
        rw [tryD_done hb]
        exact ⟨rfl, rfl⟩
    simp only [roundD, sts, List.map_cons, List.cons.injEq]
    rw [e.2]
    exact ⟨e.1, ih⟩
theorem sts_bump (D : List PD) : sts (D.map bump) = sts D := by
  simp [sts, bump, Function.comp_def]
theorem trying_sts {D E : List PD} (h : sts D = sts E) : trying D = trying E := by
  have e : ∀ F : List PD, trying F = (sts F).countP (fun x => decide (x = 0)) := fun F => by
    rw [trying, ← List.countP_eq_length_filter, sts, List.countP_map]
    rfl
  rw [e, e, h]
theorem tryD_st {now : Int} {d : PD} {N : Net} : (tryD now d N).1.st = d.st ∨ d.st = 0 ∧ (tryD now d N).1.st ≠ 0 := by
  by_cases h0 : d.st = 0
  · by_cases h1 : (tryD now d N).1.st = 0
    · exact .inl (h1.trans h0.symm)
    · exact .inr ⟨h0, h1⟩
  · rw [tryD_done h0]
    exact .inl rfl
theorem round_trying {now : Int} : ∀ (D : List PD) (N : Net), trying (roundD now D N).1 ≤ trying D ∧ (sts (roundD now D N).1 ≠ sts D → trying (roundD now D N).1 < trying D)
  | [], N => ⟨Nat.le_refl _, fun h => absurd rfl h⟩
  | d :: r, N => by
    obtain ⟨i1, i2⟩ := round_trying (now := now) r (tryD now d N).2.1
    have cons : ∀ (x : PD) (l : List PD), trying (x :: l) = (if x.st = 0 then 1 else 0) + trying l := fun x l => by
      by_cases h : x.st = 0
      · simp [trying, h]; omega
      · simp [trying, h]
    simp only [roundD, cons, sts, List.map_cons]
    rcases tryD_st (now := now) (d := d) (N := N) with h | ⟨h1, h2⟩
    · rw [h]
      refine ⟨by omega, fun hne => ?_⟩
      have := i2 (fun he => hne (by simp only [sts] at he; rw [he]))
      omega
    · rw [if_neg h2, if_pos h1]
      exact ⟨by omega, fun _ => by omega⟩
/-- With enough rounds All comes to its end: the last round changes no state. -/
theorem allD_end {now : Int} : ∀ (f : Nat) (D : List PD) (N : Net), trying D < f → ∃ D' N', sts (roundD now D' N').1 = sts D' ∧ (allD now f D N).1 = D'.map bump ∧ (allD now f D N).2.1 = N'
  | 0, D, N, h => by omega
  | f + 1, D, N, h => by
    unfold allD
    by_cases he : sts (roundD now D N).1 = sts D
    · rw [if_pos he]
      have hr := round_same he
      exact ⟨D, N, he, by rw [hr], by rw [hr]⟩
    · rw [if_neg he]
      exact allD_end f _ _ (by have := (round_trying (now := now) D N).2 he; omega)
/-- A further All makes one try for each that is trying, and changes no state. -/
theorem allD_twice {now : Int} (f g : Nat) (D : List PD) (N : Net) (h : trying D < f) (hg : 0 < g) :
    (allD now g (allD now f D N).1 (allD now f D N).2.1).2.2 = trying (allD now f D N).1 ∧ sts (allD now g (allD now f D N).1 (allD now f D N).2.1).1 = sts (allD now f D N).1 := by
  obtain ⟨D', N', h1, h2, h3⟩ := allD_end (now := now) f D N h
  rw [h2, h3]
  obtain ⟨g', rfl⟩ : ∃ g', g = g' + 1 := ⟨g - 1, by omega⟩
  have h4 := round_again h1
  have h5 : sts (roundD now (D'.map bump) N').1 = sts (D'.map bump) := h4.trans (sts_bump D').symm
  unfold allD
  rw [if_pos h5, round_same h5]
  exact ⟨rfl, sts_bump _⟩
end Go.Proofs.Ytgbmenfmaphciaa.PN
