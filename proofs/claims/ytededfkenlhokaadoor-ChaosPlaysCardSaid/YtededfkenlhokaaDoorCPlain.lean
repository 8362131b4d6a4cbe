/- Plain laws of no program: faults, their lines, and what two readings of a line and of a text say. -/
import Derived.WalkKit
import Derived.Lib.SpaceU
import Derived.Lib.FieldsU
import Derived.Lib.Join
import Derived.Lib.AtoiAllCases
import Derived.Lib.ItoaLen
import Derived.Shelf.Strings.FieldsAny
namespace Go.Proofs.YtededfkenlhokaaDoor
set_option linter.unusedVariables false

/-- A fault: its kind, connection, direction, place and argument. -/
structure Ft where
  k : Int
  c : Int
  d : Int
  a : Int
  g : Int
deriving DecidableEq
def laneB (c d : Int) : Bool := decide (0 ≤ c ∧ c ≤ 1000 ∧ (d = 0 ∨ d = 1))
def Ft.ok (f : Ft) : Bool :=
  decide (laneB f.c f.d = true ∧ 0 ≤ f.a ∧ f.a ≤ 1000000 ∧
    (f.k = 1 ∧ 0 ≤ f.g ∧ f.g ≤ 65536 ∨ f.k = 2 ∧ 0 ≤ f.g ∧ f.g ≤ 1000000 ∨ f.k = 3 ∧ 1 ≤ f.g ∧ f.g ≤ 999 ∨ f.k = 4 ∧ f.g = 0))
theorem Ft.ok_iff {f : Ft} : f.ok = true ↔ (0 ≤ f.c ∧ f.c ≤ 1000) ∧ (f.d = 0 ∨ f.d = 1) ∧ (0 ≤ f.a ∧ f.a ≤ 1000000) ∧
    (f.k = 1 ∧ 0 ≤ f.g ∧ f.g ≤ 65536 ∨ f.k = 2 ∧ 0 ≤ f.g ∧ f.g ≤ 1000000 ∨ f.k = 3 ∧ 1 ≤ f.g ∧ f.g ≤ 999 ∨ f.k = 4 ∧ f.g = 0) := by
  unfold Ft.ok laneB
  simp only [decide_eq_true_eq]
  constructor
  · rintro ⟨⟨h1, h2, h3⟩, h4, h5, h6⟩
    exact ⟨⟨h1, h2⟩, h3, ⟨h4, h5⟩, h6⟩
  · rintro ⟨⟨h1, h2⟩, h3, ⟨h4, h5⟩, h6⟩
    exact ⟨⟨h1, h2, h3⟩, h4, h5, h6⟩

def wShort : List UInt8 := [115, 104, 111, 114, 116]
def wDelay : List UInt8 := [100, 101, 108, 97, 121]
def wFail : List UInt8 := [102, 97, 105, 108]
def wCut : List UInt8 := [99, 117, 116]
def wRead : List UInt8 := [114, 101, 97, 100]
def wWrite : List UInt8 := [119, 114, 105, 116, 101]
def kindB (k : Int) : List UInt8 := if k = 2 then wDelay else if k = 3 then wFail else if k = 4 then wCut else wShort
def dirB (d : Int) : List UInt8 := if d = 0 then wRead else wWrite
/-- The words of a fault's line. -/
def wordsOf (f : Ft) : List (List UInt8) := [kindB f.k, Lib.decDigits f.c.toNat, dirB f.d, Lib.decDigits f.a.toNat] ++ if f.k = 4 then [] else [Lib.decDigits f.g.toNat]
def lineB (f : Ft) : List UInt8 := Lib.join (wordsOf f) [32] ++ [10]

/-! ### Digits -/
def dstep (acc : Nat) (c : UInt8) : Nat := acc * 10 + (c.toNat - 48)
def dval (l : List UInt8) : Nat := l.foldl dstep 0
def isDig (c : UInt8) : Prop := 48 ≤ c.toNat ∧ c.toNat ≤ 57
instance (c : UInt8) : Decidable (isDig c) := by unfold isDig; exact inferInstance
theorem dfold_ge : ∀ (l : List UInt8) (acc : Nat), acc ≤ l.foldl dstep acc
  | [], acc => Nat.le_refl _
  | c :: r, acc => by
    have := dfold_ge r (dstep acc c)
    simp only [List.foldl_cons]
    unfold dstep at this ⊢
    omega
theorem parse_fold : ∀ (l : List UInt8) (acc : Nat), (∀ c ∈ l, isDig c) → l.foldl dstep acc ≤ 1000000 → Lib.parseUint10 acc l = .ok (l.foldl dstep acc)
  | [], acc, _, _ => rfl
  | c :: r, acc, hd, hm => by
    have hc : 48 ≤ c.toNat ∧ c.toNat ≤ 57 := hd c List.mem_cons_self
    have h1 := dfold_ge r (dstep acc c)
    simp only [List.foldl_cons] at hm
    have h2 : dstep acc c ≤ 1000000 := Nat.le_trans h1 hm
    rw [Lib.parseUint10, if_pos hc]
    unfold dstep at h2
    rw [if_neg (by omega), if_neg (by omega)]
    exact parse_fold r _ (fun x hx => hd x (List.mem_cons_of_mem _ hx)) hm
theorem dig_toNat {k : Nat} (h : k < 10) : (UInt8.ofNat (48 + k)).toNat = 48 + k := by
  simp [UInt8.toNat_ofNat]; omega
theorem decDigits_dig (u : Nat) : ∀ c ∈ Lib.decDigits u, isDig c := by
  induction u using Nat.strongRecOn with
  | _ u ih =>
    rw [Lib.decDigits]
    split
    · rename_i h
      intro c hc
      rw [List.mem_singleton] at hc
      subst hc
      unfold isDig
      rw [dig_toNat h]
      omega
    · intro c hc
      rcases List.mem_append.1 hc with hc | hc
      · exact ih (u / 10) (by omega) c hc
      · rw [List.mem_singleton] at hc
        subst hc
        unfold isDig
        rw [dig_toNat (by omega)]
        omega
theorem dval_decDigits (u : Nat) : dval (Lib.decDigits u) = u := by
  induction u using Nat.strongRecOn with
  | _ u ih =>
    rw [Lib.decDigits]
    split
    · rename_i h
      unfold dval
      simp only [List.foldl_cons, List.foldl_nil, dstep, dig_toNat h]
      omega
    · unfold dval at ih ⊢
      rw [List.foldl_append, ih (u / 10) (by omega)]
      simp only [List.foldl_cons, List.foldl_nil, dstep]
      rw [dig_toNat (by omega)]
      omega
theorem decDigits_nil (u : Nat) : Lib.decDigits u ≠ [] := fun h => by
  have h1 := Lib.decDigits_length u
  have h2 := Lib.nDigits_pos u
  rw [h] at h1
  simp at h1
  omega
theorem nDigits_le : ∀ (k u : Nat), u < 10 ^ (k + 1) → Lib.nDigits u ≤ k + 1
  | 0, u, h => by rw [Lib.nDigits_small (by simpa using h)]; exact Nat.le_refl _
  | k + 1, u, h => by
    by_cases h10 : u < 10
    · rw [Lib.nDigits_small h10]; omega
    · rw [Lib.nDigits_big h10]
      have := nDigits_le k (u / 10) (by rw [Nat.pow_succ] at h; omega)
      omega
theorem decDigits_len7 (u : Nat) (h : u ≤ 1000000) : (Lib.decDigits u).length ≤ 7 := by
  rw [Lib.decDigits_length]
  exact nDigits_le 6 u (by omega)
theorem atoiAll_dec (u : Nat) (h : u ≤ 1000000) : Lib.atoiAll (Lib.decDigits u) = .ok (u : Int) := by
  have hd := decDigits_dig u
  have hv := dval_decDigits u
  have hp := parse_fold (Lib.decDigits u) 0 hd (by unfold dval at hv; omega)
  cases hl : Lib.decDigits u with
  | nil => exact absurd hl (decDigits_nil u)
  | cons c r =>
    have hc := hd c (by rw [hl]; simp)
    unfold isDig at hc
    rw [Lib.atoiAll_plain c r (by omega) (by omega), Lib.parseMag, if_neg (by simp), ← hl, hp]
    unfold dval at hv
    rw [hv]
    simp only [Lib.signless]
    rw [if_neg (by omega)]

/-! ### The program's reading of a line -/
def numP (w : List (List UInt8)) (i : Nat) : Int := match w[i]? with
  | none => 0
  | some x => match Lib.atoiAll x with
    | .ok v => v
    | _ => -1
def kindP (x : List UInt8) : Int := if x = wShort then 1 else if x = wDelay then 2 else if x = wFail then 3 else if x = wCut then 4 else 0
def dirP (x : List UInt8) : Int := if x = wRead then 0 else if x = wWrite then 1 else -1
def parP (w : List (List UInt8)) : Ft := ⟨kindP (w.getD 0 []), numP w 1, dirP (w.getD 2 []), numP w 3, numP w 4⟩
def readP (s : List UInt8) : Option Ft :=
  if (Lib.fieldsD s).length < 4 then none
  else if (parP (Lib.fieldsD s)).ok = true ∧ lineB (parP (Lib.fieldsD s)) = s then some (parP (Lib.fieldsD s)) else none
/-! ### The reference's reading of a line without its line feed -/
def splitGo : List UInt8 → List UInt8 → List (List UInt8)
  | cur, [] => [cur]
  | cur, b :: l => if b = 32 then cur :: splitGo [] l else splitGo (cur ++ [b]) l
def numR (x : List UInt8) : Int := if ∀ c ∈ x, isDig c ∧ x.length ≤ 8 then (dval x : Int) else -1
def dirR (x : List UInt8) : Int := if x = wWrite then 1 else 0
def parR (w : List (List UInt8)) : Ft := ⟨kindP (w.getD 0 []), numR (w.getD 1 []), dirR (w.getD 2 []), numR (w.getD 3 []), if 4 < w.length then numR (w.getD 4 []) else 0⟩
def readR (s : List UInt8) : Option Ft :=
  if (splitGo [] s).length < 4 then none
  else if (parR (splitGo [] s)).ok = true ∧ lineB (parR (splitGo [] s)) = s ++ [10] then some (parR (splitGo [] s)) else none

/-! ### A line's words -/
def Wordy (w : List UInt8) : Prop := w ≠ [] ∧ ∀ c ∈ w, 48 ≤ c.toNat ∧ c.toNat ≤ 122
theorem wordy_dec (u : Nat) : Wordy (Lib.decDigits u) := ⟨decDigits_nil u, fun c hc => by have := decDigits_dig u c hc; unfold isDig at this; omega⟩
theorem wordy_kind (k : Int) : Wordy (kindB k) := by
  unfold kindB
  split
  · exact ⟨by decide, by decide⟩
  · split
    · exact ⟨by decide, by decide⟩
    · split
      · exact ⟨by decide, by decide⟩
      · exact ⟨by decide, by decide⟩
theorem wordy_dir (d : Int) : Wordy (dirB d) := by
  unfold dirB
  split
  · exact ⟨by decide, by decide⟩
  · exact ⟨by decide, by decide⟩
theorem wordy_of (f : Ft) : ∀ w ∈ wordsOf f, Wordy w := by
  intro w hw
  unfold wordsOf at hw
  simp only [List.cons_append, List.nil_append, List.mem_cons] at hw
  rcases hw with rfl | rfl | rfl | rfl | hw
  · exact wordy_kind _
  · exact wordy_dec _
  · exact wordy_dir _
  · exact wordy_dec _
  · split at hw
    · cases hw
    · rw [List.mem_singleton] at hw
      subst hw
      exact wordy_dec _
theorem Wordy.sp {w : List UInt8} (h : Wordy w) : ∀ c ∈ w, Lib.isSp c = false := fun c hc => by
  have := h.2 c hc
  unfold Lib.isSp
  have e : ∀ k : UInt8, k.toNat ≤ 47 → (c == k) = false := fun k hk => by
    rw [beq_eq_false_iff_ne]
    intro he
    subst he
    omega
  rw [e 9 (by decide), e 10 (by decide), e 11 (by decide), e 12 (by decide), e 13 (by decide), e 32 (by decide)]
  rfl
theorem fieldsGo_word : ∀ (w cur l : List UInt8), (∀ c ∈ w, Lib.isSp c = false) → Lib.fieldsGo cur (w ++ l) = Lib.fieldsGo (cur ++ w) l
  | [], cur, l, _ => by simp
  | c :: w, cur, l, h => by
    rw [List.cons_append, Lib.fieldsGo_more cur c (w ++ l) (h c List.mem_cons_self), fieldsGo_word w (cur ++ [c]) l (fun x hx => h x (List.mem_cons_of_mem _ hx))]
    simp
theorem fields_join : ∀ (ws : List (List UInt8)), (∀ w ∈ ws, Wordy w) → ws ≠ [] → Lib.fieldsGo [] (Lib.join ws [32] ++ [10]) = ws
  | [], _, h => absurd rfl h
  | [w], h, _ => by
    rw [Lib.join_one, fieldsGo_word w [] [10] (h w (by simp)).sp, List.nil_append, Lib.fieldsGo_end w 10 [] (by decide) (h w (by simp)).1]
    rfl
  | w :: v :: r, h, _ => by
    have e : Lib.join (w :: v :: r) [32] = w ++ 32 :: Lib.join (v :: r) [32] := by
      rw [Lib.join_cons, Lib.join_cons]
      simp [Lib.joinTail]
    rw [e, List.append_assoc, fieldsGo_word w [] _ (h w (by simp)).sp, List.nil_append, List.cons_append, Lib.fieldsGo_end w 32 _ (by decide) (h w (by simp)).1,
      fields_join (v :: r) (fun x hx => h x (List.mem_cons_of_mem _ hx)) (by simp)]
theorem split_word : ∀ (w cur l : List UInt8), (∀ c ∈ w, c ≠ 32) → splitGo cur (w ++ l) = splitGo (cur ++ w) l
  | [], cur, l, _ => by simp
  | c :: w, cur, l, h => by
    rw [List.cons_append, splitGo, if_neg (h c List.mem_cons_self), split_word w (cur ++ [c]) l (fun x hx => h x (List.mem_cons_of_mem _ hx))]
    simp
theorem Wordy.ne32 {w : List UInt8} (h : Wordy w) : ∀ c ∈ w, c ≠ 32 := fun c hc he => by
  have := h.2 c hc
  subst he
  have e : (32 : UInt8).toNat = 32 := rfl
  omega
theorem split_join : ∀ (ws : List (List UInt8)), (∀ w ∈ ws, Wordy w) → ws ≠ [] → splitGo [] (Lib.join ws [32]) = ws
  | [], _, h => absurd rfl h
  | [w], h, _ => by
    have := split_word w [] [] (h w (by simp)).ne32
    rw [List.append_nil] at this
    rw [Lib.join_one, this]
    rfl
  | w :: v :: r, h, _ => by
    have e : Lib.join (w :: v :: r) [32] = w ++ 32 :: Lib.join (v :: r) [32] := by
      rw [Lib.join_cons, Lib.join_cons]
      simp [Lib.joinTail]
    rw [e, split_word w [] _ (h w (by simp)).ne32, List.nil_append, splitGo, if_pos rfl, split_join (v :: r) (fun x hx => h x (List.mem_cons_of_mem _ hx)) (by simp)]
theorem join_bytes : ∀ (ws : List (List UInt8)), (∀ w ∈ ws, Wordy w) → ∀ c ∈ Lib.join ws [32], c = 32 ∨ 48 ≤ c.toNat ∧ c.toNat ≤ 122
  | [], _, c, hc => by simp [Lib.join_nil] at hc
  | w :: r, h, c, hc => by
    rw [Lib.join_cons] at hc
    rcases List.mem_append.1 hc with hc | hc
    · exact .inr ((h w (by simp)).2 c hc)
    · unfold Lib.joinTail at hc
      obtain ⟨l, hl, hcl⟩ := List.mem_flatten.1 hc
      obtain ⟨v, hv, rfl⟩ := List.mem_map.1 hl
      simp only [List.cons_append, List.nil_append, List.mem_cons] at hcl
      rcases hcl with rfl | hcl
      · exact .inl rfl
      · exact .inr ((h v (List.mem_cons_of_mem _ hv)).2 c hcl)
theorem wordsOf_ne (f : Ft) : wordsOf f ≠ [] := by unfold wordsOf; simp
theorem line_ascii (f : Ft) : ∀ b ∈ lineB f, b.toNat < 128 := fun b hb => by
  unfold lineB at hb
  rcases List.mem_append.1 hb with hb | hb
  · rcases join_bytes _ (wordy_of f) b hb with rfl | h
    · decide
    · omega
  · rw [List.mem_singleton] at hb
    subst hb
    decide
theorem fields_line (f : Ft) : Lib.fieldsD (lineB f) = wordsOf f := by
  rw [Lib.fieldsD_ascii _ (line_ascii f)]
  exact fields_join _ (wordy_of f) (wordsOf_ne f)
theorem split_line (f : Ft) : splitGo [] (Lib.join (wordsOf f) [32]) = wordsOf f := split_join _ (wordy_of f) (wordsOf_ne f)

/-! ### What is written is read again -/
theorem kindP_kindB {k : Int} (h : k = 1 ∨ k = 2 ∨ k = 3 ∨ k = 4) : kindP (kindB k) = k := by
  rcases h with rfl | rfl | rfl | rfl <;> decide
theorem dirP_dirB {d : Int} (h : d = 0 ∨ d = 1) : dirP (dirB d) = d ∧ dirR (dirB d) = d := by
  rcases h with rfl | rfl <;> decide
theorem numR_dec (u : Nat) (h : u ≤ 1000000) : numR (Lib.decDigits u) = u := by
  unfold numR
  rw [if_pos (fun c hc => ⟨decDigits_dig u c hc, by have := decDigits_len7 u h; omega⟩), dval_decDigits]
theorem Ft.nums {f : Ft} (h : f.ok = true) : (f.c.toNat ≤ 1000000 ∧ (f.c.toNat : Int) = f.c) ∧ (f.a.toNat ≤ 1000000 ∧ (f.a.toNat : Int) = f.a) ∧ (f.g.toNat ≤ 1000000 ∧ (f.g.toNat : Int) = f.g) ∧ (f.d = 0 ∨ f.d = 1) ∧ (f.k = 1 ∨ f.k = 2 ∨ f.k = 3 ∨ f.k = 4) ∧ (f.k = 4 → f.g = 0) := by
  obtain ⟨h1, h2, h3, h4⟩ := Ft.ok_iff.1 h
  refine ⟨⟨by omega, by omega⟩, ⟨by omega, by omega⟩, ⟨by omega, by omega⟩, h2, by omega, by omega⟩
theorem parP_words {f : Ft} (h : f.ok = true) : parP (wordsOf f) = f := by
  obtain ⟨⟨c1, c2⟩, ⟨a1, a2⟩, ⟨g1, g2⟩, hd, hk, h4⟩ := Ft.nums h
  have n1 : numP (wordsOf f) 1 = f.c := by simp [numP, wordsOf, atoiAll_dec _ c1, c2]
  have n3 : numP (wordsOf f) 3 = f.a := by simp [numP, wordsOf, atoiAll_dec _ a1, a2]
  have n4 : numP (wordsOf f) 4 = f.g := by
    by_cases hk4 : f.k = 4
    · simp [numP, wordsOf, hk4, h4 hk4]
    · simp [numP, wordsOf, hk4, atoiAll_dec _ g1, g2]
  unfold parP
  rw [n1, n3, n4, show (wordsOf f).getD 0 [] = kindB f.k from rfl, show (wordsOf f).getD 2 [] = dirB f.d from rfl, kindP_kindB hk, (dirP_dirB hd).1]
theorem parR_words {f : Ft} (h : f.ok = true) : parR (wordsOf f) = f := by
  obtain ⟨⟨c1, c2⟩, ⟨a1, a2⟩, ⟨g1, g2⟩, hd, hk, h4⟩ := Ft.nums h
  have n4 : (if 4 < (wordsOf f).length then numR ((wordsOf f).getD 4 []) else 0) = f.g := by
    by_cases hk4 : f.k = 4
    · simp [wordsOf, hk4, h4 hk4]
    · simp [wordsOf, hk4, numR_dec _ g1, g2]
  unfold parR
  rw [n4, show (wordsOf f).getD 0 [] = kindB f.k from rfl, show (wordsOf f).getD 2 [] = dirB f.d from rfl, show (wordsOf f).getD 1 [] = Lib.decDigits f.c.toNat from rfl, show (wordsOf f).getD 3 [] = Lib.decDigits f.a.toNat from rfl,
    kindP_kindB hk, (dirP_dirB hd).2, numR_dec _ c1, numR_dec _ a1, c2, a2]
theorem wordsOf_len (f : Ft) : ¬ (wordsOf f).length < 4 := by unfold wordsOf; simp
theorem readP_iff (s : List UInt8) (f : Ft) : readP s = some f ↔ f.ok = true ∧ lineB f = s := by
  constructor
  · intro h
    unfold readP at h
    split at h
    · cases h
    · split at h
      · rename_i h1
        simp only [Option.some.injEq] at h
        rw [← h]
        exact h1
      · cases h
  · rintro ⟨h1, rfl⟩
    unfold readP
    rw [fields_line, if_neg (wordsOf_len f), parP_words h1, if_pos ⟨h1, rfl⟩]
theorem readR_iff (s : List UInt8) (f : Ft) : readR s = some f ↔ f.ok = true ∧ lineB f = s ++ [10] := by
  constructor
  · intro h
    unfold readR at h
    split at h
    · cases h
    · split at h
      · rename_i h1
        simp only [Option.some.injEq] at h
        rw [← h]
        exact h1
      · cases h
  · rintro ⟨h1, h2⟩
    have h3 : Lib.join (wordsOf f) [32] = s := by
      unfold lineB at h2
      exact List.append_cancel_right h2
    unfold readR
    rw [← h3, split_line, if_neg (wordsOf_len f), parR_words h1, if_pos ⟨h1, rfl⟩]
theorem read_same (s : List UInt8) : readP (s ++ [10]) = readR s := by
  rcases h : readR s with _ | f
  · rcases h' : readP (s ++ [10]) with _ | g
    · rfl
    · rw [readP_iff, ← readR_iff, h] at h'
      cases h'
  · rw [readP_iff, ← readR_iff, h]
theorem readP_nl {s : List UInt8} {f : Ft} (h : readP s = some f) : ∃ t, s = t ++ [10] := by
  obtain ⟨_, rfl⟩ := (readP_iff s f).1 h
  exact ⟨_, rfl⟩

/-! ### Texts -/
/-- The lines of a text, each with its line feed; the last one may have none. -/
def linesGo : List UInt8 → List UInt8 → List (List UInt8)
  | cur, [] => if cur = [] then [] else [cur]
  | cur, b :: l => if b = 10 then (cur ++ [10]) :: linesGo [] l else linesGo (cur ++ [b]) l
def parseP : List (List UInt8) → List Ft → List Ft × Int
  | [], out => (out, 0)
  | t :: ts, out => if out.length = 64 then ([], 7) else match readP t with
    | none => ([], 6)
    | some f => parseP ts (out ++ [f])
def refGo : List UInt8 → List UInt8 → List Ft → Option (List Ft)
  | cur, [], want => if cur = [] then some want else none
  | cur, b :: l, want => if b = 10 then (match readR cur with
    | none => none
    | some x => refGo [] l (want ++ [x])) else refGo (cur ++ [b]) l want
theorem join_len4 (a b c d : List UInt8) (r : List (List UInt8)) (ha : a ≠ []) (hb : b ≠ []) (hc : c ≠ []) (hd : d ≠ []) : 7 ≤ (Lib.join (a :: b :: c :: d :: r) [32]).length := by
  have e : ∀ x : List UInt8, x ≠ [] → 1 ≤ x.length := fun x hx => List.length_pos_iff.2 hx
  have := e a ha
  have := e b hb
  have := e c hc
  have := e d hd
  rw [Lib.join_cons]
  simp only [Lib.joinTail, List.map_cons, List.flatten_cons, List.length_append, List.length_cons, List.length_nil]
  omega
theorem line_len (f : Ft) : 8 ≤ (lineB f).length := by
  unfold lineB wordsOf
  have := join_len4 (kindB f.k) (Lib.decDigits f.c.toNat) (dirB f.d) (Lib.decDigits f.a.toNat) (if f.k = 4 then [] else [Lib.decDigits f.g.toNat]) (wordy_kind _).1 (wordy_dec _).1 (wordy_dir _).1 (wordy_dec _).1
  simp only [List.cons_append, List.nil_append, List.length_append, List.length_cons, List.length_nil]
  omega
theorem parse_ref : ∀ (l cur : List UInt8) (want : List Ft), 8 * want.length + cur.length + l.length ≤ 500 → (10 : UInt8) ∉ cur →
    parseP (linesGo cur l) want = match refGo cur l want with
      | none => ([], 6)
      | some w => (w, 0)
  | [], cur, want, h, hn => by
    unfold linesGo refGo
    by_cases hc : cur = []
    · rw [if_pos hc, if_pos hc]
      rfl
    · rw [if_neg hc, if_neg hc]
      unfold parseP
      rw [if_neg (by simp only [List.length_nil] at h; omega)]
      rcases h' : readP cur with _ | g
      · rfl
      · obtain ⟨t, rfl⟩ := readP_nl h'
        simp at hn
  | b :: l, cur, want, h, hn => by
    unfold linesGo refGo
    by_cases hb : b = 10
    · rw [if_pos hb, if_pos hb]
      unfold parseP
      rw [if_neg (by simp only [List.length_cons] at h; omega), read_same]
      rcases hr : readR cur with _ | f
      · rfl
      · have := (readR_iff cur f).1 hr
        have hl := line_len f
        rw [this.2, List.length_append] at hl
        simp only [List.length_cons, List.length_nil] at hl h
        exact parse_ref l [] (want ++ [f]) (by simp only [List.length_append, List.length_cons, List.length_nil]; omega) (by simp)
    · rw [if_neg hb, if_neg hb]
      exact parse_ref l (cur ++ [b]) want (by simp only [List.length_append, List.length_cons, List.length_nil] at h ⊢; omega) (by simp [hn, Ne.symm hb])
end Go.Proofs.YtededfkenlhokaaDoor
