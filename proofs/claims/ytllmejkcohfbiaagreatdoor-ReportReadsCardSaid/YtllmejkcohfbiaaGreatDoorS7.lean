/- Plain: what ReportWrites wants; a line of a task that waits is read again. -/
import Derived.Test.YtllmejkcohfbiaaGreatDoorS6P
import Derived.Test.YtllmejkcohfbiaaGreatDoorS4
import Derived.Test.YtllmejkcohfbiaaGreatDoorS5
namespace Go.Proofs.YtllmejkcohfbiaaGreatDoor
open Go.RowKit Go.Shelf Go.Sort Go.Lib
set_option linter.unusedVariables false
set_option linter.unusedSimpArgs false

def dstep (acc : Nat) (c : UInt8) : Nat := acc * 10 + (c.toNat - 48)
def dval (l : List UInt8) : Nat := l.foldl dstep 0
def isDig (c : UInt8) : Prop := 48 ≤ c.toNat ∧ c.toNat ≤ 57

theorem dfold_ge : ∀ (l : List UInt8) (acc : Nat), acc ≤ l.foldl dstep acc
  | [], acc => Nat.le_refl _
  | c :: r, acc => by
    have := dfold_ge r (dstep acc c)
    simp only [List.foldl_cons]
    unfold dstep at this ⊢
    omega
theorem parse_fold : ∀ (l : List UInt8) (acc : Nat), (∀ c ∈ l, isDig c) → l.foldl dstep acc ≤ 18446744073709551615 → Lib.parseUintM 18446744073709551615 acc l = .ok (l.foldl dstep acc)
  | [], acc, _, _ => rfl
  | c :: r, acc, hd, hm => by
    have hc : 48 ≤ c.toNat ∧ c.toNat ≤ 57 := hd c List.mem_cons_self
    have h1 := dfold_ge r (dstep acc c)
    simp only [List.foldl_cons] at hm
    have h2 : dstep acc c ≤ 18446744073709551615 := Nat.le_trans h1 hm
    rw [Lib.parseUintM, if_pos hc]
    unfold dstep at h2
    rw [if_neg (by omega), if_neg (by omega)]
    exact parse_fold r _ (fun x hx => hd x (List.mem_cons_of_mem _ hx)) hm
theorem decDigits_dig (u : Nat) : ∀ c ∈ Lib.decDigits u, isDig c := by
  induction u using Nat.strongRecOn with
  | _ u ih =>
    rw [Lib.decDigits]
    split
    · rename_i h
      intro c hc
      rw [List.mem_singleton] at hc
      subst hc
      unfold isDig
      rw [dig_toNat h]
      omega
    · intro c hc
      rcases List.mem_append.1 hc with hc | hc
      · exact ih (u / 10) (by omega) c hc
      · rw [List.mem_singleton] at hc
        subst hc
        unfold isDig
        rw [dig_toNat (by omega)]
        omega
theorem dval_decDigits (u : Nat) : dval (Lib.decDigits u) = u := by
  induction u using Nat.strongRecOn with
  | _ u ih =>
    rw [Lib.decDigits]
    split
    · rename_i h
      unfold dval
      simp only [List.foldl_cons, List.foldl_nil, dstep, dig_toNat h]
      omega
    · unfold dval at ih ⊢
      rw [List.foldl_append, ih (u / 10) (by omega)]
      simp only [List.foldl_cons, List.foldl_nil, dstep]
      rw [dig_toNat (by omega)]
      omega
theorem decDigits_ne (u : Nat) : Lib.decDigits u ≠ [110, 101, 118, 101, 114] := fun h => by
  have := decDigits_dig u 110 (by rw [h]; simp)
  unfold isDig at this
  simp at this
theorem decDigits_nil (u : Nat) : Lib.decDigits u ≠ [] := fun h => by
  have h1 := Lib.decDigits_length u
  have h2 := Lib.nDigits_pos u
  rw [h] at h1
  simp at h1
  omega
theorem parse10_fold : ∀ (l : List UInt8) (acc : Nat), (∀ c ∈ l, isDig c) → l.foldl dstep acc ≤ 18446744073709551615 → Lib.parseUint10 acc l = .ok (l.foldl dstep acc)
  | [], acc, _, _ => rfl
  | c :: r, acc, hd, hm => by
    have hc : 48 ≤ c.toNat ∧ c.toNat ≤ 57 := hd c List.mem_cons_self
    have h1 := dfold_ge r (dstep acc c)
    simp only [List.foldl_cons] at hm
    have h2 : dstep acc c ≤ 18446744073709551615 := Nat.le_trans h1 hm
    rw [Lib.parseUint10, if_pos hc]
    unfold dstep at h2
    rw [if_neg (by omega), if_neg (by omega)]
    exact parse10_fold r _ (fun x hx => hd x (List.mem_cons_of_mem _ hx)) hm
theorem valB_dec (u : Nat) (h : u ≤ 9223372036854775807) : valB (Lib.decDigits u) = (u : Int) := by
  have hp : Lib.parseMag (Lib.decDigits u) = .ok u := by
    unfold Lib.parseMag
    rw [if_neg (decDigits_nil u)]
    have := parse10_fold (Lib.decDigits u) 0 (decDigits_dig u) (by have := dval_decDigits u; unfold dval at this; omega)
    have e := dval_decDigits u
    unfold dval at e
    rw [e] at this
    exact this
  unfold valB
  cases hl : Lib.decDigits u with
  | nil => exact absurd hl (decDigits_nil u)
  | cons c r =>
    have hc := decDigits_dig u c (by rw [hl]; simp)
    unfold isDig at hc
    rw [hl] at hp
    rw [Lib.atoiAll_plain c r (by omega) (by omega), hp]
    unfold Lib.signless
    simp only
    rw [if_neg (by omega)]
theorem pV_time (t : Int) (h0 : 0 ≤ t) (h : t < 18446744073709551616) : pV (timeB t) = t := by
  obtain ⟨u, rfl⟩ : ∃ u : Nat, t = u := ⟨t.toNat, by omega⟩
  have hp : pT (timeB (u : Int)) = some u := by
    unfold pT
    by_cases hn : u = 18446744073709551615
    · subst hn
      rfl
    · have ht : timeB (u : Int) = Lib.decDigits u := by unfold timeB; rw [if_neg (by omega)]; rfl
      rw [ht, if_neg (decDigits_ne u)]
      have hp : Lib.parseUintB 64 (Lib.decDigits u) = .ok u := by
        unfold Lib.parseUintB
        rw [if_neg (decDigits_nil u)]
        have := parse_fold (Lib.decDigits u) 0 (decDigits_dig u) (by have := dval_decDigits u; unfold dval at this; omega)
        have e := dval_decDigits u
        unfold dval at e
        rw [e] at this
        exact this
      rw [hp]
      simp only [ht, if_true]
  unfold pV
  rw [hp]
  rfl
theorem idx_why (i : Nat) (h : i < 7) : idxB whyWs (whyWs.getD i []) = (i : Int) := by
  have : ∀ i, i < 7 → idxB whyWs (whyWs.getD i []) = (i : Int) := by decide
  exact this i h
theorem dig_no {u : Nat} {c : UInt8} (hc : ¬ isDig c) : c ∉ Lib.decDigits u := fun h => hc (decDigits_dig u c h)
theorem bkWords_no (x : Bk) (hok : x.ok = true) (hwf : x.wf) (c : UInt8) (hc : c = 32 ∨ c = 10) : ∀ y ∈ [Lib.itoa x.t, whyWs.getD x.why.toNat [], [117, 110, 116, 105, 108], timeB x.till], c ∉ y := by
  unfold Bk.ok at hok
  simp only [decide_eq_true_eq] at hok
  have hd : ¬ isDig c := by
    unfold isDig
    rcases hc with rfl | rfl <;> decide
  intro y hy
  simp only [List.mem_cons, List.not_mem_nil, or_false] at hy
  rcases hy with rfl | rfl | rfl | rfl
  · have : Lib.itoa x.t = Lib.decDigits x.t.toNat := by
      obtain ⟨u, hu⟩ : ∃ u : Nat, x.t = u := ⟨x.t.toNat, by omega⟩
      rw [hu, Lib.itoa_nonneg]
      rfl
    rw [this]
    exact dig_no hd
  · have h1 : ∀ i, i < 7 → 32 ∉ whyWs.getD i [] := by decide
    have h2 : ∀ i, i < 7 → 10 ∉ whyWs.getD i [] := by decide
    rcases hc with rfl | rfl
    · exact h1 _ (by omega)
    · exact h2 _ (by omega)
  · rcases hc with rfl | rfl <;> decide
  · unfold timeB
    split
    · rcases hc with rfl | rfl <;> decide
    · exact dig_no hd
theorem bk_read (x : Bk) (hok : x.ok = true) (hwf : x.wf) : rdOf (fun t => bkRead (splitS t)) Bk.ok bkB (bkB x) = some x := by
  have hs : splitS (Lib.trimSuffix (bkB x) [10]) = [Lib.itoa x.t, whyWs.getD x.why.toNat [], [117, 110, 116, 105, 108], timeB x.till] := by
    unfold bkB
    rw [trim_line, splitS_join _ (by simp) (bkWords_no x hok hwf 32 (.inl rfl))]
  have hr : bkRead (splitS (Lib.trimSuffix (bkB x) [10])) = x := by
    rw [hs]
    unfold Bk.ok at hok
    simp only [decide_eq_true_eq] at hok
    obtain ⟨t, e, n⟩ := x
    obtain ⟨i1, i2, i3, i4⟩ := hwf
    simp only at hok i1 i2 i3 i4
    obtain ⟨u, rfl⟩ : ∃ u : Nat, t = u := ⟨t.toNat, by omega⟩
    obtain ⟨e, rfl⟩ : ∃ k : Nat, e = k := ⟨e.toNat, by omega⟩
    unfold bkRead
    simp only [List.getD_cons_zero, List.getD_cons_succ, Int.toNat_natCast]
    rw [Lib.itoa_nonneg, valB_dec u (by unfold I64 at i1; omega), idx_why e (by omega), pV_time n i3 i4]
  unfold rdOf
  show (if (bkRead (splitS (Lib.trimSuffix (bkB x) [10]))).ok = true ∧ bkB (bkRead (splitS (Lib.trimSuffix (bkB x) [10]))) = bkB x then some (bkRead (splitS (Lib.trimSuffix (bkB x) [10]))) else none) = some x
  rw [hr, if_pos ⟨hok, rfl⟩]
theorem linesGo_line : ∀ (a cur l : List UInt8), 10 ∉ a → linesGo cur (a ++ 10 :: l) = (cur ++ a ++ [10]) :: linesGo [] l
  | [], cur, l, _ => by simp [linesGo]
  | b :: a, cur, l, h => by
    rw [List.cons_append, linesGo, if_neg (fun e => h (by simp [e])), linesGo_line a (cur ++ [b]) l (fun e => h (by simp [e]))]
    simp
theorem no_join (c : UInt8) (hc : c ≠ 32) : ∀ (ws : List (List UInt8)), (∀ y ∈ ws, c ∉ y) → c ∉ Lib.join ws [32]
  | [], _ => by simp [Lib.join_nil]
  | x :: r, h => by
    rw [Lib.join_cons]
    intro hm
    rcases List.mem_append.1 hm with hm | hm
    · exact h x (by simp) hm
    · unfold Lib.joinTail at hm
      obtain ⟨y, hy, hcy⟩ := List.mem_flatten.1 hm
      obtain ⟨z, hz, rfl⟩ := List.mem_map.1 hy
      rcases List.mem_append.1 hcy with h1 | h1
      · rw [List.mem_singleton] at h1
        exact hc h1
      · exact h z (List.mem_cons_of_mem _ hz) h1
theorem lines_copies (x : Bk) (hok : x.ok = true) (hwf : x.wf) : ∀ n : Nat, linesGo [] (textOf bkB (List.replicate n x)) = List.replicate n (bkB x)
  | 0 => rfl
  | n + 1 => by
    have h1 : 10 ∉ Lib.join [Lib.itoa x.t, whyWs.getD x.why.toNat [], [117, 110, 116, 105, 108], timeB x.till] [32] := no_join 10 (by decide) _ (bkWords_no x hok hwf 10 (.inr rfl))
    have e : textOf bkB (List.replicate (n + 1) x) = Lib.join [Lib.itoa x.t, whyWs.getD x.why.toNat [], [117, 110, 116, 105, 108], timeB x.till] [32] ++ 10 :: textOf bkB (List.replicate n x) := by
      simp only [List.replicate_succ, textOf, List.map_cons, List.flatten_cons]
      unfold bkB
      simp
    rw [e, linesGo_line _ _ _ h1, lines_copies x hok hwf n, List.replicate_succ]
    rfl
theorem parse_copies {α : Type} (rd : List UInt8 → Option α) (t : List UInt8) (x : α) (h : rd t = some x) : ∀ (k : Nat) (out : List α), out.length + k ≤ 1000 → parseL rd (List.replicate k t) out = (out ++ List.replicate k x, 0, 0)
  | 0, out, _ => by simp [parseL]
  | k + 1, out, hk => by
    rw [List.replicate_succ, parseL, if_neg (by omega), h]
    simp only
    rw [parse_copies rd t x h k (out ++ [x]) (by simp; omega)]
    simp [List.replicate_succ]
theorem parse_copies_over {α : Type} (rd : List UInt8 → Option α) (t : List UInt8) (x : α) (h : rd t = some x) : ∀ (k : Nat) (out : List α), out.length ≤ 1000 → 1000 < out.length + k → parseL rd (List.replicate k t) out = ([], 1001, 6)
  | 0, out, h1, h2 => by omega
  | k + 1, out, h1, h2 => by
    rw [List.replicate_succ, parseL]
    by_cases he : out.length = 1000
    · rw [if_pos he]
    · rw [if_neg he, h]
      simp only
      exact parse_copies_over rd t x h k (out ++ [x]) (by simp; omega) (by simp; omega)
theorem read_copies (x : Bk) (hok : x.ok = true) (hwf : x.wf) (n : Nat) : rdBlocked (textOf bkB (List.replicate n x)) = if n ≤ 1000 then (List.replicate n x, 0, 0) else ([], 1001, 6) := by
  unfold rdBlocked
  rw [lines_copies x hok hwf n]
  split
  · rename_i h
    rw [parse_copies _ _ x (bk_read x hok hwf) n [] (by simpa using h)]
    rfl
  · rename_i h
    exact parse_copies_over _ _ x (bk_read x hok hwf) n [] (by simp) (by simp; omega)
theorem text_copies (x : Bk) (hok : x.ok = true) (n : Nat) : bkText (List.replicate n x) = if n ≤ 1000 then (textOf bkB (List.replicate n x), 0) else ([], 2) := by
  unfold bkText bkAll bkOk
  have h1 : (List.replicate n x).all Bk.ok = true := by
    rw [List.all_eq_true]
    intro y hy
    rw [List.eq_of_mem_replicate hy]
    exact hok
  rw [h1, List.length_replicate, Bool.and_true]
  by_cases h : n ≤ 1000
  · rw [if_pos (decide_eq_true h), if_pos h]
  · rw [if_neg (by rw [decide_eq_false h]; simp), if_neg h]
theorem tk_says (xs : List Tk) (h : xs.length ≤ 20) : saysB (tkText xs).1 (tkText xs).2 (textOf taskB xs) (xs.all Tk.ok) = true := by
  unfold tkText tkAll tkOk saysB
  rw [decide_eq_true (p := xs.length ≤ 1000) (by omega), Bool.true_and]
  cases xs.all Tk.ok with
  | false => rfl
  | true => simp
theorem cd_says (xs : List Cd) (h : xs.length ≤ 20) : saysB (cdText xs).1 (cdText xs).2 (textOf cdB xs) (xs.all Cd.ok) = true := by
  unfold cdText cdAll cdOk saysB
  rw [decide_eq_true (p := xs.length ≤ 1000) (by omega), Bool.true_and]
  cases xs.all Cd.ok with
  | false => rfl
  | true => simp
theorem bkL_text : ∀ (xs : List Bk), xs.all Bk.ok = true → textOf bkL xs = textOf bkB xs
  | [], _ => rfl
  | x :: r, h => by
    simp only [List.all_cons, Bool.and_eq_true] at h
    have ih := bkL_text r h.2
    unfold textOf at ih ⊢
    rw [List.map_cons, List.map_cons, List.flatten_cons, List.flatten_cons, ih]
    unfold bkL
    rw [if_pos h.1]
theorem bk_says (xs : List Bk) (h : xs.length ≤ 20) : saysB (bkText xs).1 (bkText xs).2 (textOf bkL xs) (xs.all Bk.ok) = true := by
  unfold bkText bkAll bkOk saysB
  rw [decide_eq_true (p := xs.length ≤ 1000) (by omega), Bool.true_and]
  cases hx : xs.all Bk.ok with
  | false => rfl
  | true =>
    rw [bkL_text xs hx]
    simp
theorem bkB_len60 {x : Bk} (h : x.wf) (hok : x.ok = true) : (bkB x).length ≤ 60 := by
  unfold Bk.ok at hok
  simp only [decide_eq_true_eq] at hok
  have h1 := Lib.itoa_length_le x.t h.1.1 h.1.2
  have h2 := whyB_len x.why.toNat (by omega)
  have h3 := timeB_len h.2.2
  unfold bkB
  rw [List.length_append, Lib.join_length]
  simp only [Lib.lens, List.map_cons, List.map_nil, List.sum_cons, List.sum_nil, List.length_cons, List.length_nil]
  omega
theorem bkL_len {x : Bk} (h : x.wf) : (bkL x).length ≤ 100 := by
  unfold bkL
  split
  · rename_i hok
    unfold Bk.ok at hok
    simp only [decide_eq_true_eq] at hok
    exact bkB_len h ⟨hok.2.1, hok.2.2⟩
  · simp
end Go.Proofs.YtllmejkcohfbiaaGreatDoor
