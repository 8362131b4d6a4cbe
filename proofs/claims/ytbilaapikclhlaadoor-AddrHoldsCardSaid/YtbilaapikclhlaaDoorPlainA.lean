/- Plain laws on texts of addresses: Text and Parse invert each other; what the reference's reading of a text says. -/
import Derived.Test.YtbilaapikclhlaaDoorKnownA
import Derived.Lib.AtoiAllCases
namespace Go.Proofs.YtbilaapikclhlaaDoor
open Go.RowKit Go.Sort
set_option linter.unusedVariables false

def dstep (acc : Nat) (c : UInt8) : Nat := acc * 10 + (c.toNat - 48)
def dval (l : List UInt8) : Nat := l.foldl dstep 0
def isDig (c : UInt8) : Prop := 48 ≤ c.toNat ∧ c.toNat ≤ 57
theorem dfold_ge : ∀ (l : List UInt8) (acc : Nat), acc ≤ l.foldl dstep acc
  | [], acc => Nat.le_refl _
  | c :: r, acc => by
    have := dfold_ge r (dstep acc c)
    simp only [List.foldl_cons]
    unfold dstep at this ⊢
    omega
theorem parse_fold : ∀ (l : List UInt8) (acc : Nat), (∀ c ∈ l, isDig c) → l.foldl dstep acc ≤ 65535 → Lib.parseUint10 acc l = .ok (l.foldl dstep acc)
  | [], acc, _, _ => rfl
  | c :: r, acc, hd, hm => by
    have hc : 48 ≤ c.toNat ∧ c.toNat ≤ 57 := hd c List.mem_cons_self
    have h1 := dfold_ge r (dstep acc c)
    simp only [List.foldl_cons] at hm
    have h2 : dstep acc c ≤ 65535 := Nat.le_trans h1 hm
    rw [Lib.parseUint10, if_pos hc]
    unfold dstep at h2
    rw [if_neg (by omega), if_neg (by omega)]
    exact parse_fold r _ (fun x hx => hd x (List.mem_cons_of_mem _ hx)) hm
theorem dig_toNat {k : Nat} (h : k < 10) : (UInt8.ofNat (48 + k)).toNat = 48 + k := by
  simp [UInt8.toNat_ofNat]; omega
theorem decDigits_dig (u : Nat) : ∀ c ∈ Lib.decDigits u, isDig c := by
  induction u using Nat.strongRecOn with
  | _ u ih =>
    rw [Lib.decDigits]
    split
    · rename_i h
      intro c hc
      rw [List.mem_singleton] at hc
      subst hc
      unfold isDig
      rw [dig_toNat h]
      omega
    · intro c hc
      rcases List.mem_append.1 hc with hc | hc
      · exact ih (u / 10) (by omega) c hc
      · rw [List.mem_singleton] at hc
        subst hc
        unfold isDig
        rw [dig_toNat (by omega)]
        omega
theorem dval_decDigits (u : Nat) : dval (Lib.decDigits u) = u := by
  induction u using Nat.strongRecOn with
  | _ u ih =>
    rw [Lib.decDigits]
    split
    · rename_i h
      unfold dval
      simp only [List.foldl_cons, List.foldl_nil, dstep, dig_toNat h]
      omega
    · unfold dval at ih ⊢
      rw [List.foldl_append, ih (u / 10) (by omega)]
      simp only [List.foldl_cons, List.foldl_nil, dstep]
      rw [dig_toNat (by omega)]
      omega
theorem decDigits_nil (u : Nat) : Lib.decDigits u ≠ [] := fun h => by
  have h1 := Lib.decDigits_length u
  have h2 := Lib.nDigits_pos u
  rw [h] at h1
  simp at h1
  omega
theorem decDigits_len5 (u : Nat) (h : u ≤ 65535) : (Lib.decDigits u).length ≤ 5 := by
  rw [Lib.decDigits_length]
  rw [Lib.nDigits]
  split
  · omega
  · rw [Lib.nDigits]
    split
    · omega
    · rw [Lib.nDigits]
      split
      · omega
      · rw [Lib.nDigits]
        split
        · omega
        · rw [Lib.nDigits]
          split
          · omega
          · omega
theorem atoi_dec (u : Nat) (h : u ≤ 65535) : atoiN (Lib.decDigits u) = u := by
  unfold atoiN
  have hall : Lib.atoiAll (Lib.decDigits u) = .ok (u : Int) := by
    have hd := decDigits_dig u
    have hv := dval_decDigits u
    have hp := parse_fold (Lib.decDigits u) 0 hd (by unfold dval at hv; omega)
    cases hl : Lib.decDigits u with
    | nil => exact absurd hl (decDigits_nil u)
    | cons c r =>
      have hc := hd c (by rw [hl]; simp)
      unfold isDig at hc
      rw [Lib.atoiAll_plain c r (by omega) (by omega), Lib.parseMag, if_neg (by simp), ← hl, hp]
      unfold dval at hv
      rw [hv]
      simp only [Lib.signless]
      rw [if_neg (by omega)]
  rw [hall]

theorem index_colon : ∀ (l r : List UInt8), (∀ c ∈ l, c ≠ 58) → Lib.index (l ++ 58 :: r) [58] = l.length
  | [], r, _ => by simp [Lib.index]
  | c :: l, r, h => by
    have hc : c ≠ 58 := h c List.mem_cons_self
    have ih := index_colon l r (fun x hx => h x (List.mem_cons_of_mem _ hx))
    rw [List.cons_append, Lib.index, ih]
    have hp : ([58] : List UInt8).isPrefixOf (c :: (l ++ 58 :: r)) = false := by
      simp only [List.isPrefixOf, Bool.and_true, beq_eq_false_iff_ne]
      exact fun e => hc e.symm
    rw [hp]
    have hn : ((l.length : Int) == -1) = false := by
      rw [beq_eq_false_iff_ne]
      omega
    rw [hn]
    simp
theorem cut_colon (l r : List UInt8) (h : ∀ c ∈ l, c ≠ 58) : (Lib.cut (l ++ 58 :: r) [58]).1 = l ∧ (Lib.cut (l ++ 58 :: r) [58]).2.1 = r := by
  unfold Lib.cut
  rw [index_colon l r h, if_pos (by omega)]
  refine ⟨by simp, ?_⟩
  have : ((l.length : Int)).toNat + ([58] : List UInt8).length = l.length + 1 := by simp
  simp only [this]
  simp
theorem good_nocolon : ∀ (l : List UInt8) (i : Nat), goodFrom i l = true → ∀ c ∈ l, c ≠ 58
  | [], _, _, c, hc => by cases hc
  | x :: r, i, h, c, hc => by
    simp only [goodFrom, Bool.and_eq_true] at h
    rcases List.mem_cons.1 hc with rfl | hc
    · intro e
      subst e
      have h1 := h.1
      simp [goodAt, letterB, digitB] at h1
    · exact good_nocolon r (i + 1) h.2 c hc
theorem name_nocolon {l : List UInt8} {p : Int} (h : addrB l p = true) : ∀ c ∈ l, c ≠ 58 := by
  simp only [addrB, nameB, Bool.and_eq_true] at h
  exact good_nocolon l 0 h.1.1.1.1
theorem text_list (s : ByteArray) (u : Nat) : (textB s u).data.toList = s.data.toList ++ 58 :: Lib.decDigits u := by
  simp [textB]
theorem name_text {s : ByteArray} {u : Nat} (h : addrB s.data.toList u = true) : nameOf (textB s u) = s := by
  unfold nameOf
  rw [text_list, (cut_colon _ _ (name_nocolon h)).1]
theorem port_text {s : ByteArray} {u : Nat} (h : addrB s.data.toList u = true) (hu : u ≤ 65535) : portOf (textB s u) = u := by
  unfold portOf
  rw [text_list, (cut_colon _ _ (name_nocolon h)).2]
  exact atoi_dec u hu
theorem addr_port {l : List UInt8} {p : Int} (h : addrB l p = true) : 0 ≤ p ∧ p ≤ 65535 := by
  simp only [addrB, Bool.and_eq_true, decide_eq_true_eq] at h
  omega
/-- A text that Parse takes is the text of what it returns. -/
theorem good_text {s : ByteArray} (h : goodP s = true) : ∃ u : Nat, u ≤ 65535 ∧ portOf s = u ∧ addrB (nameOf s).data.toList u = true ∧ textB (nameOf s) u = s := by
  simp only [goodP, Bool.and_eq_true, decide_eq_true_eq] at h
  obtain ⟨h1, h2⟩ := h
  have hp := addr_port h1
  obtain ⟨u, hu⟩ := Int.eq_ofNat_of_zero_le hp.1
  rw [hu] at h1 h2 hp
  exact ⟨u, by omega, hu, h1, by simpa using h2⟩
theorem text_good {s : ByteArray} {u : Nat} (h : addrB s.data.toList u = true) : goodP (textB s u) = true := by
  have hp := addr_port h
  simp only [goodP, Bool.and_eq_true, decide_eq_true_eq]
  rw [name_text h, port_text h (by omega)]
  exact ⟨h, by simp⟩
theorem split_colon : ∀ (a c b d : List UInt8), (∀ x ∈ a, x ≠ 58) → (∀ x ∈ c, x ≠ 58) → a ++ 58 :: b = c ++ 58 :: d → a = c ∧ b = d
  | [], [], b, d, _, _, h => by simpa using h
  | [], y :: c, b, d, _, h2, h => by
    simp only [List.nil_append, List.cons_append, List.cons.injEq] at h
    exact absurd h.1.symm (h2 y List.mem_cons_self)
  | x :: a, [], b, d, h1, _, h => by
    simp only [List.nil_append, List.cons_append, List.cons.injEq] at h
    exact absurd h.1 (h1 x List.mem_cons_self)
  | x :: a, y :: c, b, d, h1, h2, h => by
    simp only [List.cons_append, List.cons.injEq] at h
    obtain ⟨e, h⟩ := h
    obtain ⟨e1, e2⟩ := split_colon a c b d (fun z hz => h1 z (List.mem_cons_of_mem _ hz)) (fun z hz => h2 z (List.mem_cons_of_mem _ hz)) h
    rw [e, e1]
    exact ⟨rfl, e2⟩
theorem dval_snoc (l : List UInt8) (c : UInt8) : dval (l ++ [c]) = dval l * 10 + (c.toNat - 48) := by
  unfold dval
  rw [List.foldl_append]
  rfl
/-- The first k bytes hold no colon, and behind them the text ends, or a colon stands. -/
def ColonAt (s : ByteArray) (k : Nat) : Prop := k ≤ s.size ∧ (∀ c ∈ s.data.toList.take k, c ≠ 58) ∧ (k < s.size → s.data.toList = s.data.toList.take k ++ 58 :: s.data.toList.drop (k + 1))
theorem good_at {s : ByteArray} {k : Nat} (hk : ColonAt s k) (hg : goodP s = true) : ∃ u : Nat, u ≤ 65535 ∧ k < s.size ∧ s.data.toList.take k = (nameOf s).data.toList ∧ s.data.toList.drop (k + 1) = Lib.decDigits u := by
  obtain ⟨u, hu, _, ha, ht⟩ := good_text hg
  have hl := text_list (nameOf s) u
  rw [ht] at hl
  have hn := name_nocolon ha
  obtain ⟨h1, h2, h3⟩ := hk
  by_cases hlt : k < s.size
  · have h4 := h3 hlt
    rw [h4] at hl
    obtain ⟨e1, e2⟩ := split_colon _ _ _ _ h2 hn hl
    exact ⟨u, hu, hlt, e1, e2⟩
  · exfalso
    have hkk : s.data.toList.take k = s.data.toList := List.take_of_length_le (by simp; omega)
    rw [hkk] at h2
    exact h2 58 (by rw [hl]; simp) rfl
theorem bad_digit {s : ByteArray} {k j : Nat} (hk : ColonAt s k) (hj : k + 1 ≤ j) (hl : j < s.size) (hb : ¬ isDig s[j] ∨ k + 6 < j) : goodP s = false := by
  rw [Bool.eq_false_iff]
  intro hg
  obtain ⟨u, hu, hlt, _, e2⟩ := good_at hk hg
  have hlen := decDigits_len5 u hu
  have hsz : (s.data.toList.drop (k + 1)).length = s.size - (k + 1) := by simp
  rw [e2] at hsz
  rcases hb with hb | hb
  · apply hb
    apply decDigits_dig u
    rw [← e2]
    have : s[j] = (s.data.toList.drop (k + 1))[j - (k + 1)]'(by rw [e2, hsz]; omega) := by
      rw [List.getElem_drop]
      have e : k + 1 + (j - (k + 1)) = j := by omega
      simp only [e]
      rfl
    rw [this]
    exact List.getElem_mem _
  · omega
theorem good_iff {s : ByteArray} {k : Nat} (hk : ColonAt s k) (nm : ByteArray) (hnm : nm.data.toList = s.data.toList.take k) (v : Nat) (hv : v = dval (s.data.toList.drop (k + 1))) :
    goodP s = (addrB nm.data.toList v && decide (textB nm v = s)) ∧ (goodP s = true → nameOf s = nm ∧ portOf s = v) := by
  have key : goodP s = true → nameOf s = nm ∧ portOf s = v ∧ addrB nm.data.toList v = true ∧ textB nm v = s := by
    intro hg
    obtain ⟨u, hu, hp, ha, ht⟩ := good_text hg
    obtain ⟨u', hu', hlt, e1, e2⟩ := good_at hk hg
    have hl := text_list (nameOf s) u
    rw [ht, hk.2.2 hlt] at hl
    obtain ⟨_, e3⟩ := split_colon _ _ _ _ hk.2.1 (name_nocolon ha) hl
    have hvu : v = u := by rw [hv, e3, dval_decDigits]
    have hn : nameOf s = nm := by
      have : (nameOf s).data.toList = nm.data.toList := by rw [hnm, e1]
      obtain ⟨⟨a⟩⟩ := nm
      cases h : nameOf s with
      | mk d =>
        obtain ⟨b⟩ := d
        rw [h] at this
        simp only at this
        rw [this]
    refine ⟨hn, by rw [hp, hvu], ?_, ?_⟩
    · rw [← hn, hvu]; exact ha
    · rw [← hn, hvu]; exact ht
  refine ⟨?_, fun hg => ⟨(key hg).1, (key hg).2.1⟩⟩
  cases hg : goodP s
  · symm
    rw [Bool.eq_false_iff]
    intro h
    simp only [Bool.and_eq_true, decide_eq_true_eq] at h
    have := text_good h.1
    rw [h.2, hg] at this
    cases this
  · obtain ⟨_, _, h3, h4⟩ := key hg
    rw [h3, h4]
    simp
theorem dval_lt : ∀ (l : List UInt8), (∀ c ∈ l, isDig c) → ∀ acc, l.foldl dstep acc + 1 ≤ (acc + 1) * 10 ^ l.length
  | [], _, acc => by simp
  | c :: r, h, acc => by
    have hc := h c List.mem_cons_self
    unfold isDig at hc
    have ih := dval_lt r (fun x hx => h x (List.mem_cons_of_mem _ hx)) (dstep acc c)
    simp only [List.foldl_cons, List.length_cons]
    have h1 : dstep acc c + 1 ≤ (acc + 1) * 10 := by unfold dstep; omega
    calc r.foldl dstep (dstep acc c) + 1 ≤ (dstep acc c + 1) * 10 ^ r.length := ih
      _ ≤ ((acc + 1) * 10) * 10 ^ r.length := Nat.mul_le_mul_right _ h1
      _ = (acc + 1) * 10 ^ (r.length + 1) := by rw [Nat.pow_succ, Nat.mul_assoc, Nat.mul_comm (10 ^ r.length) 10]
end Go.Proofs.YtbilaapikclhlaaDoor
