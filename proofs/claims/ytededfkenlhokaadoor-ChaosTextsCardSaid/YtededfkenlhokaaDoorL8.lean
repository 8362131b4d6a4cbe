/- Contracts of the law's own number and words. -/
import Derived.Test.YtededfkenlhokaaDoorL7
import Derived.Laws.OwnMore
namespace Go.Proofs.YtededfkenlhokaaDoor
open Go.RowKit Go.Shelf
set_option linter.unusedVariables false
set_option maxRecDepth 100000
set_option maxHeartbeats 4000000

theorem dval_snoc (l : List UInt8) (c : UInt8) : dval (l ++ [c]) = dval l * 10 + (c.toNat - 48) := by
  unfold dval
  rw [List.foldl_append]
  rfl
theorem dfold_lt : ∀ (l : List UInt8) (acc B : Nat), acc < B → (∀ c ∈ l, isDig c) → l.foldl dstep acc < B * 10 ^ l.length
  | [], acc, B, h, _ => by simpa using h
  | c :: l, acc, B, h, hd => by
    have h2 : isDig c := hd c List.mem_cons_self
    unfold isDig at h2
    have h3 := dfold_lt l (dstep acc c) (B * 10) (by unfold dstep; omega) (fun x hx => hd x (List.mem_cons_of_mem _ hx))
    simp only [List.foldl_cons, List.length_cons, Nat.pow_succ]
    rw [Nat.mul_comm (10 ^ l.length) 10, ← Nat.mul_assoc]
    exact h3
theorem dval_lt (l : List UInt8) (h : ∀ c ∈ l, isDig c) : dval l < 10 ^ l.length := by
  have := dfold_lt l 0 1 (by omega) h
  rw [Nat.one_mul] at this
  exact this
theorem numR_no {x : List UInt8} {c : UInt8} (hm : c ∈ x) (h : ¬ isDig c ∨ 8 < x.length) : numR x = -1 := by
  unfold numR
  rw [if_neg]
  intro h0
  obtain ⟨h1, h2⟩ := h0 c hm
  rcases h with h | h
  · exact h h1
  · omega
theorem numR_yes {x : List UInt8} (h : ∀ c ∈ x, isDig c) (h8 : x ≠ [] → x.length ≤ 8) : numR x = dval x := by
  unfold numR
  rw [if_pos]
  intro c hc
  exact ⟨h c hc, h8 (fun e => by rw [e] at hc; cases hc)⟩
theorem numberL_any (x : List UInt8) (hx : x.length ≤ 100000) (w : World) :
    Calls Tryd.prog 34 #[.string (bs x)] w fun e w' => e = .returned (.int .i64 (numR x)) ∧ w = w' := by
  obtain ⟨t, ht⟩ : ∃ t, t = bs x := ⟨_, rfl⟩
  have hsz : t.size = x.length := by rw [ht, bs_size]
  have hdl : t.data.toList = x := by rw [ht, bs_list]
  have hat : ∀ (k : Nat) (h : k < t.size), x[k]? = some t[k] := fun k h => by
    rw [← hdl, List.getElem?_eq_getElem (by simpa using h)]
    rfl
  rw [← ht]
  obtain ⟨m, hm⟩ : ∃ m, t.size = m := ⟨_, rfl⟩
  have HS := Lib.hid hsz
  have HA := Lib.hid hat
  have HM := Lib.hid hm
  have hmx : t.size ≤ 100000 := by omega
  clear hsz hdl hat ht hm hx
  go_enter Tryd.func34, Tryd.ntmps34
  go_wp2
  go_loop [3, 4] (fun n i => ∃ k : Nat, k ≤ t.size ∧ i = .int .i64 k ∧ n = .int .i64 (dval (x.take k)) ∧ (∀ c ∈ x.take k, isDig c) ∧ (k ≠ 0 → t.size ≤ 8)) (fun _ i => t.size - (intOf i).toNat)
  case atStart => exact ⟨0, Nat.zero_le _, rfl, rfl, by simp, by simp⟩
  case round =>
    obtain ⟨k, hk, rfl, rfl, hd, h8⟩ := hrel
    by_cases hlt : k < t.size
    · have hc := HA.out k hlt
      have hmem := List.mem_of_getElem? hc
      have hb : (dval (x.take k) : Int) < 100000000 := by
        by_cases h0 : k = 0
        · subst h0
          simp [dval]
        · have h1 := dval_lt _ hd
          have h2 := h8 h0
          have h3 : (x.take k).length ≤ 8 := by rw [List.length_take]; omega
          have h4 : 10 ^ (x.take k).length ≤ 10 ^ 8 := Nat.pow_le_pow_right (by omega) h3
          omega
      have htk : x.take (k + 1) = x.take k ++ [t[k]] := by
        rw [List.take_add_one, hc]
        rfl
      have HC := Lib.hid hc
      have HMm := Lib.hid hmem
      have HD := Lib.hid hd
      have H8 := Lib.hid h8
      have HT := Lib.hid htk
      have hcm : (t[k].toNat : Int) < 256 := by have := t[k].toNat_lt; omega
      clear hc hmem hd h8 htk
      by_cases h1 : (t[k].toNat : Int) < 48
      · have HN := Lib.hid (numR_no HMm.out (.inl (fun h => by unfold isDig at h; omega)))
        go_wp2
        go_ret
        exact ⟨by rw [HN.out] <;> rfl, rfl⟩
      · by_cases h2 : 57 < (t[k].toNat : Int)
        · have HN := Lib.hid (numR_no HMm.out (.inl (fun h => by unfold isDig at h; omega)))
          go_wp2
          go_ret
          exact ⟨by rw [HN.out] <;> rfl, rfl⟩
        · by_cases h3 : 8 < t.size
          · have HN := Lib.hid (numR_no HMm.out (.inr (by rw [← HS.out]; exact h3)))
            have hI : (8 : Int) < (t.size : Int) := by omega
            go_wp2
            go_ret
            exact ⟨by rw [HN.out] <;> rfl, rfl⟩
          · have hI : ¬ (8 : Int) < (t.size : Int) := by omega
            have hw : IntKind.u8.wrap ((t[k].toNat : Int) - 48) = (t[k].toNat : Int) - 48 := by
              simp [IntKind.wrap, IntKind.signed, IntKind.bits]
              omega
            have hge : 48 ≤ t[k].toNat := by omega
            go_wp2
            go_round
            case rel =>
              refine ⟨k + 1, by omega, by go_num, ?_, ?_, fun _ => by omega⟩
              · rw [HT.out, dval_snoc]
                congr 1
                omega
              · rw [HT.out]
                intro c hc
                rcases List.mem_append.1 hc with hc | hc
                · exact HD.out c hc
                · rw [List.mem_singleton] at hc
                  subst hc
                  unfold isDig
                  omega
            case measure => simp [intOf]; omega
    · have hkm : k = t.size := by omega
      have ht : x.take k = x := List.take_of_length_le (by rw [← HS.out]; omega)
      rw [ht] at hd ⊢
      have HN := Lib.hid (numR_yes hd (fun hne => by
        have := HS.out
        have h0 : k ≠ 0 := fun e => hne (List.length_eq_zero_iff.1 (by omega))
        have := h8 h0
        omega))
      clear hd h8 ht
      go_wp2
      go_ret
      exact ⟨by rw [HN.out] <;> rfl, rfl⟩
end Go.Proofs.YtededfkenlhokaaDoor
