/- Plain facts on decimal numerals, and the contracts of the reference's digits, Text and Parse: what they return, for every input within the stated bounds. -/
import Derived.Test.YtgkmmkaaokbmiaaDoorN
namespace Go.Proofs.YtgkmmkaaokbmiaaDoor
open Go.RowKit Go.Sort Go.Lib
set_option linter.unusedVariables false

def dstep (acc : Nat) (c : UInt8) : Nat := acc * 10 + (c.toNat - 48)
def dval (l : List UInt8) : Nat := l.foldl dstep 0
def isDig (c : UInt8) : Prop := 48 ≤ c.toNat ∧ c.toNat ≤ 57

theorem dfold_ge : ∀ (l : List UInt8) (acc : Nat), acc ≤ l.foldl dstep acc
  | [], acc => Nat.le_refl _
  | c :: r, acc => by
    have := dfold_ge r (dstep acc c)
    simp only [List.foldl_cons]
    unfold dstep at this ⊢
    omega
theorem parse_fold : ∀ (l : List UInt8) (acc : Nat), (∀ c ∈ l, isDig c) → l.foldl dstep acc ≤ 18446744073709551615 → Lib.parseUintM 18446744073709551615 acc l = .ok (l.foldl dstep acc)
  | [], acc, _, _ => rfl
  | c :: r, acc, hd, hm => by
    have hc : 48 ≤ c.toNat ∧ c.toNat ≤ 57 := hd c List.mem_cons_self
    have h1 := dfold_ge r (dstep acc c)
    simp only [List.foldl_cons] at hm
    have h2 : dstep acc c ≤ 18446744073709551615 := Nat.le_trans h1 hm
    rw [Lib.parseUintM, if_pos hc]
    unfold dstep at h2
    rw [if_neg (by omega), if_neg (by omega)]
    exact parse_fold r _ (fun x hx => hd x (List.mem_cons_of_mem _ hx)) hm
theorem dig_toNat {k : Nat} (h : k < 10) : (UInt8.ofNat (48 + k)).toNat = 48 + k := by
  simp [UInt8.toNat_ofNat]; omega
theorem decDigits_dig (u : Nat) : ∀ c ∈ Lib.decDigits u, isDig c := by
  induction u using Nat.strongRecOn with
  | _ u ih =>
    rw [Lib.decDigits]
    split
    · rename_i h
      intro c hc
      rw [List.mem_singleton] at hc
      subst hc
      unfold isDig
      rw [dig_toNat h]
      omega
    · intro c hc
      rcases List.mem_append.1 hc with hc | hc
      · exact ih (u / 10) (by omega) c hc
      · rw [List.mem_singleton] at hc
        subst hc
        unfold isDig
        rw [dig_toNat (by omega)]
        omega
theorem dval_decDigits (u : Nat) : dval (Lib.decDigits u) = u := by
  induction u using Nat.strongRecOn with
  | _ u ih =>
    rw [Lib.decDigits]
    split
    · rename_i h
      unfold dval
      simp only [List.foldl_cons, List.foldl_nil, dstep, dig_toNat h]
      omega
    · unfold dval at ih ⊢
      rw [List.foldl_append, ih (u / 10) (by omega)]
      simp only [List.foldl_cons, List.foldl_nil, dstep]
      rw [dig_toNat (by omega)]
      omega
theorem decDigits_ne (u : Nat) : Lib.decDigits u ≠ [110, 101, 118, 101, 114] := fun h => by
  have := decDigits_dig u 110 (by rw [h]; simp)
  unfold isDig at this
  simp at this
theorem decDigits_nil (u : Nat) : Lib.decDigits u ≠ [] := fun h => by
  have h1 := Lib.decDigits_length u
  have h2 := Lib.nDigits_pos u
  rw [h] at h1
  simp at h1
  omega
theorem decDigits_len (u : Nat) (h : u < 18446744073709551616) : (Lib.decDigits u).length ≤ 20 := by
  rw [Lib.decDigits_length]
  by_cases h1 : 1 ≤ u
  · have := Lib.numDigits_eq u h1 h
    split at this <;> omega
  · have : u = 0 := by omega
    subst this
    rw [Lib.nDigits_small (by omega)]
    omega
theorem pT_text (u : Nat) (h : u < 18446744073709551616) : pT (textB u) = some u := by
  unfold pT
  by_cases hn : u = 18446744073709551615
  · subst hn
    rfl
  · have ht : textB u = Lib.decDigits u := if_neg hn
    rw [ht, if_neg (decDigits_ne u)]
    have hp : Lib.parseUintB 64 (Lib.decDigits u) = .ok u := by
      unfold Lib.parseUintB
      rw [if_neg (decDigits_nil u)]
      have := parse_fold (Lib.decDigits u) 0 (decDigits_dig u) (by have := dval_decDigits u; unfold dval at this; omega)
      have e := dval_decDigits u
      unfold dval at e
      rw [e] at this
      exact this
    rw [hp]
    simp only [ht, if_true]
theorem pT_some {l : List UInt8} {u : Nat} (h : pT l = some u) (hn : l ≠ [110, 101, 118, 101, 114]) : Lib.decDigits u = l ∧ u < 18446744073709551615 := by
  unfold pT at h
  rw [if_neg hn] at h
  split at h
  · rename_i v hv
    split at h
    · rename_i ht
      injection h with h
      subst h
      have hle := Lib.parseUintB_le hv
      unfold textB at ht
      split at ht
      · exact absurd ht.symm hn
      · exact ⟨ht, by omega⟩
    · cases h
  · cases h
theorem pT_val {l : List UInt8} {u : Nat} (h : pT l = some u) (hn : l ≠ [110, 101, 118, 101, 114]) : u = dval l := by
  have := (pT_some h hn).1
  rw [← this, dval_decDigits]

theorem piece_fin : ∀ i : Fin 10, (({ data := #[48, 49, 50, 51, 52, 53, 54, 55, 56, 57] } : ByteArray).extract i.val (i.val + 1)).data.toList = [UInt8.ofNat (48 + i.val)] := by decide +kernel
theorem ret_string {a b : ByteArray} (h : a.data.toList = b.data.toList) : Ending.returned (.string a) = .returned (.string b) := by
  have : a = b := by
    obtain ⟨⟨la⟩⟩ := a
    obtain ⟨⟨lb⟩⟩ := b
    simp only at h
    subst h
    rfl
  rw [this]
theorem piece {u : Nat} (h : u < 10) : Ending.returned (.string (({ data := #[48, 49, 50, 51, 52, 53, 54, 55, 56, 57] } : ByteArray).extract u (u + 1))) = .returned (.string ⟨(Lib.decDigits u).toArray⟩) := by
  refine ret_string ?_
  rw [Lib.decDigits_one h]
  exact piece_fin ⟨u, h⟩

theorem pT_none {l : List UInt8} (hn : l ≠ [110, 101, 118, 101, 114]) (h : ∀ u, u < 18446744073709551615 → Lib.decDigits u ≠ l) : pT l = none := by
  cases hp : pT l with
  | none => rfl
  | some u => exact absurd (pT_some hp hn).1 (h u (pT_some hp hn).2)
theorem none_bad {l : List UInt8} (hn : l ≠ [110, 101, 118, 101, 114]) (c : UInt8) (hc : c ∈ l) (hd : ¬ isDig c) : pT l = none :=
  pT_none hn fun u _ h => hd (decDigits_dig u c (by rw [h]; exact hc))
theorem dval_take (l : List UInt8) (k : Nat) : dval (l.take k) ≤ dval l := by
  unfold dval
  have h := dfold_ge (l.drop k) ((l.take k).foldl dstep 0)
  rw [← List.foldl_append, List.take_append_drop] at h
  exact h
theorem none_over {l : List UInt8} (hn : l ≠ [110, 101, 118, 101, 114]) (k : Nat) (hk : 18446744073709551615 < dval (l.take k)) : pT l = none :=
  pT_none hn fun u hu h => by
    have h1 := dval_take l k
    have h2 := dval_decDigits u
    rw [h] at h2
    omega
theorem none_len {l : List UInt8} (hn : l ≠ [110, 101, 118, 101, 114]) (hl : l.length = 0 ∨ 20 < l.length) : pT l = none :=
  pT_none hn fun u hu h => by
    have h1 := decDigits_len u (by omega)
    have h2 := Lib.decDigits_length u
    have h3 := Lib.nDigits_pos u
    rw [h] at h1 h2
    omega
theorem dval_snoc (l : List UInt8) (c : UInt8) : dval (l ++ [c]) = dval l * 10 + (c.toNat - 48) := by
  unfold dval
  rw [List.foldl_append]
  rfl
theorem take_snoc (s : ByteArray) (k : Nat) (h : k < s.size) : s.data.toList.take (k + 1) = s.data.toList.take k ++ [s[k]] := by
  rw [List.take_succ_eq_append_getElem (by simpa using h)]; rfl
theorem mem_at (s : ByteArray) (k : Nat) (h : k < s.size) : s[k] ∈ s.data.toList := by
  have : s[k] = s.data.toList[k]'(by simpa using h) := rfl
  rw [this]
  exact List.getElem_mem _

set_option maxHeartbeats 400000 in
theorem refdigits_small (u : Nat) (h : u < 10) (w : World) :
    Calls Tryd.prog 32 #[.int .u64 u] w fun e w' => e = .returned (.string ⟨(Lib.decDigits u).toArray⟩) ∧ w = w' := by
  go_enter Tryd.func32, Tryd.ntmps32
  go_wp2
  go_ret
  exact ⟨piece h, rfl⟩
set_option maxHeartbeats 400000 in
theorem refdigits_any (n : Nat) : ∀ (u : Nat), u ≤ n → u < 18446744073709551616 → ∀ (w : World),
    Calls Tryd.prog 32 #[.int .u64 u] w fun e w' => e = .returned (.string ⟨(Lib.decDigits u).toArray⟩) ∧ w = w' := by
  induction n using Nat.strongRecOn with
  | _ n ih =>
    intro u hu hlt w
    by_cases h : u < 10
    · exact refdigits_small u h w
    · have IH := Lib.hid ih
      clear ih
      have hfin : Lib.decDigits u = Lib.decDigits (u / 10) ++ Lib.decDigits (u % 10) := by
        have e1 : Lib.decDigits u = Lib.decDigits (u / 10) ++ [UInt8.ofNat (48 + u % 10)] := by
          conv => lhs; rw [Lib.decDigits, dif_neg h]
        rw [e1, Lib.decDigits_one (show u % 10 < 10 by omega)]
      have HF := Lib.hid hfin
      clear hfin
      have l1 := decDigits_len (u / 10) (by omega)
      have l2 := decDigits_len (u % 10) (by omega)
      go_enter Tryd.func32, Tryd.ntmps32
      go_wp2_with fail
      rw [show ((u : Int) / 10) = ((u / 10 : Nat) : Int) by omega]
      refine (IH.out (u / 10) (by omega) (u / 10) (Nat.le_refl _) (by omega) _).mono ?_
      rintro e w' ⟨rfl, rfl⟩
      go_wp2_with fail
      rw [show ((u : Int) % 10) = ((u % 10 : Nat) : Int) by omega]
      refine (refdigits_small (u % 10) (by omega) _).mono ?_
      rintro e w' ⟨rfl, rfl⟩
      go_wp2_with fail
      go_ret
      exact ⟨ret_string (by rw [HF.out]; simp), rfl⟩

set_option maxHeartbeats 400000 in
theorem reftext_never (w : World) :
    Calls Tryd.prog 18 #[.int .u64 18446744073709551615] w fun e w' => e = .returned (.string ⟨#[110, 101, 118, 101, 114]⟩) ∧ w = w' := by
  go_enter Tryd.func18, Tryd.ntmps18
  go_wp2
  go_ret
  exact ⟨rfl, rfl⟩
set_option maxHeartbeats 400000 in
theorem reftext_any (u : Nat) (hu64 : u < 18446744073709551616) (w : World) :
    Calls Tryd.prog 18 #[.int .u64 u] w fun e w' => e = .returned (.string ⟨(textB u).toArray⟩) ∧ w = w' := by
  by_cases hn : u = 18446744073709551615
  · subst hn
    exact reftext_never w
  · have hq : ((u : Int) == 18446744073709551615) = false := by rw [beq_eq_false_iff_ne]; omega
    have ht : Hid (textB u = Lib.decDigits u) := if_neg hn
    clear hn
    go_enter Tryd.func18, Tryd.ntmps18
    go_wp2_with (go_at_call 32; refine (refdigits_any u u (Nat.le_refl _) hu64 _).mono ?_; rintro e w' ⟨rfl, rfl⟩)
    go_ret
    exact ⟨ret_str ht.out.symm, rfl⟩

/-- What the reference's Parse answers. -/
def rV (l : List UInt8) : Int := ((pT l).getD 0 : Nat)
def rB (l : List UInt8) : Bool := (pT l).isSome
theorem ret_rr {l : List UInt8} {a : Int} {b : Bool} (h : rV l = a) (h' : rB l = b) : Ending.returned (.tuple #[.int .u64 a, .bool b]) = .returned (.tuple #[.int .u64 (rV l), .bool (rB l)]) := by rw [h, h']

set_option maxHeartbeats 1000000 in
theorem refparse_any (s : ByteArray) (hlim : s.size ≤ 1000000) (w : World) :
    Calls Tryd.prog 20 #[.string s] w fun e w' => e = .returned (.tuple #[.int .u64 (rV s.data.toList), .bool (rB s.data.toList)]) ∧ w = w' := by
  by_cases hn : s.data.toList = [110, 101, 118, 101, 114]
  · have h0 : (s.toList == [110, 101, 118, 101, 114]) = true := by rw [toList_data, hn]; rfl
    have hv : Hid (rV s.data.toList = 18446744073709551615) := by show rV s.data.toList = _; unfold rV pT; rw [if_pos hn]; rfl
    have hE : Hid (rB s.data.toList = true) := by show rB s.data.toList = _; unfold rB pT; rw [if_pos hn]; rfl
    clear hn
    go_enter Tryd.func20, Tryd.ntmps20
    go_wp2
    go_ret2
    exact ⟨ret_rr hv.out hE.out, rfl⟩
  · have h0 : (s.toList == [110, 101, 118, 101, 114]) = false := by rw [toList_data, beq_eq_false_iff_ne]; exact hn
    have HN := Lib.hid hn
    clear hn
    by_cases hlen : 1 ≤ s.size ∧ s.size ≤ 20
    · obtain ⟨hl1, hl2⟩ := hlen
      have hq : ((s.size : Int) == 0) = false := by rw [beq_eq_false_iff_ne]; omega
      have hq2 : ¬ 20 < (s.size : Int) := by omega
      go_enter Tryd.func20, Tryd.ntmps20
      go_wp2
      go_loop [4, 5] (fun n i => ∃ k : Nat, k ≤ s.size ∧ i = .int .i64 k ∧ n = .int .u64 (dval (s.data.toList.take k)) ∧ dval (s.data.toList.take k) ≤ 18446744073709551615) (fun _ i => s.size - (RowKit.intOf i).toNat)
      case atStart => exact ⟨0, Nat.zero_le _, rfl, rfl, by simp [dval]⟩
      case round =>
        obtain ⟨k, hk, rfl, rfl, hv⟩ := hrel
        by_cases hlt : k < s.size
        · have hsn := Lib.hid (dval_snoc (s.data.toList.take k) s[k])
          have hts := Lib.hid (take_snoc s k hlt)
          go_wp2
          · go_ret2
            have hp : pT s.data.toList = none := none_bad HN.out s[k] (mem_at s k hlt) (by unfold isDig; omega)
            exact ⟨ret_rr (by unfold rV; rw [hp]; rfl) (by unfold rB; rw [hp]; rfl), rfl⟩
          · go_ret2
            have hp : pT s.data.toList = none := none_over HN.out (k + 1) (by rw [hts.out, hsn.out]; omega)
            exact ⟨ret_rr (by unfold rV; rw [hp]; rfl) (by unfold rB; rw [hp]; rfl), rfl⟩
          · go_round
            case rel => exact ⟨k + 1, by omega, by go_num, by rw [hts.out, hsn.out]; go_num, by rw [hts.out, hsn.out]; omega⟩
            case measure => simp [RowKit.intOf]; omega
          · go_ret2
            have hp : pT s.data.toList = none := none_bad HN.out s[k] (mem_at s k hlt) (by unfold isDig; omega)
            exact ⟨ret_rr (by unfold rV; rw [hp]; rfl) (by unfold rB; rw [hp]; rfl), rfl⟩
        · have hfull : Hid (s.data.toList.take k = s.data.toList) := by
            show s.data.toList.take k = s.data.toList
            exact List.take_of_length_le (by rw [show s.data.toList.length = s.size from by simp]; omega)
          by_cases ht : textB (dval (s.data.toList.take k)) = s.data.toList
          · have h2 : (textB (dval (s.data.toList.take k)) == s.toList) = true := by rw [toList_data, beq_iff_eq]; exact ht
            have h3 : (textB (dval (s.data.toList.take k)) != s.toList) = false := by rw [bne, h2]; rfl
            have hp : Hid (pT s.data.toList = some (dval (s.data.toList.take k))) := by
              show pT s.data.toList = _
              have := pT_text (dval (s.data.toList.take k)) (by omega)
              rw [ht] at this
              exact this
            clear ht
            go_wp2_with (go_at_call 18; refine (reftext_any _ (by omega) _).mono ?_; rintro e w' ⟨rfl, rfl⟩)
            go_ret2
            exact ⟨ret_rr (by unfold rV; rw [hp.out]; rfl) (by unfold rB; rw [hp.out]; rfl), rfl⟩
          · have h2 : (textB (dval (s.data.toList.take k)) == s.toList) = false := by rw [toList_data, beq_eq_false_iff_ne]; exact ht
            have h3 : (textB (dval (s.data.toList.take k)) != s.toList) = true := by rw [bne, h2]; rfl
            have hp : Hid (pT s.data.toList = none) := by
              show pT s.data.toList = _
              refine pT_none HN.out fun u hu h => ht ?_
              have e : dval (s.data.toList.take k) = u := by rw [hfull.out, ← h, dval_decDigits]
              rw [e, ← h]
              unfold textB
              rw [if_neg (by omega)]
            clear ht
            go_wp2_with (go_at_call 18; refine (reftext_any _ (by omega) _).mono ?_; rintro e w' ⟨rfl, rfl⟩)
            go_ret2
            exact ⟨ret_rr (by unfold rV; rw [hp.out]; rfl) (by unfold rB; rw [hp.out]; rfl), rfl⟩
    · have hp : Hid (pT s.data.toList = none) := none_len HN.out (by
        rw [show s.data.toList.length = s.size from by simp]
        omega)
      by_cases hz : s.size = 0
      · have hq : ((s.size : Int) == 0) = true := by rw [beq_iff_eq]; omega
        clear hz hlen
        go_enter Tryd.func20, Tryd.ntmps20
        go_wp2
        go_ret2
        exact ⟨ret_rr (by unfold rV; rw [hp.out]; rfl) (by unfold rB; rw [hp.out]; rfl), rfl⟩
      · have hq : ((s.size : Int) == 0) = false := by rw [beq_eq_false_iff_ne]; omega
        have hq2 : 20 < (s.size : Int) := by omega
        clear hz hlen
        go_enter Tryd.func20, Tryd.ntmps20
        go_wp2
        go_ret2
        exact ⟨ret_rr (by unfold rV; rw [hp.out]; rfl) (by unfold rB; rw [hp.out]; rfl), rfl⟩
end Go.Proofs.YtgkmmkaaokbmiaaDoor
