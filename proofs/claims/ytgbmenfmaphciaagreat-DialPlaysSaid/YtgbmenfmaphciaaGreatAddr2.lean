/- Contracts of addr's ValidName and Valid and of the reference's: whether the bytes are a name, for every string of at most a million bytes. -/
/- Contracts of addr.Valid and of the reference's ValidName and Valid, for every name of at most a million bytes and every port. -/
import Derived.Test.YtgbmenfmaphciaaGreatProg
import Derived.Test.YtgbmenfmaphciaaGreatRange
import Derived.Lib.OthersKept
import Derived.Lib.Hide
import Derived.WalkLawsBesides
import Derived.BigQuiet
namespace Go.Proofs.YtgbmenfmaphciaaGreat
open Go.RowKit
set_option linter.unusedVariables false
theorem retB {a b : Bool} (h : a = b) : Ending.returned (.bool a) = .returned (.bool b) := by rw [h]
def letterB (c : Nat) : Bool := decide (65 ≤ c ∧ c ≤ 90 ∨ 97 ≤ c ∧ c ≤ 122)
def digitB (c : Nat) : Bool := decide (48 ≤ c ∧ c ≤ 57)
def goodAt (i c : Nat) : Bool := letterB c || (decide (0 < i) && (digitB c || decide (c = 45) || decide (c = 95)))
def goodFrom : Nat → List UInt8 → Bool
 | _, [] => true
 | i, c :: r => goodAt i c.toNat && goodFrom (i + 1) r
def nameB (l : List UInt8) : Bool := goodFrom 0 l && decide (1 ≤ l.length) && decide (l.length ≤ 32)
theorem goodFrom_snoc : ∀ (l : List UInt8) (i : Nat) (c : UInt8), goodFrom i (l ++ [c]) = (goodFrom i l && goodAt (i + l.length) c.toNat)
 | [], i, c => by simp [goodFrom]
 | x :: r, i, c => by
  simp only [List.cons_append, goodFrom, goodFrom_snoc r (i + 1) c, List.length_cons]
  rw [show i + 1 + r.length = i + (r.length + 1) by omega, Bool.and_assoc]
theorem good_take (s : ByteArray) (k : Nat) (h : k < s.size) : goodFrom 0 (s.data.toList.take (k + 1)) = (goodFrom 0 (s.data.toList.take k) && goodAt k (s[k]).toNat) := by
 have e : s.data.toList.take (k + 1) = s.data.toList.take k ++ [s[k]] := by
  rw [List.take_succ_eq_append_getElem (by simpa using h)]; rfl
 rw [e, goodFrom_snoc]
 have hl : (s.data.toList.take k).length = k := by
  rw [List.length_take, show s.data.toList.length = s.size from by simp]
  omega
 rw [hl, Nat.zero_add]
theorem good_false (l : List UInt8) : ∀ (k i : Nat), goodFrom i (l.take k) = false → goodFrom i l = false := by
 induction l with
 | nil => intro k i h; simpa using h
 | cons x r ih =>
  intro k i h
  cases k with
  | zero => simp [goodFrom] at h
  | succ k =>
   simp only [List.take_succ_cons, goodFrom, Bool.and_eq_false_iff] at h ⊢
   rcases h with h | h
   ·exact .inl h
   ·exact .inr (ih k (i + 1) h)
theorem full_take (s : ByteArray) (k : Nat) (h : ¬ k < s.size) : s.data.toList.take k = s.data.toList :=
 List.take_of_length_le (by rw [show s.data.toList.length = s.size from by simp]; omega)
theorem len_size (s : ByteArray) : s.data.toList.length = s.size := by simp
theorem nameB_bad (s : ByteArray) (k : Nat) (h : k < s.size) (hg : goodAt k (s[k]).toNat = false) : nameB s.data.toList = false := by
 have h1 : goodFrom 0 s.data.toList = false := good_false _ (k + 1) 0 (by rw [good_take s k h, hg, Bool.and_false])
 unfold nameB
 rw [h1]
 rfl
theorem decode_big (s : ByteArray) (pos : Nat) (h : pos < s.size) (h128 : ¬ (s[pos]).toNat < 128) : 128 ≤ (Utf8.decode s pos).1 ∧ (Utf8.decode s pos).1 ≤ 2200000 := by
 have e : s.get! (pos + 0) = s[pos]'h := by
  show s.get! pos = _
  simp [ByteArray.get!, getElem!_pos, h]
  rfl
 have h255 : (s[pos]'h).toNat < 256 := (s[pos]'h).toNat_lt
 unfold Utf8.decode
 simp only [e]
 rw [if_neg h128]
 have e1 : Utf8.runeError = 65533 := rfl
 generalize (s[pos]'h).toNat = b0 at *
 generalize (s.get! (pos + 1)).toNat = b1
 generalize (s.get! (pos + 2)).toNat = b2
 generalize (s.get! (pos + 3)).toNat = b3
 have g1 : b1 % 64 < 64 := Nat.mod_lt _ (by omega)
 have g2 : b2 % 64 < 64 := Nat.mod_lt _ (by omega)
 have g3 : b3 % 64 < 64 := Nat.mod_lt _ (by omega)
 split
 ·split
  ·rename_i hc
   simp only
   omega
  ·simp only [e1]
   omega
 ·split
  ·split
   ·rename_i hc
    simp only [Bool.and_eq_true, decide_eq_true_eq] at hc
    simp only
    omega
   ·simp only [e1]
    omega
  ·split
   ·split
    ·rename_i hc
     simp only [Bool.and_eq_true, decide_eq_true_eq] at hc
     simp only
     omega
    ·simp only [e1]
     omega
   ·simp only [e1]
    omega
set_option maxHeartbeats 1000000 in
theorem validName_any (s : ByteArray) (hlim : s.size ≤ 1000000) (w : World) :
  Calls Tryz.prog 78 #[.string s] w fun e w' => e = .returned (.bool (nameB s.data.toList)) ∧ Fr [] w w' := by
 go_enter Tryz.func78, Tryz.ntmps78
 go_wp2
 go_loopw [3] (fun _ wr => ∃ k : Nat, k ≤ s.size ∧ wr.heap[w.heap.size]? = some (.stringIter s k) ∧ goodFrom 0 (s.data.toList.take k) = true ∧ Fr [] w wr) (fun _ wr => s.size - wr.iterPos w.heap.size)
 case atStart =>
  exact ⟨0, Nat.zero_le _, by simpa using World.iter_heap w s 0, rfl, (Fr.refl _ _).alloc _⟩
 case round =>
  obtain ⟨k, hk, hit, hg, fr⟩ := hrel
  have HG := Lib.hid hg
  clear hg
  by_cases hp : k < s.size
  ·have hgt := Lib.hid (good_take s k hp)
   by_cases h128 : (s[k]).toNat < 128
   ·have hnx : ∀ ty, (Instr.next (.pointer (some ⟨w.heap.size, 0, none⟩)) true ty).run Tryz.prog wr = _ := fun ty => Lib.run_next_ascii_at wr w.heap.size s k ty hit hp h128
    have hit2 := Lib.iterAt_heap wr w.heap.size s k (k + 1) hit
    have fr2 : Fr [] w (wr.iterAt w.heap.size s (k + 1)) := fr.trans (T := [w.heap.size]) ⟨rfl, rfl, rfl, by rw [Lib.iterAt_size]; exact Nat.le_refl _, fun i hi hn => Lib.iterAt_other wr w.heap.size i s (k + 1) (by simpa using hn)⟩ (fun x hx hl => by simp at hx; omega)
    by_cases hga : goodAt k (s[k]).toNat = true
    ·have hnext : Hid (goodFrom 0 (s.data.toList.take (k + 1)) = true) := by
      show goodFrom 0 (s.data.toList.take (k + 1)) = true
      rw [hgt.out, HG.out, hga]
      rfl
     unfold goodAt letterB digitB at hga
     simp only [Bool.or_eq_true, Bool.and_eq_true, decide_eq_true_eq] at hga
     clear hgt
     have fin : ∀ (u3 u4 u5 : Value), (∃ k' : Nat, k' ≤ s.size ∧ (wr.iterAt w.heap.size s (k + 1)).heap[w.heap.size]? = some (.stringIter s k') ∧ goodFrom 0 (s.data.toList.take k') = true ∧ Fr [] w (wr.iterAt w.heap.size s (k + 1))) := fun _ _ _ => ⟨k + 1, by omega, hit2, hnext.out, fr2⟩
     have FIN := Lib.hid fin
     clear fin
     rcases hga with (⟨c1, c2⟩ | ⟨c1, c2⟩) | ⟨hk0, (⟨c1, c2⟩ | c1) | c1⟩
     ·have d1 : (65 : Int) ≤ ((s[k]).toNat : Int) := by omega
      have d2 : ((s[k]).toNat : Int) ≤ 90 := by omega
      clear c1 c2
      go_wp2
      go_roundw
      case rel => exact FIN.out .nilIface .nilIface .nilIface
      case measure => simp only [World.iterPos, hit2, hit]; omega
     ·have d1 : (97 : Int) ≤ ((s[k]).toNat : Int) := by omega
      have d2 : ((s[k]).toNat : Int) ≤ 122 := by omega
      clear c1 c2
      go_wp2
      go_roundw
      case rel => exact FIN.out .nilIface .nilIface .nilIface
      case measure => simp only [World.iterPos, hit2, hit]; omega
     ·have d0 : ((k : Int) == 0) = false := by rw [beq_eq_false_iff_ne]; omega
      have d1 : (48 : Int) ≤ ((s[k]).toNat : Int) := by omega
      have d2 : ((s[k]).toNat : Int) ≤ 57 := by omega
      clear c1 c2
      go_wp2
      go_roundw
      case rel => exact FIN.out .nilIface .nilIface .nilIface
      case measure => simp only [World.iterPos, hit2, hit]; omega
     ·have d0 : ((k : Int) == 0) = false := by rw [beq_eq_false_iff_ne]; omega
      have d1 : (((s[k]).toNat : Int) != 45) = false := by rw [c1]; rfl
      have d2 : ((s[k]).toNat : Int) < 48 := by omega
      clear c1
      go_wp2
      go_roundw
      case rel => exact FIN.out .nilIface .nilIface .nilIface
      case measure => simp only [World.iterPos, hit2, hit]; omega
     ·have d0 : ((k : Int) == 0) = false := by rw [beq_eq_false_iff_ne]; omega
      have d1 : (((s[k]).toNat : Int) != 95) = false := by rw [c1]; rfl
      have d3 : (((s[k]).toNat : Int) != 45) = true := by rw [c1]; rfl
      have d2 : (90 : Int) < ((s[k]).toNat : Int) := by omega
      have d4 : ((s[k]).toNat : Int) < 97 := by omega
      clear c1
      go_wp2
      go_roundw
      case rel => exact FIN.out .nilIface .nilIface .nilIface
      case measure => simp only [World.iterPos, hit2, hit]; omega
    ·have hbad : Hid (nameB s.data.toList = false) := nameB_bad s k hp (by simpa using hga)
     unfold goodAt letterB digitB at hga
     simp only [Bool.or_eq_true, Bool.and_eq_true, decide_eq_true_eq, not_or, not_and] at hga
     obtain ⟨⟨ha1, ha2⟩, hb1⟩ := hga
     clear hgt HG
     have hc : ((s[k]).toNat : Int) < 65 ∨ 90 < ((s[k]).toNat : Int) ∧ ((s[k]).toNat : Int) < 97 ∨ 122 < ((s[k]).toNat : Int) := by omega
     by_cases hk0 : k = 0
     ·have d0 : ((k : Int) == 0) = true := by rw [beq_iff_eq]; omega
      clear hb1 ha1 ha2 hk0
      rcases hc with d1 | ⟨d1, d2⟩ | d1
      all_goals
       go_wp2 <;> first | (go_ret; exact ⟨retB hbad.out.symm, fr2⟩) | (exfalso; simp only [Bool.not_eq_false', decide_eq_true_eq] at *; omega)
     ·have d0 : ((k : Int) == 0) = false := by rw [beq_eq_false_iff_ne]; omega
      obtain ⟨⟨hd1, hd2⟩, hd3⟩ := hb1 (by omega)
      have d5 : (((s[k]).toNat : Int) != 45) = true := by rw [bne_iff_ne]; omega
      have d6 : (((s[k]).toNat : Int) != 95) = true := by rw [bne_iff_ne]; omega
      have hd : ((s[k]).toNat : Int) < 48 ∨ 57 < ((s[k]).toNat : Int) := by omega
      clear hb1 ha1 ha2 hk0 hd1 hd2 hd3
      rcases hc with d1 | ⟨d1, d2⟩ | d1
      ·rcases hd with d3 | d3
       all_goals
        go_wp2 <;> first | (go_ret; exact ⟨retB hbad.out.symm, fr2⟩) | (exfalso; simp only [Bool.not_eq_false', decide_eq_true_eq] at *; omega)
      all_goals
       clear hd
       go_wp2 <;> first | (go_ret; exact ⟨retB hbad.out.symm, fr2⟩) | (exfalso; simp only [Bool.not_eq_false', decide_eq_true_eq] at *; omega)
   ·have hnx : ∀ ty, (Instr.next (.pointer (some ⟨w.heap.size, 0, none⟩)) true ty).run Tryz.prog wr = _ := fun ty => Lib.run_next_any_at wr w.heap.size s k ty hit hp
    have hbig := decode_big s k hp h128
    have hbad : Hid (nameB s.data.toList = false) := nameB_bad s k hp (by unfold goodAt letterB digitB; simp; omega)
    obtain ⟨b1, b2⟩ := hbig
    have fr2 : Fr [] w (wr.iterAt w.heap.size s (k + (Utf8.decode s k).2)) := fr.trans (T := [w.heap.size]) ⟨rfl, rfl, rfl, by rw [Lib.iterAt_size]; exact Nat.le_refl _, fun i hi hn => Lib.iterAt_other wr w.heap.size i s (k + (Utf8.decode s k).2) (by simpa using hn)⟩ (fun x hx hl => by simp at hx; omega)
    generalize (Utf8.decode s k).2 = W2 at *
    generalize (Utf8.decode s k).1 = C at *
    have d1 : (122 : Int) < (C : Int) := by omega
    have d5 : ((C : Int) != 45) = true := by rw [bne_iff_ne]; omega
    have d6 : ((C : Int) != 95) = true := by rw [bne_iff_ne]; omega
    clear hgt HG b1 b2 h128
    by_cases hk0 : k = 0
    ·have d0 : ((k : Int) == 0) = true := by rw [beq_iff_eq]; omega
     clear hk0
     go_wp2 <;> first | (go_ret; exact ⟨retB hbad.out.symm, fr2⟩) | (exfalso; simp only [Bool.not_eq_false', decide_eq_true_eq] at *; omega)
    ·have d0 : ((k : Int) == 0) = false := by rw [beq_eq_false_iff_ne]; omega
     clear hk0
     go_wp2 <;> first | (go_ret; exact ⟨retB hbad.out.symm, fr2⟩) | (exfalso; simp only [Bool.not_eq_false', decide_eq_true_eq] at *; omega)
  ·have hnx : ∀ ty, (Instr.next (.pointer (some ⟨w.heap.size, 0, none⟩)) true ty).run Tryz.prog wr = _ := fun ty => Lib.run_next_end_at wr w.heap.size s k ty hit hp
   have hfull := Lib.hid (full_take s k hp)
   go_wp2
   all_goals
    go_ret
    refine ⟨retB ?_, fr⟩
    have hg := HG.out
    rw [hfull.out] at hg
    unfold nameB
    rw [hg, len_size, Bool.eq_iff_iff]
    simp only [Bool.true_and, Bool.and_eq_true, decide_eq_true_eq, Bool.false_eq_true, false_iff]
    omega
def addrB (l : List UInt8) (p : Int) : Bool := nameB l && decide (0 ≤ p) && decide (p ≤ 65535)
set_option maxHeartbeats 1000000 in
theorem valid_any (s : ByteArray) (p : Int) (hlim : s.size ≤ 1000000) (w : World) :
  Calls Tryz.prog 37 #[.agg #[.string s, .int .i64 p]] w fun e w' => e = .returned (.bool (addrB s.data.toList p)) ∧ Fr [] w w' := by
 have f0 : Fr [] w (w.alloc (.cells #[.string s, .int .i64 p] 36)) := (Fr.refl [] w).alloc _
 go_enter Tryz.func37, Tryz.ntmps37
 go_wp2_with (go_at_call 78; refine Hid.out ?_)
 refine Lib.hid ?_
 refine (validName_any s hlim _).mono ?_
 rintro e w1 ⟨rfl, f1⟩
 have c0 := f1.keep (b := w.heap.size) (o := 0) (v := .string s) (by simp) (by simp)
 have c1 := f1.keep (b := w.heap.size) (o := 1) (v := .int .i64 p) (by simp) (by simp)
 have f2 := f0.step f1
 cases hn : nameB s.data.toList with
 | false =>
  have hr : Hid (addrB s.data.toList p = false) := by show addrB s.data.toList p = false; unfold addrB; rw [hn]; rfl
  clear hn
  go_wp2
  go_ret
  exact ⟨retB hr.out.symm, f2⟩
 | true =>
  have hr : Hid (addrB s.data.toList p = (decide (0 ≤ p) && decide (p ≤ 65535))) := by show addrB s.data.toList p = _; unfold addrB; rw [hn]; rfl
  clear hn
  go_wp2
  all_goals
   go_ret
   refine ⟨retB ?_, f2⟩
   rw [hr.out, Bool.eq_iff_iff]
   simp
   try omega
set_option maxHeartbeats 400000 in
theorem letter_any (c : Nat) (w : World) :
  Calls Tryz.prog 108 #[.int .u8 c] w fun e w' => e = .returned (.bool (letterB c)) ∧ w = w' := by
 go_enter Tryz.func108, Tryz.ntmps108
 go_wp2
 all_goals
  go_ret
  refine ⟨retB ?_, rfl⟩
  unfold letterB
  rw [Bool.eq_iff_iff]
  simp
  try omega
set_option maxHeartbeats 400000 in
theorem digit_any (c : Nat) (w : World) :
  Calls Tryz.prog 109 #[.int .u8 c] w fun e w' => e = .returned (.bool (digitB c)) ∧ w = w' := by
 go_enter Tryz.func109, Tryz.ntmps109
 go_wp2
 all_goals
  go_ret
  refine ⟨retB ?_, rfl⟩
  unfold digitB
  rw [Bool.eq_iff_iff]
  simp
  try omega
set_option maxHeartbeats 1000000 in
theorem refName_any (s : ByteArray) (hlim : s.size ≤ 1000000) (w : World) :
  Calls Tryz.prog 75 #[.string s] w fun e w' => e = .returned (.bool (nameB s.data.toList)) ∧ w = w' := by
 by_cases h1 : s.size < 1
 ·have d1 : (s.size : Int) < 1 := by omega
  have hr : Hid (nameB s.data.toList = false) := by show nameB s.data.toList = false; unfold nameB; rw [len_size]; simp; omega
  clear h1
  go_enter Tryz.func75, Tryz.ntmps75
  go_wp2
  all_goals
   go_ret
   exact ⟨retB hr.out.symm, rfl⟩
 ·by_cases h2 : 32 < s.size
  ·have d1 : ¬ (s.size : Int) < 1 := by omega
   have d2 : 32 < (s.size : Int) := by omega
   have hr : Hid (nameB s.data.toList = false) := by show nameB s.data.toList = false; unfold nameB; rw [len_size]; simp; omega
   clear h1 h2
   go_enter Tryz.func75, Tryz.ntmps75
   go_wp2
   all_goals
    go_ret
    exact ⟨retB hr.out.symm, rfl⟩
  ·have d1 : ¬ (s.size : Int) < 1 := by omega
   have d2 : ¬ 32 < (s.size : Int) := by omega
   have hp0 : 0 < s.size := by omega
   have hg0 := good_take s 0 hp0
   cases hl : letterB (s[0]).toNat with
   | false =>
    have hr : Hid (nameB s.data.toList = false) := nameB_bad s 0 hp0 (by unfold goodAt; rw [hl]; rfl)
    clear h1 h2 hg0
    go_enter Tryz.func75, Tryz.ntmps75
    go_wp2_with (go_at_call 108; refine (letter_any _ _).mono ?_; rintro e w' ⟨rfl, rfl⟩)
    go_ret
    exact ⟨retB hr.out.symm, rfl⟩
   | true =>
    have hg : Hid (goodFrom 0 (s.data.toList.take 1) = true) := by
     show goodFrom 0 (s.data.toList.take 1) = true
     rw [hg0]
     unfold goodAt
     rw [hl]
     rfl
    clear h1 h2 hg0
    go_enter Tryz.func75, Tryz.ntmps75
    go_wp2_with (go_at_call 108; refine (letter_any _ _).mono ?_; rintro e w' ⟨rfl, rfl⟩)
    go_loop [3] (fun i => ∃ k : Nat, 1 ≤ k ∧ k ≤ s.size ∧ i = .int .i64 k ∧ Hid (goodFrom 0 (s.data.toList.take k) = true)) (fun i => s.size - (intOf i).toNat)
    case atStart => exact ⟨1, Nat.le_refl _, hp0, rfl, hg⟩
    case round =>
     obtain ⟨k, hk1, hk, rfl, hgk⟩ := hrel
     clear hl hg
     by_cases hp : k < s.size
     ·have hgt := Lib.hid (good_take s k hp)
      cases hl : letterB (s[k]).toNat with
      | true =>
       have hn : Hid (goodFrom 0 (s.data.toList.take (k + 1)) = true) := by
        show goodFrom 0 (s.data.toList.take (k + 1)) = true
        rw [hgt.out, hgk.out]
        unfold goodAt
        rw [hl]
        rfl
       go_wp2_with (go_at_call 108; refine (letter_any _ _).mono ?_; rintro e w' ⟨rfl, rfl⟩)
       go_round
       case rel => exact ⟨k + 1, by omega, by omega, by go_num, hn⟩
       case measure => simp [intOf]; omega
      | false =>
       cases hd : digitB (s[k]).toNat with
       | true =>
        have hn : Hid (goodFrom 0 (s.data.toList.take (k + 1)) = true) := by
         show goodFrom 0 (s.data.toList.take (k + 1)) = true
         rw [hgt.out, hgk.out]
         unfold goodAt
         rw [hd]
         simp
         omega
        go_wp2_with (first | (go_at_call 108; refine (letter_any _ _).mono ?_; rintro e w' ⟨rfl, rfl⟩) | (go_at_call 109; refine (digit_any _ _).mono ?_; rintro e w' ⟨rfl, rfl⟩))
        go_round
        case rel => exact ⟨k + 1, by omega, by omega, by go_num, hn⟩
        case measure => simp [intOf]; omega
       | false =>
        by_cases hm : (s[k]).toNat = 45
        ·have hn : Hid (goodFrom 0 (s.data.toList.take (k + 1)) = true) := by
          show goodFrom 0 (s.data.toList.take (k + 1)) = true
          rw [hgt.out, hgk.out]
          unfold goodAt
          simp [hm]
          omega
         have d5 : (((s[k]).toNat : Int) != 45) = false := by rw [hm]; rfl
         clear hm
         go_wp2_with (first | (go_at_call 108; refine (letter_any _ _).mono ?_; rintro e w' ⟨rfl, rfl⟩) | (go_at_call 109; refine (digit_any _ _).mono ?_; rintro e w' ⟨rfl, rfl⟩))
         go_round
         case rel => exact ⟨k + 1, by omega, by omega, by go_num, hn⟩
         case measure => simp [intOf]; omega
        ·have d5 : (((s[k]).toNat : Int) != 45) = true := by rw [bne_iff_ne]; omega
         by_cases hu : (s[k]).toNat = 95
         ·have hn : Hid (goodFrom 0 (s.data.toList.take (k + 1)) = true) := by
           show goodFrom 0 (s.data.toList.take (k + 1)) = true
           rw [hgt.out, hgk.out]
           unfold goodAt
           simp [hu]
           omega
          have d6 : (((s[k]).toNat : Int) != 95) = false := by rw [hu]; rfl
          clear hm hu
          go_wp2_with (first | (go_at_call 108; refine (letter_any _ _).mono ?_; rintro e w' ⟨rfl, rfl⟩) | (go_at_call 109; refine (digit_any _ _).mono ?_; rintro e w' ⟨rfl, rfl⟩))
          go_round
          case rel => exact ⟨k + 1, by omega, by omega, by go_num, hn⟩
          case measure => simp [intOf]; omega
         ·have d6 : (((s[k]).toNat : Int) != 95) = true := by rw [bne_iff_ne]; omega
          have hr : Hid (nameB s.data.toList = false) := nameB_bad s k hp (by unfold goodAt; rw [hl, hd]; simp [hm, hu])
          clear hm hu
          go_wp2_with (first | (go_at_call 108; refine (letter_any _ _).mono ?_; rintro e w' ⟨rfl, rfl⟩) | (go_at_call 109; refine (digit_any _ _).mono ?_; rintro e w' ⟨rfl, rfl⟩))
          go_ret
          exact ⟨retB hr.out.symm, rfl⟩
     ·have hr : Hid (nameB s.data.toList = true) := by
       show nameB s.data.toList = true
       have h := hgk.out
       rw [full_take s k hp] at h
       unfold nameB
       rw [h, len_size]
       simp
       omega
      go_wp2
      go_ret
      exact ⟨retB hr.out.symm, rfl⟩
set_option maxHeartbeats 1000000 in
theorem refValid_any (s : ByteArray) (p : Int) (hlim : s.size ≤ 1000000) (w : World) :
  Calls Tryz.prog 35 #[.agg #[.string s, .int .i64 p]] w fun e w' => e = .returned (.bool (addrB s.data.toList p)) ∧ Fr [] w w' := by
 have f0 : Fr [] w (w.alloc (.cells #[.string s, .int .i64 p] 36)) := (Fr.refl [] w).alloc _
 cases hn : nameB s.data.toList with
 | false =>
  have hr : Hid (addrB s.data.toList p = false) := by show addrB s.data.toList p = false; unfold addrB; rw [hn]; rfl
  go_enter Tryz.func35, Tryz.ntmps35
  go_wp2_with (go_at_call 75; refine (refName_any s hlim _).mono ?_; rintro e w1 ⟨rfl, rfl⟩)
  go_ret
  exact ⟨retB hr.out.symm, f0⟩
 | true =>
  have hr : Hid (addrB s.data.toList p = (decide (0 ≤ p) && decide (p ≤ 65535))) := by show addrB s.data.toList p = _; unfold addrB; rw [hn]; rfl
  go_enter Tryz.func35, Tryz.ntmps35
  go_wp2_with (go_at_call 75; refine (refName_any s hlim _).mono ?_; rintro e w1 ⟨rfl, rfl⟩)
  all_goals
   go_ret
   refine ⟨retB ?_, f0⟩
   rw [hr.out, Bool.eq_iff_iff]
   simp
   try omega
end Go.Proofs.YtgbmenfmaphciaaGreat
