/- Report, the law's own: the examples in plain; says, code, call, task. -/
import Derived.Test.YtllmejkcohfbiaaGreatDoorS1
import Derived.Test.YtllmejkcohfbiaaGreatDoorR20
import Derived.Test.YtllmejkcohfbiaaGreatDoorR16
import Derived.Test.YtllmejkcohfbiaaGreatDoorR12
namespace Go.Proofs.YtllmejkcohfbiaaGreatDoor
open Go.RowKit Go.Shelf Go.Sort Go.Lib
set_option linter.unusedVariables false
set_option linter.unusedSimpArgs false
set_option maxRecDepth 100000
set_option maxHeartbeats 4000000

theorem it0 : Lib.itoa 0 = [48] := (Lib.itoa_nonneg 0).trans (dec_small (by omega))
theorem it1 : Lib.itoa 1 = [49] := (Lib.itoa_nonneg 1).trans (dec_small (by omega))
theorem it2 : Lib.itoa 2 = [50] := (Lib.itoa_nonneg 2).trans (dec_small (by omega))
theorem it3 : Lib.itoa 3 = [51] := (Lib.itoa_nonneg 3).trans (dec_small (by omega))
theorem it4 : Lib.itoa 4 = [52] := (Lib.itoa_nonneg 4).trans (dec_small (by omega))
theorem it5 : Lib.itoa 5 = [53] := (Lib.itoa_nonneg 5).trans (dec_small (by omega))
theorem it6 : Lib.itoa 6 = [54] := (Lib.itoa_nonneg 6).trans (dec_small (by omega))
theorem it7 : Lib.itoa 7 = [55] := (Lib.itoa_nonneg 7).trans (dec_small (by omega))
theorem it8 : Lib.itoa 8 = [56] := (Lib.itoa_nonneg 8).trans (dec_small (by omega))
theorem it9 : Lib.itoa 9 = [57] := (Lib.itoa_nonneg 9).trans (dec_small (by omega))
theorem dc450 : Lib.decDigits 450 = [52, 53, 48] := by
  rw [decDigits_big (by omega), decDigits_big (by omega), dec_small (by omega)]
  rfl
theorem it450 : Lib.itoa 450 = [52, 53, 48] := (Lib.itoa_nonneg 450).trans dc450
theorem dc9 : Lib.decDigits 9 = [57] := dec_small (by omega)
def exA : List UInt8 := [116, 97, 115, 107, 32, 49, 58, 32, 99, 97, 108, 108, 115, 32, 50, 44, 32, 114, 101, 102, 117, 115, 101, 100, 32, 49, 44, 32, 115, 116, 101, 112, 115, 32, 51, 44, 32, 101, 110, 100, 101, 100, 32, 50, 44, 32, 102, 97, 105, 108, 101, 100, 32, 49, 44, 32, 114, 101, 97, 100, 32, 53, 44, 32, 119, 114, 105, 116, 116, 101, 110, 32, 48, 10]
def exB : List UInt8 := [114, 101, 97, 100, 32, 116, 105, 109, 101, 111, 117, 116, 32, 50, 10, 100, 105, 97, 108, 32, 52, 53, 48, 32, 49, 10]
def exC : List UInt8 := [51, 32, 115, 108, 101, 101, 112, 32, 117, 110, 116, 105, 108, 32, 57, 10, 48, 32, 114, 101, 97, 100, 32, 117, 110, 116, 105, 108, 32, 110, 101, 118, 101, 114, 10]
def exD : List UInt8 := [112, 105, 112, 101, 32, 50, 32, 108, 111, 115, 116, 10, 99, 111, 100, 101, 115, 32, 102, 105, 110, 101, 10]
def exE : List UInt8 := [115, 116, 97, 116, 101, 115, 32, 53, 44, 32, 114, 117, 110, 115, 32, 51, 44, 32, 108, 111, 110, 103, 101, 115, 116, 32, 52, 10, 101, 110, 100, 32, 51, 44, 32, 112, 105, 99, 107, 115, 32, 48, 32, 49, 10]
def exR : List UInt8 := [114, 101, 97, 100, 32, 116, 105, 109, 101, 111, 117, 116, 32, 50, 10, 114, 101, 97, 100, 10]
def exTk : Tk := ⟨1, 2, 1, 3, 2, 1, 5, 0⟩
theorem exA_text : tkText [exTk] = (exA, 0) := by
  have h : tkAll [exTk] = true := by decide
  unfold tkText
  rw [if_pos h]
  simp only [textOf, exTk, taskB, Tk.nums, List.map_cons, List.map_nil, List.range, List.range.loop, List.getD_cons_zero, List.getD_cons_succ, it0, it1, it2, it3, it5]
  rfl
theorem exB_text : cdText [⟨5, 12, 2⟩, ⟨3, 450, 1⟩] = (exB, 0) := by
  have h : cdAll [⟨5, 12, 2⟩, ⟨3, 450, 1⟩] = true := by decide
  unfold cdText
  rw [if_pos h]
  have h1 : codeB 450 = [52, 53, 48] := by unfold codeB; rw [if_neg (by omega)]; exact it450
  simp only [textOf, cdB, List.map_cons, List.map_nil, h1, it1, it2]
  rfl
theorem exC_text : bkText [⟨3, 6, 9⟩, ⟨0, 1, 18446744073709551615⟩] = (exC, 0) := by
  have h : bkAll [⟨3, 6, 9⟩, ⟨0, 1, 18446744073709551615⟩] = true := by decide
  unfold bkText
  rw [if_pos h]
  have h1 : timeB 9 = [57] := by unfold timeB; rw [if_neg (by omega)]; exact dc9
  have h2 : timeB 18446744073709551615 = [110, 101, 118, 101, 114] := by unfold timeB; rw [if_pos rfl]
  simp only [textOf, bkB, List.map_cons, List.map_nil, h1, h2, it3, it0]
  rfl
theorem exD_text : checkB 2 2 (-1) = (exD, 0) := by
  have h : checkOk 2 2 (-1) = true := by decide
  unfold checkB
  rw [if_pos h]
  simp only [check1, check2, it2]
  rfl
theorem exE_text : exText ⟨5, 3, 4, [⟨3, [0, 1]⟩]⟩ = (exE, 0) := by
  have h : exOk ⟨5, 3, 4, [⟨3, [0, 1]⟩]⟩ = true := by decide
  unfold exText
  rw [if_pos h]
  simp only [exHead, exHeadWs, ocB, ocWords, List.map_cons, List.map_nil, it0, it1, it3, it4, it5]
  rfl
theorem exR_read : rdCodes exR = ([], 2, 6) := by
  have h1 : linesGo [] exR = [[114, 101, 97, 100, 32, 116, 105, 109, 101, 111, 117, 116, 32, 50, 10], [114, 101, 97, 100, 10]] := rfl
  have h2 : rdOf (fun t => cdRead (splitS t)) Cd.ok cdB [114, 101, 97, 100, 32, 116, 105, 109, 101, 111, 117, 116, 32, 50, 10] = some ⟨5, 12, 2⟩ := by
    unfold rdOf
    have e1 : Lib.trimSuffix [114, 101, 97, 100, 32, 116, 105, 109, 101, 111, 117, 116, 32, 50, 10] [10] = [114, 101, 97, 100, 32, 116, 105, 109, 101, 111, 117, 116, 32, 50] := by decide
    have e2 : cdRead (splitS [114, 101, 97, 100, 32, 116, 105, 109, 101, 111, 117, 116, 32, 50]) = ⟨5, 12, 2⟩ := by rw [splitS_eq]; decide
    have e3 : cdB ⟨5, 12, 2⟩ = [114, 101, 97, 100, 32, 116, 105, 109, 101, 111, 117, 116, 32, 50, 10] := by simp only [cdB, it2]; decide
    simp only [e1, e2, e3]
    decide
  have h3 : rdOf (fun t => cdRead (splitS t)) Cd.ok cdB [114, 101, 97, 100, 10] = none := by
    unfold rdOf
    have e1 : Lib.trimSuffix [114, 101, 97, 100, 10] [10] = [114, 101, 97, 100] := by decide
    have e2 : cdRead (splitS [114, 101, 97, 100]) = ⟨5, -1, -1⟩ := by rw [splitS_eq]; decide
    have e3 : Cd.ok ⟨5, -1, -1⟩ = false := by decide
    simp only [e1, e2, e3]
    simp
  unfold rdCodes
  rw [h1, parseL, if_neg (by simp), h2]
  simp only [List.nil_append]
  rw [parseL, if_neg (by simp), h3]
  rfl
def saysB (s : List UInt8) (e : Int) (want : List UInt8) (fine : Bool) : Bool := if fine = true then (s == want) && (e == 0) else (s == []) && (e == 2)
theorem says_any (s : List UInt8) (e : Int) (want : List UInt8) (fine : Bool) (w : World) :
    Calls Tryz.prog 17 #[.string (bs s), .int .i64 e, .string (bs want), .bool fine] w fun r w' => r = .returned (.bool (saysB s e want fine)) ∧ w' = w := by
  cases fine with
  | false =>
    have hS : saysB s e want false = ((s == []) && (e == 2)) := rfl
    have HS := Lib.hid hS
    clear hS
    cases h0 : (s == []) with
    | false =>
      have h1 : ((bs s).toList == []) = false := by rw [toList_bs]; exact h0
      rw [h0] at HS
      clear h0
      go_enter Tryz.func17, Tryz.ntmps17
      go_wp2
      go_ret
      exact ⟨by rw [HS.out]; rfl, rfl⟩
    | true =>
      have h1 : ((bs s).toList == []) = true := by rw [toList_bs]; exact h0
      rw [h0] at HS
      clear h0
      cases h2 : (e == 2) with
      | false =>
        rw [h2] at HS
        go_enter Tryz.func17, Tryz.ntmps17
        go_wp2
        go_ret
        exact ⟨by rw [HS.out]; rfl, rfl⟩
      | true =>
        rw [h2] at HS
        go_enter Tryz.func17, Tryz.ntmps17
        go_wp2
        go_ret
        exact ⟨by rw [HS.out]; rfl, rfl⟩
  | true =>
    have hS : saysB s e want true = ((s == want) && (e == 0)) := rfl
    have HS := Lib.hid hS
    clear hS
    cases h0 : (s == want) with
    | false =>
      have h1 : ((bs s).toList == (bs want).toList) = false := by rw [toList_bs, toList_bs]; exact h0
      rw [h0] at HS
      clear h0
      go_enter Tryz.func17, Tryz.ntmps17
      go_wp2
      go_ret
      exact ⟨by rw [HS.out]; rfl, rfl⟩
    | true =>
      have h1 : ((bs s).toList == (bs want).toList) = true := by rw [toList_bs, toList_bs]; exact h0
      rw [h0] at HS
      clear h0
      cases h2 : (e == 0) with
      | false =>
        rw [h2] at HS
        go_enter Tryz.func17, Tryz.ntmps17
        go_wp2
        go_ret
        exact ⟨by rw [HS.out]; rfl, rfl⟩
      | true =>
        rw [h2] at HS
        go_enter Tryz.func17, Tryz.ntmps17
        go_wp2
        go_ret
        exact ⟨by rw [HS.out]; rfl, rfl⟩
theorem lawCodes_any (w : World) : Calls Tryz.prog 41 #[] w fun e w' => ∃ K, e = .returned (.slice (some ⟨K, 0, none⟩) 17 17) ∧ WordsBlk w' K codeWs ∧ Fr [] w w' ∧ w.heap.size ≤ K := by
  go_enter Tryz.func41, Tryz.ntmps41
  go_wp2
  go_ret
  exact ⟨_, rfl, World.alloc_heap_new w _, (Fr.refl [] w).alloc _, Nat.le_refl _⟩
theorem lawCalls_any (w : World) : Calls Tryz.prog 43 #[] w fun e w' => ∃ K, e = .returned (.slice (some ⟨K, 0, none⟩) 12 12) ∧ WordsBlk w' K (callWs.drop 1) ∧ Fr [] w w' ∧ w.heap.size ≤ K := by
  go_enter Tryz.func43, Tryz.ntmps43
  go_wp2
  go_ret
  exact ⟨_, rfl, World.alloc_heap_new w _, (Fr.refl [] w).alloc _, Nat.le_refl _⟩
theorem lawWhys_any (w : World) : Calls Tryz.prog 54 #[] w fun e w' => ∃ K, e = .returned (.slice (some ⟨K, 0, none⟩) 7 7) ∧ WordsBlk w' K whyWs ∧ Fr [] w w' ∧ w.heap.size ≤ K := by
  go_enter Tryz.func54, Tryz.ntmps54
  go_wp2
  go_ret
  exact ⟨_, rfl, World.alloc_heap_new w _, (Fr.refl [] w).alloc _, Nat.le_refl _⟩
theorem lawCode_any (e : Int) (he : I64 e) (w : World) : Calls Tryz.prog 12 #[.int .i64 e] w fun r w' => r = .returned (.string (bs (codeB e))) ∧ Fr [] w w' := by
  by_cases h0 : 0 ≤ e
  · by_cases h1 : e < 17
    · obtain ⟨n, rfl⟩ : ∃ n : Nat, e = n := ⟨e.toNat, by omega⟩
      have hn : n < 17 := by omega
      have hb : codeB (n : Int) = codeWs.getD n [] := by unfold codeB; rw [if_pos (by omega)]; rfl
      rw [hb]
      have d0 : decide ((n : Int) < 0) = false := decide_eq_false (by omega)
      have d1 : decide ((16 : Int) < (n : Int)) = false := decide_eq_false (by omega)
      clear he hb
      go_enter Tryz.func12, Tryz.ntmps12
      go_wp2_with fail
      refine (lawCodes_any _).mono ?_
      rintro r w1 ⟨K1, rfl, hK1, f1, -⟩
      have hc := hK1.cell (i := n) (by simpa [codeWs] using hn)
      go_wp2
      go_ret
      exact ⟨rfl, f1⟩
    · have hb : codeB e = Lib.itoa e := by unfold codeB; rw [if_neg (by omega)]
      rw [hb]
      have d0 : decide (e < 0) = false := decide_eq_false (by omega)
      have d1 : decide ((16 : Int) < e) = true := decide_eq_true (by omega)
      have HD := Lib.hid (decimal_any e he w)
      clear he hb h0 h1
      go_enter Tryz.func12, Tryz.ntmps12
      go_wp2_with fail
      refine HD.out.mono ?_
      rintro r w1 ⟨rfl, f1⟩
      go_wp2
      go_ret
      exact ⟨rfl, f1⟩
  · have hb : codeB e = Lib.itoa e := by unfold codeB; rw [if_neg (by omega)]
    rw [hb]
    have d0 : decide (e < 0) = true := decide_eq_true (by omega)
    have HD := Lib.hid (decimal_any e he w)
    clear he hb h0
    go_enter Tryz.func12, Tryz.ntmps12
    go_wp2_with fail
    refine HD.out.mono ?_
    rintro r w1 ⟨rfl, f1⟩
    go_wp2
    go_ret
    exact ⟨rfl, f1⟩
theorem lawCall_any (k : Int) (hk : I64 k) (w : World) : Calls Tryz.prog 14 #[.int .i64 k] w fun r w' => r = .returned (.string (bs (callB k))) ∧ Fr [] w w' := by
  by_cases h0 : 0 < k
  · by_cases h1 : k < 13
    · obtain ⟨n, rfl⟩ : ∃ n : Nat, k = ((n + 1 : Nat) : Int) := ⟨(k - 1).toNat, by omega⟩
      have hn : n < 12 := by omega
      have hb : callB ((n + 1 : Nat) : Int) = (callWs.drop 1).getD n [] := by
        unfold callB
        rw [if_pos (by omega)]
        have e1 : (((n + 1 : Nat) : Int)).toNat = n + 1 := by omega
        rw [e1]
        have : ∀ i, i < 12 → callWs.getD (i + 1) [] = (callWs.drop 1).getD i [] := by decide
        exact this n hn
      rw [hb]
      have d0 : decide (((n + 1 : Nat) : Int) < 1) = false := decide_eq_false (by omega)
      have d1 : decide ((12 : Int) < ((n + 1 : Nat) : Int)) = false := decide_eq_false (by omega)
      have hs : IntKind.i64.wrap (((n + 1 : Nat) : Int) - 1) = (n : Int) := by rw [IntWalk.i64_in _ (by omega)]; omega
      obtain ⟨m, hm⟩ : ∃ m : Int, m = ((n + 1 : Nat) : Int) := ⟨_, rfl⟩
      rw [← hm] at d0 d1 hs ⊢
      have hn0 : (0 : Int) ≤ (n : Int) := Int.natCast_nonneg _
      have hn12 : (n : Int) < 12 := by omega
      clear hk hb h0 h1 hm
      go_enter Tryz.func14, Tryz.ntmps14
      go_wp2_with fail
      refine (lawCalls_any _).mono ?_
      rintro r w1 ⟨K1, rfl, hK1, f1, -⟩
      have hc := hK1.cell (i := n) (by simpa [callWs] using hn)
      go_wp2
      go_ret
      exact ⟨rfl, f1⟩
    · have hb : callB k = [99, 97, 108, 108, 45] ++ Lib.itoa k := by unfold callB; rw [if_neg (by omega)]
      rw [hb, ← bs_append]
      have d0 : decide (k < 1) = false := decide_eq_false (by omega)
      have d1 : decide ((12 : Int) < k) = true := decide_eq_true (by omega)
      have HD := Lib.hid (decimal_any k hk w)
      have hz := itoa_size hk
      clear hk hb h0 h1
      go_enter Tryz.func14, Tryz.ntmps14
      go_wp2_with fail
      refine HD.out.mono ?_
      rintro r w1 ⟨rfl, f1⟩
      have hz2 : ¬ 9223372036854775807 < (⟨#[99, 97, 108, 108, 45]⟩ : ByteArray).size + (bs (Lib.itoa k)).size := by show ¬ _ < 5 + _; omega
      go_wp2
      go_ret
      exact ⟨rfl, f1⟩
  · have hb : callB k = [99, 97, 108, 108, 45] ++ Lib.itoa k := by unfold callB; rw [if_neg (by omega)]
    rw [hb, ← bs_append]
    have d0 : decide (k < 1) = true := decide_eq_true (by omega)
    have HD := Lib.hid (decimal_any k hk w)
    have hz := itoa_size hk
    clear hk hb h0
    go_enter Tryz.func14, Tryz.ntmps14
    go_wp2_with fail
    refine HD.out.mono ?_
    rintro r w1 ⟨rfl, f1⟩
    have hz2 : ¬ 9223372036854775807 < (⟨#[99, 97, 108, 108, 45]⟩ : ByteArray).size + (bs (Lib.itoa k)).size := by show ¬ _ < 5 + _; omega
    go_wp2
    go_ret
    exact ⟨rfl, f1⟩
theorem task_any (w : World) : Calls Tryz.prog 38 #[] w fun r w' => r = .returned (.agg #[.int .i64 1, .int .i64 2, .int .i64 1, .int .i64 3, .int .i64 2, .int .i64 1, .int .i64 5, .int .i64 0]) ∧ Fr [] w w' := by
  go_enter Tryz.func38, Tryz.ntmps38
  go_wp2
  refine bodyPost_ret (v := .agg #[.int .i64 1, .int .i64 2, .int .i64 1, .int .i64 3, .int .i64 2, .int .i64 1, .int .i64 5, .int .i64 0]) (by simp [results, Tryz.results38, go_sem]) rfl ?_
  exact ⟨rfl, (Fr.refl [] w).alloc _⟩
end Go.Proofs.YtllmejkcohfbiaaGreatDoor
