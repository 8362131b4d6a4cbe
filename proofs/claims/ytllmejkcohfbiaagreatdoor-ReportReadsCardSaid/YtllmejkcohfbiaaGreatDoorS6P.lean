/- Report: what the law wants of the checkers' text and of all interleavings, in plain. -/
import Derived.Test.YtllmejkcohfbiaaGreatDoorS3
namespace Go.Proofs.YtllmejkcohfbiaaGreatDoor
open Go.RowKit Go.Shelf Go.Sort Go.Lib
set_option linter.unusedVariables false
set_option linter.unusedSimpArgs false
set_option maxRecDepth 100000
set_option maxHeartbeats 16000000

def ckFine (p f b : Int) : Bool := decide (-1 ≤ p) && (decide (-1 ≤ b) && ((p == -1) && (f == 0) || (decide (0 ≤ p) && decide (1 ≤ f)) && decide (f ≤ 3)))
def ckWant1 (p f : Int) (fine : Bool) : List UInt8 := if (decide (0 ≤ p) && fine) = true then [112, 105, 112, 101, 32] ++ Lib.itoa p ++ [32] ++ (flawWs.drop 1).getD (f - 1).toNat [] ++ [10] else [112, 105, 112, 101, 115, 32, 102, 105, 110, 101, 10]
def ckWant (p f b : Int) (fine : Bool) : List UInt8 := if 0 ≤ b then ckWant1 p f fine ++ [99, 111, 100, 101, 32] ++ Lib.itoa b ++ [10] else ckWant1 p f fine ++ [99, 111, 100, 101, 115, 32, 102, 105, 110, 101, 10]
theorem ckFine_eq (p f b : Int) : ckFine p f b = checkOk p f b := by
  unfold ckFine checkOk
  rw [Bool.eq_iff_iff]
  simp only [Bool.and_eq_true, Bool.or_eq_true, decide_eq_true_eq, beq_iff_eq]
  omega
theorem ck_says (p f b : Int) : saysB (checkB p f b).1 (checkB p f b).2 (ckWant p f b (ckFine p f b)) (ckFine p f b) = true := by
  rw [ckFine_eq]
  unfold checkB saysB
  cases h : checkOk p f b with
  | false => rfl
  | true =>
    simp only [if_true]
    unfold checkOk at h
    simp only [decide_eq_true_eq] at h
    have e1 : ckWant1 p f true = check1 p f ++ [10] := by
      unfold ckWant1 check1
      by_cases hp : p = -1
      · rw [if_neg (by simp only [Bool.and_true, decide_eq_true_eq]; omega), if_pos hp]
        rfl
      · rw [if_pos (by simp only [Bool.and_true, decide_eq_true_eq]; omega), if_neg hp]
        have hfl : ∀ i, i < 3 → (flawWs.drop 1).getD i [] = flawWs.getD (i + 1) [] := by decide
        have hf : f.toNat = (f - 1).toNat + 1 := by omega
        rw [hf, hfl _ (by omega)]
        simp only [Lib.join_cons, Lib.joinTail, List.map_cons, List.map_nil, List.flatten_cons, List.flatten_nil, List.append_assoc, List.cons_append, List.nil_append, List.append_nil]
    have e2 : ckWant p f b true = check1 p f ++ [10] ++ check2 b ++ [10] := by
      unfold ckWant check2
      rw [e1]
      by_cases hb : b = -1
      · rw [if_neg (by omega), if_pos hb]
        simp only [List.append_assoc, List.cons_append, List.nil_append]
      · rw [if_pos (by omega), if_neg hb]
        simp only [Lib.join_cons, Lib.joinTail, List.map_cons, List.map_nil, List.flatten_cons, List.flatten_nil, List.append_assoc, List.cons_append, List.nil_append, List.append_nil]
    rw [e2]
    simp
theorem ckWant1_len {p f : Int} (ip : I64 p) (fine : Bool) : (ckWant1 p f fine).length ≤ 40 := by
  have h1 := Lib.itoa_length_le p ip.1 ip.2
  unfold ckWant1
  split
  · rename_i hf
    have h2 : ((flawWs.drop 1).getD (f - 1).toNat []).length ≤ 4 := by
      rcases Nat.lt_or_ge (f - 1).toNat 3 with h | h
      · have : ∀ i, i < 3 → ((flawWs.drop 1).getD i []).length ≤ 4 := by decide
        exact this _ h
      · rw [List.getD_eq_getElem?_getD, List.getElem?_eq_none (by simpa [flawWs] using h)]
        simp
    simp only [List.length_append, List.length_cons, List.length_nil]
    omega
  · simp
/-- The text of an end: what comes ahead of its picks; its picks. -/
def endB (o : Oc) : List UInt8 := [101, 110, 100, 32] ++ Lib.itoa o.runs ++ [44, 32, 112, 105, 99, 107, 115]
def pkB (l : List Int) : List UInt8 := (l.map fun p => [32] ++ Lib.itoa p).flatten
theorem ocB_eq (o : Oc) : ocB o = endB o ++ pkB o.picks ++ [10] := by
  unfold ocB ocWords endB pkB
  simp only [List.cons_append, List.nil_append, Lib.join_cons, Lib.joinTail, List.map_cons, List.map_append, List.map_map, List.flatten_cons, List.append_assoc]
  rfl
theorem pkB_succ {l : List Int} {k : Nat} {p : Int} (h : l[k]? = some p) : pkB (l.take (k + 1)) = pkB (l.take k) ++ ([32] ++ Lib.itoa p) := by
  unfold pkB
  rw [List.take_add_one, h]
  simp
theorem pkB_len : ∀ l : List Int, (∀ p ∈ l, I64 p) → (pkB l).length ≤ 22 * l.length
  | [], _ => by simp [pkB]
  | p :: r, h => by
    have h1 := h p (by simp)
    have h2 := Lib.itoa_length_le p h1.1 h1.2
    have h3 := pkB_len r (fun q hq => h q (List.mem_cons_of_mem _ hq))
    unfold pkB at h3 ⊢
    simp only [List.map_cons, List.flatten_cons, List.length_append, List.length_cons, List.length_nil]
    omega
theorem endB_len {o : Oc} (h : I64 o.runs) : (endB o).length ≤ 32 := by
  have h2 := Lib.itoa_length_le o.runs h.1 h.2
  unfold endB
  simp only [List.length_append, List.length_cons, List.length_nil]
  omega
theorem ocB_len30 {o : Oc} (h : I64 o.runs ∧ ∀ p ∈ o.picks, I64 p) (hl : o.picks.length ≤ 30) : (ocB o).length ≤ 700 := by
  have h1 := endB_len h.1
  have h2 := pkB_len o.picks h.2
  rw [ocB_eq]
  simp only [List.length_append, List.length_cons, List.length_nil]
  omega
theorem exHead_bs (s r l : Int) (es : List Oc) : bs (exHead ⟨s, r, l, es⟩) = ((((((⟨#[115, 116, 97, 116, 101, 115, 32]⟩ : ByteArray) ++ bs (Lib.itoa s)) ++ ⟨#[44, 32, 114, 117, 110, 115, 32]⟩) ++ bs (Lib.itoa r)) ++ ⟨#[44, 32, 108, 111, 110, 103, 101, 115, 116, 32]⟩) ++ bs (Lib.itoa l)) ++ ⟨#[10]⟩ := by
  rw [show (⟨#[115, 116, 97, 116, 101, 115, 32]⟩ : ByteArray) = bs [115, 116, 97, 116, 101, 115, 32] from rfl, show (⟨#[44, 32, 114, 117, 110, 115, 32]⟩ : ByteArray) = bs [44, 32, 114, 117, 110, 115, 32] from rfl, show (⟨#[44, 32, 108, 111, 110, 103, 101, 115, 116, 32]⟩ : ByteArray) = bs [44, 32, 108, 111, 110, 103, 101, 115, 116, 32] from rfl, show (⟨#[10]⟩ : ByteArray) = bs [10] from rfl]
  simp only [bs_append, exHead, exHeadWs, Lib.join_cons, Lib.joinTail, List.map_cons, List.map_nil, List.flatten_cons, List.flatten_nil, List.append_assoc, List.cons_append, List.nil_append, List.append_nil]
theorem exHead_len {s r l : Int} (es : List Oc) (h : I64 s ∧ I64 r ∧ I64 l) : (exHead ⟨s, r, l, es⟩).length ≤ 201 := by
  have := exHeadJ_len (x := ⟨s, r, l, es⟩) h
  unfold exHead
  rw [List.length_append]
  simp only [List.length_cons, List.length_nil]
  omega
/-- What is fine of an end, where its picks are few. -/
def ocF (o : Oc) : Bool := decide (0 ≤ o.runs) && noneNeg o.picks
theorem ex_says (x : Ex) (hn : x.ends.length ≤ 20) (hp : ∀ o ∈ x.ends, o.picks.length ≤ 30) : saysB (exText x).1 (exText x).2 (exHead x ++ textOf ocB x.ends) (noneNeg [x.states, x.runs, x.longest] && x.ends.all ocF) = true := by
  have h1 : x.ends.all ocOk = x.ends.all ocF := by
    rw [Bool.eq_iff_iff, List.all_eq_true, List.all_eq_true]
    refine ⟨fun h o ho => ?_, fun h o ho => ?_⟩
    · have := h o ho
      unfold ocOk at this
      unfold ocF
      simp only [Bool.and_eq_true, decide_eq_true_eq] at this ⊢
      exact ⟨this.1, this.2.2⟩
    · have := h o ho
      have h30 := hp o ho
      unfold ocF at this
      unfold ocOk
      simp only [Bool.and_eq_true, decide_eq_true_eq] at this ⊢
      exact ⟨this.1, by omega, this.2⟩
  have h2 : exOk x = (noneNeg [x.states, x.runs, x.longest] && x.ends.all ocF) := by
    unfold exOk
    rw [h1, decide_eq_true (p := x.ends.length ≤ 1000) (by omega), Bool.true_and]
  unfold exText saysB
  rw [← h2]
  cases exOk x with
  | false => rfl
  | true =>
    simp only [if_true]
    simp [textOf]
end Go.Proofs.YtllmejkcohfbiaaGreatDoor
