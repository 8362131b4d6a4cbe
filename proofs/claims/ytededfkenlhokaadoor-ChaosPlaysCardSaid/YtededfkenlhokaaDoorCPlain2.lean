/- Plain laws of no program: a text that was written is read again; the chapter's examples. -/
import Derived.Test.YtededfkenlhokaaDoorC17
namespace Go.Proofs.YtededfkenlhokaaDoor
set_option linter.unusedVariables false
set_option maxRecDepth 100000

theorem lines_of : ∀ (l cur rest : List UInt8), (10 : UInt8) ∉ l → linesGo cur (l ++ 10 :: rest) = (cur ++ l ++ [10]) :: linesGo [] rest
  | [], cur, rest, _ => by rw [List.nil_append, linesGo, if_pos rfl, List.append_nil]
  | b :: l, cur, rest, h => by
    rw [List.cons_append, linesGo, if_neg (fun e => h (by simp [e])), lines_of l (cur ++ [b]) rest (fun hm => h (List.mem_cons_of_mem _ hm))]
    simp
theorem join_no10 (f : Ft) : (10 : UInt8) ∉ Lib.join (wordsOf f) [32] := fun h => by
  rcases join_bytes _ (wordy_of f) 10 h with h | h
  · cases h
  · have e : (10 : UInt8).toNat = 10 := rfl
    omega
theorem lines_text : ∀ fs : List Ft, linesGo [] (textB fs) = fs.map lineB
  | [] => by simp [textB, linesGo]
  | f :: r => by
    have e : textB (f :: r) = Lib.join (wordsOf f) [32] ++ 10 :: textB r := by simp [textB, lineB]
    rw [e, lines_of _ _ _ (join_no10 f), lines_text r]
    simp [lineB]
theorem parse_lines : ∀ (fs out : List Ft), (∀ f ∈ fs, f.ok = true) → out.length + fs.length ≤ 64 → parseP (fs.map lineB) out = (out ++ fs, 0)
  | [], out, _, _ => by simp [parseP]
  | f :: r, out, h, hl => by
    simp only [List.length_cons] at hl
    rw [List.map_cons, parseP, if_neg (by omega), (readP_iff (lineB f) f).2 ⟨h f (by simp), rfl⟩]
    simp only
    rw [parse_lines r (out ++ [f]) (fun x hx => h x (List.mem_cons_of_mem _ hx)) (by simp; omega)]
    simp
theorem parse_text (fs : List Ft) (hb : planB fs = true) : parseP (linesGo [] (textB fs)) [] = (fs, 0) := by
  unfold planB allOk at hb
  simp only [Bool.and_eq_true, decide_eq_true_eq] at hb
  rw [lines_text, parse_lines fs [] (List.all_eq_true.1 hb.2) (by simpa using hb.1)]
  simp

/-- The chapter's examples. -/
def exF : List Ft := [⟨1, 1, 0, 0, 2⟩, ⟨4, 1, 0, 5, 0⟩, ⟨2, 1, 0, 1, 7⟩, ⟨3, 1, 1, 0, 14⟩]
theorem exF_ok : planB exF = true := by decide
def exS : List UInt8 := [115, 104, 111, 114, 116, 32, 49, 32, 114, 101, 97, 100, 32, 48, 32, 50, 10, 99, 117, 116, 32, 49, 32, 114, 101, 97, 100, 32, 53, 10, 100, 101].append [108, 97, 121, 32, 49, 32, 114, 101, 97, 100, 32, 49, 32, 55, 10, 102, 97, 105, 108, 32, 49, 32, 119, 114, 105, 116, 101, 32, 48, 32, 49, 52, 10]
def exT : List UInt8 := [99, 117, 116, 32, 49, 32, 114, 101, 97, 100, 32, 53, 32, 48, 10]
theorem dec_small {u : Nat} (h : u < 10) : Lib.decDigits u = [UInt8.ofNat (48 + u)] := by rw [Lib.decDigits, dif_pos h]
theorem dec_14 : Lib.decDigits 14 = [49, 52] := by
  rw [Lib.decDigits, dif_neg (by omega), dec_small (by omega)]
  rfl
theorem exS_text : textB exF = exS := by
  simp only [textB, exF, List.map_cons, List.map_nil, lineB, wordsOf, kindB, dirB, Int.reduceToNat, dec_small (show 0 < 10 by omega), dec_small (show 1 < 10 by omega), dec_small (show 2 < 10 by omega), dec_small (show 5 < 10 by omega), dec_small (show 7 < 10 by omega), dec_14]
  decide
theorem exS_parse : parseP (linesGo [] exS) [] = (exF, 0) := by rw [← exS_text]; exact parse_text exF exF_ok
theorem exT_bad : readP exT = none := by
  rcases h : readP exT with _ | f
  · rfl
  · obtain ⟨hok, hl⟩ := (readP_iff exT f).1 h
    have h1 := fields_line f
    rw [hl, Lib.fieldsD_ascii exT (by decide)] at h1
    have h2 : Lib.fieldsGo [] exT = [wCut, [49], wRead, [53], [48]] := by decide
    change Lib.fieldsGo [] exT = _ at h1
    rw [h2] at h1
    obtain ⟨-, -, -, -, hk, -⟩ := Ft.nums hok
    unfold wordsOf at h1
    simp only [List.cons_append, List.nil_append, List.cons.injEq] at h1
    obtain ⟨e1, -, -, -, e5⟩ := h1
    rcases hk with hk | hk | hk | hk
    · rw [hk] at e1
      exact absurd e1 (by decide)
    · rw [hk] at e1
      exact absurd e1 (by decide)
    · rw [hk] at e1
      exact absurd e1 (by decide)
    · rw [if_pos hk] at e5
      cases e5
theorem exT_parse : parseP (linesGo [] exT) [] = ([], 6) := by
  have e : linesGo [] exT = [exT] := by decide
  rw [e, parseP, if_neg (by simp), exT_bad]
end Go.Proofs.YtededfkenlhokaaDoor
