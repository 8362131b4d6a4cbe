/- Parts of ChaosTexts: plain laws of the long text, the text or the error as one contract. -/
import Derived.Test.YtededfkenlhokaaDoorL11
namespace Go.Proofs.YtededfkenlhokaaDoor
open Go.RowKit Go.Shelf
set_option linter.unusedVariables false
set_option linter.unusedSimpArgs false
set_option maxRecDepth 100000
set_option maxHeartbeats 4000000

def cutF : Ft := ⟨4, 0, 0, 0, 0⟩
def cuts (n : Nat) : List Ft := List.replicate n cutF
theorem cuts_ok : planB (cuts 64) = true := by decide
theorem cut_line : lineB cutF = [99, 117, 116, 32, 48, 32, 114, 101, 97, 100, 32, 48, 10] := by
  simp only [lineB, wordsOf, cutF, kindB, dirB, Int.reduceToNat, dec_small (show 0 < 10 by omega)]
  decide
theorem cuts_succ (n : Nat) : textB (cuts (n + 1)) = textB (cuts n) ++ [99, 117, 116, 32, 48, 32, 114, 101, 97, 100, 32, 48, 10] := by
  unfold cuts
  rw [List.replicate_succ', textB_app]
  congr 1
  simp [textB, cut_line]
theorem cuts_len (n : Nat) : (textB (cuts n)).length = 13 * n := by
  induction n with
  | zero => rfl
  | succ n ih => rw [cuts_succ, List.length_append, ih]; simp; omega
theorem lines_more : ∀ (fs : List Ft) (c : UInt8), c ≠ 10 → linesGo [] (textB fs ++ [c]) = fs.map lineB ++ [[c]]
  | [], c, h => by simp [textB, linesGo, h]
  | f :: r, c, h => by
    have e : textB (f :: r) ++ [c] = Lib.join (wordsOf f) [32] ++ 10 :: (textB r ++ [c]) := by simp [textB, lineB]
    rw [e, lines_of _ _ _ (join_no10 f), lines_more r c h]
    simp [lineB]
theorem parse_over : ∀ (fs out : List Ft) (x : List UInt8), (∀ f ∈ fs, f.ok = true) → out.length + fs.length = 64 → parseP (fs.map lineB ++ [x]) out = ([], 7)
  | [], out, x, _, hl => by simp only [List.length_nil] at hl; simp only [List.map_nil, List.nil_append]; rw [parseP, if_pos (by omega)]
  | f :: r, out, x, h, hl => by
    simp only [List.length_cons] at hl
    rw [List.map_cons, List.cons_append, parseP, if_neg (by omega), (readP_iff (lineB f) f).2 ⟨h f (by simp), rfl⟩]
    exact parse_over r (out ++ [f]) x (fun y hy => h y (List.mem_cons_of_mem _ hy)) (by simp; omega)
theorem cuts_parse : parseP (linesGo [] (textB (cuts 64))) [] = (cuts 64, 0) := parse_text _ cuts_ok
theorem cuts_over : parseP (linesGo [] (textB (cuts 64) ++ [120])) [] = ([], 7) := by
  rw [lines_more _ _ (by decide)]
  exact parse_over _ _ _ (fun f hf => by rw [List.eq_of_mem_replicate hf]; decide) (by decide)
/-- The text, or the empty one; the error. -/
def txtA (fs : List Ft) : List UInt8 := if planB fs = true then textB fs else []
def txtE (fs : List Ft) : Int := if planB fs = true then 0 else 2
theorem text_any (v : Value) (fs : List Ft) (hl : fs.length ≤ 100000) (w : World) (he : Env w) (h : FtRow w v fs) :
    Calls Tryd.prog 8 #[v] w fun e w' => e = .returned (.tuple #[.string (bs (txtA fs)), .int .i64 (txtE fs)]) ∧ Fr [] w w' := by
  unfold txtA txtE
  by_cases hb : planB fs = true
  · rw [if_pos hb, if_pos hb]
    exact text_ok v fs w w he (Fr.refl [] w) h hb
  · rw [if_neg hb, if_neg hb]
    exact text_bad v fs hl w h (by simpa using hb)
theorem refGo_10 (cur l : List UInt8) (want : List Ft) : refGo cur (10 :: l) want = match readR cur with
    | none => none
    | some x => refGo [] l (want ++ [x]) := by
  rw [refGo, if_pos rfl]
  cases readR cur <;> rfl
theorem refGo_n {b : UInt8} (h : b ≠ 10) (cur l : List UInt8) (want : List Ft) : refGo cur (b :: l) want = refGo (cur ++ [b]) l want := by rw [refGo, if_neg h]
end Go.Proofs.YtededfkenlhokaaDoor
