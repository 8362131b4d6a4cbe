/- Plain: the lines of a text, lists read line by line, and the text of all interleavings. -/
import Derived.Test.YtllmejkcohfbiaaGreatDoorR14
import Derived.Lib.Strings
namespace Go.Proofs.YtllmejkcohfbiaaGreatDoor
open Go.Lib
set_option linter.unusedVariables false
set_option linter.unusedSimpArgs false

/-- The lines of a text with their line feeds; the last one may have none. -/
def linesGo : List UInt8 → List UInt8 → List (List UInt8)
  | cur, [] => if cur = [] then [] else [cur]
  | cur, b :: l => if b = 10 then (cur ++ [10]) :: linesGo [] l else linesGo (cur ++ [b]) l
theorem lines_len : ∀ (l cur x : List UInt8), x ∈ linesGo cur l → x.length ≤ cur.length + l.length
  | [], cur, x, h => by
    rw [linesGo] at h
    split at h
    · cases h
    · rw [List.mem_singleton] at h
      subst h
      simp
  | b :: l, cur, x, h => by
    rw [linesGo] at h
    split at h
    · rcases List.mem_cons.1 h with rfl | h
      · simp
      · have := lines_len l [] x h
        simp only [List.length_nil, List.length_cons] at this ⊢
        omega
    · have := lines_len l (cur ++ [b]) x h
      simp only [List.length_append, List.length_cons, List.length_nil] at this ⊢
      omega
/-- A list read line by line: rd says what a line says, if it says it. -/
def parseL {α : Type} (rd : List UInt8 → Option α) : List (List UInt8) → List α → List α × Int × Int
  | [], out => (out, 0, 0)
  | t :: ts, out => if out.length = 1000 then ([], 1001, 6) else match rd t with
    | none => ([], (out.length : Int) + 1, 6)
    | some x => parseL rd ts (out ++ [x])
/-- What a line says, if it says it. -/
def rdOf {α : Type} (f : List UInt8 → α) (ok : α → Bool) (line : α → List UInt8) (t : List UInt8) : Option α :=
  if ok (f (Lib.trimSuffix t [10])) = true ∧ line (f (Lib.trimSuffix t [10])) = t then some (f (Lib.trimSuffix t [10])) else none
/-- So far xs has been read. -/
def SoFar {α : Type} (rd : List UInt8 → Option α) (pre : List (List UInt8)) (xs : List α) : Prop := (∀ rest, parseL rd (pre ++ rest) [] = parseL rd rest xs) ∧ xs.length ≤ 1000
theorem SoFar.start {α : Type} (rd : List UInt8 → Option α) : SoFar rd [] [] := ⟨fun _ => rfl, by simp⟩
theorem SoFar.full {α : Type} {rd : List UInt8 → Option α} {pre : List (List UInt8)} {fs : List α} (h : SoFar rd pre fs) (h64 : fs.length = 1000) (x : List UInt8) (rest : List (List UInt8)) : parseL rd ((pre ++ [x]) ++ rest) [] = ([], 1001, 6) := by
  rw [List.append_assoc, h.1]
  simp only [List.cons_append, List.nil_append]
  rw [parseL, if_pos h64]
theorem SoFar.bad {α : Type} {rd : List UInt8 → Option α} {pre : List (List UInt8)} {fs : List α} (h : SoFar rd pre fs) (h64 : fs.length ≠ 1000) {x : List UInt8} (hx : rd x = none) (rest : List (List UInt8)) : parseL rd ((pre ++ [x]) ++ rest) [] = ([], (fs.length : Int) + 1, 6) := by
  rw [List.append_assoc, h.1]
  simp only [List.cons_append, List.nil_append]
  rw [parseL, if_neg h64, hx]
theorem SoFar.more {α : Type} {rd : List UInt8 → Option α} {pre : List (List UInt8)} {fs : List α} (h : SoFar rd pre fs) (h64 : fs.length ≠ 1000) {x : List UInt8} {f : α} (hx : rd x = some f) : SoFar rd (pre ++ [x]) (fs ++ [f]) := by
  refine ⟨fun rest => ?_, by have := h.2; simp; omega⟩
  rw [List.append_assoc, h.1]
  simp only [List.cons_append, List.nil_append]
  rw [parseL, if_neg h64, hx]
/-- How an interleaving ends. -/
structure Oc where
  runs : Int
  picks : List Int
/-- All interleavings. -/
structure Ex where
  states : Int
  runs : Int
  longest : Int
  ends : List Oc
def ocWords (o : Oc) : List (List UInt8) := [[101, 110, 100], Lib.itoa o.runs ++ [44], [112, 105, 99, 107, 115]] ++ o.picks.map Lib.itoa
def ocB (o : Oc) : List UInt8 := Lib.join (ocWords o) [32] ++ [10]
def ocOk (o : Oc) : Bool := decide (0 ≤ o.runs) && (decide (o.picks.length ≤ 1000) && noneNeg o.picks)
def exHeadWs (x : Ex) : List (List UInt8) := [[115, 116, 97, 116, 101, 115], Lib.itoa x.states ++ [44], [114, 117, 110, 115], Lib.itoa x.runs ++ [44], [108, 111, 110, 103, 101, 115, 116], Lib.itoa x.longest]
def exHead (x : Ex) : List UInt8 := Lib.join (exHeadWs x) [32] ++ [10]
def exOk (x : Ex) : Bool := noneNeg [x.states, x.runs, x.longest] && (decide (x.ends.length ≤ 1000) && x.ends.all ocOk)
def exText (x : Ex) : List UInt8 × Int := if exOk x = true then (exHead x ++ (x.ends.map ocB).flatten, 0) else ([], 2)
end Go.Proofs.YtllmejkcohfbiaaGreatDoor
