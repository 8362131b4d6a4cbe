/- Contract of chaos's Parse. -/
import Derived.Test.YtededfkenlhokaaDoorC14
import Derived.Test.YtededfkenlhokaaDoorLines
namespace Go.Proofs.YtededfkenlhokaaDoor
open Go.RowKit Go.Shelf
set_option linter.unusedVariables false
set_option maxRecDepth 100000
set_option maxHeartbeats 4000000

theorem lines_len : ∀ (l cur x : List UInt8), x ∈ linesGo cur l → x.length ≤ cur.length + l.length
  | [], cur, x, h => by
    rw [linesGo] at h
    split at h
    · cases h
    · rw [List.mem_singleton] at h
      subst h
      simp
  | b :: l, cur, x, h => by
    rw [linesGo] at h
    split at h
    · rcases List.mem_cons.1 h with rfl | h
      · simp
      · have := lines_len l [] x h
        simp only [List.length_nil, List.length_cons] at this ⊢
        omega
    · have := lines_len l (cur ++ [b]) x h
      simp only [List.length_append, List.length_cons, List.length_nil] at this ⊢
      omega
/-- So far fs has been read. -/
def SoFar (pre : List (List UInt8)) (fs : List Ft) : Prop := (∀ rest, parseP (pre ++ rest) [] = parseP rest fs) ∧ fs.length ≤ 64
theorem SoFar.start : SoFar [] [] := ⟨fun _ => rfl, by simp⟩
theorem SoFar.full {pre : List (List UInt8)} {fs : List Ft} (h : SoFar pre fs) (h64 : fs.length = 64) (x : List UInt8) (rest : List (List UInt8)) : parseP ((pre ++ [x]) ++ rest) [] = ([], 7) := by
  rw [List.append_assoc, h.1]
  simp only [List.cons_append, List.nil_append]
  rw [parseP, if_pos h64]
theorem SoFar.bad {pre : List (List UInt8)} {fs : List Ft} (h : SoFar pre fs) (h64 : fs.length ≠ 64) {x : List UInt8} (hx : readP x = none) (rest : List (List UInt8)) : parseP ((pre ++ [x]) ++ rest) [] = ([], 6) := by
  rw [List.append_assoc, h.1]
  simp only [List.cons_append, List.nil_append]
  rw [parseP, if_neg h64, hx]
theorem SoFar.more {pre : List (List UInt8)} {fs : List Ft} (h : SoFar pre fs) (h64 : fs.length ≠ 64) {x : List UInt8} {f : Ft} (hx : readP x = some f) : SoFar (pre ++ [x]) (fs ++ [f]) := by
  refine ⟨fun rest => ?_, by have := h.2; simp; omega⟩
  rw [List.append_assoc, h.1]
  simp only [List.cons_append, List.nil_append]
  rw [parseP, if_neg h64, hx]
theorem ftCells_app : ∀ (a b : List Ft), ftCells (a ++ b) = ftCells a ++ ftCells b
  | [], b => rfl
  | x :: r, b => by simp only [List.cons_append, ftCells, ftCells_app r b]

/-- What holds between two rounds of Parse's loop. -/
def PI (w : World) (N : Nat) (pre : List (List UInt8)) (W : World) : Prop :=
  ∃ fs v, SoFar pre fs ∧ W.ownsRow (N + 4) 32 5 v fs.length (ftCells fs) ∧ Boxed W (N + 1 + 1) 22 v ∧ Boxed W N 22 (.slice none 0 0) ∧ Boxed W (N + 1) 24 (.int .i64 0) ∧ Fr [] w W ∧ N + 4 ≤ W.heap.size
/-- What holds where a round has returned. -/
def PX (w : World) (N : Nat) (pre : List (List UInt8)) (W : World) : Prop :=
  ∃ e : Int, (∀ rest, parseP (pre ++ rest) [] = ([], e)) ∧ Boxed W N 22 (.slice none 0 0) ∧ Boxed W (N + 1) 24 (.int .i64 e) ∧ Fr [] w W
/-- What Parse hands back. -/
def ParsePost (w : World) (y : List Ft × Int) (e : Ending) (w' : World) : Prop := ∃ v, e = .returned (.tuple #[v, .int .i64 y.2]) ∧ FtRow w' v y.1 ∧ Fr [] w w'

theorem ownX_boxed {β : Type} {X B b : Nat} {t : TypeId} (f : β → Value) (hb : b < B) (hne : b ≠ X) : OwnX X B (fun s W => Boxed W b t (f s)) := fun s W W' row hs hg hr =>
  hs.kept hg (fun e => by rcases hr b e.symm with h | h <;> omega)
theorem ownX_fr {β : Type} {X B : Nat} {w : World} (hB : w.heap.size ≤ B) (hX : w.heap.size ≤ X) : OwnX X B (fun (_ : β) W => Fr [] w W) := fun _ A C row hs hg hr =>
  hs.trans (grownFr (S := row.toList) hg (fun k e => by simp [e])) (fun x hx hl => by
    rcases hr x (by simpa using hx) with h | h <;> omega)
theorem row_keep {X B n k : Nat} {W W' : World} {row : Option Nat} {v : Value} {xs : List Value} {E : TypeId} {sz : Nat} (hX : X < n) (hs : W.ownsRow n E sz v k xs) (hg : W.grownBy W' row)
    (hr : ∀ r, row = some r → r = X ∨ (B ≤ r ∧ ∃ o : Obj, W.heap[r]? = some o ∧ o.isCells = false)) : W'.ownsRow n E sz v k xs := by
  refine hs.kept hg ?_
  rcases hs.2 with ⟨rfl, _⟩ | ⟨g, cap, cur, rfl, hn, hgb, _⟩
  · exact .inl rfl
  · refine .inr fun e => ?_
    rcases hr g (by rw [← e]; rfl) with h | ⟨_, o, ho, hc⟩
    · omega
    · rw [hgb] at ho
      cases ho
      cases hc
theorem own_PI (w : World) : OwnX (w.heap.size + 3) (w.heap.size + 4) (PI w w.heap.size) := by
  rintro pre W W' row ⟨fs, v, h1, h2, h3, h4, h5, h6, h7⟩ hg hr
  exact ⟨fs, v, h1, row_keep (by omega) h2 hg hr, ownX_boxed (β := Unit) (fun _ => v) (by omega) (by omega) () W W' row h3 hg hr, ownX_boxed (β := Unit) (fun _ => _) (by omega) (by omega) () W W' row h4 hg hr,
    ownX_boxed (β := Unit) (fun _ => _) (by omega) (by omega) () W W' row h5 hg hr, ownX_fr (β := Unit) (by omega) (by omega) () W W' row h6 hg hr, Nat.le_trans h7 hg.size⟩
theorem own_PX (w : World) : OwnX (w.heap.size + 3) (w.heap.size + 4) (PX w w.heap.size) := by
  rintro pre W W' row ⟨e, h1, h4, h5, h6⟩ hg hr
  exact ⟨e, h1, ownX_boxed (β := Unit) (fun _ => _) (by omega) (by omega) () W W' row h4 hg hr,
    ownX_boxed (β := Unit) (fun _ => _) (by omega) (by omega) () W W' row h5 hg hr, ownX_fr (β := Unit) (by omega) (by omega) () W W' row h6 hg hr⟩
theorem boxed_keep {W W' : World} {S : List Nat} {b : Nat} {t : TypeId} {v : Value} (h : Boxed W b t v) (hf : Fr S W W') (hn : b ∉ S) : Boxed W' b t v := (hf.block b h.lt hn).trans h

theorem parseEnd (tmps : Array Value) (y : List Ft × Int) (w W : World) (v : Value) (N D : Nat) (h2 : tmps[2]? = some (.pointer (some ⟨N, 0, none⟩))) (h3 : tmps[3]? = some (.pointer (some ⟨N + 1, 0, none⟩)))
    (hK : W.heap[D]? = some (.deferred (some []))) (hD : N + 1 < D) (hw : w.heap.size ≤ D) (b2 : Boxed W N 22 v) (b3 : Boxed W (N + 1) 24 (.int .i64 y.2)) (hr : FtRow W v y.1) (hr2 : ∀ g off n c, v = .slice (some ⟨g, off, none⟩) n c → g ≠ D) (hf : Fr [] w W) :
    LeavesInM Fence.wide 6 Tryd.prog Tryd.f11 tmps (ParsePost w y) [{ target := Target.collected D, args := #[] }] FrameMode.returning W := by
  have fp : Fr [D] W (W.putObj D (.deferred none)) := grownFr (grownBy_putObj' W D _) (fun k e => by cases e; simp)
  refine ⟨by simp, .inl ⟨_, _, rfl, run_takeDeferred hK, ?_⟩⟩
  have c2 := (boxed_keep b2 fp (by simp; omega)).cell
  have c3 := (boxed_keep b3 fp (by simp; omega)).cell
  exact ⟨.tuple #[v, .int .i64 y.2], by simp [results, Tryd.f11, go_sem, Array.getD_eq_getD_getElem?, h2, h3, c2, c3], v, rfl, hr.keep fp (fun g off n c e => by simpa using hr2 g off n c e), hf.trans fp (fun x hx hl => by simp at hx; omega)⟩
end Go.Proofs.YtededfkenlhokaaDoor
