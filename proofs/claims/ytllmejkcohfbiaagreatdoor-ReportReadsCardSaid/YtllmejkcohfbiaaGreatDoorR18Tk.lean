/- Report: lines at api.TaskCount. -/
import Derived.Test.YtllmejkcohfbiaaGreatDoorR18
namespace Go.Proofs.YtllmejkcohfbiaaGreatDoor
open Go.RowKit Go.Shelf Go.Sort Go.Lib
set_option linter.unusedVariables false
set_option linter.unusedSimpArgs false
set_option maxRecDepth 100000
set_option maxHeartbeats 8000000

def tkVals (x : Tk) : List Value := [.int .i64 x.t, .int .i64 x.calls, .int .i64 x.refused, .int .i64 x.steps, .int .i64 x.ended, .int .i64 x.failed, .int .i64 x.read, .int .i64 x.written]
def tkCells : List Tk → List Value
  | [] => []
  | x :: r => tkVals x ++ tkCells r
theorem tkCells_app : ∀ (a b : List Tk), tkCells (a ++ b) = tkCells a ++ tkCells b
  | [], b => rfl
  | x :: r, b => by simp only [List.cons_append, tkCells, tkCells_app r b, List.append_assoc]
theorem tkCells_len : ∀ (a : List Tk), (tkCells a).length = a.length * 8
  | [] => rfl
  | x :: r => by rw [tkCells, List.length_append, tkCells_len r]; simp only [tkVals, List.length_cons, List.length_nil]; omega
theorem tkCells_at : ∀ (a : List Tk) (i : Nat) (x : Tk), a[i]? = some x → ∀ j, j < 8 → (tkCells a)[i * 8 + j]? = (tkVals x)[j]?
  | [], i, x, h, j, hj => by simp at h
  | y :: r, 0, x, h, j, hj => by
    simp only [List.getElem?_cons_zero, Option.some.injEq] at h
    subst h
    rw [tkCells, Nat.zero_mul, Nat.zero_add, List.getElem?_append_left (by simp only [tkVals, List.length_cons, List.length_nil]; omega)]
  | y :: r, i + 1, x, h, j, hj => by
    simp only [List.getElem?_cons_succ] at h
    have := tkCells_at r i x h j hj
    rw [tkCells, List.getElem?_append_right (by simp only [tkVals, List.length_cons, List.length_nil]; omega), ← this]
    congr 1
    simp only [tkVals, List.length_cons, List.length_nil]
    omega
theorem infoTk : (Tryz.prog.info? 58).map (fun i => (i.zero, i.size, i.bytes)) = some (some (.agg #[.int .i64 0, .int .i64 0, .int .i64 0, .int .i64 0, .int .i64 0, .int .i64 0, .int .i64 0, .int .i64 0]), 8, 64) := by kernel_rfl
/-- A row that is its own, as a list in memory. -/
theorem TkRow.of {w : World} {lo : Nat} {v : Value} {xs : List Tk} (h : w.ownsRow lo 58 8 v xs.length (tkCells xs)) : TkRow w v xs ∧ ∀ g off n c, v = .slice (some ⟨g, off, none⟩) n c → lo ≤ g := by
  have h0 := h
  rcases h.2 with ⟨rfl, h2⟩ | ⟨g, cap, cur, rfl, hg, hgb, hcap, _⟩
  · refine ⟨.inl ⟨List.eq_nil_of_length_eq_zero h2, none, 0, rfl⟩, fun g off n c e => by cases e⟩
  · refine ⟨.inr ⟨g, 0, cap, rfl, (Array.getElem?_eq_some_iff.1 hgb).1, fun i x hx => ?_⟩, fun g' off n c e => by cases e; exact hg⟩
    have hc : ∀ (j : Nat) (u : Value), j < 8 → (tkVals x)[j]? = some u → w.cell? ⟨g, 0 + i * 8 + j, none⟩ = some u := fun j u hj hu => by
      have h1 := World.ownsRow.cells h0 (g := g) rfl (i * 8 + j) u (by rw [tkCells_at xs i x hx j hj]; exact hu)
      rw [Addr.add_lit] at h1
      rw [show 0 + i * 8 + j = 0 + (i * 8 + j) from by omega]
      exact h1
    exact ⟨hc 0 _ (by omega) rfl, hc 1 _ (by omega) rfl, hc 2 _ (by omega) rfl, hc 3 _ (by omega) rfl, hc 4 _ (by omega) rfl, hc 5 _ (by omega) rfl, hc 6 _ (by omega) rfl, hc 7 _ (by omega) rfl⟩
theorem TkRow.keep {S : List Nat} {w w' : World} {v : Value} {xs : List Tk} (h : TkRow w v xs) (hf : Fr S w w') (hn : ∀ g off n c, v = .slice (some ⟨g, off, none⟩) n c → g ∉ S) : TkRow w' v xs := by
  rcases h with h | ⟨g, off, cap, rfl, h1, h2⟩
  · exact .inl h
  · refine .inr ⟨g, off, cap, rfl, Nat.lt_of_lt_of_le h1 hf.size, fun i x hx => ?_⟩
    obtain ⟨c0, c1, c2, c3, c4, c5, c6, c7⟩ := h2 i x hx
    exact ⟨hf.keep c0 (hn _ _ _ _ rfl), hf.keep c1 (hn _ _ _ _ rfl), hf.keep c2 (hn _ _ _ _ rfl), hf.keep c3 (hn _ _ _ _ rfl), hf.keep c4 (hn _ _ _ _ rfl), hf.keep c5 (hn _ _ _ _ rfl), hf.keep c6 (hn _ _ _ _ rfl), hf.keep c7 (hn _ _ _ _ rfl)⟩
theorem TkAt.c0 {W : World} {b : Nat} {x : Tk} (h : TkAt W b x) : W.cell? ⟨b, 0, none⟩ = some (.int .i64 x.t) := by simp [World.cell?, show W.heap[b]? = _ from h]
theorem TkAt.c1 {W : World} {b : Nat} {x : Tk} (h : TkAt W b x) : W.cell? ⟨b, 1, none⟩ = some (.int .i64 x.calls) := by simp [World.cell?, show W.heap[b]? = _ from h]
theorem TkAt.c2 {W : World} {b : Nat} {x : Tk} (h : TkAt W b x) : W.cell? ⟨b, 2, none⟩ = some (.int .i64 x.refused) := by simp [World.cell?, show W.heap[b]? = _ from h]
theorem TkAt.c3 {W : World} {b : Nat} {x : Tk} (h : TkAt W b x) : W.cell? ⟨b, 3, none⟩ = some (.int .i64 x.steps) := by simp [World.cell?, show W.heap[b]? = _ from h]
theorem TkAt.c4 {W : World} {b : Nat} {x : Tk} (h : TkAt W b x) : W.cell? ⟨b, 4, none⟩ = some (.int .i64 x.ended) := by simp [World.cell?, show W.heap[b]? = _ from h]
theorem TkAt.c5 {W : World} {b : Nat} {x : Tk} (h : TkAt W b x) : W.cell? ⟨b, 5, none⟩ = some (.int .i64 x.failed) := by simp [World.cell?, show W.heap[b]? = _ from h]
theorem TkAt.c6 {W : World} {b : Nat} {x : Tk} (h : TkAt W b x) : W.cell? ⟨b, 6, none⟩ = some (.int .i64 x.read) := by simp [World.cell?, show W.heap[b]? = _ from h]
theorem TkAt.c7 {W : World} {b : Nat} {x : Tk} (h : TkAt W b x) : W.cell? ⟨b, 7, none⟩ = some (.int .i64 x.written) := by simp [World.cell?, show W.heap[b]? = _ from h]
theorem TkAt.fz {W : World} {b : Nat} {x : Tk} (h : TkAt W b x) (o : Nat) : W.frozen? ⟨b, o, none⟩ = false := by simp [World.frozen?, show W.heap[b]? = _ from h]
theorem TkAt.set0 {W : World} {b : Nat} {x : Tk} (h : TkAt W b x) (y : Int) : TkAt (W.setCell ⟨b, 0, none⟩ (.int .i64 y)) b ⟨y, x.calls, x.refused, x.steps, x.ended, x.failed, x.read, x.written⟩ := by
  unfold TkAt at *
  show (W.heap.modify b _)[b]? = _
  rw [Array.getElem?_modify, if_pos rfl, h]
  rfl
theorem TkAt.set1 {W : World} {b : Nat} {x : Tk} (h : TkAt W b x) (y : Int) : TkAt (W.setCell ⟨b, 1, none⟩ (.int .i64 y)) b ⟨x.t, y, x.refused, x.steps, x.ended, x.failed, x.read, x.written⟩ := by
  unfold TkAt at *
  show (W.heap.modify b _)[b]? = _
  rw [Array.getElem?_modify, if_pos rfl, h]
  rfl
theorem TkAt.set2 {W : World} {b : Nat} {x : Tk} (h : TkAt W b x) (y : Int) : TkAt (W.setCell ⟨b, 2, none⟩ (.int .i64 y)) b ⟨x.t, x.calls, y, x.steps, x.ended, x.failed, x.read, x.written⟩ := by
  unfold TkAt at *
  show (W.heap.modify b _)[b]? = _
  rw [Array.getElem?_modify, if_pos rfl, h]
  rfl
theorem TkAt.set3 {W : World} {b : Nat} {x : Tk} (h : TkAt W b x) (y : Int) : TkAt (W.setCell ⟨b, 3, none⟩ (.int .i64 y)) b ⟨x.t, x.calls, x.refused, y, x.ended, x.failed, x.read, x.written⟩ := by
  unfold TkAt at *
  show (W.heap.modify b _)[b]? = _
  rw [Array.getElem?_modify, if_pos rfl, h]
  rfl
theorem TkAt.set4 {W : World} {b : Nat} {x : Tk} (h : TkAt W b x) (y : Int) : TkAt (W.setCell ⟨b, 4, none⟩ (.int .i64 y)) b ⟨x.t, x.calls, x.refused, x.steps, y, x.failed, x.read, x.written⟩ := by
  unfold TkAt at *
  show (W.heap.modify b _)[b]? = _
  rw [Array.getElem?_modify, if_pos rfl, h]
  rfl
theorem TkAt.set5 {W : World} {b : Nat} {x : Tk} (h : TkAt W b x) (y : Int) : TkAt (W.setCell ⟨b, 5, none⟩ (.int .i64 y)) b ⟨x.t, x.calls, x.refused, x.steps, x.ended, y, x.read, x.written⟩ := by
  unfold TkAt at *
  show (W.heap.modify b _)[b]? = _
  rw [Array.getElem?_modify, if_pos rfl, h]
  rfl
theorem TkAt.set6 {W : World} {b : Nat} {x : Tk} (h : TkAt W b x) (y : Int) : TkAt (W.setCell ⟨b, 6, none⟩ (.int .i64 y)) b ⟨x.t, x.calls, x.refused, x.steps, x.ended, x.failed, y, x.written⟩ := by
  unfold TkAt at *
  show (W.heap.modify b _)[b]? = _
  rw [Array.getElem?_modify, if_pos rfl, h]
  rfl
theorem TkAt.set7 {W : World} {b : Nat} {x : Tk} (h : TkAt W b x) (y : Int) : TkAt (W.setCell ⟨b, 7, none⟩ (.int .i64 y)) b ⟨x.t, x.calls, x.refused, x.steps, x.ended, x.failed, x.read, y⟩ := by
  unfold TkAt at *
  show (W.heap.modify b _)[b]? = _
  rw [Array.getElem?_modify, if_pos rfl, h]
  rfl
theorem TkAt.setAll {W : World} {b : Nat} {x : Tk} (h : TkAt W b x) (y : Tk) : TkAt ((((((((W.setCell ⟨b, 0, none⟩ (.int .i64 y.t)).setCell ⟨b, 1, none⟩ (.int .i64 y.calls)).setCell ⟨b, 2, none⟩ (.int .i64 y.refused)).setCell ⟨b, 3, none⟩ (.int .i64 y.steps)).setCell ⟨b, 4, none⟩ (.int .i64 y.ended)).setCell ⟨b, 5, none⟩ (.int .i64 y.failed)).setCell ⟨b, 6, none⟩ (.int .i64 y.read)).setCell ⟨b, 7, none⟩ (.int .i64 y.written)) b y := ((((((((h.set0 y.t).set1 y.calls).set2 y.refused).set3 y.steps).set4 y.ended).set5 y.failed).set6 y.read).set7 y.written)
theorem tkVals_one (f : Tk) : ∀ u ∈ tkVals f, u.oneCell' = true := by
  intro u hu
  unfold tkVals at hu
  simp only [List.mem_cons, List.not_mem_nil, or_false] at hu
  rcases hu with rfl | rfl | rfl | rfl | rfl | rfl | rfl | rfl <;> rfl
theorem tkVals_new (w : World) (f : Tk) : ∀ j u, (tkVals f)[j]? = some u → (w.alloc (.cells #[.int .i64 f.t, .int .i64 f.calls, .int .i64 f.refused, .int .i64 f.steps, .int .i64 f.ended, .int .i64 f.failed, .int .i64 f.read, .int .i64 f.written] 58)).cell? ((⟨w.heap.size, 0, none⟩ : Addr).add j) = some u := by
  intro j u hj
  unfold tkVals at hj
  match j with
  | 0 => cases hj; simp [Addr.add]
  | 1 => cases hj; simp [Addr.add]
  | 2 => cases hj; simp [Addr.add]
  | 3 => cases hj; simp [Addr.add]
  | 4 => cases hj; simp [Addr.add]
  | 5 => cases hj; simp [Addr.add]
  | 6 => cases hj; simp [Addr.add]
  | 7 => cases hj; simp [Addr.add]
  | j + 8 => simp at hj
theorem tkValidC (f : Tk) (W : World) : Calls Tryz.prog 49 #[.agg #[.int .i64 f.t, .int .i64 f.calls, .int .i64 f.refused, .int .i64 f.steps, .int .i64 f.ended, .int .i64 f.failed, .int .i64 f.read, .int .i64 f.written]] W fun r w' => r = .returned (.bool f.ok) ∧ Fr [] W w' := taskValid_any f W
theorem tkLineC (f : Tk) (hwf : f.wf) (hok : f.ok = true) (W : World) (ht : Tab W) : Calls Tryz.prog 50 #[.agg #[.int .i64 f.t, .int .i64 f.calls, .int .i64 f.refused, .int .i64 f.steps, .int .i64 f.ended, .int .i64 f.failed, .int .i64 f.read, .int .i64 f.written]] W fun r w' => r = .returned (.string (bs (taskB f))) ∧ Fr [] W w' := taskLine_any f hwf W ht

/-- What holds between two rounds. -/
def TkI (rd : List UInt8 → Option Tk) (w : World) (N : Nat) (pre : List (List UInt8)) (W : World) : Prop :=
  ∃ xs v, SoFar rd pre xs ∧ W.ownsRow (N + 7) 58 8 v xs.length (tkCells xs) ∧ Boxed W (N + 1 + 1 + 1) 52 v ∧ Boxed W (N + 1 + 1 + 1 + 1) 3 (.int .i64 0) ∧ Boxed W (N + 1 + 1 + 1 + 1 + 1) 28 (.int .i64 0) ∧
    Boxed W N 129 (.func (.func 62) #[] #[]) ∧ Boxed W (N + 1) 117 (.func (.func 49) #[] #[]) ∧ Boxed W (N + 1 + 1) 118 (.func (.func 50) #[] #[]) ∧ Fr [] w W ∧ N + 7 ≤ W.heap.size
/-- What holds where a round has returned. -/
def TkX (rd : List UInt8 → Option Tk) (w : World) (N : Nat) (pre : List (List UInt8)) (W : World) : Prop :=
  ∃ n : Int, (∀ rest, parseL rd (pre ++ rest) [] = ([], n, 6)) ∧ Boxed W (N + 1 + 1 + 1) 52 (.slice none 0 0) ∧ Boxed W (N + 1 + 1 + 1 + 1) 3 (.int .i64 n) ∧ Boxed W (N + 1 + 1 + 1 + 1 + 1) 28 (.int .i64 6) ∧ Fr [] w W
/-- What is handed back. -/
def TkPost (w : World) (y : List Tk × Int × Int) (e : Ending) (w' : World) : Prop := ∃ v, e = .returned (.tuple #[v, .int .i64 y.2.1, .int .i64 y.2.2]) ∧ TkRow w' v y.1 ∧ Fr [] w w'
theorem own_TkI (rd : List UInt8 → Option Tk) (w : World) : OwnX (w.heap.size + 6) (w.heap.size + 7) (TkI rd w w.heap.size) := by
  rintro pre W W' row ⟨fs, v, h1, h2, h3, h4, h5, h8, h9, ha, h6, h7⟩ hg hr
  exact ⟨fs, v, h1, row_keep (by omega) h2 hg hr, ownX_boxed (β := Unit) (fun _ => v) (by omega) (by omega) () W W' row h3 hg hr, ownX_boxed (β := Unit) (fun _ => _) (by omega) (by omega) () W W' row h4 hg hr,
    ownX_boxed (β := Unit) (fun _ => _) (by omega) (by omega) () W W' row h5 hg hr, ownX_boxed (β := Unit) (fun _ => _) (by omega) (by omega) () W W' row h8 hg hr, ownX_boxed (β := Unit) (fun _ => _) (by omega) (by omega) () W W' row h9 hg hr, ownX_boxed (β := Unit) (fun _ => _) (by omega) (by omega) () W W' row ha hg hr,
    ownX_fr (β := Unit) (by omega) (by omega) () W W' row h6 hg hr, Nat.le_trans h7 hg.size⟩
theorem own_TkX (rd : List UInt8 → Option Tk) (w : World) : OwnX (w.heap.size + 6) (w.heap.size + 7) (TkX rd w w.heap.size) := by
  rintro pre W W' row ⟨e, h1, h4, h5, h6, h7⟩ hg hr
  exact ⟨e, h1, ownX_boxed (β := Unit) (fun _ => _) (by omega) (by omega) () W W' row h4 hg hr,
    ownX_boxed (β := Unit) (fun _ => _) (by omega) (by omega) () W W' row h5 hg hr, ownX_boxed (β := Unit) (fun _ => _) (by omega) (by omega) () W W' row h6 hg hr, ownX_fr (β := Unit) (by omega) (by omega) () W W' row h7 hg hr⟩
theorem tkEnd (tmps : Array Value) (y : List Tk × Int × Int) (w W : World) (v : Value) (N D : Nat) (h2 : tmps[8]? = some (.pointer (some ⟨N + 1 + 1 + 1, 0, none⟩))) (h3 : tmps[9]? = some (.pointer (some ⟨N + 1 + 1 + 1 + 1, 0, none⟩))) (h4 : tmps[10]? = some (.pointer (some ⟨N + 1 + 1 + 1 + 1 + 1, 0, none⟩)))
    (hK : W.heap[D]? = some (.deferred (some []))) (hD : N + 6 < D) (hw : w.heap.size ≤ D) (b2 : Boxed W (N + 1 + 1 + 1) 52 v) (b3 : Boxed W (N + 1 + 1 + 1 + 1) 3 (.int .i64 y.2.1)) (b4 : Boxed W (N + 1 + 1 + 1 + 1 + 1) 28 (.int .i64 y.2.2)) (hr : TkRow W v y.1) (hr2 : ∀ g off n c, v = .slice (some ⟨g, off, none⟩) n c → g ≠ D) (hf : Fr [] w W) :
    LeavesInM Fence.wide 6 Tryz.prog Tryz.f61 tmps (TkPost w y) [{ target := Target.collected D, args := #[] }] FrameMode.returning W := by
  have fp : Fr [D] W (W.putObj D (.deferred none)) := grownFr (grownBy_putObj' W D _) (fun k e => by cases e; simp)
  refine ⟨by simp, .inl ⟨_, _, rfl, run_takeDeferred hK, ?_⟩⟩
  have c2 := (boxed_keep b2 fp (by simp; omega)).cell
  have c3 := (boxed_keep b3 fp (by simp; omega)).cell
  have c4 := (boxed_keep b4 fp (by simp; omega)).cell
  exact ⟨.tuple #[v, .int .i64 y.2.1, .int .i64 y.2.2], by simp [results, Tryz.f61, go_sem, Array.getD_eq_getD_getElem?, h2, h3, h4, c2, c3, c4], v, rfl, hr.keep fp (fun g off n c e => by simpa using hr2 g off n c e), hf.trans fp (fun x hx hl => by simp at hx; omega)⟩
theorem tk_ret {rd : List UInt8 → Option Tk} {w W W2 : World} {N : Nat} {pre : List (List UInt8)} {x : List UInt8} {a : Act} {e : Int} (hw : w.heap.size = N) (he : ∀ rest, parseL rd ((pre ++ [x]) ++ rest) [] = ([], e, 6)) (h4 : Boxed W (N + 1 + 1 + 1 + 1) 3 (.int .i64 0)) (h5 : Boxed W (N + 1 + 1 + 1 + 1 + 1) 28 (.int .i64 0)) {v : Value} (h3 : Boxed W (N + 1 + 1 + 1) 52 v) (h6 : Fr [] w W) (hX : N + 7 ≤ W.heap.size) (g : Fr [] W W2) :
    boxPost (N + 7) (N + 6) (TkI rd w N) (TkX rd w N) (pre ++ [x]) W .ret a (((W2.setCell ⟨N + 1 + 1 + 1, 0, none⟩ (.slice none 0 0)).setCell ⟨N + 1 + 1 + 1 + 1, 0, none⟩ (.int .i64 e)).setCell ⟨N + 1 + 1 + 1 + 1 + 1, 0, none⟩ (.int .i64 6)) := by
  refine ⟨((others_fr (S := []) g).trans ((KeepsOthers.setCell _ _ _).trans ((KeepsOthers.setCell _ _ _).trans (KeepsOthers.setCell _ _ _)))).from _, e, he, ?_, ?_, ?_, ?_⟩
  · exact (((boxed_keep h3 g (by simp)).set _).other (by omega) _).other (by omega) _
  · exact (((boxed_keep h4 g (by simp)).other (by omega) _).set _).other (by omega) _
  · exact (((boxed_keep h5 g (by simp)).other (by omega) _).other (by omega) _).set _
  · exact (((h6.step g).setCell (fun h => by simp at h; omega) _).setCell (fun h => by simp at h; omega) _).setCell (fun h => by simp at h; omega) _
theorem tk_more {rd : List UInt8 → Option Tk} {w W W2 W3 : World} {N m : Nat} {pre : List (List UInt8)} {x : List UInt8} {a : Act} {fs : List Tk} {f : Tk} {v v' : Value} (hm : fs.length = m) (hw : w.heap.size = N) (h1 : SoFar rd pre fs) (h64 : m ≠ 1000) (hx : rd x = some f)
    (h2 : W.ownsRow (N + 7) 58 8 v m (tkCells fs)) (h3 : Boxed W (N + 1 + 1 + 1) 52 v) (h4 : Boxed W (N + 1 + 1 + 1 + 1) 3 (.int .i64 0)) (h5 : Boxed W (N + 1 + 1 + 1 + 1 + 1) 28 (.int .i64 0))
    (h8 : Boxed W N 129 (.func (.func 62) #[] #[])) (h9 : Boxed W (N + 1) 117 (.func (.func 49) #[] #[])) (ha : Boxed W (N + 1 + 1) 118 (.func (.func 50) #[] #[]))
    (h6 : Fr [] w W) (hX : N + 7 ≤ W.heap.size)
    (g : Fr [] W W2) (hg : W2.grownBy W3 v.ownBlock) (hown : W3.ownsRow (N + 7) 58 8 v' (m + 1) (tkCells fs ++ tkVals f)) :
    boxPost (N + 7) (N + 6) (TkI rd w N) (TkX rd w N) (pre ++ [x]) W .normal a (W3.setCell ⟨N + 1 + 1 + 1, 0, none⟩ v') := by
  subst hm
  have h2' := row_fr h2 g
  have hne : ∀ b, b < N + 7 → some b ≠ v.ownBlock := fun b hb e => by have := h2'.lt b e.symm; omega
  have hne' : v'.ownBlock = none ∨ v'.ownBlock ≠ some (N + 1 + 1 + 1) := by
    refine .inr (fun e => ?_)
    have := hown.lt _ e
    omega
  have kk : KeepsOthers W2 W3 := KeepsOthers.of_grownBy hg (fun j o hj ho => by
    rcases h2'.2 with ⟨rfl, _⟩ | ⟨g', cap, cur, rfl, _, hgb, _⟩
    · simp [Value.ownBlock] at hj
    · simp [Value.ownBlock] at hj
      subst hj
      rw [hgb] at ho
      cases ho
      rfl)
  have b3 := (boxed_keep h3 g (by simp)).kept hg (hne _ (by omega))
  have b4 := (boxed_keep h4 g (by simp)).kept hg (hne _ (by omega))
  have b5 := (boxed_keep h5 g (by simp)).kept hg (hne _ (by omega))
  have b8 := (boxed_keep h8 g (by simp)).kept hg (hne _ (by omega))
  have b9 := (boxed_keep h9 g (by simp)).kept hg (hne _ (by omega))
  have ba := (boxed_keep ha g (by simp)).kept hg (hne _ (by omega))
  have f3 : Fr [] w W3 := (h6.step g).trans (grownFr (S := v.ownBlock.toList) hg (fun k e => by simp [e])) (fun x hx hl => by
    have := h2'.lt x (by simpa using hx)
    omega)
  refine ⟨((others_fr (S := []) g).trans (kk.trans (KeepsOthers.setCell _ _ _))).from _, ?_, fs ++ [f], v', h1.more h64 hx, ?_, b3.set _, b4.other (by omega) _, b5.other (by omega) _, b8.other (by omega) _, b9.other (by omega) _, ba.other (by omega) _, f3.setCell (fun h => by simp at h; omega) _, by have := g.size; have := hg.size; simp [World.setCell]; omega⟩
  · exact ((Below.heap_setCell _ _ _ _ (by simp)).trans (hg.block _ (by have := g.size; omega) (hne _ (by omega)))).trans (g.block _ (by omega) (by simp))
  · have := hown.kept (grownBy_setCell' W3 (N + 1 + 1 + 1) v') hne'
    rw [tkCells_app, List.length_append]
    simpa only [tkCells, List.append_nil, List.length_cons, List.length_nil] using this
end Go.Proofs.YtllmejkcohfbiaaGreatDoor
