/- Report: lines at api.Blocked. -/
import Derived.Test.YtllmejkcohfbiaaGreatDoorR18
namespace Go.Proofs.YtllmejkcohfbiaaGreatDoor
open Go.RowKit Go.Shelf Go.Sort Go.Lib
set_option linter.unusedVariables false
set_option linter.unusedSimpArgs false
set_option maxRecDepth 100000
set_option maxHeartbeats 8000000

def bkVals (x : Bk) : List Value := [.int .i64 x.t, .int .i64 x.why, .int .u64 x.till]
def bkCells : List Bk → List Value
  | [] => []
  | x :: r => bkVals x ++ bkCells r
theorem bkCells_app : ∀ (a b : List Bk), bkCells (a ++ b) = bkCells a ++ bkCells b
  | [], b => rfl
  | x :: r, b => by simp only [List.cons_append, bkCells, bkCells_app r b, List.append_assoc]
theorem bkCells_len : ∀ (a : List Bk), (bkCells a).length = a.length * 3
  | [] => rfl
  | x :: r => by rw [bkCells, List.length_append, bkCells_len r]; simp only [bkVals, List.length_cons, List.length_nil]; omega
theorem bkCells_at : ∀ (a : List Bk) (i : Nat) (x : Bk), a[i]? = some x → ∀ j, j < 3 → (bkCells a)[i * 3 + j]? = (bkVals x)[j]?
  | [], i, x, h, j, hj => by simp at h
  | y :: r, 0, x, h, j, hj => by
    simp only [List.getElem?_cons_zero, Option.some.injEq] at h
    subst h
    rw [bkCells, Nat.zero_mul, Nat.zero_add, List.getElem?_append_left (by simp only [bkVals, List.length_cons, List.length_nil]; omega)]
  | y :: r, i + 1, x, h, j, hj => by
    simp only [List.getElem?_cons_succ] at h
    have := bkCells_at r i x h j hj
    rw [bkCells, List.getElem?_append_right (by simp only [bkVals, List.length_cons, List.length_nil]; omega), ← this]
    congr 1
    simp only [bkVals, List.length_cons, List.length_nil]
    omega
theorem infoBk : (Tryz.prog.info? 67).map (fun i => (i.zero, i.size, i.bytes)) = some (some (.agg #[.int .i64 0, .int .i64 0, .int .u64 0]), 3, 24) := by kernel_rfl
/-- A row that is its own, as a list in memory. -/
theorem BkRow.of {w : World} {lo : Nat} {v : Value} {xs : List Bk} (h : w.ownsRow lo 67 3 v xs.length (bkCells xs)) : BkRow w v xs ∧ ∀ g off n c, v = .slice (some ⟨g, off, none⟩) n c → lo ≤ g := by
  have h0 := h
  rcases h.2 with ⟨rfl, h2⟩ | ⟨g, cap, cur, rfl, hg, hgb, hcap, _⟩
  · refine ⟨.inl ⟨List.eq_nil_of_length_eq_zero h2, none, 0, rfl⟩, fun g off n c e => by cases e⟩
  · refine ⟨.inr ⟨g, 0, cap, rfl, (Array.getElem?_eq_some_iff.1 hgb).1, fun i x hx => ?_⟩, fun g' off n c e => by cases e; exact hg⟩
    have hc : ∀ (j : Nat) (u : Value), j < 3 → (bkVals x)[j]? = some u → w.cell? ⟨g, 0 + i * 3 + j, none⟩ = some u := fun j u hj hu => by
      have h1 := World.ownsRow.cells h0 (g := g) rfl (i * 3 + j) u (by rw [bkCells_at xs i x hx j hj]; exact hu)
      rw [Addr.add_lit] at h1
      rw [show 0 + i * 3 + j = 0 + (i * 3 + j) from by omega]
      exact h1
    exact ⟨hc 0 _ (by omega) rfl, hc 1 _ (by omega) rfl, hc 2 _ (by omega) rfl⟩
theorem BkRow.keep {S : List Nat} {w w' : World} {v : Value} {xs : List Bk} (h : BkRow w v xs) (hf : Fr S w w') (hn : ∀ g off n c, v = .slice (some ⟨g, off, none⟩) n c → g ∉ S) : BkRow w' v xs := by
  rcases h with h | ⟨g, off, cap, rfl, h1, h2⟩
  · exact .inl h
  · refine .inr ⟨g, off, cap, rfl, Nat.lt_of_lt_of_le h1 hf.size, fun i x hx => ?_⟩
    obtain ⟨c0, c1, c2⟩ := h2 i x hx
    exact ⟨hf.keep c0 (hn _ _ _ _ rfl), hf.keep c1 (hn _ _ _ _ rfl), hf.keep c2 (hn _ _ _ _ rfl)⟩
theorem bkVals_one (f : Bk) : ∀ u ∈ bkVals f, u.oneCell' = true := by
  intro u hu
  unfold bkVals at hu
  simp only [List.mem_cons, List.not_mem_nil, or_false] at hu
  rcases hu with rfl | rfl | rfl <;> rfl
theorem bkVals_new (w : World) (f : Bk) : ∀ j u, (bkVals f)[j]? = some u → (w.alloc (.cells #[.int .i64 f.t, .int .i64 f.why, .int .u64 f.till] 67)).cell? ((⟨w.heap.size, 0, none⟩ : Addr).add j) = some u := by
  intro j u hj
  unfold bkVals at hj
  match j with
  | 0 => cases hj; simp [Addr.add]
  | 1 => cases hj; simp [Addr.add]
  | 2 => cases hj; simp [Addr.add]
  | j + 3 => simp at hj
theorem bkValidC (f : Bk) (W : World) : Calls Tryz.prog 57 #[.agg #[.int .i64 f.t, .int .i64 f.why, .int .u64 f.till]] W fun r w' => r = .returned (.bool f.ok) ∧ Fr [] W w' := blockedValid_any f W
theorem bkLineC (f : Bk) (hwf : f.wf) (hok : f.ok = true) (W : World) (ht : Tab W) : Calls Tryz.prog 58 #[.agg #[.int .i64 f.t, .int .i64 f.why, .int .u64 f.till]] W fun r w' => r = .returned (.string (bs (bkB f))) ∧ Fr [] W w' := by
  unfold Bk.ok at hok
  simp only [decide_eq_true_eq] at hok
  exact blockedLine_any f hwf ⟨hok.2.1, hok.2.2⟩ W ht

/-- What holds between two rounds. -/
def BkI (rd : List UInt8 → Option Bk) (w : World) (N : Nat) (pre : List (List UInt8)) (W : World) : Prop :=
  ∃ xs v, SoFar rd pre xs ∧ W.ownsRow (N + 7) 67 3 v xs.length (bkCells xs) ∧ Boxed W (N + 1 + 1 + 1) 54 v ∧ Boxed W (N + 1 + 1 + 1 + 1) 3 (.int .i64 0) ∧ Boxed W (N + 1 + 1 + 1 + 1 + 1) 28 (.int .i64 0) ∧
    Boxed W N 127 (.func (.func 60) #[] #[]) ∧ Boxed W (N + 1) 124 (.func (.func 57) #[] #[]) ∧ Boxed W (N + 1 + 1) 125 (.func (.func 58) #[] #[]) ∧ Fr [] w W ∧ N + 7 ≤ W.heap.size
/-- What holds where a round has returned. -/
def BkX (rd : List UInt8 → Option Bk) (w : World) (N : Nat) (pre : List (List UInt8)) (W : World) : Prop :=
  ∃ n : Int, (∀ rest, parseL rd (pre ++ rest) [] = ([], n, 6)) ∧ Boxed W (N + 1 + 1 + 1) 54 (.slice none 0 0) ∧ Boxed W (N + 1 + 1 + 1 + 1) 3 (.int .i64 n) ∧ Boxed W (N + 1 + 1 + 1 + 1 + 1) 28 (.int .i64 6) ∧ Fr [] w W
/-- What is handed back. -/
def BkPost (w : World) (y : List Bk × Int × Int) (e : Ending) (w' : World) : Prop := ∃ v, e = .returned (.tuple #[v, .int .i64 y.2.1, .int .i64 y.2.2]) ∧ BkRow w' v y.1 ∧ Fr [] w w'
theorem own_BkI (rd : List UInt8 → Option Bk) (w : World) : OwnX (w.heap.size + 6) (w.heap.size + 7) (BkI rd w w.heap.size) := by
  rintro pre W W' row ⟨fs, v, h1, h2, h3, h4, h5, h8, h9, ha, h6, h7⟩ hg hr
  exact ⟨fs, v, h1, row_keep (by omega) h2 hg hr, ownX_boxed (β := Unit) (fun _ => v) (by omega) (by omega) () W W' row h3 hg hr, ownX_boxed (β := Unit) (fun _ => _) (by omega) (by omega) () W W' row h4 hg hr,
    ownX_boxed (β := Unit) (fun _ => _) (by omega) (by omega) () W W' row h5 hg hr, ownX_boxed (β := Unit) (fun _ => _) (by omega) (by omega) () W W' row h8 hg hr, ownX_boxed (β := Unit) (fun _ => _) (by omega) (by omega) () W W' row h9 hg hr, ownX_boxed (β := Unit) (fun _ => _) (by omega) (by omega) () W W' row ha hg hr,
    ownX_fr (β := Unit) (by omega) (by omega) () W W' row h6 hg hr, Nat.le_trans h7 hg.size⟩
theorem own_BkX (rd : List UInt8 → Option Bk) (w : World) : OwnX (w.heap.size + 6) (w.heap.size + 7) (BkX rd w w.heap.size) := by
  rintro pre W W' row ⟨e, h1, h4, h5, h6, h7⟩ hg hr
  exact ⟨e, h1, ownX_boxed (β := Unit) (fun _ => _) (by omega) (by omega) () W W' row h4 hg hr,
    ownX_boxed (β := Unit) (fun _ => _) (by omega) (by omega) () W W' row h5 hg hr, ownX_boxed (β := Unit) (fun _ => _) (by omega) (by omega) () W W' row h6 hg hr, ownX_fr (β := Unit) (by omega) (by omega) () W W' row h7 hg hr⟩
theorem bkEnd (tmps : Array Value) (y : List Bk × Int × Int) (w W : World) (v : Value) (N D : Nat) (h2 : tmps[8]? = some (.pointer (some ⟨N + 1 + 1 + 1, 0, none⟩))) (h3 : tmps[9]? = some (.pointer (some ⟨N + 1 + 1 + 1 + 1, 0, none⟩))) (h4 : tmps[10]? = some (.pointer (some ⟨N + 1 + 1 + 1 + 1 + 1, 0, none⟩)))
    (hK : W.heap[D]? = some (.deferred (some []))) (hD : N + 6 < D) (hw : w.heap.size ≤ D) (b2 : Boxed W (N + 1 + 1 + 1) 54 v) (b3 : Boxed W (N + 1 + 1 + 1 + 1) 3 (.int .i64 y.2.1)) (b4 : Boxed W (N + 1 + 1 + 1 + 1 + 1) 28 (.int .i64 y.2.2)) (hr : BkRow W v y.1) (hr2 : ∀ g off n c, v = .slice (some ⟨g, off, none⟩) n c → g ≠ D) (hf : Fr [] w W) :
    LeavesInM Fence.wide 6 Tryz.prog Tryz.f59 tmps (BkPost w y) [{ target := Target.collected D, args := #[] }] FrameMode.returning W := by
  have fp : Fr [D] W (W.putObj D (.deferred none)) := grownFr (grownBy_putObj' W D _) (fun k e => by cases e; simp)
  refine ⟨by simp, .inl ⟨_, _, rfl, run_takeDeferred hK, ?_⟩⟩
  have c2 := (boxed_keep b2 fp (by simp; omega)).cell
  have c3 := (boxed_keep b3 fp (by simp; omega)).cell
  have c4 := (boxed_keep b4 fp (by simp; omega)).cell
  exact ⟨.tuple #[v, .int .i64 y.2.1, .int .i64 y.2.2], by simp [results, Tryz.f59, go_sem, Array.getD_eq_getD_getElem?, h2, h3, h4, c2, c3, c4], v, rfl, hr.keep fp (fun g off n c e => by simpa using hr2 g off n c e), hf.trans fp (fun x hx hl => by simp at hx; omega)⟩
theorem bk_ret {rd : List UInt8 → Option Bk} {w W W2 : World} {N : Nat} {pre : List (List UInt8)} {x : List UInt8} {a : Act} {e : Int} (hw : w.heap.size = N) (he : ∀ rest, parseL rd ((pre ++ [x]) ++ rest) [] = ([], e, 6)) (h4 : Boxed W (N + 1 + 1 + 1 + 1) 3 (.int .i64 0)) (h5 : Boxed W (N + 1 + 1 + 1 + 1 + 1) 28 (.int .i64 0)) {v : Value} (h3 : Boxed W (N + 1 + 1 + 1) 54 v) (h6 : Fr [] w W) (hX : N + 7 ≤ W.heap.size) (g : Fr [] W W2) :
    boxPost (N + 7) (N + 6) (BkI rd w N) (BkX rd w N) (pre ++ [x]) W .ret a (((W2.setCell ⟨N + 1 + 1 + 1, 0, none⟩ (.slice none 0 0)).setCell ⟨N + 1 + 1 + 1 + 1, 0, none⟩ (.int .i64 e)).setCell ⟨N + 1 + 1 + 1 + 1 + 1, 0, none⟩ (.int .i64 6)) := by
  refine ⟨((others_fr (S := []) g).trans ((KeepsOthers.setCell _ _ _).trans ((KeepsOthers.setCell _ _ _).trans (KeepsOthers.setCell _ _ _)))).from _, e, he, ?_, ?_, ?_, ?_⟩
  · exact (((boxed_keep h3 g (by simp)).set _).other (by omega) _).other (by omega) _
  · exact (((boxed_keep h4 g (by simp)).other (by omega) _).set _).other (by omega) _
  · exact (((boxed_keep h5 g (by simp)).other (by omega) _).other (by omega) _).set _
  · exact (((h6.step g).setCell (fun h => by simp at h; omega) _).setCell (fun h => by simp at h; omega) _).setCell (fun h => by simp at h; omega) _
theorem bk_more {rd : List UInt8 → Option Bk} {w W W2 W3 : World} {N m : Nat} {pre : List (List UInt8)} {x : List UInt8} {a : Act} {fs : List Bk} {f : Bk} {v v' : Value} (hm : fs.length = m) (hw : w.heap.size = N) (h1 : SoFar rd pre fs) (h64 : m ≠ 1000) (hx : rd x = some f)
    (h2 : W.ownsRow (N + 7) 67 3 v m (bkCells fs)) (h3 : Boxed W (N + 1 + 1 + 1) 54 v) (h4 : Boxed W (N + 1 + 1 + 1 + 1) 3 (.int .i64 0)) (h5 : Boxed W (N + 1 + 1 + 1 + 1 + 1) 28 (.int .i64 0))
    (h8 : Boxed W N 127 (.func (.func 60) #[] #[])) (h9 : Boxed W (N + 1) 124 (.func (.func 57) #[] #[])) (ha : Boxed W (N + 1 + 1) 125 (.func (.func 58) #[] #[]))
    (h6 : Fr [] w W) (hX : N + 7 ≤ W.heap.size)
    (g : Fr [] W W2) (hg : W2.grownBy W3 v.ownBlock) (hown : W3.ownsRow (N + 7) 67 3 v' (m + 1) (bkCells fs ++ bkVals f)) :
    boxPost (N + 7) (N + 6) (BkI rd w N) (BkX rd w N) (pre ++ [x]) W .normal a (W3.setCell ⟨N + 1 + 1 + 1, 0, none⟩ v') := by
  subst hm
  have h2' := row_fr h2 g
  have hne : ∀ b, b < N + 7 → some b ≠ v.ownBlock := fun b hb e => by have := h2'.lt b e.symm; omega
  have hne' : v'.ownBlock = none ∨ v'.ownBlock ≠ some (N + 1 + 1 + 1) := by
    refine .inr (fun e => ?_)
    have := hown.lt _ e
    omega
  have kk : KeepsOthers W2 W3 := KeepsOthers.of_grownBy hg (fun j o hj ho => by
    rcases h2'.2 with ⟨rfl, _⟩ | ⟨g', cap, cur, rfl, _, hgb, _⟩
    · simp [Value.ownBlock] at hj
    · simp [Value.ownBlock] at hj
      subst hj
      rw [hgb] at ho
      cases ho
      rfl)
  have b3 := (boxed_keep h3 g (by simp)).kept hg (hne _ (by omega))
  have b4 := (boxed_keep h4 g (by simp)).kept hg (hne _ (by omega))
  have b5 := (boxed_keep h5 g (by simp)).kept hg (hne _ (by omega))
  have b8 := (boxed_keep h8 g (by simp)).kept hg (hne _ (by omega))
  have b9 := (boxed_keep h9 g (by simp)).kept hg (hne _ (by omega))
  have ba := (boxed_keep ha g (by simp)).kept hg (hne _ (by omega))
  have f3 : Fr [] w W3 := (h6.step g).trans (grownFr (S := v.ownBlock.toList) hg (fun k e => by simp [e])) (fun x hx hl => by
    have := h2'.lt x (by simpa using hx)
    omega)
  refine ⟨((others_fr (S := []) g).trans (kk.trans (KeepsOthers.setCell _ _ _))).from _, ?_, fs ++ [f], v', h1.more h64 hx, ?_, b3.set _, b4.other (by omega) _, b5.other (by omega) _, b8.other (by omega) _, b9.other (by omega) _, ba.other (by omega) _, f3.setCell (fun h => by simp at h; omega) _, by have := g.size; have := hg.size; simp [World.setCell]; omega⟩
  · exact ((Below.heap_setCell _ _ _ _ (by simp)).trans (hg.block _ (by have := g.size; omega) (hne _ (by omega)))).trans (g.block _ (by omega) (by simp))
  · have := hown.kept (grownBy_setCell' W3 (N + 1 + 1 + 1) v') hne'
    rw [bkCells_app, List.length_append]
    simpa only [bkCells, List.append_nil, List.length_cons, List.length_nil] using this
end Go.Proofs.YtllmejkcohfbiaaGreatDoor
