/- Structs in memory as lists of cells: loaded and stored whole, at any type. -/
/- The reference's connections without bytes, in memory: New, Copy. -/
/- The reference's connections without bytes: Copy. -/
/- The reference's connections without bytes: New. -/
import Derived.Test.YtmdhlodafjpnmaaGreatFr
import Derived.Test.YtmdhlodafjpnmaaGreatProg
import Derived.WalkKit
import Derived.Laws.CopyRow
import Derived.Laws.Cells
import Derived.Laws.Tables
import Derived.Laws.Rows
import Derived.Lib.Hide
import Derived.Tactics
import Derived.Tactics2
import Derived.RegionTactic
import Derived.RegionCalls
import Derived.Deep.RegionHeld3
import Derived.Outline
import Derived.Deep.Cut
namespace Go.Proofs.YtmdhlodafjpnmaaGreat
open Go.RowKit
set_option linter.unusedVariables false
set_option linter.unusedSimpArgs false
set_option maxRecDepth 100000
set_option maxHeartbeats 4000000

section
variable {P : Program} {ops : Array Oper} {rest : List Oper} {o : Oper} {a : Act} {w w' : World} {Q : Exit → Act → World → Prop}
theorem wpList_val (hg : o.guard = none) {v : Value} (hrun : (execOp a.eval o).run P w = .ok (.value v) w') (hK : wpList P ops Q rest (a.put o.dst v) w') : wpList P ops Q (o :: rest) a w := by
  refine wpList_plain hg fun K hK' => ?_
  unfold Oper.wp
  rw [hrun]
  exact hK' _ _ hK
theorem wpList_skp (hg : o.guard = none) (hrun : (execOp a.eval o).run P w = .ok .skip w') (hK : wpList P ops Q rest (a.put o.dst undef) w') : wpList P ops Q (o :: rest) a w := by
  refine wpList_plain hg fun K hK' => ?_
  unfold Oper.wp
  rw [hrun]
  exact hK' _ _ hK
theorem wp_skp {K : Act → World → Prop} (hrun : (execOp a.eval o).run P w = .ok .skip w') (hK : K (a.put o.dst undef) w') : o.wp P a w K Q := by
  unfold Oper.wp
  rw [hrun]
  exact hK
end
/-- Cells that lie at a place. -/
def LiesAt (w : World) (g o : Nat) (xs : List Value) : Prop := ∀ (j : Nat) u, xs[j]? = some u → w.cell? ⟨g, o + j, none⟩ = some u
/-- A block of its own. -/
def Blk (w : World) (b : Nat) (t : TypeId) (xs : List Value) : Prop := w.heap[b]? = some (.cells xs.toArray t)
theorem LiesAt.keep {S : List Nat} {w w' : World} {g o : Nat} {xs : List Value} (h : LiesAt w g o xs) (f : Fr S w w') (hn : g ∉ S) : LiesAt w' g o xs := fun j u hj => f.keep (h j u hj) hn
theorem Blk.at {w : World} {b : Nat} {t : TypeId} {xs : List Value} (h : Blk w b t xs) : LiesAt w b 0 xs := fun j u hj => by
  unfold Blk at h
  rw [Nat.zero_add]
  simp [World.cell?, h, hj]
theorem Blk.keep {S : List Nat} {w w' : World} {b : Nat} {t : TypeId} {xs : List Value} (h : Blk w b t xs) (f : Fr S w w') (hn : b ∉ S) : Blk w' b t xs := (f.block b (Array.getElem?_eq_some_iff.1 h).1 hn).trans h
theorem Blk.lt {w : World} {b : Nat} {t : TypeId} {xs : List Value} (h : Blk w b t xs) : b < w.heap.size := (Array.getElem?_eq_some_iff.1 h).1
theorem Blk.made (w : World) (t : TypeId) (xs : List Value) : Blk (w.alloc (.cells xs.toArray t)) w.heap.size t xs := heap_alloc_new w _
theorem load_all {w : World} {g o n : Nat} {t : TypeId} {xs : List Value} (hA : ∀ w, (isAgg t).run Tryz.prog w = .ok true w) (hS : ∀ w, (sizeOf t).run Tryz.prog w = .ok n w) (hn : xs.length = n) (h : LiesAt w g o xs) : (Instr.loadAt t (.pointer (some ⟨g, o, none⟩))).run Tryz.prog w = .ok (.agg xs.toArray) w := by
  have hl := run_loadCells_list (P := Tryz.prog) w ⟨g, o, none⟩ xs (fun j v hj => by rw [Addr.add_lit]; exact h j v hj)
  rw [hn] at hl
  have hs : (Instr.sureAddr (.pointer (some ⟨g, o, none⟩))).run Tryz.prog w = .ok ⟨g, o, none⟩ w := by simp [Instr.sureAddr]
  unfold Instr.loadAt
  rw [Sem.run_bind, hs]
  simp only [Result.andThen_ok]
  unfold loadVar
  rw [Sem.run_bind, hA]
  simp only [Result.andThen_ok, if_true]
  rw [Sem.run_bind, hS]
  simp only [Result.andThen_ok]
  rw [Sem.run_bind, hl]
  rfl
theorem load_var {w : World} {g o n : Nat} {t : TypeId} {xs : List Value} (hA : ∀ w, (isAgg t).run Tryz.prog w = .ok true w) (hS : ∀ w, (sizeOf t).run Tryz.prog w = .ok n w) (hn : xs.length = n) (h : LiesAt w g o xs) : (loadVar t ⟨g, o, none⟩).run Tryz.prog w = .ok (.agg xs.toArray) w := by
  have hl := run_loadCells_list (P := Tryz.prog) w ⟨g, o, none⟩ xs (fun j v hj => by rw [Addr.add_lit]; exact h j v hj)
  rw [hn] at hl
  unfold loadVar
  rw [Sem.run_bind, hA]
  simp only [Result.andThen_ok, if_true]
  rw [Sem.run_bind, hS]
  simp only [Result.andThen_ok]
  rw [Sem.run_bind, hl]
  rfl
theorem as_addr (a : Addr) (w : World) : (asAddr (.pointer (some a))).run Tryz.prog w = .ok a w := by simp [asAddr]
theorem store_all {w : World} {b n : Nat} {t : TypeId} {ys : List Value} (xs : List Value) (hS : ∀ w, (sizeOf t).run Tryz.prog w = .ok n w) (hn : xs.length = n) (h1 : ∀ u ∈ xs, u.oneCell' = true) (hb : Blk w b t ys) (hc : ys.length = n) :
    ∃ w', (Instr.storeAt t (.pointer (some ⟨b, 0, none⟩)) (.agg xs.toArray)).run Tryz.prog w = .ok () w' ∧ Blk w' b t xs ∧ Fr [b] w w' := by
  have hst := run_storeCells_at Tryz.prog b 0 t xs 0 ys.toArray w hb (by simp only [List.size_toArray]; omega) h1
  have hs : (Instr.sureAddr (.pointer (some ⟨b, 0, none⟩))).run Tryz.prog w = .ok ⟨b, 0, none⟩ w := by simp [Instr.sureAddr]
  have hrow : (List.take (0 + 0) ys.toArray.toList ++ xs ++ List.drop (0 + 0 + xs.length) ys.toArray.toList).toArray = xs.toArray := by
    rw [List.drop_of_length_le (by simp; omega)]
    simp
  rw [hrow] at hst
  refine ⟨_, ?_, setRow_heap w b ys.toArray _ _ _ hb, ?_⟩
  · unfold Instr.storeAt
    rw [Sem.run_bind, hs]
    simp only [Result.andThen_ok]
    unfold storeVar
    rw [Sem.run_bind, hS]
    simp only [Result.andThen_ok]
    rw [if_neg (by show ¬ ((Value.agg xs.toArray).cells.size ≠ n); simp [Value.cells, hn])]
    have : (Value.agg xs.toArray).cells.toList = xs := by simp [Value.cells]
    rw [this]
    exact hst
  · exact ⟨rfl, rfl, rfl, by simp [World.setRow], fun k hk hn => setRow_other w b k _ (by simpa using hn)⟩
/-- A part of a block, stored whole. -/
theorem store_part {w : World} {b o n : Nat} {t t' : TypeId} {ys : List Value} (xs : List Value) (hS : ∀ w, (sizeOf t).run Tryz.prog w = .ok n w) (hn : xs.length = n) (h1 : ∀ u ∈ xs, u.oneCell' = true) (hb : Blk w b t' ys) (hc : o + n ≤ ys.length) :
    ∃ w', (Instr.storeAt t (.pointer (some ⟨b, o, none⟩)) (.agg xs.toArray)).run Tryz.prog w = .ok () w' ∧ Blk w' b t' (ys.take o ++ xs ++ ys.drop (o + n)) ∧ Fr [b] w w' := by
  have hst := run_storeCells_at Tryz.prog b o t' xs 0 ys.toArray w hb (by simp only [List.size_toArray]; omega) h1
  have hs : (Instr.sureAddr (.pointer (some ⟨b, o, none⟩))).run Tryz.prog w = .ok ⟨b, o, none⟩ w := by simp [Instr.sureAddr]
  have hrow : (List.take (o + 0) ys.toArray.toList ++ xs ++ List.drop (o + 0 + xs.length) ys.toArray.toList) = ys.take o ++ xs ++ ys.drop (o + n) := by
    rw [hn]
    simp
  rw [hrow] at hst
  refine ⟨_, ?_, setRow_heap w b ys.toArray _ _ _ hb, ?_⟩
  · unfold Instr.storeAt
    rw [Sem.run_bind, hs]
    simp only [Result.andThen_ok]
    unfold storeVar
    rw [Sem.run_bind, hS]
    simp only [Result.andThen_ok]
    rw [if_neg (by show ¬ ((Value.agg xs.toArray).cells.size ≠ n); simp [Value.cells, hn])]
    have : (Value.agg xs.toArray).cells.toList = xs := by simp [Value.cells]
    rw [this]
    exact hst
  · exact ⟨rfl, rfl, rfl, by simp [World.setRow], fun k hk hn => setRow_other w b k _ (by simpa using hn)⟩
theorem LiesAt.part {w : World} {g o k n : Nat} {xs ys : List Value} (h : LiesAt w g o xs) (hy : (xs.drop k).take n = ys) : LiesAt w g (o + k) ys := fun j u hj => by
  rw [← hy, List.getElem?_take] at hj
  split at hj
  · rw [List.getElem?_drop] at hj
    have := h (k + j) u hj
    rwa [← Nat.add_assoc] at this
  · cases hj
theorem agg94 : ∀ w, (isAgg 94).run Tryz.prog w = .ok true w := fun w => by kernel_rfl
theorem size94 : ∀ w, (sizeOf 94).run Tryz.prog w = .ok 16 w := fun w => by kernel_rfl
theorem agg90 : ∀ w, (isAgg 90).run Tryz.prog w = .ok true w := fun w => by kernel_rfl
theorem size90 : ∀ w, (sizeOf 90).run Tryz.prog w = .ok 7 w := fun w => by kernel_rfl
theorem agg96 : ∀ w, (isAgg 96).run Tryz.prog w = .ok true w := fun w => by kernel_rfl
theorem size96 : ∀ w, (sizeOf 96).run Tryz.prog w = .ok 17 w := fun w => by kernel_rfl
end Go.Proofs.YtmdhlodafjpnmaaGreat
namespace Go.Proofs.YtmdhlodafjpnmaaGreat
open Go.RowKit
set_option linter.unusedVariables false
set_option linter.unusedSimpArgs false
set_option maxRecDepth 100000
set_option maxHeartbeats 8000000

/-- The state of a stream without bytes. -/
def stV (c w r : Int) : Value := .agg #[.int .i64 c, .slice none 0 0, .bool false, .slice none 0 0, .int .i64 0, .int .i64 w, .int .i64 r]
def wrE (a : Bool) : Int := if a = true then 13 else 0
def rdE (a : Bool) : Int := if a = true then 14 else 0
/-- The state of a connection without bytes. -/
def cnV (c w0 r0 w1 r1 : Int) (a0 a1 : Bool) : Value := .agg #[.int .i64 c, .slice none 0 0, .bool false, .slice none 0 0, .int .i64 0, .int .i64 w0, .int .i64 r0, .int .i64 c, .slice none 0 0, .bool false, .slice none 0 0, .int .i64 0, .int .i64 w1, .int .i64 r1, .bool a0, .bool a1]

theorem stNew_any (c : Int) (w : World) :
    Calls Tryz.prog 98 #[.int .i64 c] w fun e w' => e = .returned (.tuple #[if 0 ≤ c ∧ c ≤ 4096 then stV c 0 0 else stV 0 0 0, .int .i64 (if 0 ≤ c ∧ c ≤ 4096 then 0 else 2)]) ∧ Fr [] w w' := by
  by_cases h0 : c < 0
  · have d0 : decide (c < 0) = true := decide_eq_true h0
    have hn : ¬ (0 ≤ c ∧ c ≤ 4096) := by omega
    rw [if_neg hn, if_neg hn]
    clear hn
    unfold stV
    go_enter Tryz.func98, Tryz.ntmps98
    go_wp2
    refine bodyPost_ret (v := .tuple #[.agg #[.int .i64 0, .slice none 0 0, .bool false, .slice none 0 0, .int .i64 0, .int .i64 0, .int .i64 0], .int .i64 2]) (by simp [results, Tryz.results98, go_sem]) rfl ?_
    exact ⟨rfl, (Fr.refl [] w).alloc _⟩
  · have d0 : decide (c < 0) = false := decide_eq_false h0
    by_cases h1 : 4096 < c
    · have d1 : decide (4096 < c) = true := decide_eq_true h1
      have hn : ¬ (0 ≤ c ∧ c ≤ 4096) := by omega
      rw [if_neg hn, if_neg hn]
      clear hn
      unfold stV
      go_enter Tryz.func98, Tryz.ntmps98
      go_wp2
      refine bodyPost_ret (v := .tuple #[.agg #[.int .i64 0, .slice none 0 0, .bool false, .slice none 0 0, .int .i64 0, .int .i64 0, .int .i64 0], .int .i64 2]) (by simp [results, Tryz.results98, go_sem]) rfl ?_
      exact ⟨rfl, (Fr.refl [] w).alloc _⟩
    · have d1 : decide (4096 < c) = false := decide_eq_false h1
      have hn : 0 ≤ c ∧ c ≤ 4096 := by omega
      rw [if_pos hn, if_pos hn]
      clear hn
      unfold stV
      go_enter Tryz.func98, Tryz.ntmps98
      go_wp2
      refine bodyPost_ret (v := .tuple #[.agg #[.int .i64 c, .slice none 0 0, .bool false, .slice none 0 0, .int .i64 0, .int .i64 0, .int .i64 0], .int .i64 0]) (by simp [results, Tryz.results98, go_sem]) rfl ?_
      exact ⟨rfl, (Fr.refl [] w).alloc _⟩
theorem stCopy_any (c wr rd : Int) (w : World) :
    Calls Tryz.prog 134 #[stV c wr rd] w fun e w' => e = .returned (stV c wr rd) ∧ Fr [] w w' := by
  unfold stV
  go_enter Tryz.func134, Tryz.ntmps134
  go_wp2
  refine bodyPost_ret (v := .agg #[.int .i64 c, .slice none 0 0, .bool false, .slice none 0 0, .int .i64 0, .int .i64 wr, .int .i64 rd]) (by simp [results, Tryz.results134, go_sem]) rfl ?_
  exact ⟨rfl, ((Fr.refl [] w).alloc _).alloc _⟩
end Go.Proofs.YtmdhlodafjpnmaaGreat
namespace Go.Proofs.YtmdhlodafjpnmaaGreat
open Go.RowKit
set_option linter.unusedVariables false
set_option linter.unusedSimpArgs false
set_option maxRecDepth 100000
set_option maxHeartbeats 8000000

def stL (c w r : Int) : List Value := [.int .i64 c, .slice none 0 0, .bool false, .slice none 0 0, .int .i64 0, .int .i64 w, .int .i64 r]
theorem stV_eq (c w r : Int) : stV c w r = .agg (stL c w r).toArray := rfl
theorem stL_one (c w r : Int) : ∀ u ∈ stL c w r, u.oneCell' = true := by
  intro u hu
  simp only [stL, List.mem_cons, List.not_mem_nil, or_false] at hu
  rcases hu with rfl | rfl | rfl | rfl | rfl | rfl | rfl <;> rfl
def cnL (c w0 r0 w1 r1 : Int) (a0 a1 : Bool) : List Value := stL c w0 r0 ++ (stL c w1 r1 ++ [.bool a0, .bool a1])
def zeroL : List Value := cnL 0 0 0 0 0 false false
theorem cnL_one (c w0 r0 w1 r1 : Int) (a0 a1 : Bool) : ∀ u ∈ cnL c w0 r0 w1 r1 a0 a1, u.oneCell' = true := by
  intro u hu
  unfold cnL at hu
  rcases List.mem_append.1 hu with hu | hu
  · exact stL_one _ _ _ u hu
  · rcases List.mem_append.1 hu with hu | hu
    · exact stL_one _ _ _ u hu
    · simp only [List.mem_cons, List.not_mem_nil, or_false] at hu
      rcases hu with rfl | rfl <;> rfl
theorem dnCopy_any (c w0 r0 w1 r1 : Int) (a0 a1 : Bool) (w : World) :
    Calls Tryz.prog 91 #[.agg (cnL c w0 r0 w1 r1 a0 a1).toArray] w fun e w' => e = .returned (.agg (cnL c w0 r0 w1 r1 a0 a1).toArray) ∧ Fr [] w w' := by
  obtain ⟨X, hX⟩ : ∃ X, cnL c w0 r0 w1 r1 a0 a1 = X := ⟨_, rfl⟩
  have HX := Lib.hid hX
  have h16 : X.length = 16 := by rw [← hX]; rfl
  have hone := cnL_one c w0 r0 w1 r1 a0 a1
  rw [hX] at hone ⊢
  have H16 := Lib.hid h16
  have HON := Lib.hid hone
  have HD0 := Lib.hid (show (X.drop 0).take 7 = stL c w0 r0 from by rw [← hX]; rfl)
  have HD7 := Lib.hid (show (X.drop 7).take 7 = stL c w1 r1 from by rw [← hX]; rfl)
  clear hX h16 hone
  go_enter Tryz.func91, Tryz.ntmps91
  go_upto_region 1 with fail
  obtain ⟨B, hB⟩ : ∃ B, w.heap.size = B := ⟨_, rfl⟩
  obtain ⟨wA, hwA⟩ : ∃ z, (w.alloc (.cells X.toArray 94)).alloc (.cells #[.int .i64 0, .slice none 0 0, .bool false, .slice none 0 0, .int .i64 0, .int .i64 0, .int .i64 0, .int .i64 0, .slice none 0 0, .bool false, .slice none 0 0, .int .i64 0, .int .i64 0, .int .i64 0, .bool false, .bool false] 94) = z := ⟨_, rfl⟩
  have hb : Blk wA B 94 X := by
    rw [← hwA, ← hB]
    exact (Blk.made w _ X).keep ((Fr.refl [] _).alloc _) (by simp)
  have hr : Blk wA (B + 1) 94 zeroL := by
    have h := Blk.made (w.alloc (.cells X.toArray 94)) 94 zeroL
    rw [show (w.alloc (.cells X.toArray 94)).heap.size = B + 1 from by rw [← hB]; simp] at h
    rw [← hwA]
    exact h
  have hf : Fr [] w wA := by rw [← hwA]; exact ((Fr.refl [] w).alloc _).alloc _
  rw [hwA]
  simp only [hB]
  have HBS := Lib.hid hB
  clear hwA hB
  refine wp_region_held_drew (S := fun w' => Blk w' B 94 X ∧ Blk w' (B + 1) 94 zeroL ∧ Fr [] w w') (by kernel_rfl) (⟨hb.keep (Fr.refl [] wA).drew (by simp), hr.keep (Fr.refl [] wA).drew (by simp), hf.step (Fr.refl [] wA).drew⟩) (fun hHeld => ?_)
  refine wpAnyH_take (i := 0) (oi := _) (v := ?_) rfl (by kernel_rfl) (by kernel_rfl) (by kernel_rfl) (fun _ _ _ h => h) (Or.inl ⟨by rfl, ?_⟩) (by assumption) ?_
  rotate_left
  · intro w hSw; (try dsimp only at hSw); go_simp; try with_reducible rfl
  try simp only [Act.put, List.getElem_toArray, List.getElem_cons_succ, List.getElem_cons_zero, List.setIfInBounds_toArray, List.set_cons_zero, List.set_cons_succ]
  refine wpAnyH_take (i := 1) (oi := _) (v := ?_) rfl (by kernel_rfl) (by kernel_rfl) (by kernel_rfl) (fun _ _ _ h => h) (Or.inl ⟨by rfl, ?_⟩) (by assumption) ?_
  rotate_left
  · intro w hSw; (try dsimp only at hSw); go_simp; try with_reducible rfl
  try simp only [Act.put, List.getElem_toArray, List.getElem_cons_succ, List.getElem_cons_zero, List.setIfInBounds_toArray, List.set_cons_zero, List.set_cons_succ]
  refine wpAnyH_take (i := 2) (oi := _) (v := .agg (stL c w0 r0).toArray) rfl (by kernel_rfl) (by kernel_rfl) (by kernel_rfl) (fun _ _ _ h => h) (Or.inl ⟨by rfl, ?_⟩) (by assumption) ?_
  · intro w hSw
    have h : LiesAt w B 0 (stL c w0 r0) := hSw.1.at.part HD0.out
    show Sem.run Tryz.prog ((Instr.loadAt 90 (.pointer (some ⟨B, 0, none⟩))) >>= fun x => pure (Next.value x)) w = _
    rw [Sem.run_bind, load_all agg90 size90 rfl h]
    rfl
  try simp only [Act.put, List.getElem_toArray, List.getElem_cons_succ, List.getElem_cons_zero, List.setIfInBounds_toArray, List.set_cons_zero, List.set_cons_succ]
  refine wpAnyH_take (i := 4) (oi := _) (v := ?_) rfl (by kernel_rfl) (by kernel_rfl) (by kernel_rfl) (fun _ _ _ h => h) (Or.inl ⟨by rfl, ?_⟩) (by assumption) ?_
  rotate_left
  · intro w hSw; (try dsimp only at hSw); go_simp; try with_reducible rfl
  try simp only [Act.put, List.getElem_toArray, List.getElem_cons_succ, List.getElem_cons_zero, List.setIfInBounds_toArray, List.set_cons_zero, List.set_cons_succ]
  refine wpAnyH_take (i := 5) (oi := _) (v := ?_) rfl (by kernel_rfl) (by kernel_rfl) (by kernel_rfl) (fun _ _ _ h => h) (Or.inl ⟨by rfl, ?_⟩) (by assumption) ?_
  rotate_left
  · intro w hSw; (try dsimp only at hSw); go_simp; try with_reducible rfl
  try simp only [Act.put, List.getElem_toArray, List.getElem_cons_succ, List.getElem_cons_zero, List.setIfInBounds_toArray, List.set_cons_zero, List.set_cons_succ]
  refine wpAnyH_take (i := 6) (oi := _) (v := .agg (stL c w1 r1).toArray) rfl (by kernel_rfl) (by kernel_rfl) (by kernel_rfl) (fun _ _ _ h => h) (Or.inl ⟨by rfl, ?_⟩) (by assumption) ?_
  · intro w hSw
    have h : LiesAt w B 7 (stL c w1 r1) := hSw.1.at.part HD7.out
    show Sem.run Tryz.prog ((Instr.loadAt 90 (.pointer (some ⟨B, 7, none⟩))) >>= fun x => pure (Next.value x)) w = _
    rw [Sem.run_bind, load_all agg90 size90 rfl h]
    rfl
  try simp only [Act.put, List.getElem_toArray, List.getElem_cons_succ, List.getElem_cons_zero, List.setIfInBounds_toArray, List.set_cons_zero, List.set_cons_succ]
  refine wpAnyH_take (i := 8) (oi := _) (v := ?_) rfl (by kernel_rfl) (by kernel_rfl) (by kernel_rfl) (fun _ _ _ h => h) (Or.inl ⟨by rfl, ?_⟩) (by assumption) ?_
  rotate_left
  · intro w hSw; (try dsimp only at hSw); go_simp; try with_reducible rfl
  try simp only [Act.put, List.getElem_toArray, List.getElem_cons_succ, List.getElem_cons_zero, List.setIfInBounds_toArray, List.set_cons_zero, List.set_cons_succ]
  refine wpAnyH_take (i := 11) (oi := _) (v := ?_) rfl (by kernel_rfl) (by kernel_rfl) (by kernel_rfl) (fun _ _ _ h => h) (Or.inl ⟨by rfl, ?_⟩) (by assumption) ?_
  rotate_left
  · intro w hSw; (try dsimp only at hSw); go_simp; try with_reducible rfl
  try simp only [Act.put, List.getElem_toArray, List.getElem_cons_succ, List.getElem_cons_zero, List.setIfInBounds_toArray, List.set_cons_zero, List.set_cons_succ]
  refine wpAnyH_ready (rs := [3]) (by kernel_rfl) (by simp) ?_
  refine AllReadyH.cons (o := _) rfl (fun K hK => ?_) AllReadyH.nil
  go_simp
  refine (stCopy_any c w0 r0 _).mono ?_
  rintro e w' ⟨rfl, f⟩
  refine hK.out _ _ (⟨hHeld.1.keep f (by simp), hHeld.2.1.keep f (by simp), hHeld.2.2.step f⟩) (fun hHeld => ?_)
  clear hK K
  try simp only [Act.put, List.getElem_toArray, List.getElem_cons_succ, List.getElem_cons_zero, List.setIfInBounds_toArray, List.set_cons_zero, List.set_cons_succ]
  refine wpAnyH_take (i := 9) (oi := _) (v := ?_) rfl (by kernel_rfl) (by kernel_rfl) (by kernel_rfl) (fun _ _ _ h => h) (Or.inl ⟨by rfl, ?_⟩) (by assumption) ?_
  rotate_left
  · intro w hSw; (try dsimp only at hSw); go_simp; try with_reducible rfl
  try simp only [Act.put, List.getElem_toArray, List.getElem_cons_succ, List.getElem_cons_zero, List.setIfInBounds_toArray, List.set_cons_zero, List.set_cons_succ]
  refine wpAnyH_ready (rs := [7]) (by kernel_rfl) (by simp) ?_
  refine AllReadyH.cons (o := _) rfl (fun K hK => ?_) AllReadyH.nil
  go_simp
  refine (stCopy_any c w1 r1 _).mono ?_
  rintro e w' ⟨rfl, f⟩
  refine hK.out _ _ (⟨hHeld.1.keep f (by simp), hHeld.2.1.keep f (by simp), hHeld.2.2.step f⟩) (fun hHeld => ?_)
  clear hK K
  try simp only [Act.put, List.getElem_toArray, List.getElem_cons_succ, List.getElem_cons_zero, List.setIfInBounds_toArray, List.set_cons_zero, List.set_cons_succ]
  obtain ⟨w8, hst, hb9, f9⟩ := store_part (t := 90) (o := 0) (stL c w0 r0) size90 rfl (stL_one c w0 r0) hHeld.1 (by rw [H16.out]; omega)
  rw [show X.take 0 ++ stL c w0 r0 ++ X.drop (0 + 7) = X from by rw [← HX.out]; rfl] at hb9
  refine wpAnyH_ready (rs := [10]) (by kernel_rfl) (by simp) ?_
  refine AllReadyH.cons (o := _) rfl (fun K hK => ?_) AllReadyH.nil
  split
  rotate_left
  · rename_i hno
    exact absurd rfl hno
  refine wp_skp (w' := w8) ?_ ?_
  · show Sem.run Tryz.prog ((Instr.storeAt 90 (.pointer (some ⟨B, 0, none⟩)) (.agg (stL c w0 r0).toArray)) >>= fun _ => pure Next.skip) _ = _
    rw [Sem.run_bind, hst]
    rfl
  refine hK.out _ _ (⟨hb9, hHeld.2.1.keep f9 (by simp), hHeld.2.2.trans f9 (fun x hx hl => by rw [List.mem_singleton] at hx; have := HBS.out; omega)⟩) (fun hHeld => ?_)
  clear hK K hst hb9 f9
  try simp only [Act.put, List.getElem_toArray, List.getElem_cons_succ, List.getElem_cons_zero, List.setIfInBounds_toArray, List.set_cons_zero, List.set_cons_succ]
  refine wpAnyH_take (i := 12) (oi := _) (v := ?_) rfl (by kernel_rfl) (by kernel_rfl) (by kernel_rfl) (fun _ _ _ h => h) (Or.inl ⟨by rfl, ?_⟩) (by assumption) ?_
  rotate_left
  · intro w hSw; (try dsimp only at hSw); go_simp; try with_reducible rfl
  try simp only [Act.put, List.getElem_toArray, List.getElem_cons_succ, List.getElem_cons_zero, List.setIfInBounds_toArray, List.set_cons_zero, List.set_cons_succ]
  obtain ⟨w9, hst, hb9, f9⟩ := store_part (t := 90) (o := 7) (stL c w1 r1) size90 rfl (stL_one c w1 r1) hHeld.1 (by rw [H16.out]; omega)
  rw [show X.take 7 ++ stL c w1 r1 ++ X.drop (7 + 7) = X from by rw [← HX.out]; rfl] at hb9
  refine wpAnyH_ready (rs := [13]) (by kernel_rfl) (by simp) ?_
  refine AllReadyH.cons (o := _) rfl (fun K hK => ?_) AllReadyH.nil
  split
  rotate_left
  · rename_i hno
    exact absurd rfl hno
  refine wp_skp (w' := w9) ?_ ?_
  · show Sem.run Tryz.prog ((Instr.storeAt 90 (.pointer (some ⟨B, 7, none⟩)) (.agg (stL c w1 r1).toArray)) >>= fun _ => pure Next.skip) _ = _
    rw [Sem.run_bind, hst]
    rfl
  refine hK.out _ _ (⟨hb9, hHeld.2.1.keep f9 (by simp), hHeld.2.2.trans f9 (fun x hx hl => by rw [List.mem_singleton] at hx; have := HBS.out; omega)⟩) (fun hHeld => ?_)
  clear hK K hst hb9 f9
  try simp only [Act.put, List.getElem_toArray, List.getElem_cons_succ, List.getElem_cons_zero, List.setIfInBounds_toArray, List.set_cons_zero, List.set_cons_succ]
  refine wpAnyH_done (by kernel_rfl) ?_ _
  have HB9 := Lib.hid hHeld.1
  have HR9 := Lib.hid hHeld.2.1
  have HF9 := Lib.hid hHeld.2.2
  clear hHeld hb hr hf
  go_upto_region 2 with fail
  refine wp_region_lit ?_
  refine wpList_val rfl (v := .agg X.toArray) (w' := w9) ?_ ?_
  · show Sem.run Tryz.prog ((Instr.loadAt 94 (.pointer (some ⟨B, 0, none⟩))) >>= fun x => pure (Next.value x)) w9 = _
    rw [Sem.run_bind, load_all agg94 size94 H16.out HB9.out.at]
    rfl
  obtain ⟨w10, hst, hb10, f10⟩ := store_all (t := 94) X size94 H16.out HON.out HR9.out rfl
  refine wpList_skp rfl (w' := w10) ?_ ?_
  · show Sem.run Tryz.prog ((Instr.storeAt 94 (.pointer (some ⟨B + 1, 0, none⟩)) (.agg X.toArray)) >>= fun _ => pure Next.skip) _ = _
    rw [Sem.run_bind, hst]
    rfl
  refine wpList_nil ?_
  try simp only [Act.put, List.getElem_toArray, List.getElem_cons_succ, List.getElem_cons_zero, List.setIfInBounds_toArray, List.set_cons_zero, List.set_cons_succ]
  have HB10 := Lib.hid hb10
  have HF10 := Lib.hid (HF9.out.trans f10 (fun x hx hl => by rw [List.mem_singleton] at hx; have := HBS.out; omega))
  clear hst hb10 f10
  go_wp2
  have hl := load_var agg94 size94 H16.out HB10.out.at
  refine bodyPost_ret (v := .agg X.toArray) (by simp [results, Tryz.results91, as_addr, hl]) rfl ?_
  exact ⟨rfl, HF10.out⟩
end Go.Proofs.YtmdhlodafjpnmaaGreat
namespace Go.Proofs.YtmdhlodafjpnmaaGreat
open Go.RowKit
set_option linter.unusedVariables false
set_option linter.unusedSimpArgs false
set_option maxRecDepth 100000
set_option maxHeartbeats 8000000

theorem dnNew_ok (c : Int) (hc : 0 ≤ c ∧ c ≤ 4096) (w : World) :
    Calls Tryz.prog 49 #[.int .i64 c, .int .i64 c] w fun e w' => e = .returned (.tuple #[.agg (cnL c 0 0 0 0 false false).toArray, .int .i64 0]) ∧ Fr [] w w' := by
  obtain ⟨R, hR⟩ : ∃ R, w.heap.size = R := ⟨_, rfl⟩
  obtain ⟨wR, hwR⟩ : ∃ z, w.alloc (.cells #[.int .i64 0, .slice none 0 0, .bool false, .slice none 0 0, .int .i64 0, .int .i64 0, .int .i64 0, .int .i64 0, .slice none 0 0, .bool false, .slice none 0 0, .int .i64 0, .int .i64 0, .int .i64 0, .bool false, .bool false] 94) = z := ⟨_, rfl⟩
  have hr : Blk wR R 94 zeroL := by
    rw [← hwR, ← hR]
    exact Blk.made w 94 zeroL
  have hf : Fr [] w wR := by rw [← hwR]; exact (Fr.refl [] w).alloc _
  have HR := Lib.hid hr
  have HF := Lib.hid hf
  have HRS := Lib.hid hR
  have HWR := Lib.hid hwR
  have hN : ∀ W, Calls Tryz.prog 98 #[.int .i64 c] W fun e w' => e = .returned (.tuple #[.agg #[.int .i64 c, .slice none 0 0, .bool false, .slice none 0 0, .int .i64 0, .int .i64 0, .int .i64 0], .int .i64 0]) ∧ Fr [] W w' := fun W => by
    have h := stNew_any c W
    rw [if_pos hc, if_pos hc] at h
    exact h
  have HN := Lib.hid hN
  clear hr hf hR hwR hN hc
  go_enter Tryz.func49, Tryz.ntmps49
  go_wp2_with fail
  rw [HWR.out]
  simp only [HRS.out]
  refine (HN.out _).mono ?_
  rintro e w1 ⟨rfl, f1⟩
  have HR1 := Lib.hid (HR.out.keep f1 (by simp))
  have HF1 := Lib.hid (HF.out.step f1)
  clear f1 HR HF HWR
  obtain ⟨E1, hE1⟩ : ∃ E, w1.heap.size = E := ⟨_, rfl⟩
  obtain ⟨w2, hw2⟩ : ∃ z, w1.alloc (.cells #[.int .i64 c, .slice none 0 0, .bool false, .slice none 0 0, .int .i64 0, .int .i64 0, .int .i64 0] 90) = z := ⟨_, rfl⟩
  have HB1 := Lib.hid (show Blk w2 E1 90 (stL c 0 0) from by rw [← hw2, ← hE1]; exact Blk.made w1 90 (stL c 0 0))
  have f2 : Fr [] w1 w2 := by rw [← hw2]; exact (Fr.refl [] w1).alloc _
  have HR2 := Lib.hid (HR1.out.keep f2 (by simp))
  have HF2 := Lib.hid (HF1.out.step f2)
  have HE1 := Lib.hid hE1
  have HW2 := Lib.hid hw2
  clear f2 hE1 hw2
  go_wp2_with fail
  rw [HW2.out]
  refine (HN.out _).mono ?_
  rintro e w3 ⟨rfl, f3⟩
  simp only [HE1.out]
  have HB3 := Lib.hid (HB1.out.keep f3 (by simp))
  have HR3 := Lib.hid (HR2.out.keep f3 (by simp))
  have HF3 := Lib.hid (HF2.out.step f3)
  clear f3 HB1 HR2 HF2 HW2
  obtain ⟨E2, hE2⟩ : ∃ E, w3.heap.size = E := ⟨_, rfl⟩
  obtain ⟨w4, hw4⟩ : ∃ z, w3.alloc (.cells #[.int .i64 c, .slice none 0 0, .bool false, .slice none 0 0, .int .i64 0, .int .i64 0, .int .i64 0] 90) = z := ⟨_, rfl⟩
  have HB4 := Lib.hid (show Blk w4 E2 90 (stL c 0 0) from by rw [← hw4, ← hE2]; exact Blk.made w3 90 (stL c 0 0))
  have f4 : Fr [] w3 w4 := by rw [← hw4]; exact (Fr.refl [] w3).alloc _
  have HB5 := Lib.hid (HB3.out.keep f4 (by simp))
  have HR4 := Lib.hid (HR3.out.keep f4 (by simp))
  have HF4 := Lib.hid (HF3.out.step f4)
  have HE2 := Lib.hid hE2
  have HW4 := Lib.hid hw4
  clear f4 hE2 hw4 HN
  go_upto_region 5 with fail
  rw [HW4.out]
  simp only [HE2.out]
  refine wp_region_lit ?_
  refine wpList_val rfl (v := .agg (stL c 0 0).toArray) (w' := w4) ?_ ?_
  · show Sem.run Tryz.prog ((Instr.loadAt 90 (.pointer (some ⟨E1, 0, none⟩))) >>= fun x => pure (Next.value x)) w4 = _
    rw [Sem.run_bind, load_all agg90 size90 rfl HB5.out.at]
    rfl
  refine wpList_val rfl (v := .agg (stL c 0 0).toArray) (w' := w4) ?_ ?_
  · show Sem.run Tryz.prog ((Instr.loadAt 90 (.pointer (some ⟨E2, 0, none⟩))) >>= fun x => pure (Next.value x)) w4 = _
    rw [Sem.run_bind, load_all agg90 size90 rfl HB4.out.at]
    rfl
  try simp only [Act.put, List.getElem_toArray, List.getElem_cons_succ, List.getElem_cons_zero, List.setIfInBounds_toArray, List.set_cons_zero, List.set_cons_succ]
  refine wpList_val rfl (v := .agg (stL c 0 0 ++ stL c 0 0).toArray) (w' := w4) (by kernel_rfl) ?_
  try simp only [Act.put, List.getElem_toArray, List.getElem_cons_succ, List.getElem_cons_zero, List.setIfInBounds_toArray, List.set_cons_zero, List.set_cons_succ]
  refine wpList_val rfl (v := .agg (cnL c 0 0 0 0 false false).toArray) (w' := w4) (by kernel_rfl) ?_
  try simp only [Act.put, List.getElem_toArray, List.getElem_cons_succ, List.getElem_cons_zero, List.setIfInBounds_toArray, List.set_cons_zero, List.set_cons_succ]
  obtain ⟨w5, hst, hb5, f5⟩ := store_all (t := 94) (cnL c 0 0 0 0 false false) size94 rfl (cnL_one c 0 0 0 0 false false) HR4.out rfl
  refine wpList_skp rfl (w' := w5) ?_ ?_
  · show Sem.run Tryz.prog ((Instr.storeAt 94 (.pointer (some ⟨R, 0, none⟩)) (.agg (cnL c 0 0 0 0 false false).toArray)) >>= fun _ => pure Next.skip) _ = _
    rw [Sem.run_bind, hst]
    rfl
  refine wpList_plain rfl (fun K hK => ?_); go_simp; refine hK _ _ ?_; clear hK K
  refine wpList_nil ?_
  try simp only [Act.put, List.getElem_toArray, List.getElem_cons_succ, List.getElem_cons_zero, List.setIfInBounds_toArray, List.set_cons_zero, List.set_cons_succ]
  have HR5 := Lib.hid hb5
  have HF5 := Lib.hid (HF4.out.trans f5 (fun x hx hl => by rw [List.mem_singleton] at hx; have := HRS.out; omega))
  clear hst hb5 f5
  go_wp2
  have hl := load_var agg94 size94 (xs := cnL c 0 0 0 0 false false) rfl HR5.out.at
  refine bodyPost_ret (v := .tuple #[.agg (cnL c 0 0 0 0 false false).toArray, .int .i64 0]) (by simp [results, Tryz.results49, as_addr, hl]) rfl ?_
  exact ⟨rfl, HF5.out⟩
theorem dnNew_bad (c : Int) (hc : ¬ (0 ≤ c ∧ c ≤ 4096)) (w : World) :
    Calls Tryz.prog 49 #[.int .i64 c, .int .i64 c] w fun e w' => e = .returned (.tuple #[.agg zeroL.toArray, .int .i64 2]) ∧ Fr [] w w' := by
  obtain ⟨R, hR⟩ : ∃ R, w.heap.size = R := ⟨_, rfl⟩
  obtain ⟨wR, hwR⟩ : ∃ z, w.alloc (.cells #[.int .i64 0, .slice none 0 0, .bool false, .slice none 0 0, .int .i64 0, .int .i64 0, .int .i64 0, .int .i64 0, .slice none 0 0, .bool false, .slice none 0 0, .int .i64 0, .int .i64 0, .int .i64 0, .bool false, .bool false] 94) = z := ⟨_, rfl⟩
  have hr : Blk wR R 94 zeroL := by
    rw [← hwR, ← hR]
    exact Blk.made w 94 zeroL
  have hf : Fr [] w wR := by rw [← hwR]; exact (Fr.refl [] w).alloc _
  have HR := Lib.hid hr
  have HF := Lib.hid hf
  have HRS := Lib.hid hR
  have HWR := Lib.hid hwR
  have hN : ∀ W, Calls Tryz.prog 98 #[.int .i64 c] W fun e w' => e = .returned (.tuple #[.agg #[.int .i64 0, .slice none 0 0, .bool false, .slice none 0 0, .int .i64 0, .int .i64 0, .int .i64 0], .int .i64 2]) ∧ Fr [] W w' := fun W => by
    have h := stNew_any c W
    rw [if_neg hc, if_neg hc] at h
    exact h
  have HN := Lib.hid hN
  clear hr hf hR hwR hN hc
  go_enter Tryz.func49, Tryz.ntmps49
  go_wp2_with fail
  rw [HWR.out]
  simp only [HRS.out]
  refine (HN.out _).mono ?_
  rintro e w1 ⟨rfl, f1⟩
  have HR1 := Lib.hid (HR.out.keep f1 (by simp))
  have HF1 := Lib.hid (HF.out.step f1)
  clear f1 HR HF HWR
  obtain ⟨w2, hw2⟩ : ∃ z, w1.alloc (.cells #[.int .i64 0, .slice none 0 0, .bool false, .slice none 0 0, .int .i64 0, .int .i64 0, .int .i64 0] 90) = z := ⟨_, rfl⟩
  have f2 : Fr [] w1 w2 := by rw [← hw2]; exact (Fr.refl [] w1).alloc _
  have HR2 := Lib.hid (HR1.out.keep f2 (by simp))
  have HF2 := Lib.hid (HF1.out.step f2)
  have HW2 := Lib.hid hw2
  clear f2 hw2
  go_wp2_with fail
  rw [HW2.out]
  refine (HN.out _).mono ?_
  rintro e w3 ⟨rfl, f3⟩
  have f4 : Fr [] w3 (w3.alloc (.cells #[.int .i64 0, .slice none 0 0, .bool false, .slice none 0 0, .int .i64 0, .int .i64 0, .int .i64 0] 90)) := (Fr.refl [] w3).alloc _
  have HR4 := Lib.hid ((HR2.out.keep f3 (by simp)).keep f4 (by simp))
  have HF4 := Lib.hid ((HF2.out.step f3).step f4)
  clear f3 f4
  go_upto_region 4 with fail
  refine wp_region_lit ?_
  refine wpList_val rfl (v := .agg zeroL.toArray) (w' := (w3.alloc (.cells #[.int .i64 0, .slice none 0 0, .bool false, .slice none 0 0, .int .i64 0, .int .i64 0, .int .i64 0] 90))) (by kernel_rfl) ?_
  try simp only [Act.put, List.getElem_toArray, List.getElem_cons_succ, List.getElem_cons_zero, List.setIfInBounds_toArray, List.set_cons_zero, List.set_cons_succ]
  obtain ⟨w5, hst, hb5, f5⟩ := store_all (t := 94) zeroL size94 rfl (cnL_one 0 0 0 0 0 false false) HR4.out rfl
  refine wpList_skp rfl (w' := w5) ?_ ?_
  · show Sem.run Tryz.prog ((Instr.storeAt 94 (.pointer (some ⟨R, 0, none⟩)) (.agg zeroL.toArray)) >>= fun _ => pure Next.skip) _ = _
    rw [Sem.run_bind, hst]
    rfl
  refine wpList_plain rfl (fun K hK => ?_); go_simp; refine hK _ _ ?_; clear hK K
  refine wpList_nil ?_
  try simp only [Act.put, List.getElem_toArray, List.getElem_cons_succ, List.getElem_cons_zero, List.setIfInBounds_toArray, List.set_cons_zero, List.set_cons_succ]
  have HR5 := Lib.hid hb5
  have HF5 := Lib.hid (HF4.out.trans f5 (fun x hx hl => by rw [List.mem_singleton] at hx; have := HRS.out; omega))
  clear hst hb5 f5
  go_wp2
  have hl := load_var agg94 size94 (xs := zeroL) rfl HR5.out.at
  refine bodyPost_ret (v := .tuple #[.agg zeroL.toArray, .int .i64 2]) (by simp [results, Tryz.results49, as_addr, hl]) rfl ?_
  exact ⟨rfl, HF5.out⟩
end Go.Proofs.YtmdhlodafjpnmaaGreat
