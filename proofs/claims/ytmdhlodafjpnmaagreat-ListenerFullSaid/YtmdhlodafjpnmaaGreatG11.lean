/- The reference's nets in memory: Hang. -/
import Derived.Test.YtmdhlodafjpnmaaGreatG10
namespace Go.Proofs.YtmdhlodafjpnmaaGreat
open Go.RowKit
set_option linter.unusedVariables false
set_option linter.unusedSimpArgs false
set_option maxRecDepth 100000
set_option maxHeartbeats 8000000

theorem refEndBad (e : Int) (h : ¬ (e = 0 ∨ e = 1)) (w : World) : Calls Tryz.prog 52 #[.int .i64 e] w fun r w' => r = .returned (.bool false) ∧ w' = w := by
  have h0 : (e == 0) = false := beq_eq_false_iff_ne.2 (fun x => h (.inl x))
  have h1 : (e == 1) = false := beq_eq_false_iff_ne.2 (fun x => h (.inr x))
  have d0 : decide (e = 0) = false := decide_eq_false (fun x => h (.inl x))
  have d1 : decide (e = 1) = false := decide_eq_false (fun x => h (.inr x))
  clear h
  go_enter Tryz.func52, Tryz.ntmps52
  go_wp2
  go_ret
  exact ⟨rfl, rfl⟩
theorem Bs.nil (w : World) : Bs w (none, 0, 0) [] := RowV.nil w 1 none 0
theorem CnB.closeW {w : World} {x : CC} {q : Q4} (h : CnB w x q) (e : Bool) : CnB w (x.closeW e).1 q := by
  obtain ⟨h0, h1, h2, h3⟩ := h
  unfold CC.closeW SS.closeW
  cases e
  · split <;> (split <;> exact ⟨h0, h1, h2, h3⟩)
  · split <;> (split <;> exact ⟨h0, h1, h2, h3⟩)
theorem CnB.closeR {w : World} {x : CC} {q : Q4} (h : CnB w x q) (e : Bool) : CnB w (x.closeR e).1 (x.closeRq q e) := by
  obtain ⟨h0, h1, h2, h3⟩ := h
  cases e
  · by_cases hr : x.s1.rd = 0
    · have e1 : (x.closeR false).1 = { x with s1 := { x.s1 with rd := 14, buf := [] } } := by simp [CC.closeR, SS.closeR, hr]
      have e2 : x.closeRq q false = { q with b1 := (none, 0, 0) } := by simp [CC.closeRq, SS.closeRb, hr]
      rw [e1, e2]
      exact ⟨h0, h1, Bs.nil w, h3⟩
    · have e1 : (x.closeR false).1 = x := by simp [CC.closeR, SS.closeR, hr]
      have e2 : x.closeRq q false = q := by simp [CC.closeRq, SS.closeRb, hr]
      rw [e1, e2]
      exact ⟨h0, h1, h2, h3⟩
  · by_cases hr : x.s0.rd = 0
    · have e1 : (x.closeR true).1 = { x with s0 := { x.s0 with rd := 14, buf := [] } } := by simp [CC.closeR, SS.closeR, hr]
      have e2 : x.closeRq q true = { q with b0 := (none, 0, 0) } := by simp [CC.closeRq, SS.closeRb, hr]
      rw [e1, e2]
      exact ⟨Bs.nil w, h1, h2, h3⟩
    · have e1 : (x.closeR true).1 = x := by simp [CC.closeR, SS.closeR, hr]
      have e2 : x.closeRq q true = q := by simp [CC.closeRq, SS.closeRb, hr]
      rw [e1, e2]
      exact ⟨h0, h1, h2, h3⟩
theorem CnB.shut {w : World} {x : CC} {q : Q4} (h : CnB w x q) (e : Bool) : CnB w (x.shut e) q := by
  obtain ⟨h0, h1, h2, h3⟩ := h
  cases e <;> exact ⟨h0, h1, h2, h3⟩
theorem CnB.close {w : World} {x : CC} {q : Q4} (h : CnB w x q) (e : Bool) : CnB w (x.close e).1 (x.closeq q e) := by
  unfold CC.close CC.closeq
  split
  · exact h
  · exact ((h.shut e).closeW e).closeR e
section
variable {P : Program}
theorem run_append_zero (w : World) (t ty e : TypeId) (i : TypeInfo) (ht : P.underlying t = some (.slice e)) (hi : P.info? e = some i) (a0 : Option Addr) (n : Nat) (a : Option Addr) (c : Nat) :
    (Builtin.append_ #[t, t] ty #[.slice a0 n n, .slice a 0 c]).run P w = .ok (.slice a0 n n) w := by
  cases a0 <;> cases a <;> simp [Builtin.append_, run_underlying ht, sizeOf, typeInfo, hi, Builtin.lenOf, Builtin.firstCells, storeCells, loadCells, loadCellsFrom]
/-- The slice's block is of a kind, and from B on. -/
def TyR (w : World) (B : Nat) (v : Value) (e : TypeId) : Prop := ∀ g, v.ownBlock = some g → B ≤ g ∧ ∃ cur, w.heap[g]? = some (.cells cur e)
theorem TyR.of_own {w : World} {B n sz : Nat} {e : TypeId} {v : Value} {xs : List Value} (h : w.ownsRow B e sz v n xs) : TyR w B v e := by
  intro g hg
  rcases h.2 with ⟨rfl, _⟩ | ⟨g', cap, cur, rfl, hb, h3, _⟩
  · simp [Value.ownBlock] at hg
  · simp [Value.ownBlock] at hg
    subst hg
    exact ⟨hb, cur, h3⟩
theorem TyR.ne {w : World} {B : Nat} {v : Value} {e t : TypeId} {b : Nat} {ys : List Value} (h : TyR w B v e) (hb : Blk w b t ys) (hne : t ≠ e) : v.ownBlock ≠ some b := by
  intro hg
  obtain ⟨_, cur, hc⟩ := h b hg
  unfold Blk at hb
  rw [hb] at hc
  simp only [Option.some.injEq, Obj.cells.injEq] at hc
  exact hne hc.2.1
theorem TyR.keep {w w' : World} {B : Nat} {v : Value} {e : TypeId} {S : List Nat} (h : TyR w B v e) (f : Fr S w w') (hS : ∀ g, v.ownBlock = some g → g ∉ S) : TyR w' B v e := by
  intro g hg
  obtain ⟨h1, cur, hc⟩ := h g hg
  exact ⟨h1, cur, (f.block g (Array.getElem?_eq_some_iff.1 hc).1 (hS g hg)).trans hc⟩
variable {o : Oper} {a : Act} {w : World} {Q : Exit → Act → World → Prop}
/-- append to a slice without room: readable, whether anything is appended or not. -/
theorem wp_append_rd {K : Act → World → Prop} {t e : TypeId} {size bytes : Nat} (E : Elem P t e size bytes) (s x : Operand)
    (ho : o.op = .call { callee := .builtin .append, args := #[s, x], argTypes := #[t, t] })
    {a0 : Option Addr} {n : Nat} {xs : List Value} (hs : a.eval s = .slice a0 n n) (hrow : RowV w (.slice a0 n n) n size xs) {B : Nat} (hB : B ≤ w.heap.size) (hty : TyR w B (.slice a0 n n) e)
    {X : Value} {m : Nat} {news : List Value} (hX : a.eval x = X) (hx : RowV w X m size news)
    (h63 : n + m ≤ 1000000) (hb : bytes ≤ 1000)
    (h : ∀ s' w', RowV w' (slv s') (n + m) size (xs ++ news) → TyR w' B (slv s') e → Fr [] w w' → K (a.put o.dst (slv s')) w') : o.wp P a w K Q := by
  by_cases hm : 0 < m
  · exact wp_append_cap E s x ho hs hrow hX hx hm h63 hb (fun s' w' h1 h2 => h s' w' (RowV.of_own h1) (TyR.of_own (rowBase h1 hB)) h2)
  · obtain rfl : m = 0 := by omega
    obtain ⟨i, z, hi, _⟩ := E.hi
    obtain ⟨ax, cx, rfl⟩ := hx.val
    have hn : news = [] := List.eq_nil_of_length_eq_zero (by simpa using hx.1)
    subst hn
    have hrun := run_append_zero (P := P) w t o.type e i E.ht hi a0 n ax cx
    unfold Oper.wp
    simp [execOp, ho, resolve, invoke, builtin, hs, hX, hrun, Result.andThen]
    exact h (a0, n, n) w (by simpa [slv] using hrow) hty (Fr.refl _ _)
end
theorem nHang_end (vL vC : Value) (D : List PN.PL) (C : List PG) (k en : Int) (w : World) (hL : LRow w vL D) (hC : CRow w vC C) (hn : NetFit D C) (he : ¬ (en = 0 ∨ en = 1)) :
    Calls Tryz.prog 17 #[.agg #[vL, vC], .int .i64 k, .int .i64 en] w fun e w' => e = .returned (.tuple #[.agg #[vL, vC], .int .i64 2]) ∧ Fr [] w w' := by
  obtain ⟨n, hnl⟩ : ∃ n, D.length = n := ⟨_, rfl⟩
  obtain ⟨m, hml⟩ : ∃ m, C.length = m := ⟨_, rfl⟩
  obtain ⟨aL, cL, rfl⟩ := hL.val
  obtain ⟨aC, cC, rfl⟩ := hC.val
  rw [hnl] at hL ⊢
  rw [hml] at hC ⊢
  have HN := Lib.hid hnl
  have HM := Lib.hid hml
  obtain ⟨B, hB⟩ : ∃ B, w.heap.size = B := ⟨_, rfl⟩
  obtain ⟨wA, hwA⟩ : ∃ z, (w.alloc (.cells #[.slice aL n cL, .slice aC m cC] 34)).alloc (.cells #[.slice none 0 0, .slice none 0 0] 34) = z := ⟨_, rfl⟩
  have f2 := (Fr.refl [] (w.alloc (.cells #[.slice aL n cL, .slice aC m cC] 34))).alloc (.cells #[.slice none 0 0, .slice none 0 0] 34)
  have hb0 : Blk wA B 34 (two (.slice aL n cL) (.slice aC m cC)) := by
    rw [← hwA, ← hB]
    exact (Blk.made w 34 (two (.slice aL n cL) (.slice aC m cC))).keep f2 (by simp)
  have hb1 : Blk wA (B + 1) 34 zNt := by
    have h := Blk.made (w.alloc (.cells #[.slice aL n cL, .slice aC m cC] 34)) 34 zNt
    rw [show (w.alloc (.cells #[.slice aL n cL, .slice aC m cC] 34)).heap.size = B + 1 from by rw [← hB]; simp] at h
    rw [← hwA]
    exact h
  have hf : Fr [] w wA := by rw [← hwA]; exact ((Fr.refl [] w).alloc _).step f2
  have HB0 := Lib.hid hb0
  have HB1 := Lib.hid hb1
  have HF := Lib.hid hf
  have HBS := Lib.hid hB
  have HWA := Lib.hid hwA
  have HL := Lib.hid hL
  have HC := Lib.hid hC
  clear hb0 hb1 hf hB hwA f2 hL hC hnl hml
  have HFIT := Lib.hid hn
  clear hn
  go_enter Tryz.func17, Tryz.ntmps17
  go_wp2_with fail
  rw [HWA.out]
  simp only [HBS.out]
  refine (refEndBad en he _).mono ?_
  rintro e w' ⟨rfl, rfl⟩
  go_upto_region 2 with fail
  refine wp_region_lit ?_
  refine wpList_val rfl (v := .agg (two (.slice aL n cL) (.slice aC m cC)).toArray) (w' := w') ?_ ?_
  · show Sem.run Tryz.prog ((Instr.loadAt 34 (.pointer (some ⟨B, 0, none⟩))) >>= fun x => pure (Next.value x)) w' = _
    rw [Sem.run_bind, load_all agg34 size34 (xs := two (.slice aL n cL) (.slice aC m cC)) rfl HB0.out.at]
    rfl
  try simp only [Act.put, List.getElem_toArray, List.getElem_cons_succ, List.getElem_cons_zero, List.setIfInBounds_toArray, List.set_cons_zero, List.set_cons_succ]
  obtain ⟨w9, hst, hb_, hf_⟩ := store_all (t := 34) (two (.slice aL n cL) (.slice aC m cC)) size34 rfl (two_oneS _ _ _ _ _ _) HB1.out rfl
  refine wpList_skp rfl (w' := w9) ?_ ?_
  · show Sem.run Tryz.prog ((Instr.storeAt 34 (.pointer (some ⟨B + 1, 0, none⟩)) (.agg (two (.slice aL n cL) (.slice aC m cC)).toArray)) >>= fun _ => pure Next.skip) _ = _
    rw [Sem.run_bind, hst]
    rfl
  clear hst
  try simp only [Act.put, List.getElem_toArray, List.getElem_cons_succ, List.getElem_cons_zero, List.setIfInBounds_toArray, List.set_cons_zero, List.set_cons_succ]
  refine wpList_plain rfl (fun K hK => ?_); go_simp; refine hK _ _ ?_; clear hK K
  refine wpList_nil ?_
  try simp only [Act.put, List.getElem_toArray, List.getElem_cons_succ, List.getElem_cons_zero, List.setIfInBounds_toArray, List.set_cons_zero, List.set_cons_succ]
  have HR9 := Lib.hid hb_
  have HF9 := Lib.hid (HF.out.own1 (S := []) (B := 0) hf_ (by have := HBS.out; omega))
  clear hb_ hf_
  go_wp2
  have hl := load_var agg34 size34 (xs := two (.slice aL n cL) (.slice aC m cC)) rfl HR9.out.at
  refine bodyPost_ret (v := .tuple #[.agg (two (.slice aL n cL) (.slice aC m cC)).toArray, .int .i64 2]) (by simp [results, Tryz.results17, as_addr, hl]) rfl ?_
  exact ⟨rfl, HF9.out⟩
theorem nHang_none (vL vC : Value) (D : List PN.PL) (C : List PG) (k en : Int) (w : World) (hL : LRow w vL D) (hC : CRow w vC C) (hn : NetFit D C) (he : en = 0 ∨ en = 1) (hi : PN.pick (refG k) C 0 = none) :
    Calls Tryz.prog 17 #[.agg #[vL, vC], .int .i64 k, .int .i64 en] w fun e w' => e = .returned (.tuple #[.agg #[vL, vC], .int .i64 9]) ∧ Fr [] w w' := by
  obtain ⟨n, hnl⟩ : ∃ n, D.length = n := ⟨_, rfl⟩
  obtain ⟨m, hml⟩ : ∃ m, C.length = m := ⟨_, rfl⟩
  obtain ⟨aL, cL, rfl⟩ := hL.val
  obtain ⟨aC, cC, rfl⟩ := hC.val
  rw [hnl] at hL ⊢
  rw [hml] at hC ⊢
  have HN := Lib.hid hnl
  have HM := Lib.hid hml
  obtain ⟨B, hB⟩ : ∃ B, w.heap.size = B := ⟨_, rfl⟩
  obtain ⟨wA, hwA⟩ : ∃ z, (w.alloc (.cells #[.slice aL n cL, .slice aC m cC] 34)).alloc (.cells #[.slice none 0 0, .slice none 0 0] 34) = z := ⟨_, rfl⟩
  have f2 := (Fr.refl [] (w.alloc (.cells #[.slice aL n cL, .slice aC m cC] 34))).alloc (.cells #[.slice none 0 0, .slice none 0 0] 34)
  have hb0 : Blk wA B 34 (two (.slice aL n cL) (.slice aC m cC)) := by
    rw [← hwA, ← hB]
    exact (Blk.made w 34 (two (.slice aL n cL) (.slice aC m cC))).keep f2 (by simp)
  have hb1 : Blk wA (B + 1) 34 zNt := by
    have h := Blk.made (w.alloc (.cells #[.slice aL n cL, .slice aC m cC] 34)) 34 zNt
    rw [show (w.alloc (.cells #[.slice aL n cL, .slice aC m cC] 34)).heap.size = B + 1 from by rw [← hB]; simp] at h
    rw [← hwA]
    exact h
  have hf : Fr [] w wA := by rw [← hwA]; exact ((Fr.refl [] w).alloc _).step f2
  have HB0 := Lib.hid hb0
  have HB1 := Lib.hid hb1
  have HF := Lib.hid hf
  have HBS := Lib.hid hB
  have HWA := Lib.hid hwA
  have HL := Lib.hid hL
  have HC := Lib.hid hC
  clear hb0 hb1 hf hB hwA f2 hL hC hnl hml
  have HFIT := Lib.hid hn
  clear hn
  have HI := Lib.hid hi
  clear hi
  go_enter Tryz.func17, Tryz.ntmps17
  go_wp2_with fail
  rw [HWA.out]
  simp only [HBS.out]
  refine (refEndG en he _).mono ?_
  rintro e w' ⟨rfl, rfl⟩
  go_upto_region 3 with fail
  refine wp_region_lit ?_
  refine wpList_val rfl (v := .agg (two (.slice aL n cL) (.slice aC m cC)).toArray) (w' := w') ?_ ?_
  · show Sem.run Tryz.prog ((Instr.loadAt 34 (.pointer (some ⟨B, 0, none⟩))) >>= fun x => pure (Next.value x)) w' = _
    rw [Sem.run_bind, load_all agg34 size34 (xs := two (.slice aL n cL) (.slice aC m cC)) rfl HB0.out.at]
    rfl
  try simp only [Act.put, List.getElem_toArray, List.getElem_cons_succ, List.getElem_cons_zero, List.setIfInBounds_toArray, List.set_cons_zero, List.set_cons_succ]
  refine wpList_plain rfl (fun K hK => ?_); go_simp; refine hK _ _ ?_; clear hK K
  try simp only [Act.put, List.getElem_toArray, List.getElem_cons_succ, List.getElem_cons_zero, List.setIfInBounds_toArray, List.set_cons_zero, List.set_cons_succ]
  refine wpList_plain rfl (fun K hK => ?_)
  go_simp
  refine (connAtG (.slice aL n cL) (.slice aC m cC) C k _ (CRow.next HC.out HF.out) (by have := HFIT.out.nc; rw [HM.out] at this ⊢; omega)).mono ?_
  rintro e w1 ⟨rfl, f1⟩
  refine hK _ _ ?_
  clear hK K
  rw [HI.out]
  simp only [place]
  try simp only [Act.put, List.getElem_toArray, List.getElem_cons_succ, List.getElem_cons_zero, List.setIfInBounds_toArray, List.set_cons_zero, List.set_cons_succ]
  refine wpList_plain rfl (fun K hK => ?_); go_simp; refine hK _ _ ?_; clear hK K
  refine wpList_nil ?_
  try simp only [Act.put, List.getElem_toArray, List.getElem_cons_succ, List.getElem_cons_zero, List.setIfInBounds_toArray, List.set_cons_zero, List.set_cons_succ]
  have HB01 := Lib.hid (HB0.out.keep f1 (by simp))
  have HB11 := Lib.hid (HB1.out.keep f1 (by simp))
  have HF1 := Lib.hid (HF.out.step f1)
  clear f1 HB0 HB1 HF HWA
  go_upto_region 5 with fail
  refine wp_region_lit ?_
  refine wpList_val rfl (v := .agg (two (.slice aL n cL) (.slice aC m cC)).toArray) (w' := w1) ?_ ?_
  · show Sem.run Tryz.prog ((Instr.loadAt 34 (.pointer (some ⟨B, 0, none⟩))) >>= fun x => pure (Next.value x)) w1 = _
    rw [Sem.run_bind, load_all agg34 size34 (xs := two (.slice aL n cL) (.slice aC m cC)) rfl HB01.out.at]
    rfl
  try simp only [Act.put, List.getElem_toArray, List.getElem_cons_succ, List.getElem_cons_zero, List.setIfInBounds_toArray, List.set_cons_zero, List.set_cons_succ]
  obtain ⟨w9, hst, hb_, hf_⟩ := store_all (t := 34) (two (.slice aL n cL) (.slice aC m cC)) size34 rfl (two_oneS _ _ _ _ _ _) HB11.out rfl
  refine wpList_skp rfl (w' := w9) ?_ ?_
  · show Sem.run Tryz.prog ((Instr.storeAt 34 (.pointer (some ⟨B + 1, 0, none⟩)) (.agg (two (.slice aL n cL) (.slice aC m cC)).toArray)) >>= fun _ => pure Next.skip) _ = _
    rw [Sem.run_bind, hst]
    rfl
  clear hst
  try simp only [Act.put, List.getElem_toArray, List.getElem_cons_succ, List.getElem_cons_zero, List.setIfInBounds_toArray, List.set_cons_zero, List.set_cons_succ]
  refine wpList_plain rfl (fun K hK => ?_); go_simp; refine hK _ _ ?_; clear hK K
  refine wpList_nil ?_
  try simp only [Act.put, List.getElem_toArray, List.getElem_cons_succ, List.getElem_cons_zero, List.setIfInBounds_toArray, List.set_cons_zero, List.set_cons_succ]
  have HR9 := Lib.hid hb_
  have HF9 := Lib.hid (HF1.out.own1 (S := []) (B := 0) hf_ (by have := HBS.out; omega))
  clear hb_ hf_
  go_wp2
  have hl := load_var agg34 size34 (xs := two (.slice aL n cL) (.slice aC m cC)) rfl HR9.out.at
  refine bodyPost_ret (v := .tuple #[.agg (two (.slice aL n cL) (.slice aC m cC)).toArray, .int .i64 9]) (by simp [results, Tryz.results17, as_addr, hl]) rfl ?_
  exact ⟨rfl, HF9.out⟩
theorem nHang_waits (vL vC : Value) (D : List PN.PL) (C : List PG) (k en : Int) (w : World) (hL : LRow w vL D) (hC : CRow w vC C) (hn : NetFit D C) (he : en = 1) (i : Nat) (y : PG) (hi : PN.pick (refG k) C 0 = some (i, y)) (hw : k ∈ PN.waitsOf D) :
    Calls Tryz.prog 17 #[.agg #[vL, vC], .int .i64 k, .int .i64 en] w fun e w' => e = .returned (.tuple #[.agg #[vL, vC], .int .i64 8]) ∧ Fr [] w w' := by
  subst he
  obtain ⟨n, hnl⟩ : ∃ n, D.length = n := ⟨_, rfl⟩
  obtain ⟨m, hml⟩ : ∃ m, C.length = m := ⟨_, rfl⟩
  obtain ⟨aL, cL, rfl⟩ := hL.val
  obtain ⟨aC, cC, rfl⟩ := hC.val
  rw [hnl] at hL ⊢
  rw [hml] at hC ⊢
  have HN := Lib.hid hnl
  have HM := Lib.hid hml
  obtain ⟨B, hB⟩ : ∃ B, w.heap.size = B := ⟨_, rfl⟩
  obtain ⟨wA, hwA⟩ : ∃ z, (w.alloc (.cells #[.slice aL n cL, .slice aC m cC] 34)).alloc (.cells #[.slice none 0 0, .slice none 0 0] 34) = z := ⟨_, rfl⟩
  have f2 := (Fr.refl [] (w.alloc (.cells #[.slice aL n cL, .slice aC m cC] 34))).alloc (.cells #[.slice none 0 0, .slice none 0 0] 34)
  have hb0 : Blk wA B 34 (two (.slice aL n cL) (.slice aC m cC)) := by
    rw [← hwA, ← hB]
    exact (Blk.made w 34 (two (.slice aL n cL) (.slice aC m cC))).keep f2 (by simp)
  have hb1 : Blk wA (B + 1) 34 zNt := by
    have h := Blk.made (w.alloc (.cells #[.slice aL n cL, .slice aC m cC] 34)) 34 zNt
    rw [show (w.alloc (.cells #[.slice aL n cL, .slice aC m cC] 34)).heap.size = B + 1 from by rw [← hB]; simp] at h
    rw [← hwA]
    exact h
  have hf : Fr [] w wA := by rw [← hwA]; exact ((Fr.refl [] w).alloc _).step f2
  have HB0 := Lib.hid hb0
  have HB1 := Lib.hid hb1
  have HF := Lib.hid hf
  have HBS := Lib.hid hB
  have HWA := Lib.hid hwA
  have HL := Lib.hid hL
  have HC := Lib.hid hC
  clear hb0 hb1 hf hB hwA f2 hL hC hnl hml
  have HFIT := Lib.hid hn
  clear hn
  have hY := place_some hi
  have hin : i < m := by rw [← HM.out]; exact (List.getElem?_eq_some_iff.1 hY).1
  have HI := Lib.hid hi
  have HY := Lib.hid hY
  have hi0 : (0 : Int) ≤ (i : Int) := by omega
  have hin' : (i : Int) < (m : Int) := by omega
  have dlt : decide ((i : Int) < 0) = false := decide_eq_false (by omega)
  clear hi hY
  have HWT := Lib.hid (decide_eq_true hw)
  clear hw
  go_enter Tryz.func17, Tryz.ntmps17
  go_wp2_with fail
  rw [HWA.out]
  simp only [HBS.out]
  refine (refEndG 1 (.inr rfl) _).mono ?_
  rintro e w' ⟨rfl, rfl⟩
  go_upto_region 3 with fail
  refine wp_region_lit ?_
  refine wpList_val rfl (v := .agg (two (.slice aL n cL) (.slice aC m cC)).toArray) (w' := w') ?_ ?_
  · show Sem.run Tryz.prog ((Instr.loadAt 34 (.pointer (some ⟨B, 0, none⟩))) >>= fun x => pure (Next.value x)) w' = _
    rw [Sem.run_bind, load_all agg34 size34 (xs := two (.slice aL n cL) (.slice aC m cC)) rfl HB0.out.at]
    rfl
  try simp only [Act.put, List.getElem_toArray, List.getElem_cons_succ, List.getElem_cons_zero, List.setIfInBounds_toArray, List.set_cons_zero, List.set_cons_succ]
  refine wpList_plain rfl (fun K hK => ?_); go_simp; refine hK _ _ ?_; clear hK K
  try simp only [Act.put, List.getElem_toArray, List.getElem_cons_succ, List.getElem_cons_zero, List.setIfInBounds_toArray, List.set_cons_zero, List.set_cons_succ]
  refine wpList_plain rfl (fun K hK => ?_)
  go_simp
  refine (connAtG (.slice aL n cL) (.slice aC m cC) C k _ (CRow.next HC.out HF.out) (by have := HFIT.out.nc; rw [HM.out] at this ⊢; omega)).mono ?_
  rintro e w1 ⟨rfl, f1⟩
  refine hK _ _ ?_
  clear hK K
  rw [HI.out]
  simp only [place]
  try simp only [Act.put, List.getElem_toArray, List.getElem_cons_succ, List.getElem_cons_zero, List.setIfInBounds_toArray, List.set_cons_zero, List.set_cons_succ]
  refine wpList_plain rfl (fun K hK => ?_); go_simp; refine hK _ _ ?_; clear hK K
  refine wpList_nil ?_
  try simp only [Act.put, List.getElem_toArray, List.getElem_cons_succ, List.getElem_cons_zero, List.setIfInBounds_toArray, List.set_cons_zero, List.set_cons_succ]
  have HB01 := Lib.hid (HB0.out.keep f1 (by simp))
  have HB11 := Lib.hid (HB1.out.keep f1 (by simp))
  have HF1 := Lib.hid (HF.out.step f1)
  clear f1 HB0 HB1 HF HWA
  have c0 : w1.cell? ⟨B, 0, none⟩ = some (.slice aL n cL) := HB01.out.at 0 _ rfl
  have c1 : w1.cell? ⟨B, 1, none⟩ = some (.slice aC m cC) := HB01.out.at 1 _ rfl
  go_wp2_with fail
  refine (waitsG (.slice aL n cL) (.slice aC m cC) D k _ (LRow.next HL.out HF1.out) (by have := HFIT.out.nl; rw [HN.out] at this ⊢; omega) HFIT.out.q).mono ?_
  rintro e w2 ⟨rfl, f2⟩
  rw [HWT.out]
  have HB02 := Lib.hid (HB01.out.keep f2 (by simp))
  have HB12 := Lib.hid (HB11.out.keep f2 (by simp))
  have HF2 := Lib.hid (HF1.out.step f2)
  clear f2 HB01 HB11 HF1 c0 c1
  go_upto_region 7 with fail
  refine wp_region_lit ?_
  refine wpList_val rfl (v := .agg (two (.slice aL n cL) (.slice aC m cC)).toArray) (w' := w2) ?_ ?_
  · show Sem.run Tryz.prog ((Instr.loadAt 34 (.pointer (some ⟨B, 0, none⟩))) >>= fun x => pure (Next.value x)) w2 = _
    rw [Sem.run_bind, load_all agg34 size34 (xs := two (.slice aL n cL) (.slice aC m cC)) rfl HB02.out.at]
    rfl
  try simp only [Act.put, List.getElem_toArray, List.getElem_cons_succ, List.getElem_cons_zero, List.setIfInBounds_toArray, List.set_cons_zero, List.set_cons_succ]
  obtain ⟨w9, hst, hb_, hf_⟩ := store_all (t := 34) (two (.slice aL n cL) (.slice aC m cC)) size34 rfl (two_oneS _ _ _ _ _ _) HB12.out rfl
  refine wpList_skp rfl (w' := w9) ?_ ?_
  · show Sem.run Tryz.prog ((Instr.storeAt 34 (.pointer (some ⟨B + 1, 0, none⟩)) (.agg (two (.slice aL n cL) (.slice aC m cC)).toArray)) >>= fun _ => pure Next.skip) _ = _
    rw [Sem.run_bind, hst]
    rfl
  clear hst
  try simp only [Act.put, List.getElem_toArray, List.getElem_cons_succ, List.getElem_cons_zero, List.setIfInBounds_toArray, List.set_cons_zero, List.set_cons_succ]
  refine wpList_plain rfl (fun K hK => ?_); go_simp; refine hK _ _ ?_; clear hK K
  refine wpList_nil ?_
  try simp only [Act.put, List.getElem_toArray, List.getElem_cons_succ, List.getElem_cons_zero, List.setIfInBounds_toArray, List.set_cons_zero, List.set_cons_succ]
  have HR9 := Lib.hid hb_
  have HF9 := Lib.hid (HF2.out.own1 (S := []) (B := 0) hf_ (by have := HBS.out; omega))
  clear hb_ hf_
  go_wp2
  have hl := load_var agg34 size34 (xs := two (.slice aL n cL) (.slice aC m cC)) rfl HR9.out.at
  refine bodyPost_ret (v := .tuple #[.agg (two (.slice aL n cL) (.slice aC m cC)).toArray, .int .i64 8]) (by simp [results, Tryz.results17, as_addr, hl]) rfl ?_
  exact ⟨rfl, HF9.out⟩
theorem nHang_closed_0 (vL vC : Value) (D : List PN.PL) (C : List PG) (k : Int) (w : World) (hL : LRow w vL D) (hC : CRow w vC C) (hn : NetFit D C) (i : Nat) (y : PG) (hi : PN.pick (refG k) C 0 = some (i, y)) (ha : y.c.a0 = true) :
    Calls Tryz.prog 17 #[.agg #[vL, vC], .int .i64 k, .int .i64 0] w fun e w' => e = .returned (.tuple #[.agg #[vL, vC], .int .i64 14]) ∧ Fr [] w w' := by
  obtain ⟨n, hnl⟩ : ∃ n, D.length = n := ⟨_, rfl⟩
  obtain ⟨m, hml⟩ : ∃ m, C.length = m := ⟨_, rfl⟩
  obtain ⟨aL, cL, rfl⟩ := hL.val
  obtain ⟨aC, cC, rfl⟩ := hC.val
  rw [hnl] at hL ⊢
  rw [hml] at hC ⊢
  have HN := Lib.hid hnl
  have HM := Lib.hid hml
  obtain ⟨B, hB⟩ : ∃ B, w.heap.size = B := ⟨_, rfl⟩
  obtain ⟨wA, hwA⟩ : ∃ z, (w.alloc (.cells #[.slice aL n cL, .slice aC m cC] 34)).alloc (.cells #[.slice none 0 0, .slice none 0 0] 34) = z := ⟨_, rfl⟩
  have f2 := (Fr.refl [] (w.alloc (.cells #[.slice aL n cL, .slice aC m cC] 34))).alloc (.cells #[.slice none 0 0, .slice none 0 0] 34)
  have hb0 : Blk wA B 34 (two (.slice aL n cL) (.slice aC m cC)) := by
    rw [← hwA, ← hB]
    exact (Blk.made w 34 (two (.slice aL n cL) (.slice aC m cC))).keep f2 (by simp)
  have hb1 : Blk wA (B + 1) 34 zNt := by
    have h := Blk.made (w.alloc (.cells #[.slice aL n cL, .slice aC m cC] 34)) 34 zNt
    rw [show (w.alloc (.cells #[.slice aL n cL, .slice aC m cC] 34)).heap.size = B + 1 from by rw [← hB]; simp] at h
    rw [← hwA]
    exact h
  have hf : Fr [] w wA := by rw [← hwA]; exact ((Fr.refl [] w).alloc _).step f2
  have HB0 := Lib.hid hb0
  have HB1 := Lib.hid hb1
  have HF := Lib.hid hf
  have HBS := Lib.hid hB
  have HWA := Lib.hid hwA
  have HL := Lib.hid hL
  have HC := Lib.hid hC
  clear hb0 hb1 hf hB hwA f2 hL hC hnl hml
  have HFIT := Lib.hid hn
  clear hn
  have hY := place_some hi
  have hin : i < m := by rw [← HM.out]; exact (List.getElem?_eq_some_iff.1 hY).1
  have HI := Lib.hid hi
  have HY := Lib.hid hY
  have hi0 : (0 : Int) ≤ (i : Int) := by omega
  have hin' : (i : Int) < (m : Int) := by omega
  have dlt : decide ((i : Int) < 0) = false := decide_eq_false (by omega)
  clear hi hY
  have hcl : (y.c.close false).2 = 14 := by
    unfold CC.close CC.isShut
    simp [ha]
  have HCL := Lib.hid hcl
  clear hcl ha
  go_enter Tryz.func17, Tryz.ntmps17
  go_wp2_with fail
  rw [HWA.out]
  simp only [HBS.out]
  refine (refEndG 0 (by omega) _).mono ?_
  rintro e w' ⟨rfl, rfl⟩
  go_upto_region 3 with fail
  refine wp_region_lit ?_
  refine wpList_val rfl (v := .agg (two (.slice aL n cL) (.slice aC m cC)).toArray) (w' := w') ?_ ?_
  · show Sem.run Tryz.prog ((Instr.loadAt 34 (.pointer (some ⟨B, 0, none⟩))) >>= fun x => pure (Next.value x)) w' = _
    rw [Sem.run_bind, load_all agg34 size34 (xs := two (.slice aL n cL) (.slice aC m cC)) rfl HB0.out.at]
    rfl
  try simp only [Act.put, List.getElem_toArray, List.getElem_cons_succ, List.getElem_cons_zero, List.setIfInBounds_toArray, List.set_cons_zero, List.set_cons_succ]
  refine wpList_plain rfl (fun K hK => ?_); go_simp; refine hK _ _ ?_; clear hK K
  try simp only [Act.put, List.getElem_toArray, List.getElem_cons_succ, List.getElem_cons_zero, List.setIfInBounds_toArray, List.set_cons_zero, List.set_cons_succ]
  refine wpList_plain rfl (fun K hK => ?_)
  go_simp
  refine (connAtG (.slice aL n cL) (.slice aC m cC) C k _ (CRow.next HC.out HF.out) (by have := HFIT.out.nc; rw [HM.out] at this ⊢; omega)).mono ?_
  rintro e w1 ⟨rfl, f1⟩
  refine hK _ _ ?_
  clear hK K
  rw [HI.out]
  simp only [place]
  try simp only [Act.put, List.getElem_toArray, List.getElem_cons_succ, List.getElem_cons_zero, List.setIfInBounds_toArray, List.set_cons_zero, List.set_cons_succ]
  refine wpList_plain rfl (fun K hK => ?_); go_simp; refine hK _ _ ?_; clear hK K
  refine wpList_nil ?_
  try simp only [Act.put, List.getElem_toArray, List.getElem_cons_succ, List.getElem_cons_zero, List.setIfInBounds_toArray, List.set_cons_zero, List.set_cons_succ]
  have HB01 := Lib.hid (HB0.out.keep f1 (by simp))
  have HB11 := Lib.hid (HB1.out.keep f1 (by simp))
  have HF1 := Lib.hid (HF.out.step f1)
  clear f1 HB0 HB1 HF HWA
  obtain ⟨w2, hw2⟩ : ∃ z, z = w1 := ⟨_, rfl⟩
  subst hw2
  have HB02 := HB01
  have HB12 := HB11
  have HF2 := HF1
  clear HB01 HB11 HF1
  go_upto_region 8 with fail
  obtain ⟨g, off, cap, X, hvv, hg, hX, hl, q0, rfl, hrow⟩ := HC.out.lies HY.out
  rw [HM.out] at hvv
  simp only [Value.slice.injEq] at hvv
  obtain ⟨rfl, _, rfl⟩ := hvv
  have HLY := Lib.hid (show LiesAt w g (off + i * 17 + 1) (cnC y.c q0) from fun j u hj => by
    have := hl (j + 1) u (by simpa [pgC] using hj)
    rwa [show off + i * 17 + (j + 1) = off + i * 17 + 1 + j from by omega] at this)
  have HROW := Lib.hid hrow
  clear hl hrow hg hX
  have c1 : w2.cell? ⟨B, 1, none⟩ = some (.slice (some ⟨g, off, none⟩) m cC) := HB02.out.at 1 _ rfl
  refine wp_region_lit ?_
  refine wpList_plain rfl (fun K hK => ?_); go_simp; refine hK _ _ ?_; clear hK K
  refine wpList_plain rfl (fun K hK => ?_); go_simp; refine hK _ _ ?_; clear hK K
  refine wpList_plain rfl (fun K hK => ?_); go_simp; refine hK _ _ ?_; clear hK K
  refine wpList_plain rfl (fun K hK => ?_); go_simp; refine hK _ _ ?_; clear hK K
  refine wpList_plain rfl (fun K hK => ?_); go_simp; refine hK _ _ ?_; clear hK K
  try simp only [Act.put, List.getElem_toArray, List.getElem_cons_succ, List.getElem_cons_zero, List.setIfInBounds_toArray, List.set_cons_zero, List.set_cons_succ]
  refine wpList_val rfl (v := .agg (cnC y.c q0).toArray) (w' := w2) ?_ ?_
  · show Sem.run Tryz.prog ((Instr.loadAt 94 (.pointer (some ⟨g, off + i * 17 + 1, none⟩))) >>= fun x => pure (Next.value x)) w2 = _
    rw [Sem.run_bind, load_all agg94 size94 (xs := cnC y.c q0) rfl (HLY.out.keep HF2.out (by simp))]
    rfl
  try simp only [Act.put, List.getElem_toArray, List.getElem_cons_succ, List.getElem_cons_zero, List.setIfInBounds_toArray, List.set_cons_zero, List.set_cons_succ]
  refine wpList_plain rfl (fun K hK => ?_); go_simp; refine hK _ _ ?_; clear hK K
  try simp only [Act.put, List.getElem_toArray, List.getElem_cons_succ, List.getElem_cons_zero, List.setIfInBounds_toArray, List.set_cons_zero, List.set_cons_succ]
  refine wpList_plain rfl (fun K hK => ?_)
  go_simp
  refine (dClose_0 y.c q0 _).mono ?_
  rintro e w3 ⟨rfl, f3⟩
  refine hK _ _ ?_
  clear hK K
  try simp only [Act.put, List.getElem_toArray, List.getElem_cons_succ, List.getElem_cons_zero, List.setIfInBounds_toArray, List.set_cons_zero, List.set_cons_succ]
  refine wpList_plain rfl (fun K hK => ?_); go_simp; refine hK _ _ ?_; clear hK K
  refine wpList_plain rfl (fun K hK => ?_); go_simp; refine hK _ _ ?_; clear hK K
  refine wpList_plain rfl (fun K hK => ?_); go_simp; refine hK _ _ ?_; clear hK K
  refine wpList_plain rfl (fun K hK => ?_); go_simp; refine hK _ _ ?_; clear hK K
  try simp only [Act.put, List.getElem_toArray, List.getElem_cons_succ, List.getElem_cons_zero, List.setIfInBounds_toArray, List.set_cons_zero, List.set_cons_succ]
  obtain ⟨E4, hE_⟩ : ∃ E, w3.heap.size = E := ⟨_, rfl⟩
  obtain ⟨wx, hw_⟩ : ∃ z, w3.alloc (.cells #[.int .i64 0, .slice none 0 0, .bool false, .slice none 0 0, .int .i64 0, .int .i64 0, .int .i64 0, .int .i64 0, .slice none 0 0, .bool false, .slice none 0 0, .int .i64 0, .int .i64 0, .int .i64 0, .bool false, .bool false] 94) = z := ⟨_, rfl⟩
  have hbx : Blk wx E4 94 zCn := by rw [← hw_, ← hE_]; exact Blk.made w3 94 zCn
  have fx : Fr [] w3 wx := by rw [← hw_]; exact (Fr.refl [] w3).alloc _
  rw [hw_]
  simp only [hE_]
  have HE4 := Lib.hid (show w.heap.size ≤ E4 ∧ B < E4 ∧ B + 1 < E4 from by rw [← hE_]; exact ⟨(HF2.out.step f3).size, (HB02.out.keep f3 (by simp)).lt, (HB12.out.keep f3 (by simp)).lt⟩)
  have HX := Lib.hid hbx
  have HF3 := Lib.hid ((HF2.out.step f3).step fx)
  have HB03 := Lib.hid ((HB02.out.keep f3 (by simp)).keep fx (by simp))
  have HB13 := Lib.hid ((HB12.out.keep f3 (by simp)).keep fx (by simp))
  clear f3 fx hbx hw_ hE_ HB02 HB12 HF2 c1
  obtain ⟨w4, hst, hb_, hf_⟩ := store_all (t := 94) (cnC (y.c.close false).1 (y.c.closeq q0 false)) size94 rfl (cnC_one _ _) HX.out rfl
  refine wpList_skp rfl (w' := w4) ?_ ?_
  · show Sem.run Tryz.prog ((Instr.storeAt 94 (.pointer (some ⟨E4, 0, none⟩)) (.agg (cnC (y.c.close false).1 (y.c.closeq q0 false)).toArray)) >>= fun _ => pure Next.skip) _ = _
    rw [Sem.run_bind, hst]
    rfl
  clear hst
  try simp only [Act.put, List.getElem_toArray, List.getElem_cons_succ, List.getElem_cons_zero, List.setIfInBounds_toArray, List.set_cons_zero, List.set_cons_succ]
  refine wpList_plain rfl (fun K hK => ?_); go_simp; refine hK _ _ ?_; clear hK K
  refine wpList_nil ?_
  try simp only [Act.put, List.getElem_toArray, List.getElem_cons_succ, List.getElem_cons_zero, List.setIfInBounds_toArray, List.set_cons_zero, List.set_cons_succ]
  have HX4 := Lib.hid hb_
  have HB04 := Lib.hid (HB03.out.keep hf_ (fun hm => by rw [List.mem_singleton] at hm; have := HE4.out; omega))
  have HB14 := Lib.hid (HB13.out.keep hf_ (fun hm => by rw [List.mem_singleton] at hm; have := HE4.out; omega))
  have HF4 := Lib.hid (HF3.out.own1 (S := []) (B := 0) hf_ HE4.out.1)
  clear hb_ hf_ HX HB03 HB13 HF3
  rw [HCL.out]
  go_upto_region 10 with fail
  refine wp_region_lit ?_
  refine wpList_val rfl (v := .agg (two (.slice aL n cL) (.slice (some ⟨g, off, none⟩) m cC)).toArray) (w' := w4) ?_ ?_
  · show Sem.run Tryz.prog ((Instr.loadAt 34 (.pointer (some ⟨B, 0, none⟩))) >>= fun x => pure (Next.value x)) w4 = _
    rw [Sem.run_bind, load_all agg34 size34 (xs := two (.slice aL n cL) (.slice (some ⟨g, off, none⟩) m cC)) rfl HB04.out.at]
    rfl
  try simp only [Act.put, List.getElem_toArray, List.getElem_cons_succ, List.getElem_cons_zero, List.setIfInBounds_toArray, List.set_cons_zero, List.set_cons_succ]
  refine wpList_plain rfl (fun K hK => ?_); go_simp; refine hK _ _ ?_; clear hK K
  try simp only [Act.put, List.getElem_toArray, List.getElem_cons_succ, List.getElem_cons_zero, List.setIfInBounds_toArray, List.set_cons_zero, List.set_cons_succ]
  obtain ⟨w9, hst, hb_, hf_⟩ := store_all (t := 34) (two (.slice aL n cL) (.slice (some ⟨g, off, none⟩) m cC)) size34 rfl (two_oneS _ _ _ _ _ _) HB14.out rfl
  refine wpList_skp rfl (w' := w9) ?_ ?_
  · show Sem.run Tryz.prog ((Instr.storeAt 34 (.pointer (some ⟨B + 1, 0, none⟩)) (.agg (two (.slice aL n cL) (.slice (some ⟨g, off, none⟩) m cC)).toArray)) >>= fun _ => pure Next.skip) _ = _
    rw [Sem.run_bind, hst]
    rfl
  clear hst
  try simp only [Act.put, List.getElem_toArray, List.getElem_cons_succ, List.getElem_cons_zero, List.setIfInBounds_toArray, List.set_cons_zero, List.set_cons_succ]
  refine wpList_plain rfl (fun K hK => ?_); go_simp; refine hK _ _ ?_; clear hK K
  refine wpList_nil ?_
  try simp only [Act.put, List.getElem_toArray, List.getElem_cons_succ, List.getElem_cons_zero, List.setIfInBounds_toArray, List.set_cons_zero, List.set_cons_succ]
  have HR9 := Lib.hid hb_
  have HF9 := Lib.hid (HF4.out.own1 (S := []) (B := 0) hf_ (by have := HBS.out; omega))
  clear hb_ hf_
  go_wp2
  have hl := load_var agg34 size34 (xs := two (.slice aL n cL) (.slice (some ⟨g, off, none⟩) m cC)) rfl HR9.out.at
  refine bodyPost_ret (v := .tuple #[.agg (two (.slice aL n cL) (.slice (some ⟨g, off, none⟩) m cC)).toArray, .int .i64 14]) (by simp [results, Tryz.results17, as_addr, hl]) rfl ?_
  exact ⟨rfl, HF9.out⟩
theorem nHang_ok_0_0 (vL vC : Value) (D : List PN.PL) (C : List PG) (k : Int) (w : World) (hL : LRow w vL D) (hC : CRow w vC C) (hn : NetFit D C) (i : Nat) (y : PG) (hi : PN.pick (refG k) C 0 = some (i, y)) (ha : y.c.a0 = false) (hbo : ((y.c.close false).1.a0 && (y.c.close false).1.a1) = false) :
    Calls Tryz.prog 17 #[.agg #[vL, vC], .int .i64 k, .int .i64 0] w (NetRd w D (C.set i ⟨y.ref, (y.c.close false).1⟩) [.int .i64 0]) := by
  obtain ⟨n, hnl⟩ : ∃ n, D.length = n := ⟨_, rfl⟩
  obtain ⟨m, hml⟩ : ∃ m, C.length = m := ⟨_, rfl⟩
  obtain ⟨aL, cL, rfl⟩ := hL.val
  obtain ⟨aC, cC, rfl⟩ := hC.val
  rw [hnl] at hL ⊢
  rw [hml] at hC ⊢
  have HN := Lib.hid hnl
  have HM := Lib.hid hml
  obtain ⟨B, hB⟩ : ∃ B, w.heap.size = B := ⟨_, rfl⟩
  obtain ⟨wA, hwA⟩ : ∃ z, (w.alloc (.cells #[.slice aL n cL, .slice aC m cC] 34)).alloc (.cells #[.slice none 0 0, .slice none 0 0] 34) = z := ⟨_, rfl⟩
  have f2 := (Fr.refl [] (w.alloc (.cells #[.slice aL n cL, .slice aC m cC] 34))).alloc (.cells #[.slice none 0 0, .slice none 0 0] 34)
  have hb0 : Blk wA B 34 (two (.slice aL n cL) (.slice aC m cC)) := by
    rw [← hwA, ← hB]
    exact (Blk.made w 34 (two (.slice aL n cL) (.slice aC m cC))).keep f2 (by simp)
  have hb1 : Blk wA (B + 1) 34 zNt := by
    have h := Blk.made (w.alloc (.cells #[.slice aL n cL, .slice aC m cC] 34)) 34 zNt
    rw [show (w.alloc (.cells #[.slice aL n cL, .slice aC m cC] 34)).heap.size = B + 1 from by rw [← hB]; simp] at h
    rw [← hwA]
    exact h
  have hf : Fr [] w wA := by rw [← hwA]; exact ((Fr.refl [] w).alloc _).step f2
  have HB0 := Lib.hid hb0
  have HB1 := Lib.hid hb1
  have HF := Lib.hid hf
  have HBS := Lib.hid hB
  have HWA := Lib.hid hwA
  have HL := Lib.hid hL
  have HC := Lib.hid hC
  clear hb0 hb1 hf hB hwA f2 hL hC hnl hml
  have HFIT := Lib.hid hn
  clear hn
  have hY := place_some hi
  have hin : i < m := by rw [← HM.out]; exact (List.getElem?_eq_some_iff.1 hY).1
  have HI := Lib.hid hi
  have HY := Lib.hid hY
  have hi0 : (0 : Int) ≤ (i : Int) := by omega
  have hin' : (i : Int) < (m : Int) := by omega
  have dlt : decide ((i : Int) < 0) = false := decide_eq_false (by omega)
  clear hi hY
  have hcl : (y.c.close false).2 = 0 := by
    unfold CC.close CC.isShut
    simp [ha]
  have HCL := Lib.hid hcl
  have HBO := Lib.hid hbo
  clear hcl ha hbo
  go_enter Tryz.func17, Tryz.ntmps17
  go_wp2_with fail
  rw [HWA.out]
  simp only [HBS.out]
  refine (refEndG 0 (by omega) _).mono ?_
  rintro e w' ⟨rfl, rfl⟩
  go_upto_region 3 with fail
  refine wp_region_lit ?_
  refine wpList_val rfl (v := .agg (two (.slice aL n cL) (.slice aC m cC)).toArray) (w' := w') ?_ ?_
  · show Sem.run Tryz.prog ((Instr.loadAt 34 (.pointer (some ⟨B, 0, none⟩))) >>= fun x => pure (Next.value x)) w' = _
    rw [Sem.run_bind, load_all agg34 size34 (xs := two (.slice aL n cL) (.slice aC m cC)) rfl HB0.out.at]
    rfl
  try simp only [Act.put, List.getElem_toArray, List.getElem_cons_succ, List.getElem_cons_zero, List.setIfInBounds_toArray, List.set_cons_zero, List.set_cons_succ]
  refine wpList_plain rfl (fun K hK => ?_); go_simp; refine hK _ _ ?_; clear hK K
  try simp only [Act.put, List.getElem_toArray, List.getElem_cons_succ, List.getElem_cons_zero, List.setIfInBounds_toArray, List.set_cons_zero, List.set_cons_succ]
  refine wpList_plain rfl (fun K hK => ?_)
  go_simp
  refine (connAtG (.slice aL n cL) (.slice aC m cC) C k _ (CRow.next HC.out HF.out) (by have := HFIT.out.nc; rw [HM.out] at this ⊢; omega)).mono ?_
  rintro e w1 ⟨rfl, f1⟩
  refine hK _ _ ?_
  clear hK K
  rw [HI.out]
  simp only [place]
  try simp only [Act.put, List.getElem_toArray, List.getElem_cons_succ, List.getElem_cons_zero, List.setIfInBounds_toArray, List.set_cons_zero, List.set_cons_succ]
  refine wpList_plain rfl (fun K hK => ?_); go_simp; refine hK _ _ ?_; clear hK K
  refine wpList_nil ?_
  try simp only [Act.put, List.getElem_toArray, List.getElem_cons_succ, List.getElem_cons_zero, List.setIfInBounds_toArray, List.set_cons_zero, List.set_cons_succ]
  have HB01 := Lib.hid (HB0.out.keep f1 (by simp))
  have HB11 := Lib.hid (HB1.out.keep f1 (by simp))
  have HF1 := Lib.hid (HF.out.step f1)
  clear f1 HB0 HB1 HF HWA
  obtain ⟨w2, hw2⟩ : ∃ z, z = w1 := ⟨_, rfl⟩
  subst hw2
  have HB02 := HB01
  have HB12 := HB11
  have HF2 := HF1
  clear HB01 HB11 HF1
  go_upto_region 8 with fail
  obtain ⟨g, off, cap, X, hvv, hg, hX, hl, q0, rfl, hrow⟩ := HC.out.lies HY.out
  rw [HM.out] at hvv
  simp only [Value.slice.injEq] at hvv
  obtain ⟨rfl, _, rfl⟩ := hvv
  have HLY := Lib.hid (show LiesAt w g (off + i * 17 + 1) (cnC y.c q0) from fun j u hj => by
    have := hl (j + 1) u (by simpa [pgC] using hj)
    rwa [show off + i * 17 + (j + 1) = off + i * 17 + 1 + j from by omega] at this)
  have HROW := Lib.hid hrow
  clear hl hrow hg hX
  have c1 : w2.cell? ⟨B, 1, none⟩ = some (.slice (some ⟨g, off, none⟩) m cC) := HB02.out.at 1 _ rfl
  refine wp_region_lit ?_
  refine wpList_plain rfl (fun K hK => ?_); go_simp; refine hK _ _ ?_; clear hK K
  refine wpList_plain rfl (fun K hK => ?_); go_simp; refine hK _ _ ?_; clear hK K
  refine wpList_plain rfl (fun K hK => ?_); go_simp; refine hK _ _ ?_; clear hK K
  refine wpList_plain rfl (fun K hK => ?_); go_simp; refine hK _ _ ?_; clear hK K
  refine wpList_plain rfl (fun K hK => ?_); go_simp; refine hK _ _ ?_; clear hK K
  try simp only [Act.put, List.getElem_toArray, List.getElem_cons_succ, List.getElem_cons_zero, List.setIfInBounds_toArray, List.set_cons_zero, List.set_cons_succ]
  refine wpList_val rfl (v := .agg (cnC y.c q0).toArray) (w' := w2) ?_ ?_
  · show Sem.run Tryz.prog ((Instr.loadAt 94 (.pointer (some ⟨g, off + i * 17 + 1, none⟩))) >>= fun x => pure (Next.value x)) w2 = _
    rw [Sem.run_bind, load_all agg94 size94 (xs := cnC y.c q0) rfl (HLY.out.keep HF2.out (by simp))]
    rfl
  try simp only [Act.put, List.getElem_toArray, List.getElem_cons_succ, List.getElem_cons_zero, List.setIfInBounds_toArray, List.set_cons_zero, List.set_cons_succ]
  refine wpList_plain rfl (fun K hK => ?_); go_simp; refine hK _ _ ?_; clear hK K
  try simp only [Act.put, List.getElem_toArray, List.getElem_cons_succ, List.getElem_cons_zero, List.setIfInBounds_toArray, List.set_cons_zero, List.set_cons_succ]
  refine wpList_plain rfl (fun K hK => ?_)
  go_simp
  refine (dClose_0 y.c q0 _).mono ?_
  rintro e w3 ⟨rfl, f3⟩
  refine hK _ _ ?_
  clear hK K
  try simp only [Act.put, List.getElem_toArray, List.getElem_cons_succ, List.getElem_cons_zero, List.setIfInBounds_toArray, List.set_cons_zero, List.set_cons_succ]
  refine wpList_plain rfl (fun K hK => ?_); go_simp; refine hK _ _ ?_; clear hK K
  refine wpList_plain rfl (fun K hK => ?_); go_simp; refine hK _ _ ?_; clear hK K
  refine wpList_plain rfl (fun K hK => ?_); go_simp; refine hK _ _ ?_; clear hK K
  refine wpList_plain rfl (fun K hK => ?_); go_simp; refine hK _ _ ?_; clear hK K
  try simp only [Act.put, List.getElem_toArray, List.getElem_cons_succ, List.getElem_cons_zero, List.setIfInBounds_toArray, List.set_cons_zero, List.set_cons_succ]
  obtain ⟨E4, hE_⟩ : ∃ E, w3.heap.size = E := ⟨_, rfl⟩
  obtain ⟨wx, hw_⟩ : ∃ z, w3.alloc (.cells #[.int .i64 0, .slice none 0 0, .bool false, .slice none 0 0, .int .i64 0, .int .i64 0, .int .i64 0, .int .i64 0, .slice none 0 0, .bool false, .slice none 0 0, .int .i64 0, .int .i64 0, .int .i64 0, .bool false, .bool false] 94) = z := ⟨_, rfl⟩
  have hbx : Blk wx E4 94 zCn := by rw [← hw_, ← hE_]; exact Blk.made w3 94 zCn
  have fx : Fr [] w3 wx := by rw [← hw_]; exact (Fr.refl [] w3).alloc _
  rw [hw_]
  simp only [hE_]
  have HE4 := Lib.hid (show w.heap.size ≤ E4 ∧ B < E4 ∧ B + 1 < E4 from by rw [← hE_]; exact ⟨(HF2.out.step f3).size, (HB02.out.keep f3 (by simp)).lt, (HB12.out.keep f3 (by simp)).lt⟩)
  have HX := Lib.hid hbx
  have HF3 := Lib.hid ((HF2.out.step f3).step fx)
  have HB03 := Lib.hid ((HB02.out.keep f3 (by simp)).keep fx (by simp))
  have HB13 := Lib.hid ((HB12.out.keep f3 (by simp)).keep fx (by simp))
  clear f3 fx hbx hw_ hE_ HB02 HB12 HF2 c1
  obtain ⟨w4, hst, hb_, hf_⟩ := store_all (t := 94) (cnC (y.c.close false).1 (y.c.closeq q0 false)) size94 rfl (cnC_one _ _) HX.out rfl
  refine wpList_skp rfl (w' := w4) ?_ ?_
  · show Sem.run Tryz.prog ((Instr.storeAt 94 (.pointer (some ⟨E4, 0, none⟩)) (.agg (cnC (y.c.close false).1 (y.c.closeq q0 false)).toArray)) >>= fun _ => pure Next.skip) _ = _
    rw [Sem.run_bind, hst]
    rfl
  clear hst
  try simp only [Act.put, List.getElem_toArray, List.getElem_cons_succ, List.getElem_cons_zero, List.setIfInBounds_toArray, List.set_cons_zero, List.set_cons_succ]
  refine wpList_plain rfl (fun K hK => ?_); go_simp; refine hK _ _ ?_; clear hK K
  refine wpList_nil ?_
  try simp only [Act.put, List.getElem_toArray, List.getElem_cons_succ, List.getElem_cons_zero, List.setIfInBounds_toArray, List.set_cons_zero, List.set_cons_succ]
  have HX4 := Lib.hid hb_
  have HB04 := Lib.hid (HB03.out.keep hf_ (fun hm => by rw [List.mem_singleton] at hm; have := HE4.out; omega))
  have HB14 := Lib.hid (HB13.out.keep hf_ (fun hm => by rw [List.mem_singleton] at hm; have := HE4.out; omega))
  have HF4 := Lib.hid (HF3.out.own1 (S := []) (B := 0) hf_ HE4.out.1)
  clear hb_ hf_ HX HB03 HB13 HF3
  rw [HCL.out]
  go_upto_region 11 with fail
  refine wp_region_lit ?_
  refine wpList_val rfl (v := .agg (two (.slice aL n cL) (.slice (some ⟨g, off, none⟩) m cC)).toArray) (w' := w4) ?_ ?_
  · show Sem.run Tryz.prog ((Instr.loadAt 34 (.pointer (some ⟨B, 0, none⟩))) >>= fun x => pure (Next.value x)) w4 = _
    rw [Sem.run_bind, load_all agg34 size34 (xs := two (.slice aL n cL) (.slice (some ⟨g, off, none⟩) m cC)) rfl HB04.out.at]
    rfl
  try simp only [Act.put, List.getElem_toArray, List.getElem_cons_succ, List.getElem_cons_zero, List.setIfInBounds_toArray, List.set_cons_zero, List.set_cons_succ]
  refine wpList_plain rfl (fun K hK => ?_)
  go_simp
  refine (nCopy_any (.slice aL n cL) (.slice (some ⟨g, off, none⟩) m cC) D C _ (LRow.next HL.out HF4.out) (CRow.next HC.out HF4.out) HFIT.out).mono ?_
  rintro e w5 ⟨sL, sC, rfl, oL, oC, f5⟩
  refine hK _ _ ?_
  clear hK K
  try simp only [Act.put, List.getElem_toArray, List.getElem_cons_succ, List.getElem_cons_zero, List.setIfInBounds_toArray, List.set_cons_zero, List.set_cons_succ]
  refine wpList_plain rfl (fun K hK => ?_); go_simp; refine hK _ _ ?_; clear hK K
  try simp only [Act.put, List.getElem_toArray, List.getElem_cons_succ, List.getElem_cons_zero, List.setIfInBounds_toArray, List.set_cons_zero, List.set_cons_succ]
  have HOL5 := Lib.hid (oL.base (B' := B) (by rw [← HBS.out]; exact HF4.out.size))
  have HOC5 := Lib.hid (oC.base (B' := B) (by rw [← HBS.out]; exact HF4.out.size))
  have HX5 := Lib.hid (HX4.out.keep f5 (by simp))
  have HB15 := Lib.hid (HB14.out.keep f5 (by simp))
  have HF5 := Lib.hid (HF4.out.step f5)
  clear oL oC f5 HX4 HB04 HB14 HF4
  obtain ⟨E6, hE_⟩ : ∃ E, w5.heap.size = E := ⟨_, rfl⟩
  obtain ⟨wy, hw_⟩ : ∃ z, w5.alloc (.cells #[.slice none 0 0, .slice none 0 0] 34) = z := ⟨_, rfl⟩
  have hbx : Blk wy E6 34 zNt := by rw [← hw_, ← hE_]; exact Blk.made w5 34 zNt
  have fx : Fr [] w5 wy := by rw [← hw_]; exact (Fr.refl [] w5).alloc _
  rw [hw_]
  simp only [hE_]
  have HE6 := Lib.hid (show w.heap.size ≤ E6 ∧ B + 1 < E6 ∧ E4 < E6 from by rw [← hE_]; exact ⟨HF5.out.size, HB15.out.lt, HX5.out.lt⟩)
  have HY6 := Lib.hid hbx
  have HX6 := Lib.hid (HX5.out.keep fx (by simp))
  have HB16 := Lib.hid (HB15.out.keep fx (by simp))
  have HF6 := Lib.hid (HF5.out.step fx)
  have HOL6 := Lib.hid (HOL5.out.next fx)
  have HOC6 := Lib.hid (HOC5.out.next fx)
  clear fx hbx hw_ hE_ HX5 HB15 HF5 HOL5 HOC5
  obtain ⟨w7, hst, hb_, hf_⟩ := store_all (t := 34) (two (slv sL) (slv sC)) size34 rfl (two_one _ _) HY6.out rfl
  refine wpList_skp rfl (w' := w7) ?_ ?_
  · show Sem.run Tryz.prog ((Instr.storeAt 34 (.pointer (some ⟨E6, 0, none⟩)) (.agg (two (slv sL) (slv sC)).toArray)) >>= fun _ => pure Next.skip) _ = _
    rw [Sem.run_bind, hst]
    rfl
  clear hst
  try simp only [Act.put, List.getElem_toArray, List.getElem_cons_succ, List.getElem_cons_zero, List.setIfInBounds_toArray, List.set_cons_zero, List.set_cons_succ]
  refine wpList_nil ?_
  try simp only [Act.put, List.getElem_toArray, List.getElem_cons_succ, List.getElem_cons_zero, List.setIfInBounds_toArray, List.set_cons_zero, List.set_cons_succ]
  have HY7 := Lib.hid hb_
  have HX7 := Lib.hid (HX6.out.keep hf_ (fun hm => by rw [List.mem_singleton] at hm; have := HE6.out; omega))
  have HB17 := Lib.hid (HB16.out.keep hf_ (fun hm => by rw [List.mem_singleton] at hm; have := HE6.out; omega))
  have HF7 := Lib.hid (HF6.out.own1 (S := []) (B := 0) hf_ HE6.out.1)
  have HOL7 := Lib.hid (HOL6.out.far HY6.out hf_ (by decide) (by decide))
  obtain ⟨Xs, hrec, hown⟩ := HOC6.out.far HY6.out hf_ (by decide) (by decide)
  rw [HM.out] at hown
  have HREC7 := Lib.hid hrec
  have HOWN7 := Lib.hid hown
  clear hb_ hf_ HY6 HX6 HB16 HF6 HOL6 HOC6
  have hXi := List.getElem?_eq_getElem (l := Xs) (i := i) (by rw [hrec.len, HM.out]; exact hin)
  obtain ⟨X, hXX⟩ : ∃ X, Xs[i]'(by rw [hrec.len, HM.out]; exact hin) = X := ⟨_, rfl⟩
  rw [hXX] at hXi
  obtain ⟨q, rfl, hqo⟩ := hrec.el i X y hXi HY.out
  have HXI := Lib.hid hXi
  obtain ⟨sC1, sC2, sC3⟩ := sC
  obtain ⟨gC, hgC, hsn⟩ : ∃ gC, sC1 = some ⟨gC, 0, none⟩ ∧ sC2 = m := by
    rcases hown.2 with ⟨he, h0⟩ | ⟨gC, cap, cur, he, _⟩
    · omega
    · simp only [slv, Value.slice.injEq] at he
      exact ⟨gC, he.1, he.2.1⟩
  subst hgC
  subst hsn
  have c7 : w7.cell? ⟨E6, 1, none⟩ = some (.slice (some ⟨gC, 0, none⟩) sC2 sC3) := HY7.out.at 1 _ rfl
  clear hrec hown hqo hXi hXX
  go_upto_region 12 with fail
  refine wp_region_lit ?_
  refine wpList_plain rfl (fun K hK => ?_); go_simp; refine hK _ _ ?_; clear hK K
  refine wpList_plain rfl (fun K hK => ?_); go_simp; refine hK _ _ ?_; clear hK K
  refine wpList_plain rfl (fun K hK => ?_); go_simp; refine hK _ _ ?_; clear hK K
  try simp only [Act.put, List.getElem_toArray, List.getElem_cons_succ, List.getElem_cons_zero, List.setIfInBounds_toArray, List.set_cons_zero, List.set_cons_succ]
  refine wpList_val rfl (v := .agg (cnC (y.c.close false).1 (y.c.closeq q0 false)).toArray) (w' := w7) ?_ ?_
  · show Sem.run Tryz.prog ((Instr.loadAt 94 (.pointer (some ⟨E4, 0, none⟩))) >>= fun x => pure (Next.value x)) w7 = _
    rw [Sem.run_bind, load_all agg94 size94 (xs := cnC (y.c.close false).1 (y.c.closeq q0 false)) rfl HX7.out.at]
    rfl
  try simp only [Act.put, List.getElem_toArray, List.getElem_cons_succ, List.getElem_cons_zero, List.setIfInBounds_toArray, List.set_cons_zero, List.set_cons_succ]
  refine wpList_plain rfl (fun K hK => ?_); go_simp; refine hK _ _ ?_; clear hK K
  refine wpList_plain rfl (fun K hK => ?_); go_simp; refine hK _ _ ?_; clear hK K
  try simp only [Act.put, List.getElem_toArray, List.getElem_cons_succ, List.getElem_cons_zero, List.setIfInBounds_toArray, List.set_cons_zero, List.set_cons_succ]
  obtain ⟨w8, hst, hrow8, hf_⟩ := own_store (t := 94) (k := i * 17 + 1) (cnC (y.c.close false).1 (y.c.closeq q0 false)) (.agg (cnC (y.c.close false).1 (y.c.closeq q0 false)).toArray) size94 rfl rfl (cnC_one _ _) HOWN7.out (by show i * 17 + 1 + 16 ≤ sC2 * 17; omega)
  refine wpList_skp rfl (w' := w8) ?_ ?_
  · show Sem.run Tryz.prog ((Instr.storeAt 94 (.pointer (some ⟨gC, i * 17 + 1, none⟩)) (.agg (cnC (y.c.close false).1 (y.c.closeq q0 false)).toArray)) >>= fun _ => pure Next.skip) _ = _
    rw [Sem.run_bind, hst]
    rfl
  clear hst c7
  try simp only [Act.put, List.getElem_toArray, List.getElem_cons_succ, List.getElem_cons_zero, List.setIfInBounds_toArray, List.set_cons_zero, List.set_cons_succ]
  refine wpList_nil ?_
  try simp only [Act.put, List.getElem_toArray, List.getElem_cons_succ, List.getElem_cons_zero, List.setIfInBounds_toArray, List.set_cons_zero, List.set_cons_succ]
  have hfo : Fr (Value.ownBlock (slv (some ⟨gC, 0, none⟩, sC2, sC3))).toList w7 w8 := hf_
  have HY8 := Lib.hid (HY7.out.farRow HOWN7.out hfo (by decide))
  have HX8 := Lib.hid (HX7.out.farRow HOWN7.out hfo (by decide))
  have HB18 := Lib.hid (HB17.out.farRow HOWN7.out hfo (by decide))
  have HF8 := Lib.hid (HF7.out.ownRow HOWN7.out hfo (by rw [HBS.out]; exact Nat.le_refl _))
  have HOL8 := Lib.hid (HOL7.out.farRow HOWN7.out hfo (by decide) (by decide))
  have HREC8 := Lib.hid (HREC7.out.mono (fun X z ⟨s, e1, e2⟩ => (⟨s, e1, ⟨rowFar e2.b0 HOWN7.out hfo (by decide), rowFar e2.r0 HOWN7.out hfo (by decide), rowFar e2.b1 HOWN7.out hfo (by decide), rowFar e2.r1 HOWN7.out hfo (by decide)⟩⟩ : ElCO B w8 X z)))
  have HOWN8 := Lib.hid (show w8.ownsRow B 96 17 (slv (some ⟨gC, 0, none⟩, sC2, sC3)) sC2 (Xs.set i (pgC ⟨y.ref, (y.c.close false).1⟩ (y.c.closeq q0 false))).flatten from by
    have hfl := flat_set (vs := cnC (y.c.close false).1 (y.c.closeq q0 false)) (a := 1) HREC7.out.sz HXI.out (by show 1 + 16 ≤ 17; omega)
    have hX' : (pgC y q).take 1 ++ cnC (y.c.close false).1 (y.c.closeq q0 false) ++ (pgC y q).drop (1 + (cnC (y.c.close false).1 (y.c.closeq q0 false)).length) = pgC ⟨y.ref, (y.c.close false).1⟩ (y.c.closeq q0 false) := rfl
    rw [hX'] at hfl
    rw [hfl]
    exact hrow8)
  clear hfo hf_ hrow8 HY7 HX7 HB17 HF7 HOL7 HREC7 HOWN7
  have k0 : w8.cell? ⟨E4, 14, none⟩ = some (.bool (y.c.close false).1.a0) := HX8.out.at 14 _ rfl
  have k1 : w8.cell? ⟨E4, 15, none⟩ = some (.bool (y.c.close false).1.a1) := HX8.out.at 15 _ rfl
  obtain ⟨b0, hb0⟩ : ∃ z, (y.c.close false).1.a0 = z := ⟨_, rfl⟩
  obtain ⟨b1, hb1⟩ : ∃ z, (y.c.close false).1.a1 = z := ⟨_, rfl⟩
  have HB01 := Lib.hid HBO.out
  rw [hb0, hb1] at HB01
  rw [hb0] at k0
  rw [hb1] at k1
  clear hb0 hb1
  cases b0 with
  | true =>
    cases b1 with
    | true => exact absurd HB01.out (by decide)
    | false =>
      go_upto_region 15 with fail
      refine wp_region_lit ?_
      refine wpList_val rfl (v := .agg (two (slv sL) (slv (some ⟨gC, 0, none⟩, sC2, sC3))).toArray) (w' := w8) ?_ ?_
      · show Sem.run Tryz.prog ((Instr.loadAt 34 (.pointer (some ⟨E6, 0, none⟩))) >>= fun x => pure (Next.value x)) w8 = _
        rw [Sem.run_bind, load_all agg34 size34 (xs := two (slv sL) (slv (some ⟨gC, 0, none⟩, sC2, sC3))) rfl HY8.out.at]
        rfl
      try simp only [Act.put, List.getElem_toArray, List.getElem_cons_succ, List.getElem_cons_zero, List.setIfInBounds_toArray, List.set_cons_zero, List.set_cons_succ]
      obtain ⟨w15, hst, hb_, hf_⟩ := store_all (t := 34) (two (slv sL) (slv (some ⟨gC, 0, none⟩, sC2, sC3))) size34 rfl (two_one _ _) HB18.out rfl
      refine wpList_skp rfl (w' := w15) ?_ ?_
      · show Sem.run Tryz.prog ((Instr.storeAt 34 (.pointer (some ⟨B + 1, 0, none⟩)) (.agg (two (slv sL) (slv (some ⟨gC, 0, none⟩, sC2, sC3))).toArray)) >>= fun _ => pure Next.skip) _ = _
        rw [Sem.run_bind, hst]
        rfl
      clear hst
      try simp only [Act.put, List.getElem_toArray, List.getElem_cons_succ, List.getElem_cons_zero, List.setIfInBounds_toArray, List.set_cons_zero, List.set_cons_succ]
      refine wpList_plain rfl (fun K hK => ?_); go_simp; refine hK _ _ ?_; clear hK K
      refine wpList_nil ?_
      try simp only [Act.put, List.getElem_toArray, List.getElem_cons_succ, List.getElem_cons_zero, List.setIfInBounds_toArray, List.set_cons_zero, List.set_cons_succ]
      have HR15 := Lib.hid hb_
      have HF15 := Lib.hid (HF8.out.own1 (S := []) (B := 0) hf_ (by have := HBS.out; omega))
      have HOL15 := Lib.hid (HOL8.out.far HB18.out hf_ (by decide) (by decide))
      have HCR15 := Lib.hid (show CRd w15 B (slv (some ⟨gC, 0, none⟩, sC2, sC3)) (C.set i ⟨y.ref, (y.c.close false).1⟩) from by
        refine ⟨?_, fun g hg => (HOWN8.out.lt g hg).1⟩
        refine ⟨Xs.set i (pgC ⟨y.ref, (y.c.close false).1⟩ (y.c.closeq q0 false)), ?_, ?_⟩
        · refine (HREC8.out.mono (fun X z ⟨s, e1, e2⟩ => (⟨s, e1, (e2.store HB18.out hf_ (by decide)).b⟩ : ElC w15 X z))).set i rfl (pgC_one _ _) ⟨_, rfl, ?_⟩
          exact ((HROW.out.new HF15.out).close false)
        · rw [List.length_set, HM.out]
          exact RowV.of_own (rowFr' HOWN8.out hf_ (fun g hg hm => by rw [List.mem_singleton] at hm; subst hm; exact blkNe HB18.out HOWN8.out (by decide) hg)))
      clear hb_ hf_
      go_wp2
      have hl := load_var agg34 size34 (xs := two (slv sL) (slv (some ⟨gC, 0, none⟩, sC2, sC3))) rfl HR15.out.at
      refine bodyPost_ret (v := .tuple #[.agg (two (slv sL) (slv (some ⟨gC, 0, none⟩, sC2, sC3))).toArray, .int .i64 0]) (by simp [results, Tryz.results17, as_addr, hl]) rfl ?_
      exact ⟨sL, (some ⟨gC, 0, none⟩, sC2, sC3), rfl, by rw [HBS.out]; exact HOL15.out.ro, by rw [HBS.out]; exact HCR15.out, HF15.out⟩
  | false =>
    go_upto_region 15 with fail
    refine wp_region_lit ?_
    refine wpList_val rfl (v := .agg (two (slv sL) (slv (some ⟨gC, 0, none⟩, sC2, sC3))).toArray) (w' := w8) ?_ ?_
    · show Sem.run Tryz.prog ((Instr.loadAt 34 (.pointer (some ⟨E6, 0, none⟩))) >>= fun x => pure (Next.value x)) w8 = _
      rw [Sem.run_bind, load_all agg34 size34 (xs := two (slv sL) (slv (some ⟨gC, 0, none⟩, sC2, sC3))) rfl HY8.out.at]
      rfl
    try simp only [Act.put, List.getElem_toArray, List.getElem_cons_succ, List.getElem_cons_zero, List.setIfInBounds_toArray, List.set_cons_zero, List.set_cons_succ]
    obtain ⟨w15, hst, hb_, hf_⟩ := store_all (t := 34) (two (slv sL) (slv (some ⟨gC, 0, none⟩, sC2, sC3))) size34 rfl (two_one _ _) HB18.out rfl
    refine wpList_skp rfl (w' := w15) ?_ ?_
    · show Sem.run Tryz.prog ((Instr.storeAt 34 (.pointer (some ⟨B + 1, 0, none⟩)) (.agg (two (slv sL) (slv (some ⟨gC, 0, none⟩, sC2, sC3))).toArray)) >>= fun _ => pure Next.skip) _ = _
      rw [Sem.run_bind, hst]
      rfl
    clear hst
    try simp only [Act.put, List.getElem_toArray, List.getElem_cons_succ, List.getElem_cons_zero, List.setIfInBounds_toArray, List.set_cons_zero, List.set_cons_succ]
    refine wpList_plain rfl (fun K hK => ?_); go_simp; refine hK _ _ ?_; clear hK K
    refine wpList_nil ?_
    try simp only [Act.put, List.getElem_toArray, List.getElem_cons_succ, List.getElem_cons_zero, List.setIfInBounds_toArray, List.set_cons_zero, List.set_cons_succ]
    have HR15 := Lib.hid hb_
    have HF15 := Lib.hid (HF8.out.own1 (S := []) (B := 0) hf_ (by have := HBS.out; omega))
    have HOL15 := Lib.hid (HOL8.out.far HB18.out hf_ (by decide) (by decide))
    have HCR15 := Lib.hid (show CRd w15 B (slv (some ⟨gC, 0, none⟩, sC2, sC3)) (C.set i ⟨y.ref, (y.c.close false).1⟩) from by
      refine ⟨?_, fun g hg => (HOWN8.out.lt g hg).1⟩
      refine ⟨Xs.set i (pgC ⟨y.ref, (y.c.close false).1⟩ (y.c.closeq q0 false)), ?_, ?_⟩
      · refine (HREC8.out.mono (fun X z ⟨s, e1, e2⟩ => (⟨s, e1, (e2.store HB18.out hf_ (by decide)).b⟩ : ElC w15 X z))).set i rfl (pgC_one _ _) ⟨_, rfl, ?_⟩
        exact ((HROW.out.new HF15.out).close false)
      · rw [List.length_set, HM.out]
        exact RowV.of_own (rowFr' HOWN8.out hf_ (fun g hg hm => by rw [List.mem_singleton] at hm; subst hm; exact blkNe HB18.out HOWN8.out (by decide) hg)))
    clear hb_ hf_
    go_wp2
    have hl := load_var agg34 size34 (xs := two (slv sL) (slv (some ⟨gC, 0, none⟩, sC2, sC3))) rfl HR15.out.at
    refine bodyPost_ret (v := .tuple #[.agg (two (slv sL) (slv (some ⟨gC, 0, none⟩, sC2, sC3))).toArray, .int .i64 0]) (by simp [results, Tryz.results17, as_addr, hl]) rfl ?_
    exact ⟨sL, (some ⟨gC, 0, none⟩, sC2, sC3), rfl, by rw [HBS.out]; exact HOL15.out.ro, by rw [HBS.out]; exact HCR15.out, HF15.out⟩
theorem nHang_ok_0_1 (vL vC : Value) (D : List PN.PL) (C : List PG) (k : Int) (w : World) (hL : LRow w vL D) (hC : CRow w vC C) (hn : NetFit D C) (i : Nat) (y : PG) (hi : PN.pick (refG k) C 0 = some (i, y)) (ha : y.c.a0 = false) (hbo : ((y.c.close false).1.a0 && (y.c.close false).1.a1) = true) :
    Calls Tryz.prog 17 #[.agg #[vL, vC], .int .i64 k, .int .i64 0] w (NetRd w D (C.take i ++ C.drop (i + 1)) [.int .i64 0]) := by
  obtain ⟨n, hnl⟩ : ∃ n, D.length = n := ⟨_, rfl⟩
  obtain ⟨m, hml⟩ : ∃ m, C.length = m := ⟨_, rfl⟩
  obtain ⟨aL, cL, rfl⟩ := hL.val
  obtain ⟨aC, cC, rfl⟩ := hC.val
  rw [hnl] at hL ⊢
  rw [hml] at hC ⊢
  have HN := Lib.hid hnl
  have HM := Lib.hid hml
  obtain ⟨B, hB⟩ : ∃ B, w.heap.size = B := ⟨_, rfl⟩
  obtain ⟨wA, hwA⟩ : ∃ z, (w.alloc (.cells #[.slice aL n cL, .slice aC m cC] 34)).alloc (.cells #[.slice none 0 0, .slice none 0 0] 34) = z := ⟨_, rfl⟩
  have f2 := (Fr.refl [] (w.alloc (.cells #[.slice aL n cL, .slice aC m cC] 34))).alloc (.cells #[.slice none 0 0, .slice none 0 0] 34)
  have hb0 : Blk wA B 34 (two (.slice aL n cL) (.slice aC m cC)) := by
    rw [← hwA, ← hB]
    exact (Blk.made w 34 (two (.slice aL n cL) (.slice aC m cC))).keep f2 (by simp)
  have hb1 : Blk wA (B + 1) 34 zNt := by
    have h := Blk.made (w.alloc (.cells #[.slice aL n cL, .slice aC m cC] 34)) 34 zNt
    rw [show (w.alloc (.cells #[.slice aL n cL, .slice aC m cC] 34)).heap.size = B + 1 from by rw [← hB]; simp] at h
    rw [← hwA]
    exact h
  have hf : Fr [] w wA := by rw [← hwA]; exact ((Fr.refl [] w).alloc _).step f2
  have HB0 := Lib.hid hb0
  have HB1 := Lib.hid hb1
  have HF := Lib.hid hf
  have HBS := Lib.hid hB
  have HWA := Lib.hid hwA
  have HL := Lib.hid hL
  have HC := Lib.hid hC
  clear hb0 hb1 hf hB hwA f2 hL hC hnl hml
  have HFIT := Lib.hid hn
  clear hn
  have hY := place_some hi
  have hin : i < m := by rw [← HM.out]; exact (List.getElem?_eq_some_iff.1 hY).1
  have HI := Lib.hid hi
  have HY := Lib.hid hY
  have hi0 : (0 : Int) ≤ (i : Int) := by omega
  have hin' : (i : Int) < (m : Int) := by omega
  have dlt : decide ((i : Int) < 0) = false := decide_eq_false (by omega)
  clear hi hY
  have hcl : (y.c.close false).2 = 0 := by
    unfold CC.close CC.isShut
    simp [ha]
  have HCL := Lib.hid hcl
  have HBO := Lib.hid hbo
  clear hcl ha hbo
  go_enter Tryz.func17, Tryz.ntmps17
  go_wp2_with fail
  rw [HWA.out]
  simp only [HBS.out]
  refine (refEndG 0 (by omega) _).mono ?_
  rintro e w' ⟨rfl, rfl⟩
  go_upto_region 3 with fail
  refine wp_region_lit ?_
  refine wpList_val rfl (v := .agg (two (.slice aL n cL) (.slice aC m cC)).toArray) (w' := w') ?_ ?_
  · show Sem.run Tryz.prog ((Instr.loadAt 34 (.pointer (some ⟨B, 0, none⟩))) >>= fun x => pure (Next.value x)) w' = _
    rw [Sem.run_bind, load_all agg34 size34 (xs := two (.slice aL n cL) (.slice aC m cC)) rfl HB0.out.at]
    rfl
  try simp only [Act.put, List.getElem_toArray, List.getElem_cons_succ, List.getElem_cons_zero, List.setIfInBounds_toArray, List.set_cons_zero, List.set_cons_succ]
  refine wpList_plain rfl (fun K hK => ?_); go_simp; refine hK _ _ ?_; clear hK K
  try simp only [Act.put, List.getElem_toArray, List.getElem_cons_succ, List.getElem_cons_zero, List.setIfInBounds_toArray, List.set_cons_zero, List.set_cons_succ]
  refine wpList_plain rfl (fun K hK => ?_)
  go_simp
  refine (connAtG (.slice aL n cL) (.slice aC m cC) C k _ (CRow.next HC.out HF.out) (by have := HFIT.out.nc; rw [HM.out] at this ⊢; omega)).mono ?_
  rintro e w1 ⟨rfl, f1⟩
  refine hK _ _ ?_
  clear hK K
  rw [HI.out]
  simp only [place]
  try simp only [Act.put, List.getElem_toArray, List.getElem_cons_succ, List.getElem_cons_zero, List.setIfInBounds_toArray, List.set_cons_zero, List.set_cons_succ]
  refine wpList_plain rfl (fun K hK => ?_); go_simp; refine hK _ _ ?_; clear hK K
  refine wpList_nil ?_
  try simp only [Act.put, List.getElem_toArray, List.getElem_cons_succ, List.getElem_cons_zero, List.setIfInBounds_toArray, List.set_cons_zero, List.set_cons_succ]
  have HB01 := Lib.hid (HB0.out.keep f1 (by simp))
  have HB11 := Lib.hid (HB1.out.keep f1 (by simp))
  have HF1 := Lib.hid (HF.out.step f1)
  clear f1 HB0 HB1 HF HWA
  obtain ⟨w2, hw2⟩ : ∃ z, z = w1 := ⟨_, rfl⟩
  subst hw2
  have HB02 := HB01
  have HB12 := HB11
  have HF2 := HF1
  clear HB01 HB11 HF1
  go_upto_region 8 with fail
  obtain ⟨g, off, cap, X, hvv, hg, hX, hl, q0, rfl, hrow⟩ := HC.out.lies HY.out
  rw [HM.out] at hvv
  simp only [Value.slice.injEq] at hvv
  obtain ⟨rfl, _, rfl⟩ := hvv
  have HLY := Lib.hid (show LiesAt w g (off + i * 17 + 1) (cnC y.c q0) from fun j u hj => by
    have := hl (j + 1) u (by simpa [pgC] using hj)
    rwa [show off + i * 17 + (j + 1) = off + i * 17 + 1 + j from by omega] at this)
  have HROW := Lib.hid hrow
  clear hl hrow hg hX
  have c1 : w2.cell? ⟨B, 1, none⟩ = some (.slice (some ⟨g, off, none⟩) m cC) := HB02.out.at 1 _ rfl
  refine wp_region_lit ?_
  refine wpList_plain rfl (fun K hK => ?_); go_simp; refine hK _ _ ?_; clear hK K
  refine wpList_plain rfl (fun K hK => ?_); go_simp; refine hK _ _ ?_; clear hK K
  refine wpList_plain rfl (fun K hK => ?_); go_simp; refine hK _ _ ?_; clear hK K
  refine wpList_plain rfl (fun K hK => ?_); go_simp; refine hK _ _ ?_; clear hK K
  refine wpList_plain rfl (fun K hK => ?_); go_simp; refine hK _ _ ?_; clear hK K
  try simp only [Act.put, List.getElem_toArray, List.getElem_cons_succ, List.getElem_cons_zero, List.setIfInBounds_toArray, List.set_cons_zero, List.set_cons_succ]
  refine wpList_val rfl (v := .agg (cnC y.c q0).toArray) (w' := w2) ?_ ?_
  · show Sem.run Tryz.prog ((Instr.loadAt 94 (.pointer (some ⟨g, off + i * 17 + 1, none⟩))) >>= fun x => pure (Next.value x)) w2 = _
    rw [Sem.run_bind, load_all agg94 size94 (xs := cnC y.c q0) rfl (HLY.out.keep HF2.out (by simp))]
    rfl
  try simp only [Act.put, List.getElem_toArray, List.getElem_cons_succ, List.getElem_cons_zero, List.setIfInBounds_toArray, List.set_cons_zero, List.set_cons_succ]
  refine wpList_plain rfl (fun K hK => ?_); go_simp; refine hK _ _ ?_; clear hK K
  try simp only [Act.put, List.getElem_toArray, List.getElem_cons_succ, List.getElem_cons_zero, List.setIfInBounds_toArray, List.set_cons_zero, List.set_cons_succ]
  refine wpList_plain rfl (fun K hK => ?_)
  go_simp
  refine (dClose_0 y.c q0 _).mono ?_
  rintro e w3 ⟨rfl, f3⟩
  refine hK _ _ ?_
  clear hK K
  try simp only [Act.put, List.getElem_toArray, List.getElem_cons_succ, List.getElem_cons_zero, List.setIfInBounds_toArray, List.set_cons_zero, List.set_cons_succ]
  refine wpList_plain rfl (fun K hK => ?_); go_simp; refine hK _ _ ?_; clear hK K
  refine wpList_plain rfl (fun K hK => ?_); go_simp; refine hK _ _ ?_; clear hK K
  refine wpList_plain rfl (fun K hK => ?_); go_simp; refine hK _ _ ?_; clear hK K
  refine wpList_plain rfl (fun K hK => ?_); go_simp; refine hK _ _ ?_; clear hK K
  try simp only [Act.put, List.getElem_toArray, List.getElem_cons_succ, List.getElem_cons_zero, List.setIfInBounds_toArray, List.set_cons_zero, List.set_cons_succ]
  obtain ⟨E4, hE_⟩ : ∃ E, w3.heap.size = E := ⟨_, rfl⟩
  obtain ⟨wx, hw_⟩ : ∃ z, w3.alloc (.cells #[.int .i64 0, .slice none 0 0, .bool false, .slice none 0 0, .int .i64 0, .int .i64 0, .int .i64 0, .int .i64 0, .slice none 0 0, .bool false, .slice none 0 0, .int .i64 0, .int .i64 0, .int .i64 0, .bool false, .bool false] 94) = z := ⟨_, rfl⟩
  have hbx : Blk wx E4 94 zCn := by rw [← hw_, ← hE_]; exact Blk.made w3 94 zCn
  have fx : Fr [] w3 wx := by rw [← hw_]; exact (Fr.refl [] w3).alloc _
  rw [hw_]
  simp only [hE_]
  have HE4 := Lib.hid (show w.heap.size ≤ E4 ∧ B < E4 ∧ B + 1 < E4 from by rw [← hE_]; exact ⟨(HF2.out.step f3).size, (HB02.out.keep f3 (by simp)).lt, (HB12.out.keep f3 (by simp)).lt⟩)
  have HX := Lib.hid hbx
  have HF3 := Lib.hid ((HF2.out.step f3).step fx)
  have HB03 := Lib.hid ((HB02.out.keep f3 (by simp)).keep fx (by simp))
  have HB13 := Lib.hid ((HB12.out.keep f3 (by simp)).keep fx (by simp))
  clear f3 fx hbx hw_ hE_ HB02 HB12 HF2 c1
  obtain ⟨w4, hst, hb_, hf_⟩ := store_all (t := 94) (cnC (y.c.close false).1 (y.c.closeq q0 false)) size94 rfl (cnC_one _ _) HX.out rfl
  refine wpList_skp rfl (w' := w4) ?_ ?_
  · show Sem.run Tryz.prog ((Instr.storeAt 94 (.pointer (some ⟨E4, 0, none⟩)) (.agg (cnC (y.c.close false).1 (y.c.closeq q0 false)).toArray)) >>= fun _ => pure Next.skip) _ = _
    rw [Sem.run_bind, hst]
    rfl
  clear hst
  try simp only [Act.put, List.getElem_toArray, List.getElem_cons_succ, List.getElem_cons_zero, List.setIfInBounds_toArray, List.set_cons_zero, List.set_cons_succ]
  refine wpList_plain rfl (fun K hK => ?_); go_simp; refine hK _ _ ?_; clear hK K
  refine wpList_nil ?_
  try simp only [Act.put, List.getElem_toArray, List.getElem_cons_succ, List.getElem_cons_zero, List.setIfInBounds_toArray, List.set_cons_zero, List.set_cons_succ]
  have HX4 := Lib.hid hb_
  have HB04 := Lib.hid (HB03.out.keep hf_ (fun hm => by rw [List.mem_singleton] at hm; have := HE4.out; omega))
  have HB14 := Lib.hid (HB13.out.keep hf_ (fun hm => by rw [List.mem_singleton] at hm; have := HE4.out; omega))
  have HF4 := Lib.hid (HF3.out.own1 (S := []) (B := 0) hf_ HE4.out.1)
  clear hb_ hf_ HX HB03 HB13 HF3
  rw [HCL.out]
  go_upto_region 11 with fail
  refine wp_region_lit ?_
  refine wpList_val rfl (v := .agg (two (.slice aL n cL) (.slice (some ⟨g, off, none⟩) m cC)).toArray) (w' := w4) ?_ ?_
  · show Sem.run Tryz.prog ((Instr.loadAt 34 (.pointer (some ⟨B, 0, none⟩))) >>= fun x => pure (Next.value x)) w4 = _
    rw [Sem.run_bind, load_all agg34 size34 (xs := two (.slice aL n cL) (.slice (some ⟨g, off, none⟩) m cC)) rfl HB04.out.at]
    rfl
  try simp only [Act.put, List.getElem_toArray, List.getElem_cons_succ, List.getElem_cons_zero, List.setIfInBounds_toArray, List.set_cons_zero, List.set_cons_succ]
  refine wpList_plain rfl (fun K hK => ?_)
  go_simp
  refine (nCopy_any (.slice aL n cL) (.slice (some ⟨g, off, none⟩) m cC) D C _ (LRow.next HL.out HF4.out) (CRow.next HC.out HF4.out) HFIT.out).mono ?_
  rintro e w5 ⟨sL, sC, rfl, oL, oC, f5⟩
  refine hK _ _ ?_
  clear hK K
  try simp only [Act.put, List.getElem_toArray, List.getElem_cons_succ, List.getElem_cons_zero, List.setIfInBounds_toArray, List.set_cons_zero, List.set_cons_succ]
  refine wpList_plain rfl (fun K hK => ?_); go_simp; refine hK _ _ ?_; clear hK K
  try simp only [Act.put, List.getElem_toArray, List.getElem_cons_succ, List.getElem_cons_zero, List.setIfInBounds_toArray, List.set_cons_zero, List.set_cons_succ]
  have HOL5 := Lib.hid (oL.base (B' := B) (by rw [← HBS.out]; exact HF4.out.size))
  have HOC5 := Lib.hid (oC.base (B' := B) (by rw [← HBS.out]; exact HF4.out.size))
  have HX5 := Lib.hid (HX4.out.keep f5 (by simp))
  have HB15 := Lib.hid (HB14.out.keep f5 (by simp))
  have HF5 := Lib.hid (HF4.out.step f5)
  clear oL oC f5 HX4 HB04 HB14 HF4
  obtain ⟨E6, hE_⟩ : ∃ E, w5.heap.size = E := ⟨_, rfl⟩
  obtain ⟨wy, hw_⟩ : ∃ z, w5.alloc (.cells #[.slice none 0 0, .slice none 0 0] 34) = z := ⟨_, rfl⟩
  have hbx : Blk wy E6 34 zNt := by rw [← hw_, ← hE_]; exact Blk.made w5 34 zNt
  have fx : Fr [] w5 wy := by rw [← hw_]; exact (Fr.refl [] w5).alloc _
  rw [hw_]
  simp only [hE_]
  have HE6 := Lib.hid (show w.heap.size ≤ E6 ∧ B + 1 < E6 ∧ E4 < E6 from by rw [← hE_]; exact ⟨HF5.out.size, HB15.out.lt, HX5.out.lt⟩)
  have HY6 := Lib.hid hbx
  have HX6 := Lib.hid (HX5.out.keep fx (by simp))
  have HB16 := Lib.hid (HB15.out.keep fx (by simp))
  have HF6 := Lib.hid (HF5.out.step fx)
  have HOL6 := Lib.hid (HOL5.out.next fx)
  have HOC6 := Lib.hid (HOC5.out.next fx)
  clear fx hbx hw_ hE_ HX5 HB15 HF5 HOL5 HOC5
  obtain ⟨w7, hst, hb_, hf_⟩ := store_all (t := 34) (two (slv sL) (slv sC)) size34 rfl (two_one _ _) HY6.out rfl
  refine wpList_skp rfl (w' := w7) ?_ ?_
  · show Sem.run Tryz.prog ((Instr.storeAt 34 (.pointer (some ⟨E6, 0, none⟩)) (.agg (two (slv sL) (slv sC)).toArray)) >>= fun _ => pure Next.skip) _ = _
    rw [Sem.run_bind, hst]
    rfl
  clear hst
  try simp only [Act.put, List.getElem_toArray, List.getElem_cons_succ, List.getElem_cons_zero, List.setIfInBounds_toArray, List.set_cons_zero, List.set_cons_succ]
  refine wpList_nil ?_
  try simp only [Act.put, List.getElem_toArray, List.getElem_cons_succ, List.getElem_cons_zero, List.setIfInBounds_toArray, List.set_cons_zero, List.set_cons_succ]
  have HY7 := Lib.hid hb_
  have HX7 := Lib.hid (HX6.out.keep hf_ (fun hm => by rw [List.mem_singleton] at hm; have := HE6.out; omega))
  have HB17 := Lib.hid (HB16.out.keep hf_ (fun hm => by rw [List.mem_singleton] at hm; have := HE6.out; omega))
  have HF7 := Lib.hid (HF6.out.own1 (S := []) (B := 0) hf_ HE6.out.1)
  have HOL7 := Lib.hid (HOL6.out.far HY6.out hf_ (by decide) (by decide))
  obtain ⟨Xs, hrec, hown⟩ := HOC6.out.far HY6.out hf_ (by decide) (by decide)
  rw [HM.out] at hown
  have HREC7 := Lib.hid hrec
  have HOWN7 := Lib.hid hown
  clear hb_ hf_ HY6 HX6 HB16 HF6 HOL6 HOC6
  have hXi := List.getElem?_eq_getElem (l := Xs) (i := i) (by rw [hrec.len, HM.out]; exact hin)
  obtain ⟨X, hXX⟩ : ∃ X, Xs[i]'(by rw [hrec.len, HM.out]; exact hin) = X := ⟨_, rfl⟩
  rw [hXX] at hXi
  obtain ⟨q, rfl, hqo⟩ := hrec.el i X y hXi HY.out
  have HXI := Lib.hid hXi
  obtain ⟨sC1, sC2, sC3⟩ := sC
  obtain ⟨gC, hgC, hsn⟩ : ∃ gC, sC1 = some ⟨gC, 0, none⟩ ∧ sC2 = m := by
    rcases hown.2 with ⟨he, h0⟩ | ⟨gC, cap, cur, he, _⟩
    · omega
    · simp only [slv, Value.slice.injEq] at he
      exact ⟨gC, he.1, he.2.1⟩
  subst hgC
  subst hsn
  have c7 : w7.cell? ⟨E6, 1, none⟩ = some (.slice (some ⟨gC, 0, none⟩) sC2 sC3) := HY7.out.at 1 _ rfl
  clear hrec hown hqo hXi hXX
  go_upto_region 12 with fail
  refine wp_region_lit ?_
  refine wpList_plain rfl (fun K hK => ?_); go_simp; refine hK _ _ ?_; clear hK K
  refine wpList_plain rfl (fun K hK => ?_); go_simp; refine hK _ _ ?_; clear hK K
  refine wpList_plain rfl (fun K hK => ?_); go_simp; refine hK _ _ ?_; clear hK K
  try simp only [Act.put, List.getElem_toArray, List.getElem_cons_succ, List.getElem_cons_zero, List.setIfInBounds_toArray, List.set_cons_zero, List.set_cons_succ]
  refine wpList_val rfl (v := .agg (cnC (y.c.close false).1 (y.c.closeq q0 false)).toArray) (w' := w7) ?_ ?_
  · show Sem.run Tryz.prog ((Instr.loadAt 94 (.pointer (some ⟨E4, 0, none⟩))) >>= fun x => pure (Next.value x)) w7 = _
    rw [Sem.run_bind, load_all agg94 size94 (xs := cnC (y.c.close false).1 (y.c.closeq q0 false)) rfl HX7.out.at]
    rfl
  try simp only [Act.put, List.getElem_toArray, List.getElem_cons_succ, List.getElem_cons_zero, List.setIfInBounds_toArray, List.set_cons_zero, List.set_cons_succ]
  refine wpList_plain rfl (fun K hK => ?_); go_simp; refine hK _ _ ?_; clear hK K
  refine wpList_plain rfl (fun K hK => ?_); go_simp; refine hK _ _ ?_; clear hK K
  try simp only [Act.put, List.getElem_toArray, List.getElem_cons_succ, List.getElem_cons_zero, List.setIfInBounds_toArray, List.set_cons_zero, List.set_cons_succ]
  obtain ⟨w8, hst, hrow8, hf_⟩ := own_store (t := 94) (k := i * 17 + 1) (cnC (y.c.close false).1 (y.c.closeq q0 false)) (.agg (cnC (y.c.close false).1 (y.c.closeq q0 false)).toArray) size94 rfl rfl (cnC_one _ _) HOWN7.out (by show i * 17 + 1 + 16 ≤ sC2 * 17; omega)
  refine wpList_skp rfl (w' := w8) ?_ ?_
  · show Sem.run Tryz.prog ((Instr.storeAt 94 (.pointer (some ⟨gC, i * 17 + 1, none⟩)) (.agg (cnC (y.c.close false).1 (y.c.closeq q0 false)).toArray)) >>= fun _ => pure Next.skip) _ = _
    rw [Sem.run_bind, hst]
    rfl
  clear hst c7
  try simp only [Act.put, List.getElem_toArray, List.getElem_cons_succ, List.getElem_cons_zero, List.setIfInBounds_toArray, List.set_cons_zero, List.set_cons_succ]
  refine wpList_nil ?_
  try simp only [Act.put, List.getElem_toArray, List.getElem_cons_succ, List.getElem_cons_zero, List.setIfInBounds_toArray, List.set_cons_zero, List.set_cons_succ]
  have hfo : Fr (Value.ownBlock (slv (some ⟨gC, 0, none⟩, sC2, sC3))).toList w7 w8 := hf_
  have HY8 := Lib.hid (HY7.out.farRow HOWN7.out hfo (by decide))
  have HX8 := Lib.hid (HX7.out.farRow HOWN7.out hfo (by decide))
  have HB18 := Lib.hid (HB17.out.farRow HOWN7.out hfo (by decide))
  have HF8 := Lib.hid (HF7.out.ownRow HOWN7.out hfo (by rw [HBS.out]; exact Nat.le_refl _))
  have HOL8 := Lib.hid (HOL7.out.farRow HOWN7.out hfo (by decide) (by decide))
  have HREC8 := Lib.hid (HREC7.out.mono (fun X z ⟨s, e1, e2⟩ => (⟨s, e1, ⟨rowFar e2.b0 HOWN7.out hfo (by decide), rowFar e2.r0 HOWN7.out hfo (by decide), rowFar e2.b1 HOWN7.out hfo (by decide), rowFar e2.r1 HOWN7.out hfo (by decide)⟩⟩ : ElCO B w8 X z)))
  have HOWN8 := Lib.hid (show w8.ownsRow B 96 17 (slv (some ⟨gC, 0, none⟩, sC2, sC3)) sC2 (Xs.set i (pgC ⟨y.ref, (y.c.close false).1⟩ (y.c.closeq q0 false))).flatten from by
    have hfl := flat_set (vs := cnC (y.c.close false).1 (y.c.closeq q0 false)) (a := 1) HREC7.out.sz HXI.out (by show 1 + 16 ≤ 17; omega)
    have hX' : (pgC y q).take 1 ++ cnC (y.c.close false).1 (y.c.closeq q0 false) ++ (pgC y q).drop (1 + (cnC (y.c.close false).1 (y.c.closeq q0 false)).length) = pgC ⟨y.ref, (y.c.close false).1⟩ (y.c.closeq q0 false) := rfl
    rw [hX'] at hfl
    rw [hfl]
    exact hrow8)
  clear hfo hf_ hrow8 HY7 HX7 HB17 HF7 HOL7 HREC7 HOWN7
  have k0 : w8.cell? ⟨E4, 14, none⟩ = some (.bool (y.c.close false).1.a0) := HX8.out.at 14 _ rfl
  have k1 : w8.cell? ⟨E4, 15, none⟩ = some (.bool (y.c.close false).1.a1) := HX8.out.at 15 _ rfl
  obtain ⟨b0, hb0⟩ : ∃ z, (y.c.close false).1.a0 = z := ⟨_, rfl⟩
  obtain ⟨b1, hb1⟩ : ∃ z, (y.c.close false).1.a1 = z := ⟨_, rfl⟩
  have HB01 := Lib.hid HBO.out
  rw [hb0, hb1] at HB01
  rw [hb0] at k0
  rw [hb1] at k1
  clear hb0 hb1
  obtain ⟨rfl, rfl⟩ : b0 = true ∧ b1 = true := by
    have := HB01.out
    cases b0 <;> cases b1 <;> simp_all
  obtain ⟨a0, ht0, hr0⟩ := own_slice_to elemConn HOWN8.out i (by omega)
  obtain ⟨vr, hvr, hrr⟩ := own_slice_from elemConn HOWN8.out (i + 1) (by omega)
  have hty0 : TyR w8 B (.slice a0 i i) 96 := by
    obtain ⟨_, htt, hss⟩ := elemConn.el
    intro gg hgg
    have hrun := ht0 w8
    rw [show slv (some ⟨gC, 0, none⟩, sC2, sC3) = .slice (some ⟨gC, 0, none⟩) sC2 sC3 from rfl, run_slice_hm w8 _ _ _ _ htt .i64 .i64 i i (by omega) (by omega) (by
      rcases HOWN8.out.2 with ⟨he, _⟩ | ⟨g1, cap, cur, he, _, _, hnc, _⟩
      · cases he
      · simp only [slv, Value.slice.injEq] at he
        omega), hss] at hrun
    simp only [Result.andThen_ok, Result.ok.injEq, sliced, Value.slice.injEq, and_true] at hrun
    have ha : a0 = some ⟨gC, 0, none⟩ := by
      rw [← hrun.1]
      split
      · rfl
      · simp [Addr.add_lit]
    rw [ha] at hgg
    simp only [Value.ownBlock, Option.some.injEq] at hgg
    subst hgg
    exact TyR.of_own HOWN8.out gC rfl
  have hlen8 : (Xs.set i (pgC ⟨y.ref, (y.c.close false).1⟩ (y.c.closeq q0 false))).length = sC2 := by rw [List.length_set, HREC8.out.len, HM.out]
  have hsz8 : ∀ X ∈ Xs.set i (pgC ⟨y.ref, (y.c.close false).1⟩ (y.c.closeq q0 false)), X.length = 17 := fun X hX => by
    rcases List.mem_or_eq_of_mem_set hX with hX | rfl
    · exact HREC8.out.sz X hX
    · rfl
  have HR0 := Lib.hid (show RowV w8 (.slice a0 i i) i 17 (Xs.take i).flatten from by
    rw [flat_take i hsz8, List.take_set_of_le (Nat.le_refl i)] at hr0
    exact hr0)
  have HRR := Lib.hid (show RowV w8 vr (sC2 - (i + 1)) 17 (Xs.drop (i + 1)).flatten from by
    rw [flat_drop (i + 1) hsz8, List.drop_set_of_lt (Nat.lt_succ_self i)] at hrr
    exact hrr)
  have HTY := Lib.hid hty0
  clear hr0 hrr hty0 hlen8 hsz8
  obtain ⟨w9, hw9⟩ : ∃ z, w8.drew = z := ⟨_, rfl⟩
  have f9 : Fr [] w8 w9 := by rw [← hw9]; exact (Fr.refl [] w8).drew
  have HY9 := Lib.hid (HY8.out.keep f9 (by simp))
  have HF89 := Lib.hid f9
  have HW9 := Lib.hid hw9
  clear hw9 f9
  go_upto_region 14 with fail
  clear k0 k1
  refine wp_region_held_drew (S := fun _ => True) (by kernel_rfl) (trivial) (fun hHeld => ?_)
  clear hHeld
  rw [HW9.out]
  have hi9 : (i : Int) < 1000 := by have := HFIT.out.nc; rw [HM.out] at this; omega
  refine wpAnyH_take (i := 0) (oi := _) (v := ?_) rfl (by kernel_rfl) (by kernel_rfl) (by kernel_rfl) (fun _ _ _ h => h) (Or.inl ⟨by rfl, ?_⟩) (by first | assumption | trivial) ?_
  rotate_left
  · intro w hSw; (try dsimp only at hSw); go_simp; try with_reducible rfl
  try simp only [Act.put, List.getElem_toArray, List.getElem_cons_succ, List.getElem_cons_zero, List.setIfInBounds_toArray, List.set_cons_zero, List.set_cons_succ]
  refine wpAnyH_take (i := 2) (oi := _) (v := ?_) rfl (by kernel_rfl) (by kernel_rfl) (by kernel_rfl) (fun _ _ _ h => h) (Or.inl ⟨by rfl, ?_⟩) (by first | assumption | trivial) ?_
  rotate_left
  · intro w hSw; (try dsimp only at hSw); go_simp; try with_reducible rfl
  try simp only [Act.put, List.getElem_toArray, List.getElem_cons_succ, List.getElem_cons_zero, List.setIfInBounds_toArray, List.set_cons_zero, List.set_cons_succ]
  refine wpAnyH_take (i := 3) (oi := _) (v := ?_) rfl (by kernel_rfl) (by kernel_rfl) (by kernel_rfl) (fun _ _ _ h => h) (Or.inl ⟨by rfl, ?_⟩) (by first | assumption | trivial) ?_
  rotate_left
  · intro w hSw; (try dsimp only at hSw); go_simp; try with_reducible rfl
  try simp only [Act.put, List.getElem_toArray, List.getElem_cons_succ, List.getElem_cons_zero, List.setIfInBounds_toArray, List.set_cons_zero, List.set_cons_succ]
  refine wpAnyH_take (i := 5) (oi := _) (v := ?_) rfl (by kernel_rfl) (by kernel_rfl) (by kernel_rfl) (fun _ _ _ h => h) (Or.inl ⟨by rfl, ?_⟩) (by first | assumption | trivial) ?_
  rotate_left
  · intro w hSw; (try dsimp only at hSw); go_simp; try with_reducible rfl
  try simp only [Act.put, List.getElem_toArray, List.getElem_cons_succ, List.getElem_cons_zero, List.setIfInBounds_toArray, List.set_cons_zero, List.set_cons_succ]
  refine wpAnyH_take (i := 7) (oi := _) (v := ?_) rfl (by kernel_rfl) (by kernel_rfl) (by kernel_rfl) (fun _ _ _ h => h) (Or.inl ⟨by rfl, ?_⟩) (by first | assumption | trivial) ?_
  rotate_left
  · intro w hSw; (try dsimp only at hSw); go_simp; try with_reducible rfl
  try simp only [Act.put, List.getElem_toArray, List.getElem_cons_succ, List.getElem_cons_zero, List.setIfInBounds_toArray, List.set_cons_zero, List.set_cons_succ]
  refine wpAnyH_take (i := 8) (oi := _) (v := .int .i64 ((i + 1 : Nat) : Int)) rfl (by kernel_rfl) (by kernel_rfl) (by kernel_rfl) (fun _ _ _ h => h) (Or.inl ⟨by rfl, ?_⟩) (by first | assumption | trivial) ?_
  · intro w hSw
    try dsimp only at hSw
    go_simp
    exact IntWalk.i64_in _ (by omega)
  try simp only [Act.put, List.getElem_toArray, List.getElem_cons_succ, List.getElem_cons_zero, List.setIfInBounds_toArray, List.set_cons_zero, List.set_cons_succ]
  refine wpAnyH_ready (rs := [1, 6]) (by kernel_rfl) (by simp) ?_
  refine AllReadyH.cons (o := _) rfl (fun K hK => ?_) (AllReadyH.cons (o := _) rfl (fun K hK => ?_) AllReadyH.nil)
  · skip
    have c6 : w9.cell? ⟨E6, 1, none⟩ = some (.slice (some ⟨gC, 0, none⟩) sC2 sC3) := HY9.out.at 1 _ rfl
    go_simp
    refine hK.out _ _ (trivial) (fun hHeld => ?_)
    clear hK K
    clear hHeld
    try simp only [Act.put, List.getElem_toArray, List.getElem_cons_succ, List.getElem_cons_zero, List.setIfInBounds_toArray, List.set_cons_zero, List.set_cons_succ]
    clear c6
    refine wpAnyH_take (i := 4) (oi := _) (v := .slice a0 i i) rfl (by kernel_rfl) (by kernel_rfl) (by kernel_rfl) (fun _ _ _ h => h) (Or.inl ⟨by rfl, ?_⟩) (by first | assumption | trivial) ?_
    · intro w hSw
      try dsimp only at hSw
      exact exec_slice_to (V := slv (some ⟨gC, 0, none⟩, sC2, sC3)) (H := .int .i64 i) (M := .int .i64 i) rfl rfl rfl rfl elemConn.el.2.1 (ht0 w)
    try simp only [Act.put, List.getElem_toArray, List.getElem_cons_succ, List.getElem_cons_zero, List.setIfInBounds_toArray, List.set_cons_zero, List.set_cons_succ]
    refine wpAnyH_ready (rs := [6]) (by kernel_rfl) (by simp) ?_
    refine AllReadyH.cons (o := _) rfl (fun K hK => ?_) AllReadyH.nil
    have c6 : w9.cell? ⟨E6, 1, none⟩ = some (.slice (some ⟨gC, 0, none⟩) sC2 sC3) := HY9.out.at 1 _ rfl
    go_simp
    refine hK.out _ _ (trivial) (fun hHeld => ?_)
    clear hK K
    clear hHeld
    try simp only [Act.put, List.getElem_toArray, List.getElem_cons_succ, List.getElem_cons_zero, List.setIfInBounds_toArray, List.set_cons_zero, List.set_cons_succ]
    clear c6
    refine wpAnyH_take (i := 9) (oi := _) (v := vr) rfl (by kernel_rfl) (by kernel_rfl) (by kernel_rfl) (fun _ _ _ h => h) (Or.inl ⟨by rfl, ?_⟩) (by first | assumption | trivial) ?_
    · intro w hSw
      try dsimp only at hSw
      exact exec_slice_from (V := slv (some ⟨gC, 0, none⟩, sC2, sC3)) (L := .int .i64 ((i + 1 : Nat) : Int)) rfl rfl rfl elemConn.el.2.1 (hvr w)
    try simp only [Act.put, List.getElem_toArray, List.getElem_cons_succ, List.getElem_cons_zero, List.setIfInBounds_toArray, List.set_cons_zero, List.set_cons_succ]
    refine wpAnyH_ready (rs := [10]) (by kernel_rfl) (by simp) ?_
    refine AllReadyH.cons (o := _) rfl (fun K hK => ?_) AllReadyH.nil
    split
    rotate_left
    · rename_i hno
      exact absurd rfl hno
    refine wp_append_rd elemConn _ _ rfl (a0 := a0) (n := i) (xs := (Xs.take i).flatten) rfl (HR0.out.new HF89.out) (by rw [← HBS.out]; exact (HF8.out.step HF89.out).size) (HTY.out.keep HF89.out (fun g _ hm => by cases hm)) (X := vr) (m := sC2 - (i + 1)) (news := (Xs.drop (i + 1)).flatten) rfl (HRR.out.new HF89.out) (by have := HFIT.out.nc; rw [HM.out] at this; omega) (by decide) ?_
    intro sC' w10 hr10 ht10 f10
    have HY10 := Lib.hid (HY9.out.keep f10 (by simp))
    have HB110 := Lib.hid ((HB18.out.keep HF89.out (by simp)).keep f10 (by simp))
    have HF10 := Lib.hid ((HF8.out.step HF89.out).step f10)
    have HOL10 := Lib.hid ((HOL8.out.next HF89.out).next f10)
    have HREC10 := Lib.hid (HREC8.out.mono (fun X z ⟨s, e1, e2⟩ => (⟨s, e1, (e2.new HF89.out).new f10⟩ : ElCO B w10 X z)))
    have HR10 := Lib.hid hr10
    have HT10 := Lib.hid ht10
    clear hr10 ht10 f10
    refine hK.out _ _ (trivial) (fun hHeld => ?_)
    clear hK K
    clear hHeld
    try simp only [Act.put, List.getElem_toArray, List.getElem_cons_succ, List.getElem_cons_zero, List.setIfInBounds_toArray, List.set_cons_zero, List.set_cons_succ]
    refine wpAnyH_take (i := 11) (oi := _) (v := ?_) rfl (by kernel_rfl) (by kernel_rfl) (by kernel_rfl) (fun _ _ _ h => h) (Or.inl ⟨by rfl, ?_⟩) (by first | assumption | trivial) ?_
    rotate_left
    · intro w hSw; (try dsimp only at hSw); go_simp; try with_reducible rfl
    try simp only [Act.put, List.getElem_toArray, List.getElem_cons_succ, List.getElem_cons_zero, List.setIfInBounds_toArray, List.set_cons_zero, List.set_cons_succ]
    refine wpAnyH_ready (rs := [12]) (by kernel_rfl) (by simp) ?_
    refine AllReadyH.cons (o := _) rfl (fun K hK => ?_) AllReadyH.nil
    obtain ⟨w11, hst, hb_, hf_⟩ := store_cell (t := 32) (o := 1) (slv sC') size32 rfl rfl HY10.out (by show 1 + 1 ≤ 2; omega)
    split
    rotate_left
    · rename_i hno
      exact absurd rfl hno
    refine wp_skp (w' := w11) ?_ ?_
    · show Sem.run Tryz.prog ((Instr.storeAt 32 (.pointer (some ⟨E6, 1, none⟩)) (slv sC')) >>= fun _ => pure Next.skip) _ = _
      rw [Sem.run_bind, hst]
      rfl
    clear hst
    have HY11 := Lib.hid (show Blk w11 E6 34 (two (slv sL) (slv sC')) from hb_)
    have HB111 := Lib.hid (HB110.out.keep hf_ (fun hm => by rw [List.mem_singleton] at hm; have := HE6.out; omega))
    have HF11 := Lib.hid (HF10.out.own1 (S := []) (B := 0) hf_ HE6.out.1)
    have HOL11 := Lib.hid (HOL10.out.far HY10.out hf_ (by decide) (by decide))
    have HREC11 := Lib.hid (HREC10.out.mono (fun X z ⟨s, e1, e2⟩ => (⟨s, e1, e2.store HY10.out hf_ (by decide)⟩ : ElCO B w11 X z)))
    have hnn : ∀ g, (slv sC').ownBlock = some g → g ∉ [E6] := fun g hg hm => by
      rw [List.mem_singleton] at hm
      subst hm
      exact HT10.out.ne HY10.out (by decide) hg
    have HR11 := Lib.hid (HR10.out.not hf_ hnn)
    have HT11 := Lib.hid (HT10.out.keep hf_ hnn)
    clear hb_ hf_ hnn
    refine hK.out _ _ (trivial) (fun hHeld => ?_)
    clear hK K
    clear hHeld
    try simp only [Act.put, List.getElem_toArray, List.getElem_cons_succ, List.getElem_cons_zero, List.setIfInBounds_toArray, List.set_cons_zero, List.set_cons_succ]
    refine wpAnyH_done (by kernel_rfl) ?_ _
    clear HY8 HB18 HF8 HOL8 HREC8 HOWN8 HR0 HRR HTY HY9 HF89 HW9 HY10 HB110 HF10 HOL10 HREC10 HR10 HT10
    go_upto_region 15 with fail
    refine wp_region_lit ?_
    refine wpList_val rfl (v := .agg (two (slv sL) (slv sC')).toArray) (w' := w11) ?_ ?_
    · show Sem.run Tryz.prog ((Instr.loadAt 34 (.pointer (some ⟨E6, 0, none⟩))) >>= fun x => pure (Next.value x)) w11 = _
      rw [Sem.run_bind, load_all agg34 size34 (xs := two (slv sL) (slv sC')) rfl HY11.out.at]
      rfl
    try simp only [Act.put, List.getElem_toArray, List.getElem_cons_succ, List.getElem_cons_zero, List.setIfInBounds_toArray, List.set_cons_zero, List.set_cons_succ]
    obtain ⟨w15, hst, hb_, hf_⟩ := store_all (t := 34) (two (slv sL) (slv sC')) size34 rfl (two_one _ _) HB111.out rfl
    refine wpList_skp rfl (w' := w15) ?_ ?_
    · show Sem.run Tryz.prog ((Instr.storeAt 34 (.pointer (some ⟨B + 1, 0, none⟩)) (.agg (two (slv sL) (slv sC')).toArray)) >>= fun _ => pure Next.skip) _ = _
      rw [Sem.run_bind, hst]
      rfl
    clear hst
    try simp only [Act.put, List.getElem_toArray, List.getElem_cons_succ, List.getElem_cons_zero, List.setIfInBounds_toArray, List.set_cons_zero, List.set_cons_succ]
    refine wpList_plain rfl (fun K hK => ?_); go_simp; refine hK _ _ ?_; clear hK K
    refine wpList_nil ?_
    try simp only [Act.put, List.getElem_toArray, List.getElem_cons_succ, List.getElem_cons_zero, List.setIfInBounds_toArray, List.set_cons_zero, List.set_cons_succ]
    have HR15 := Lib.hid hb_
    have HF15 := Lib.hid (HF11.out.own1 (S := []) (B := 0) hf_ (by have := HBS.out; omega))
    have HOL15 := Lib.hid (HOL11.out.far HB111.out hf_ (by decide) (by decide))
    have HCR15 := Lib.hid (show CRd w15 B (slv sC') (C.take i ++ C.drop (i + 1)) from by
      refine ⟨?_, fun g hg => (HT11.out g hg).1⟩
      refine ⟨Xs.take i ++ Xs.drop (i + 1), ?_, ?_⟩
      · have h0 := HREC11.out.mono (fun X z ⟨s, e1, e2⟩ => (⟨s, e1, (e2.store HB111.out hf_ (by decide)).b⟩ : ElC w15 X z))
        exact (h0.take i).app (h0.drop (i + 1))
      · have hlen : (C.take i ++ C.drop (i + 1)).length = i + (sC2 - (i + 1)) := by
          rw [List.length_append, List.length_take, List.length_drop, HM.out]
          omega
        rw [hlen, List.flatten_append]
        exact HR11.out.not hf_ (fun g hg hm => by rw [List.mem_singleton] at hm; subst hm; exact HT11.out.ne HB111.out (by decide) hg))
    clear hb_ hf_
    go_wp2
    have hl := load_var agg34 size34 (xs := two (slv sL) (slv sC')) rfl HR15.out.at
    refine bodyPost_ret (v := .tuple #[.agg (two (slv sL) (slv sC')).toArray, .int .i64 0]) (by simp [results, Tryz.results17, as_addr, hl]) rfl ?_
    exact ⟨sL, sC', rfl, by rw [HBS.out]; exact HOL15.out.ro, by rw [HBS.out]; exact HCR15.out, HF15.out⟩
  · skip
    have c6 : w9.cell? ⟨E6, 1, none⟩ = some (.slice (some ⟨gC, 0, none⟩) sC2 sC3) := HY9.out.at 1 _ rfl
    go_simp
    refine hK.out _ _ (trivial) (fun hHeld => ?_)
    clear hK K
    clear hHeld
    try simp only [Act.put, List.getElem_toArray, List.getElem_cons_succ, List.getElem_cons_zero, List.setIfInBounds_toArray, List.set_cons_zero, List.set_cons_succ]
    clear c6
    refine wpAnyH_take (i := 9) (oi := _) (v := vr) rfl (by kernel_rfl) (by kernel_rfl) (by kernel_rfl) (fun _ _ _ h => h) (Or.inl ⟨by rfl, ?_⟩) (by first | assumption | trivial) ?_
    · intro w hSw
      try dsimp only at hSw
      exact exec_slice_from (V := slv (some ⟨gC, 0, none⟩, sC2, sC3)) (L := .int .i64 ((i + 1 : Nat) : Int)) rfl rfl rfl elemConn.el.2.1 (hvr w)
    try simp only [Act.put, List.getElem_toArray, List.getElem_cons_succ, List.getElem_cons_zero, List.setIfInBounds_toArray, List.set_cons_zero, List.set_cons_succ]
    refine wpAnyH_ready (rs := [1]) (by kernel_rfl) (by simp) ?_
    refine AllReadyH.cons (o := _) rfl (fun K hK => ?_) AllReadyH.nil
    have c6 : w9.cell? ⟨E6, 1, none⟩ = some (.slice (some ⟨gC, 0, none⟩) sC2 sC3) := HY9.out.at 1 _ rfl
    go_simp
    refine hK.out _ _ (trivial) (fun hHeld => ?_)
    clear hK K
    clear hHeld
    try simp only [Act.put, List.getElem_toArray, List.getElem_cons_succ, List.getElem_cons_zero, List.setIfInBounds_toArray, List.set_cons_zero, List.set_cons_succ]
    clear c6
    refine wpAnyH_take (i := 4) (oi := _) (v := .slice a0 i i) rfl (by kernel_rfl) (by kernel_rfl) (by kernel_rfl) (fun _ _ _ h => h) (Or.inl ⟨by rfl, ?_⟩) (by first | assumption | trivial) ?_
    · intro w hSw
      try dsimp only at hSw
      exact exec_slice_to (V := slv (some ⟨gC, 0, none⟩, sC2, sC3)) (H := .int .i64 i) (M := .int .i64 i) rfl rfl rfl rfl elemConn.el.2.1 (ht0 w)
    try simp only [Act.put, List.getElem_toArray, List.getElem_cons_succ, List.getElem_cons_zero, List.setIfInBounds_toArray, List.set_cons_zero, List.set_cons_succ]
    refine wpAnyH_ready (rs := [10]) (by kernel_rfl) (by simp) ?_
    refine AllReadyH.cons (o := _) rfl (fun K hK => ?_) AllReadyH.nil
    split
    rotate_left
    · rename_i hno
      exact absurd rfl hno
    refine wp_append_rd elemConn _ _ rfl (a0 := a0) (n := i) (xs := (Xs.take i).flatten) rfl (HR0.out.new HF89.out) (by rw [← HBS.out]; exact (HF8.out.step HF89.out).size) (HTY.out.keep HF89.out (fun g _ hm => by cases hm)) (X := vr) (m := sC2 - (i + 1)) (news := (Xs.drop (i + 1)).flatten) rfl (HRR.out.new HF89.out) (by have := HFIT.out.nc; rw [HM.out] at this; omega) (by decide) ?_
    intro sC' w10 hr10 ht10 f10
    have HY10 := Lib.hid (HY9.out.keep f10 (by simp))
    have HB110 := Lib.hid ((HB18.out.keep HF89.out (by simp)).keep f10 (by simp))
    have HF10 := Lib.hid ((HF8.out.step HF89.out).step f10)
    have HOL10 := Lib.hid ((HOL8.out.next HF89.out).next f10)
    have HREC10 := Lib.hid (HREC8.out.mono (fun X z ⟨s, e1, e2⟩ => (⟨s, e1, (e2.new HF89.out).new f10⟩ : ElCO B w10 X z)))
    have HR10 := Lib.hid hr10
    have HT10 := Lib.hid ht10
    clear hr10 ht10 f10
    refine hK.out _ _ (trivial) (fun hHeld => ?_)
    clear hK K
    clear hHeld
    try simp only [Act.put, List.getElem_toArray, List.getElem_cons_succ, List.getElem_cons_zero, List.setIfInBounds_toArray, List.set_cons_zero, List.set_cons_succ]
    refine wpAnyH_take (i := 11) (oi := _) (v := ?_) rfl (by kernel_rfl) (by kernel_rfl) (by kernel_rfl) (fun _ _ _ h => h) (Or.inl ⟨by rfl, ?_⟩) (by first | assumption | trivial) ?_
    rotate_left
    · intro w hSw; (try dsimp only at hSw); go_simp; try with_reducible rfl
    try simp only [Act.put, List.getElem_toArray, List.getElem_cons_succ, List.getElem_cons_zero, List.setIfInBounds_toArray, List.set_cons_zero, List.set_cons_succ]
    refine wpAnyH_ready (rs := [12]) (by kernel_rfl) (by simp) ?_
    refine AllReadyH.cons (o := _) rfl (fun K hK => ?_) AllReadyH.nil
    obtain ⟨w11, hst, hb_, hf_⟩ := store_cell (t := 32) (o := 1) (slv sC') size32 rfl rfl HY10.out (by show 1 + 1 ≤ 2; omega)
    split
    rotate_left
    · rename_i hno
      exact absurd rfl hno
    refine wp_skp (w' := w11) ?_ ?_
    · show Sem.run Tryz.prog ((Instr.storeAt 32 (.pointer (some ⟨E6, 1, none⟩)) (slv sC')) >>= fun _ => pure Next.skip) _ = _
      rw [Sem.run_bind, hst]
      rfl
    clear hst
    have HY11 := Lib.hid (show Blk w11 E6 34 (two (slv sL) (slv sC')) from hb_)
    have HB111 := Lib.hid (HB110.out.keep hf_ (fun hm => by rw [List.mem_singleton] at hm; have := HE6.out; omega))
    have HF11 := Lib.hid (HF10.out.own1 (S := []) (B := 0) hf_ HE6.out.1)
    have HOL11 := Lib.hid (HOL10.out.far HY10.out hf_ (by decide) (by decide))
    have HREC11 := Lib.hid (HREC10.out.mono (fun X z ⟨s, e1, e2⟩ => (⟨s, e1, e2.store HY10.out hf_ (by decide)⟩ : ElCO B w11 X z)))
    have hnn : ∀ g, (slv sC').ownBlock = some g → g ∉ [E6] := fun g hg hm => by
      rw [List.mem_singleton] at hm
      subst hm
      exact HT10.out.ne HY10.out (by decide) hg
    have HR11 := Lib.hid (HR10.out.not hf_ hnn)
    have HT11 := Lib.hid (HT10.out.keep hf_ hnn)
    clear hb_ hf_ hnn
    refine hK.out _ _ (trivial) (fun hHeld => ?_)
    clear hK K
    clear hHeld
    try simp only [Act.put, List.getElem_toArray, List.getElem_cons_succ, List.getElem_cons_zero, List.setIfInBounds_toArray, List.set_cons_zero, List.set_cons_succ]
    refine wpAnyH_done (by kernel_rfl) ?_ _
    clear HY8 HB18 HF8 HOL8 HREC8 HOWN8 HR0 HRR HTY HY9 HF89 HW9 HY10 HB110 HF10 HOL10 HREC10 HR10 HT10
    go_upto_region 15 with fail
    refine wp_region_lit ?_
    refine wpList_val rfl (v := .agg (two (slv sL) (slv sC')).toArray) (w' := w11) ?_ ?_
    · show Sem.run Tryz.prog ((Instr.loadAt 34 (.pointer (some ⟨E6, 0, none⟩))) >>= fun x => pure (Next.value x)) w11 = _
      rw [Sem.run_bind, load_all agg34 size34 (xs := two (slv sL) (slv sC')) rfl HY11.out.at]
      rfl
    try simp only [Act.put, List.getElem_toArray, List.getElem_cons_succ, List.getElem_cons_zero, List.setIfInBounds_toArray, List.set_cons_zero, List.set_cons_succ]
    obtain ⟨w15, hst, hb_, hf_⟩ := store_all (t := 34) (two (slv sL) (slv sC')) size34 rfl (two_one _ _) HB111.out rfl
    refine wpList_skp rfl (w' := w15) ?_ ?_
    · show Sem.run Tryz.prog ((Instr.storeAt 34 (.pointer (some ⟨B + 1, 0, none⟩)) (.agg (two (slv sL) (slv sC')).toArray)) >>= fun _ => pure Next.skip) _ = _
      rw [Sem.run_bind, hst]
      rfl
    clear hst
    try simp only [Act.put, List.getElem_toArray, List.getElem_cons_succ, List.getElem_cons_zero, List.setIfInBounds_toArray, List.set_cons_zero, List.set_cons_succ]
    refine wpList_plain rfl (fun K hK => ?_); go_simp; refine hK _ _ ?_; clear hK K
    refine wpList_nil ?_
    try simp only [Act.put, List.getElem_toArray, List.getElem_cons_succ, List.getElem_cons_zero, List.setIfInBounds_toArray, List.set_cons_zero, List.set_cons_succ]
    have HR15 := Lib.hid hb_
    have HF15 := Lib.hid (HF11.out.own1 (S := []) (B := 0) hf_ (by have := HBS.out; omega))
    have HOL15 := Lib.hid (HOL11.out.far HB111.out hf_ (by decide) (by decide))
    have HCR15 := Lib.hid (show CRd w15 B (slv sC') (C.take i ++ C.drop (i + 1)) from by
      refine ⟨?_, fun g hg => (HT11.out g hg).1⟩
      refine ⟨Xs.take i ++ Xs.drop (i + 1), ?_, ?_⟩
      · have h0 := HREC11.out.mono (fun X z ⟨s, e1, e2⟩ => (⟨s, e1, (e2.store HB111.out hf_ (by decide)).b⟩ : ElC w15 X z))
        exact (h0.take i).app (h0.drop (i + 1))
      · have hlen : (C.take i ++ C.drop (i + 1)).length = i + (sC2 - (i + 1)) := by
          rw [List.length_append, List.length_take, List.length_drop, HM.out]
          omega
        rw [hlen, List.flatten_append]
        exact HR11.out.not hf_ (fun g hg hm => by rw [List.mem_singleton] at hm; subst hm; exact HT11.out.ne HB111.out (by decide) hg))
    clear hb_ hf_
    go_wp2
    have hl := load_var agg34 size34 (xs := two (slv sL) (slv sC')) rfl HR15.out.at
    refine bodyPost_ret (v := .tuple #[.agg (two (slv sL) (slv sC')).toArray, .int .i64 0]) (by simp [results, Tryz.results17, as_addr, hl]) rfl ?_
    exact ⟨sL, sC', rfl, by rw [HBS.out]; exact HOL15.out.ro, by rw [HBS.out]; exact HCR15.out, HF15.out⟩
theorem nHang_closed_1 (vL vC : Value) (D : List PN.PL) (C : List PG) (k : Int) (w : World) (hL : LRow w vL D) (hC : CRow w vC C) (hn : NetFit D C) (i : Nat) (y : PG) (hi : PN.pick (refG k) C 0 = some (i, y)) (hw : k ∉ PN.waitsOf D) (ha : y.c.a1 = true) :
    Calls Tryz.prog 17 #[.agg #[vL, vC], .int .i64 k, .int .i64 1] w fun e w' => e = .returned (.tuple #[.agg #[vL, vC], .int .i64 14]) ∧ Fr [] w w' := by
  obtain ⟨n, hnl⟩ : ∃ n, D.length = n := ⟨_, rfl⟩
  obtain ⟨m, hml⟩ : ∃ m, C.length = m := ⟨_, rfl⟩
  obtain ⟨aL, cL, rfl⟩ := hL.val
  obtain ⟨aC, cC, rfl⟩ := hC.val
  rw [hnl] at hL ⊢
  rw [hml] at hC ⊢
  have HN := Lib.hid hnl
  have HM := Lib.hid hml
  obtain ⟨B, hB⟩ : ∃ B, w.heap.size = B := ⟨_, rfl⟩
  obtain ⟨wA, hwA⟩ : ∃ z, (w.alloc (.cells #[.slice aL n cL, .slice aC m cC] 34)).alloc (.cells #[.slice none 0 0, .slice none 0 0] 34) = z := ⟨_, rfl⟩
  have f2 := (Fr.refl [] (w.alloc (.cells #[.slice aL n cL, .slice aC m cC] 34))).alloc (.cells #[.slice none 0 0, .slice none 0 0] 34)
  have hb0 : Blk wA B 34 (two (.slice aL n cL) (.slice aC m cC)) := by
    rw [← hwA, ← hB]
    exact (Blk.made w 34 (two (.slice aL n cL) (.slice aC m cC))).keep f2 (by simp)
  have hb1 : Blk wA (B + 1) 34 zNt := by
    have h := Blk.made (w.alloc (.cells #[.slice aL n cL, .slice aC m cC] 34)) 34 zNt
    rw [show (w.alloc (.cells #[.slice aL n cL, .slice aC m cC] 34)).heap.size = B + 1 from by rw [← hB]; simp] at h
    rw [← hwA]
    exact h
  have hf : Fr [] w wA := by rw [← hwA]; exact ((Fr.refl [] w).alloc _).step f2
  have HB0 := Lib.hid hb0
  have HB1 := Lib.hid hb1
  have HF := Lib.hid hf
  have HBS := Lib.hid hB
  have HWA := Lib.hid hwA
  have HL := Lib.hid hL
  have HC := Lib.hid hC
  clear hb0 hb1 hf hB hwA f2 hL hC hnl hml
  have HFIT := Lib.hid hn
  clear hn
  have hY := place_some hi
  have hin : i < m := by rw [← HM.out]; exact (List.getElem?_eq_some_iff.1 hY).1
  have HI := Lib.hid hi
  have HY := Lib.hid hY
  have hi0 : (0 : Int) ≤ (i : Int) := by omega
  have hin' : (i : Int) < (m : Int) := by omega
  have dlt : decide ((i : Int) < 0) = false := decide_eq_false (by omega)
  clear hi hY
  have HWT := Lib.hid (decide_eq_false hw)
  clear hw
  have hcl : (y.c.close true).2 = 14 := by
    unfold CC.close CC.isShut
    simp [ha]
  have HCL := Lib.hid hcl
  clear hcl ha
  go_enter Tryz.func17, Tryz.ntmps17
  go_wp2_with fail
  rw [HWA.out]
  simp only [HBS.out]
  refine (refEndG 1 (by omega) _).mono ?_
  rintro e w' ⟨rfl, rfl⟩
  go_upto_region 3 with fail
  refine wp_region_lit ?_
  refine wpList_val rfl (v := .agg (two (.slice aL n cL) (.slice aC m cC)).toArray) (w' := w') ?_ ?_
  · show Sem.run Tryz.prog ((Instr.loadAt 34 (.pointer (some ⟨B, 0, none⟩))) >>= fun x => pure (Next.value x)) w' = _
    rw [Sem.run_bind, load_all agg34 size34 (xs := two (.slice aL n cL) (.slice aC m cC)) rfl HB0.out.at]
    rfl
  try simp only [Act.put, List.getElem_toArray, List.getElem_cons_succ, List.getElem_cons_zero, List.setIfInBounds_toArray, List.set_cons_zero, List.set_cons_succ]
  refine wpList_plain rfl (fun K hK => ?_); go_simp; refine hK _ _ ?_; clear hK K
  try simp only [Act.put, List.getElem_toArray, List.getElem_cons_succ, List.getElem_cons_zero, List.setIfInBounds_toArray, List.set_cons_zero, List.set_cons_succ]
  refine wpList_plain rfl (fun K hK => ?_)
  go_simp
  refine (connAtG (.slice aL n cL) (.slice aC m cC) C k _ (CRow.next HC.out HF.out) (by have := HFIT.out.nc; rw [HM.out] at this ⊢; omega)).mono ?_
  rintro e w1 ⟨rfl, f1⟩
  refine hK _ _ ?_
  clear hK K
  rw [HI.out]
  simp only [place]
  try simp only [Act.put, List.getElem_toArray, List.getElem_cons_succ, List.getElem_cons_zero, List.setIfInBounds_toArray, List.set_cons_zero, List.set_cons_succ]
  refine wpList_plain rfl (fun K hK => ?_); go_simp; refine hK _ _ ?_; clear hK K
  refine wpList_nil ?_
  try simp only [Act.put, List.getElem_toArray, List.getElem_cons_succ, List.getElem_cons_zero, List.setIfInBounds_toArray, List.set_cons_zero, List.set_cons_succ]
  have HB01 := Lib.hid (HB0.out.keep f1 (by simp))
  have HB11 := Lib.hid (HB1.out.keep f1 (by simp))
  have HF1 := Lib.hid (HF.out.step f1)
  clear f1 HB0 HB1 HF HWA
  have c0 : w1.cell? ⟨B, 0, none⟩ = some (.slice aL n cL) := HB01.out.at 0 _ rfl
  have c1 : w1.cell? ⟨B, 1, none⟩ = some (.slice aC m cC) := HB01.out.at 1 _ rfl
  go_wp2_with fail
  refine (waitsG (.slice aL n cL) (.slice aC m cC) D k _ (LRow.next HL.out HF1.out) (by have := HFIT.out.nl; rw [HN.out] at this ⊢; omega) HFIT.out.q).mono ?_
  rintro e w2 ⟨rfl, f2⟩
  rw [HWT.out]
  have HB02 := Lib.hid (HB01.out.keep f2 (by simp))
  have HB12 := Lib.hid (HB11.out.keep f2 (by simp))
  have HF2 := Lib.hid (HF1.out.step f2)
  clear f2 HB01 HB11 HF1 c0 c1
  go_upto_region 8 with fail
  obtain ⟨g, off, cap, X, hvv, hg, hX, hl, q0, rfl, hrow⟩ := HC.out.lies HY.out
  rw [HM.out] at hvv
  simp only [Value.slice.injEq] at hvv
  obtain ⟨rfl, _, rfl⟩ := hvv
  have HLY := Lib.hid (show LiesAt w g (off + i * 17 + 1) (cnC y.c q0) from fun j u hj => by
    have := hl (j + 1) u (by simpa [pgC] using hj)
    rwa [show off + i * 17 + (j + 1) = off + i * 17 + 1 + j from by omega] at this)
  have HROW := Lib.hid hrow
  clear hl hrow hg hX
  have c1 : w2.cell? ⟨B, 1, none⟩ = some (.slice (some ⟨g, off, none⟩) m cC) := HB02.out.at 1 _ rfl
  refine wp_region_lit ?_
  refine wpList_plain rfl (fun K hK => ?_); go_simp; refine hK _ _ ?_; clear hK K
  refine wpList_plain rfl (fun K hK => ?_); go_simp; refine hK _ _ ?_; clear hK K
  refine wpList_plain rfl (fun K hK => ?_); go_simp; refine hK _ _ ?_; clear hK K
  refine wpList_plain rfl (fun K hK => ?_); go_simp; refine hK _ _ ?_; clear hK K
  refine wpList_plain rfl (fun K hK => ?_); go_simp; refine hK _ _ ?_; clear hK K
  try simp only [Act.put, List.getElem_toArray, List.getElem_cons_succ, List.getElem_cons_zero, List.setIfInBounds_toArray, List.set_cons_zero, List.set_cons_succ]
  refine wpList_val rfl (v := .agg (cnC y.c q0).toArray) (w' := w2) ?_ ?_
  · show Sem.run Tryz.prog ((Instr.loadAt 94 (.pointer (some ⟨g, off + i * 17 + 1, none⟩))) >>= fun x => pure (Next.value x)) w2 = _
    rw [Sem.run_bind, load_all agg94 size94 (xs := cnC y.c q0) rfl (HLY.out.keep HF2.out (by simp))]
    rfl
  try simp only [Act.put, List.getElem_toArray, List.getElem_cons_succ, List.getElem_cons_zero, List.setIfInBounds_toArray, List.set_cons_zero, List.set_cons_succ]
  refine wpList_plain rfl (fun K hK => ?_); go_simp; refine hK _ _ ?_; clear hK K
  try simp only [Act.put, List.getElem_toArray, List.getElem_cons_succ, List.getElem_cons_zero, List.setIfInBounds_toArray, List.set_cons_zero, List.set_cons_succ]
  refine wpList_plain rfl (fun K hK => ?_)
  go_simp
  refine (dClose_1 y.c q0 _).mono ?_
  rintro e w3 ⟨rfl, f3⟩
  refine hK _ _ ?_
  clear hK K
  try simp only [Act.put, List.getElem_toArray, List.getElem_cons_succ, List.getElem_cons_zero, List.setIfInBounds_toArray, List.set_cons_zero, List.set_cons_succ]
  refine wpList_plain rfl (fun K hK => ?_); go_simp; refine hK _ _ ?_; clear hK K
  refine wpList_plain rfl (fun K hK => ?_); go_simp; refine hK _ _ ?_; clear hK K
  refine wpList_plain rfl (fun K hK => ?_); go_simp; refine hK _ _ ?_; clear hK K
  refine wpList_plain rfl (fun K hK => ?_); go_simp; refine hK _ _ ?_; clear hK K
  try simp only [Act.put, List.getElem_toArray, List.getElem_cons_succ, List.getElem_cons_zero, List.setIfInBounds_toArray, List.set_cons_zero, List.set_cons_succ]
  obtain ⟨E4, hE_⟩ : ∃ E, w3.heap.size = E := ⟨_, rfl⟩
  obtain ⟨wx, hw_⟩ : ∃ z, w3.alloc (.cells #[.int .i64 0, .slice none 0 0, .bool false, .slice none 0 0, .int .i64 0, .int .i64 0, .int .i64 0, .int .i64 0, .slice none 0 0, .bool false, .slice none 0 0, .int .i64 0, .int .i64 0, .int .i64 0, .bool false, .bool false] 94) = z := ⟨_, rfl⟩
  have hbx : Blk wx E4 94 zCn := by rw [← hw_, ← hE_]; exact Blk.made w3 94 zCn
  have fx : Fr [] w3 wx := by rw [← hw_]; exact (Fr.refl [] w3).alloc _
  rw [hw_]
  simp only [hE_]
  have HE4 := Lib.hid (show w.heap.size ≤ E4 ∧ B < E4 ∧ B + 1 < E4 from by rw [← hE_]; exact ⟨(HF2.out.step f3).size, (HB02.out.keep f3 (by simp)).lt, (HB12.out.keep f3 (by simp)).lt⟩)
  have HX := Lib.hid hbx
  have HF3 := Lib.hid ((HF2.out.step f3).step fx)
  have HB03 := Lib.hid ((HB02.out.keep f3 (by simp)).keep fx (by simp))
  have HB13 := Lib.hid ((HB12.out.keep f3 (by simp)).keep fx (by simp))
  clear f3 fx hbx hw_ hE_ HB02 HB12 HF2 c1
  obtain ⟨w4, hst, hb_, hf_⟩ := store_all (t := 94) (cnC (y.c.close true).1 (y.c.closeq q0 true)) size94 rfl (cnC_one _ _) HX.out rfl
  refine wpList_skp rfl (w' := w4) ?_ ?_
  · show Sem.run Tryz.prog ((Instr.storeAt 94 (.pointer (some ⟨E4, 0, none⟩)) (.agg (cnC (y.c.close true).1 (y.c.closeq q0 true)).toArray)) >>= fun _ => pure Next.skip) _ = _
    rw [Sem.run_bind, hst]
    rfl
  clear hst
  try simp only [Act.put, List.getElem_toArray, List.getElem_cons_succ, List.getElem_cons_zero, List.setIfInBounds_toArray, List.set_cons_zero, List.set_cons_succ]
  refine wpList_plain rfl (fun K hK => ?_); go_simp; refine hK _ _ ?_; clear hK K
  refine wpList_nil ?_
  try simp only [Act.put, List.getElem_toArray, List.getElem_cons_succ, List.getElem_cons_zero, List.setIfInBounds_toArray, List.set_cons_zero, List.set_cons_succ]
  have HX4 := Lib.hid hb_
  have HB04 := Lib.hid (HB03.out.keep hf_ (fun hm => by rw [List.mem_singleton] at hm; have := HE4.out; omega))
  have HB14 := Lib.hid (HB13.out.keep hf_ (fun hm => by rw [List.mem_singleton] at hm; have := HE4.out; omega))
  have HF4 := Lib.hid (HF3.out.own1 (S := []) (B := 0) hf_ HE4.out.1)
  clear hb_ hf_ HX HB03 HB13 HF3
  rw [HCL.out]
  go_upto_region 10 with fail
  refine wp_region_lit ?_
  refine wpList_val rfl (v := .agg (two (.slice aL n cL) (.slice (some ⟨g, off, none⟩) m cC)).toArray) (w' := w4) ?_ ?_
  · show Sem.run Tryz.prog ((Instr.loadAt 34 (.pointer (some ⟨B, 0, none⟩))) >>= fun x => pure (Next.value x)) w4 = _
    rw [Sem.run_bind, load_all agg34 size34 (xs := two (.slice aL n cL) (.slice (some ⟨g, off, none⟩) m cC)) rfl HB04.out.at]
    rfl
  try simp only [Act.put, List.getElem_toArray, List.getElem_cons_succ, List.getElem_cons_zero, List.setIfInBounds_toArray, List.set_cons_zero, List.set_cons_succ]
  refine wpList_plain rfl (fun K hK => ?_); go_simp; refine hK _ _ ?_; clear hK K
  try simp only [Act.put, List.getElem_toArray, List.getElem_cons_succ, List.getElem_cons_zero, List.setIfInBounds_toArray, List.set_cons_zero, List.set_cons_succ]
  obtain ⟨w9, hst, hb_, hf_⟩ := store_all (t := 34) (two (.slice aL n cL) (.slice (some ⟨g, off, none⟩) m cC)) size34 rfl (two_oneS _ _ _ _ _ _) HB14.out rfl
  refine wpList_skp rfl (w' := w9) ?_ ?_
  · show Sem.run Tryz.prog ((Instr.storeAt 34 (.pointer (some ⟨B + 1, 0, none⟩)) (.agg (two (.slice aL n cL) (.slice (some ⟨g, off, none⟩) m cC)).toArray)) >>= fun _ => pure Next.skip) _ = _
    rw [Sem.run_bind, hst]
    rfl
  clear hst
  try simp only [Act.put, List.getElem_toArray, List.getElem_cons_succ, List.getElem_cons_zero, List.setIfInBounds_toArray, List.set_cons_zero, List.set_cons_succ]
  refine wpList_plain rfl (fun K hK => ?_); go_simp; refine hK _ _ ?_; clear hK K
  refine wpList_nil ?_
  try simp only [Act.put, List.getElem_toArray, List.getElem_cons_succ, List.getElem_cons_zero, List.setIfInBounds_toArray, List.set_cons_zero, List.set_cons_succ]
  have HR9 := Lib.hid hb_
  have HF9 := Lib.hid (HF4.out.own1 (S := []) (B := 0) hf_ (by have := HBS.out; omega))
  clear hb_ hf_
  go_wp2
  have hl := load_var agg34 size34 (xs := two (.slice aL n cL) (.slice (some ⟨g, off, none⟩) m cC)) rfl HR9.out.at
  refine bodyPost_ret (v := .tuple #[.agg (two (.slice aL n cL) (.slice (some ⟨g, off, none⟩) m cC)).toArray, .int .i64 14]) (by simp [results, Tryz.results17, as_addr, hl]) rfl ?_
  exact ⟨rfl, HF9.out⟩
theorem nHang_ok_1_0 (vL vC : Value) (D : List PN.PL) (C : List PG) (k : Int) (w : World) (hL : LRow w vL D) (hC : CRow w vC C) (hn : NetFit D C) (i : Nat) (y : PG) (hi : PN.pick (refG k) C 0 = some (i, y)) (hw : k ∉ PN.waitsOf D) (ha : y.c.a1 = false) (hbo : ((y.c.close true).1.a0 && (y.c.close true).1.a1) = false) :
    Calls Tryz.prog 17 #[.agg #[vL, vC], .int .i64 k, .int .i64 1] w (NetRd w D (C.set i ⟨y.ref, (y.c.close true).1⟩) [.int .i64 0]) := by
  obtain ⟨n, hnl⟩ : ∃ n, D.length = n := ⟨_, rfl⟩
  obtain ⟨m, hml⟩ : ∃ m, C.length = m := ⟨_, rfl⟩
  obtain ⟨aL, cL, rfl⟩ := hL.val
  obtain ⟨aC, cC, rfl⟩ := hC.val
  rw [hnl] at hL ⊢
  rw [hml] at hC ⊢
  have HN := Lib.hid hnl
  have HM := Lib.hid hml
  obtain ⟨B, hB⟩ : ∃ B, w.heap.size = B := ⟨_, rfl⟩
  obtain ⟨wA, hwA⟩ : ∃ z, (w.alloc (.cells #[.slice aL n cL, .slice aC m cC] 34)).alloc (.cells #[.slice none 0 0, .slice none 0 0] 34) = z := ⟨_, rfl⟩
  have f2 := (Fr.refl [] (w.alloc (.cells #[.slice aL n cL, .slice aC m cC] 34))).alloc (.cells #[.slice none 0 0, .slice none 0 0] 34)
  have hb0 : Blk wA B 34 (two (.slice aL n cL) (.slice aC m cC)) := by
    rw [← hwA, ← hB]
    exact (Blk.made w 34 (two (.slice aL n cL) (.slice aC m cC))).keep f2 (by simp)
  have hb1 : Blk wA (B + 1) 34 zNt := by
    have h := Blk.made (w.alloc (.cells #[.slice aL n cL, .slice aC m cC] 34)) 34 zNt
    rw [show (w.alloc (.cells #[.slice aL n cL, .slice aC m cC] 34)).heap.size = B + 1 from by rw [← hB]; simp] at h
    rw [← hwA]
    exact h
  have hf : Fr [] w wA := by rw [← hwA]; exact ((Fr.refl [] w).alloc _).step f2
  have HB0 := Lib.hid hb0
  have HB1 := Lib.hid hb1
  have HF := Lib.hid hf
  have HBS := Lib.hid hB
  have HWA := Lib.hid hwA
  have HL := Lib.hid hL
  have HC := Lib.hid hC
  clear hb0 hb1 hf hB hwA f2 hL hC hnl hml
  have HFIT := Lib.hid hn
  clear hn
  have hY := place_some hi
  have hin : i < m := by rw [← HM.out]; exact (List.getElem?_eq_some_iff.1 hY).1
  have HI := Lib.hid hi
  have HY := Lib.hid hY
  have hi0 : (0 : Int) ≤ (i : Int) := by omega
  have hin' : (i : Int) < (m : Int) := by omega
  have dlt : decide ((i : Int) < 0) = false := decide_eq_false (by omega)
  clear hi hY
  have HWT := Lib.hid (decide_eq_false hw)
  clear hw
  have hcl : (y.c.close true).2 = 0 := by
    unfold CC.close CC.isShut
    simp [ha]
  have HCL := Lib.hid hcl
  have HBO := Lib.hid hbo
  clear hcl ha hbo
  go_enter Tryz.func17, Tryz.ntmps17
  go_wp2_with fail
  rw [HWA.out]
  simp only [HBS.out]
  refine (refEndG 1 (by omega) _).mono ?_
  rintro e w' ⟨rfl, rfl⟩
  go_upto_region 3 with fail
  refine wp_region_lit ?_
  refine wpList_val rfl (v := .agg (two (.slice aL n cL) (.slice aC m cC)).toArray) (w' := w') ?_ ?_
  · show Sem.run Tryz.prog ((Instr.loadAt 34 (.pointer (some ⟨B, 0, none⟩))) >>= fun x => pure (Next.value x)) w' = _
    rw [Sem.run_bind, load_all agg34 size34 (xs := two (.slice aL n cL) (.slice aC m cC)) rfl HB0.out.at]
    rfl
  try simp only [Act.put, List.getElem_toArray, List.getElem_cons_succ, List.getElem_cons_zero, List.setIfInBounds_toArray, List.set_cons_zero, List.set_cons_succ]
  refine wpList_plain rfl (fun K hK => ?_); go_simp; refine hK _ _ ?_; clear hK K
  try simp only [Act.put, List.getElem_toArray, List.getElem_cons_succ, List.getElem_cons_zero, List.setIfInBounds_toArray, List.set_cons_zero, List.set_cons_succ]
  refine wpList_plain rfl (fun K hK => ?_)
  go_simp
  refine (connAtG (.slice aL n cL) (.slice aC m cC) C k _ (CRow.next HC.out HF.out) (by have := HFIT.out.nc; rw [HM.out] at this ⊢; omega)).mono ?_
  rintro e w1 ⟨rfl, f1⟩
  refine hK _ _ ?_
  clear hK K
  rw [HI.out]
  simp only [place]
  try simp only [Act.put, List.getElem_toArray, List.getElem_cons_succ, List.getElem_cons_zero, List.setIfInBounds_toArray, List.set_cons_zero, List.set_cons_succ]
  refine wpList_plain rfl (fun K hK => ?_); go_simp; refine hK _ _ ?_; clear hK K
  refine wpList_nil ?_
  try simp only [Act.put, List.getElem_toArray, List.getElem_cons_succ, List.getElem_cons_zero, List.setIfInBounds_toArray, List.set_cons_zero, List.set_cons_succ]
  have HB01 := Lib.hid (HB0.out.keep f1 (by simp))
  have HB11 := Lib.hid (HB1.out.keep f1 (by simp))
  have HF1 := Lib.hid (HF.out.step f1)
  clear f1 HB0 HB1 HF HWA
  have c0 : w1.cell? ⟨B, 0, none⟩ = some (.slice aL n cL) := HB01.out.at 0 _ rfl
  have c1 : w1.cell? ⟨B, 1, none⟩ = some (.slice aC m cC) := HB01.out.at 1 _ rfl
  go_wp2_with fail
  refine (waitsG (.slice aL n cL) (.slice aC m cC) D k _ (LRow.next HL.out HF1.out) (by have := HFIT.out.nl; rw [HN.out] at this ⊢; omega) HFIT.out.q).mono ?_
  rintro e w2 ⟨rfl, f2⟩
  rw [HWT.out]
  have HB02 := Lib.hid (HB01.out.keep f2 (by simp))
  have HB12 := Lib.hid (HB11.out.keep f2 (by simp))
  have HF2 := Lib.hid (HF1.out.step f2)
  clear f2 HB01 HB11 HF1 c0 c1
  go_upto_region 8 with fail
  obtain ⟨g, off, cap, X, hvv, hg, hX, hl, q0, rfl, hrow⟩ := HC.out.lies HY.out
  rw [HM.out] at hvv
  simp only [Value.slice.injEq] at hvv
  obtain ⟨rfl, _, rfl⟩ := hvv
  have HLY := Lib.hid (show LiesAt w g (off + i * 17 + 1) (cnC y.c q0) from fun j u hj => by
    have := hl (j + 1) u (by simpa [pgC] using hj)
    rwa [show off + i * 17 + (j + 1) = off + i * 17 + 1 + j from by omega] at this)
  have HROW := Lib.hid hrow
  clear hl hrow hg hX
  have c1 : w2.cell? ⟨B, 1, none⟩ = some (.slice (some ⟨g, off, none⟩) m cC) := HB02.out.at 1 _ rfl
  refine wp_region_lit ?_
  refine wpList_plain rfl (fun K hK => ?_); go_simp; refine hK _ _ ?_; clear hK K
  refine wpList_plain rfl (fun K hK => ?_); go_simp; refine hK _ _ ?_; clear hK K
  refine wpList_plain rfl (fun K hK => ?_); go_simp; refine hK _ _ ?_; clear hK K
  refine wpList_plain rfl (fun K hK => ?_); go_simp; refine hK _ _ ?_; clear hK K
  refine wpList_plain rfl (fun K hK => ?_); go_simp; refine hK _ _ ?_; clear hK K
  try simp only [Act.put, List.getElem_toArray, List.getElem_cons_succ, List.getElem_cons_zero, List.setIfInBounds_toArray, List.set_cons_zero, List.set_cons_succ]
  refine wpList_val rfl (v := .agg (cnC y.c q0).toArray) (w' := w2) ?_ ?_
  · show Sem.run Tryz.prog ((Instr.loadAt 94 (.pointer (some ⟨g, off + i * 17 + 1, none⟩))) >>= fun x => pure (Next.value x)) w2 = _
    rw [Sem.run_bind, load_all agg94 size94 (xs := cnC y.c q0) rfl (HLY.out.keep HF2.out (by simp))]
    rfl
  try simp only [Act.put, List.getElem_toArray, List.getElem_cons_succ, List.getElem_cons_zero, List.setIfInBounds_toArray, List.set_cons_zero, List.set_cons_succ]
  refine wpList_plain rfl (fun K hK => ?_); go_simp; refine hK _ _ ?_; clear hK K
  try simp only [Act.put, List.getElem_toArray, List.getElem_cons_succ, List.getElem_cons_zero, List.setIfInBounds_toArray, List.set_cons_zero, List.set_cons_succ]
  refine wpList_plain rfl (fun K hK => ?_)
  go_simp
  refine (dClose_1 y.c q0 _).mono ?_
  rintro e w3 ⟨rfl, f3⟩
  refine hK _ _ ?_
  clear hK K
  try simp only [Act.put, List.getElem_toArray, List.getElem_cons_succ, List.getElem_cons_zero, List.setIfInBounds_toArray, List.set_cons_zero, List.set_cons_succ]
  refine wpList_plain rfl (fun K hK => ?_); go_simp; refine hK _ _ ?_; clear hK K
  refine wpList_plain rfl (fun K hK => ?_); go_simp; refine hK _ _ ?_; clear hK K
  refine wpList_plain rfl (fun K hK => ?_); go_simp; refine hK _ _ ?_; clear hK K
  refine wpList_plain rfl (fun K hK => ?_); go_simp; refine hK _ _ ?_; clear hK K
  try simp only [Act.put, List.getElem_toArray, List.getElem_cons_succ, List.getElem_cons_zero, List.setIfInBounds_toArray, List.set_cons_zero, List.set_cons_succ]
  obtain ⟨E4, hE_⟩ : ∃ E, w3.heap.size = E := ⟨_, rfl⟩
  obtain ⟨wx, hw_⟩ : ∃ z, w3.alloc (.cells #[.int .i64 0, .slice none 0 0, .bool false, .slice none 0 0, .int .i64 0, .int .i64 0, .int .i64 0, .int .i64 0, .slice none 0 0, .bool false, .slice none 0 0, .int .i64 0, .int .i64 0, .int .i64 0, .bool false, .bool false] 94) = z := ⟨_, rfl⟩
  have hbx : Blk wx E4 94 zCn := by rw [← hw_, ← hE_]; exact Blk.made w3 94 zCn
  have fx : Fr [] w3 wx := by rw [← hw_]; exact (Fr.refl [] w3).alloc _
  rw [hw_]
  simp only [hE_]
  have HE4 := Lib.hid (show w.heap.size ≤ E4 ∧ B < E4 ∧ B + 1 < E4 from by rw [← hE_]; exact ⟨(HF2.out.step f3).size, (HB02.out.keep f3 (by simp)).lt, (HB12.out.keep f3 (by simp)).lt⟩)
  have HX := Lib.hid hbx
  have HF3 := Lib.hid ((HF2.out.step f3).step fx)
  have HB03 := Lib.hid ((HB02.out.keep f3 (by simp)).keep fx (by simp))
  have HB13 := Lib.hid ((HB12.out.keep f3 (by simp)).keep fx (by simp))
  clear f3 fx hbx hw_ hE_ HB02 HB12 HF2 c1
  obtain ⟨w4, hst, hb_, hf_⟩ := store_all (t := 94) (cnC (y.c.close true).1 (y.c.closeq q0 true)) size94 rfl (cnC_one _ _) HX.out rfl
  refine wpList_skp rfl (w' := w4) ?_ ?_
  · show Sem.run Tryz.prog ((Instr.storeAt 94 (.pointer (some ⟨E4, 0, none⟩)) (.agg (cnC (y.c.close true).1 (y.c.closeq q0 true)).toArray)) >>= fun _ => pure Next.skip) _ = _
    rw [Sem.run_bind, hst]
    rfl
  clear hst
  try simp only [Act.put, List.getElem_toArray, List.getElem_cons_succ, List.getElem_cons_zero, List.setIfInBounds_toArray, List.set_cons_zero, List.set_cons_succ]
  refine wpList_plain rfl (fun K hK => ?_); go_simp; refine hK _ _ ?_; clear hK K
  refine wpList_nil ?_
  try simp only [Act.put, List.getElem_toArray, List.getElem_cons_succ, List.getElem_cons_zero, List.setIfInBounds_toArray, List.set_cons_zero, List.set_cons_succ]
  have HX4 := Lib.hid hb_
  have HB04 := Lib.hid (HB03.out.keep hf_ (fun hm => by rw [List.mem_singleton] at hm; have := HE4.out; omega))
  have HB14 := Lib.hid (HB13.out.keep hf_ (fun hm => by rw [List.mem_singleton] at hm; have := HE4.out; omega))
  have HF4 := Lib.hid (HF3.out.own1 (S := []) (B := 0) hf_ HE4.out.1)
  clear hb_ hf_ HX HB03 HB13 HF3
  rw [HCL.out]
  go_upto_region 11 with fail
  refine wp_region_lit ?_
  refine wpList_val rfl (v := .agg (two (.slice aL n cL) (.slice (some ⟨g, off, none⟩) m cC)).toArray) (w' := w4) ?_ ?_
  · show Sem.run Tryz.prog ((Instr.loadAt 34 (.pointer (some ⟨B, 0, none⟩))) >>= fun x => pure (Next.value x)) w4 = _
    rw [Sem.run_bind, load_all agg34 size34 (xs := two (.slice aL n cL) (.slice (some ⟨g, off, none⟩) m cC)) rfl HB04.out.at]
    rfl
  try simp only [Act.put, List.getElem_toArray, List.getElem_cons_succ, List.getElem_cons_zero, List.setIfInBounds_toArray, List.set_cons_zero, List.set_cons_succ]
  refine wpList_plain rfl (fun K hK => ?_)
  go_simp
  refine (nCopy_any (.slice aL n cL) (.slice (some ⟨g, off, none⟩) m cC) D C _ (LRow.next HL.out HF4.out) (CRow.next HC.out HF4.out) HFIT.out).mono ?_
  rintro e w5 ⟨sL, sC, rfl, oL, oC, f5⟩
  refine hK _ _ ?_
  clear hK K
  try simp only [Act.put, List.getElem_toArray, List.getElem_cons_succ, List.getElem_cons_zero, List.setIfInBounds_toArray, List.set_cons_zero, List.set_cons_succ]
  refine wpList_plain rfl (fun K hK => ?_); go_simp; refine hK _ _ ?_; clear hK K
  try simp only [Act.put, List.getElem_toArray, List.getElem_cons_succ, List.getElem_cons_zero, List.setIfInBounds_toArray, List.set_cons_zero, List.set_cons_succ]
  have HOL5 := Lib.hid (oL.base (B' := B) (by rw [← HBS.out]; exact HF4.out.size))
  have HOC5 := Lib.hid (oC.base (B' := B) (by rw [← HBS.out]; exact HF4.out.size))
  have HX5 := Lib.hid (HX4.out.keep f5 (by simp))
  have HB15 := Lib.hid (HB14.out.keep f5 (by simp))
  have HF5 := Lib.hid (HF4.out.step f5)
  clear oL oC f5 HX4 HB04 HB14 HF4
  obtain ⟨E6, hE_⟩ : ∃ E, w5.heap.size = E := ⟨_, rfl⟩
  obtain ⟨wy, hw_⟩ : ∃ z, w5.alloc (.cells #[.slice none 0 0, .slice none 0 0] 34) = z := ⟨_, rfl⟩
  have hbx : Blk wy E6 34 zNt := by rw [← hw_, ← hE_]; exact Blk.made w5 34 zNt
  have fx : Fr [] w5 wy := by rw [← hw_]; exact (Fr.refl [] w5).alloc _
  rw [hw_]
  simp only [hE_]
  have HE6 := Lib.hid (show w.heap.size ≤ E6 ∧ B + 1 < E6 ∧ E4 < E6 from by rw [← hE_]; exact ⟨HF5.out.size, HB15.out.lt, HX5.out.lt⟩)
  have HY6 := Lib.hid hbx
  have HX6 := Lib.hid (HX5.out.keep fx (by simp))
  have HB16 := Lib.hid (HB15.out.keep fx (by simp))
  have HF6 := Lib.hid (HF5.out.step fx)
  have HOL6 := Lib.hid (HOL5.out.next fx)
  have HOC6 := Lib.hid (HOC5.out.next fx)
  clear fx hbx hw_ hE_ HX5 HB15 HF5 HOL5 HOC5
  obtain ⟨w7, hst, hb_, hf_⟩ := store_all (t := 34) (two (slv sL) (slv sC)) size34 rfl (two_one _ _) HY6.out rfl
  refine wpList_skp rfl (w' := w7) ?_ ?_
  · show Sem.run Tryz.prog ((Instr.storeAt 34 (.pointer (some ⟨E6, 0, none⟩)) (.agg (two (slv sL) (slv sC)).toArray)) >>= fun _ => pure Next.skip) _ = _
    rw [Sem.run_bind, hst]
    rfl
  clear hst
  try simp only [Act.put, List.getElem_toArray, List.getElem_cons_succ, List.getElem_cons_zero, List.setIfInBounds_toArray, List.set_cons_zero, List.set_cons_succ]
  refine wpList_nil ?_
  try simp only [Act.put, List.getElem_toArray, List.getElem_cons_succ, List.getElem_cons_zero, List.setIfInBounds_toArray, List.set_cons_zero, List.set_cons_succ]
  have HY7 := Lib.hid hb_
  have HX7 := Lib.hid (HX6.out.keep hf_ (fun hm => by rw [List.mem_singleton] at hm; have := HE6.out; omega))
  have HB17 := Lib.hid (HB16.out.keep hf_ (fun hm => by rw [List.mem_singleton] at hm; have := HE6.out; omega))
  have HF7 := Lib.hid (HF6.out.own1 (S := []) (B := 0) hf_ HE6.out.1)
  have HOL7 := Lib.hid (HOL6.out.far HY6.out hf_ (by decide) (by decide))
  obtain ⟨Xs, hrec, hown⟩ := HOC6.out.far HY6.out hf_ (by decide) (by decide)
  rw [HM.out] at hown
  have HREC7 := Lib.hid hrec
  have HOWN7 := Lib.hid hown
  clear hb_ hf_ HY6 HX6 HB16 HF6 HOL6 HOC6
  have hXi := List.getElem?_eq_getElem (l := Xs) (i := i) (by rw [hrec.len, HM.out]; exact hin)
  obtain ⟨X, hXX⟩ : ∃ X, Xs[i]'(by rw [hrec.len, HM.out]; exact hin) = X := ⟨_, rfl⟩
  rw [hXX] at hXi
  obtain ⟨q, rfl, hqo⟩ := hrec.el i X y hXi HY.out
  have HXI := Lib.hid hXi
  obtain ⟨sC1, sC2, sC3⟩ := sC
  obtain ⟨gC, hgC, hsn⟩ : ∃ gC, sC1 = some ⟨gC, 0, none⟩ ∧ sC2 = m := by
    rcases hown.2 with ⟨he, h0⟩ | ⟨gC, cap, cur, he, _⟩
    · omega
    · simp only [slv, Value.slice.injEq] at he
      exact ⟨gC, he.1, he.2.1⟩
  subst hgC
  subst hsn
  have c7 : w7.cell? ⟨E6, 1, none⟩ = some (.slice (some ⟨gC, 0, none⟩) sC2 sC3) := HY7.out.at 1 _ rfl
  clear hrec hown hqo hXi hXX
  go_upto_region 12 with fail
  refine wp_region_lit ?_
  refine wpList_plain rfl (fun K hK => ?_); go_simp; refine hK _ _ ?_; clear hK K
  refine wpList_plain rfl (fun K hK => ?_); go_simp; refine hK _ _ ?_; clear hK K
  refine wpList_plain rfl (fun K hK => ?_); go_simp; refine hK _ _ ?_; clear hK K
  try simp only [Act.put, List.getElem_toArray, List.getElem_cons_succ, List.getElem_cons_zero, List.setIfInBounds_toArray, List.set_cons_zero, List.set_cons_succ]
  refine wpList_val rfl (v := .agg (cnC (y.c.close true).1 (y.c.closeq q0 true)).toArray) (w' := w7) ?_ ?_
  · show Sem.run Tryz.prog ((Instr.loadAt 94 (.pointer (some ⟨E4, 0, none⟩))) >>= fun x => pure (Next.value x)) w7 = _
    rw [Sem.run_bind, load_all agg94 size94 (xs := cnC (y.c.close true).1 (y.c.closeq q0 true)) rfl HX7.out.at]
    rfl
  try simp only [Act.put, List.getElem_toArray, List.getElem_cons_succ, List.getElem_cons_zero, List.setIfInBounds_toArray, List.set_cons_zero, List.set_cons_succ]
  refine wpList_plain rfl (fun K hK => ?_); go_simp; refine hK _ _ ?_; clear hK K
  refine wpList_plain rfl (fun K hK => ?_); go_simp; refine hK _ _ ?_; clear hK K
  try simp only [Act.put, List.getElem_toArray, List.getElem_cons_succ, List.getElem_cons_zero, List.setIfInBounds_toArray, List.set_cons_zero, List.set_cons_succ]
  obtain ⟨w8, hst, hrow8, hf_⟩ := own_store (t := 94) (k := i * 17 + 1) (cnC (y.c.close true).1 (y.c.closeq q0 true)) (.agg (cnC (y.c.close true).1 (y.c.closeq q0 true)).toArray) size94 rfl rfl (cnC_one _ _) HOWN7.out (by show i * 17 + 1 + 16 ≤ sC2 * 17; omega)
  refine wpList_skp rfl (w' := w8) ?_ ?_
  · show Sem.run Tryz.prog ((Instr.storeAt 94 (.pointer (some ⟨gC, i * 17 + 1, none⟩)) (.agg (cnC (y.c.close true).1 (y.c.closeq q0 true)).toArray)) >>= fun _ => pure Next.skip) _ = _
    rw [Sem.run_bind, hst]
    rfl
  clear hst c7
  try simp only [Act.put, List.getElem_toArray, List.getElem_cons_succ, List.getElem_cons_zero, List.setIfInBounds_toArray, List.set_cons_zero, List.set_cons_succ]
  refine wpList_nil ?_
  try simp only [Act.put, List.getElem_toArray, List.getElem_cons_succ, List.getElem_cons_zero, List.setIfInBounds_toArray, List.set_cons_zero, List.set_cons_succ]
  have hfo : Fr (Value.ownBlock (slv (some ⟨gC, 0, none⟩, sC2, sC3))).toList w7 w8 := hf_
  have HY8 := Lib.hid (HY7.out.farRow HOWN7.out hfo (by decide))
  have HX8 := Lib.hid (HX7.out.farRow HOWN7.out hfo (by decide))
  have HB18 := Lib.hid (HB17.out.farRow HOWN7.out hfo (by decide))
  have HF8 := Lib.hid (HF7.out.ownRow HOWN7.out hfo (by rw [HBS.out]; exact Nat.le_refl _))
  have HOL8 := Lib.hid (HOL7.out.farRow HOWN7.out hfo (by decide) (by decide))
  have HREC8 := Lib.hid (HREC7.out.mono (fun X z ⟨s, e1, e2⟩ => (⟨s, e1, ⟨rowFar e2.b0 HOWN7.out hfo (by decide), rowFar e2.r0 HOWN7.out hfo (by decide), rowFar e2.b1 HOWN7.out hfo (by decide), rowFar e2.r1 HOWN7.out hfo (by decide)⟩⟩ : ElCO B w8 X z)))
  have HOWN8 := Lib.hid (show w8.ownsRow B 96 17 (slv (some ⟨gC, 0, none⟩, sC2, sC3)) sC2 (Xs.set i (pgC ⟨y.ref, (y.c.close true).1⟩ (y.c.closeq q0 true))).flatten from by
    have hfl := flat_set (vs := cnC (y.c.close true).1 (y.c.closeq q0 true)) (a := 1) HREC7.out.sz HXI.out (by show 1 + 16 ≤ 17; omega)
    have hX' : (pgC y q).take 1 ++ cnC (y.c.close true).1 (y.c.closeq q0 true) ++ (pgC y q).drop (1 + (cnC (y.c.close true).1 (y.c.closeq q0 true)).length) = pgC ⟨y.ref, (y.c.close true).1⟩ (y.c.closeq q0 true) := rfl
    rw [hX'] at hfl
    rw [hfl]
    exact hrow8)
  clear hfo hf_ hrow8 HY7 HX7 HB17 HF7 HOL7 HREC7 HOWN7
  have k0 : w8.cell? ⟨E4, 14, none⟩ = some (.bool (y.c.close true).1.a0) := HX8.out.at 14 _ rfl
  have k1 : w8.cell? ⟨E4, 15, none⟩ = some (.bool (y.c.close true).1.a1) := HX8.out.at 15 _ rfl
  obtain ⟨b0, hb0⟩ : ∃ z, (y.c.close true).1.a0 = z := ⟨_, rfl⟩
  obtain ⟨b1, hb1⟩ : ∃ z, (y.c.close true).1.a1 = z := ⟨_, rfl⟩
  have HB01 := Lib.hid HBO.out
  rw [hb0, hb1] at HB01
  rw [hb0] at k0
  rw [hb1] at k1
  clear hb0 hb1
  cases b0 with
  | true =>
    cases b1 with
    | true => exact absurd HB01.out (by decide)
    | false =>
      go_upto_region 15 with fail
      refine wp_region_lit ?_
      refine wpList_val rfl (v := .agg (two (slv sL) (slv (some ⟨gC, 0, none⟩, sC2, sC3))).toArray) (w' := w8) ?_ ?_
      · show Sem.run Tryz.prog ((Instr.loadAt 34 (.pointer (some ⟨E6, 0, none⟩))) >>= fun x => pure (Next.value x)) w8 = _
        rw [Sem.run_bind, load_all agg34 size34 (xs := two (slv sL) (slv (some ⟨gC, 0, none⟩, sC2, sC3))) rfl HY8.out.at]
        rfl
      try simp only [Act.put, List.getElem_toArray, List.getElem_cons_succ, List.getElem_cons_zero, List.setIfInBounds_toArray, List.set_cons_zero, List.set_cons_succ]
      obtain ⟨w15, hst, hb_, hf_⟩ := store_all (t := 34) (two (slv sL) (slv (some ⟨gC, 0, none⟩, sC2, sC3))) size34 rfl (two_one _ _) HB18.out rfl
      refine wpList_skp rfl (w' := w15) ?_ ?_
      · show Sem.run Tryz.prog ((Instr.storeAt 34 (.pointer (some ⟨B + 1, 0, none⟩)) (.agg (two (slv sL) (slv (some ⟨gC, 0, none⟩, sC2, sC3))).toArray)) >>= fun _ => pure Next.skip) _ = _
        rw [Sem.run_bind, hst]
        rfl
      clear hst
      try simp only [Act.put, List.getElem_toArray, List.getElem_cons_succ, List.getElem_cons_zero, List.setIfInBounds_toArray, List.set_cons_zero, List.set_cons_succ]
      refine wpList_plain rfl (fun K hK => ?_); go_simp; refine hK _ _ ?_; clear hK K
      refine wpList_nil ?_
      try simp only [Act.put, List.getElem_toArray, List.getElem_cons_succ, List.getElem_cons_zero, List.setIfInBounds_toArray, List.set_cons_zero, List.set_cons_succ]
      have HR15 := Lib.hid hb_
      have HF15 := Lib.hid (HF8.out.own1 (S := []) (B := 0) hf_ (by have := HBS.out; omega))
      have HOL15 := Lib.hid (HOL8.out.far HB18.out hf_ (by decide) (by decide))
      have HCR15 := Lib.hid (show CRd w15 B (slv (some ⟨gC, 0, none⟩, sC2, sC3)) (C.set i ⟨y.ref, (y.c.close true).1⟩) from by
        refine ⟨?_, fun g hg => (HOWN8.out.lt g hg).1⟩
        refine ⟨Xs.set i (pgC ⟨y.ref, (y.c.close true).1⟩ (y.c.closeq q0 true)), ?_, ?_⟩
        · refine (HREC8.out.mono (fun X z ⟨s, e1, e2⟩ => (⟨s, e1, (e2.store HB18.out hf_ (by decide)).b⟩ : ElC w15 X z))).set i rfl (pgC_one _ _) ⟨_, rfl, ?_⟩
          exact ((HROW.out.new HF15.out).close true)
        · rw [List.length_set, HM.out]
          exact RowV.of_own (rowFr' HOWN8.out hf_ (fun g hg hm => by rw [List.mem_singleton] at hm; subst hm; exact blkNe HB18.out HOWN8.out (by decide) hg)))
      clear hb_ hf_
      go_wp2
      have hl := load_var agg34 size34 (xs := two (slv sL) (slv (some ⟨gC, 0, none⟩, sC2, sC3))) rfl HR15.out.at
      refine bodyPost_ret (v := .tuple #[.agg (two (slv sL) (slv (some ⟨gC, 0, none⟩, sC2, sC3))).toArray, .int .i64 0]) (by simp [results, Tryz.results17, as_addr, hl]) rfl ?_
      exact ⟨sL, (some ⟨gC, 0, none⟩, sC2, sC3), rfl, by rw [HBS.out]; exact HOL15.out.ro, by rw [HBS.out]; exact HCR15.out, HF15.out⟩
  | false =>
    go_upto_region 15 with fail
    refine wp_region_lit ?_
    refine wpList_val rfl (v := .agg (two (slv sL) (slv (some ⟨gC, 0, none⟩, sC2, sC3))).toArray) (w' := w8) ?_ ?_
    · show Sem.run Tryz.prog ((Instr.loadAt 34 (.pointer (some ⟨E6, 0, none⟩))) >>= fun x => pure (Next.value x)) w8 = _
      rw [Sem.run_bind, load_all agg34 size34 (xs := two (slv sL) (slv (some ⟨gC, 0, none⟩, sC2, sC3))) rfl HY8.out.at]
      rfl
    try simp only [Act.put, List.getElem_toArray, List.getElem_cons_succ, List.getElem_cons_zero, List.setIfInBounds_toArray, List.set_cons_zero, List.set_cons_succ]
    obtain ⟨w15, hst, hb_, hf_⟩ := store_all (t := 34) (two (slv sL) (slv (some ⟨gC, 0, none⟩, sC2, sC3))) size34 rfl (two_one _ _) HB18.out rfl
    refine wpList_skp rfl (w' := w15) ?_ ?_
    · show Sem.run Tryz.prog ((Instr.storeAt 34 (.pointer (some ⟨B + 1, 0, none⟩)) (.agg (two (slv sL) (slv (some ⟨gC, 0, none⟩, sC2, sC3))).toArray)) >>= fun _ => pure Next.skip) _ = _
      rw [Sem.run_bind, hst]
      rfl
    clear hst
    try simp only [Act.put, List.getElem_toArray, List.getElem_cons_succ, List.getElem_cons_zero, List.setIfInBounds_toArray, List.set_cons_zero, List.set_cons_succ]
    refine wpList_plain rfl (fun K hK => ?_); go_simp; refine hK _ _ ?_; clear hK K
    refine wpList_nil ?_
    try simp only [Act.put, List.getElem_toArray, List.getElem_cons_succ, List.getElem_cons_zero, List.setIfInBounds_toArray, List.set_cons_zero, List.set_cons_succ]
    have HR15 := Lib.hid hb_
    have HF15 := Lib.hid (HF8.out.own1 (S := []) (B := 0) hf_ (by have := HBS.out; omega))
    have HOL15 := Lib.hid (HOL8.out.far HB18.out hf_ (by decide) (by decide))
    have HCR15 := Lib.hid (show CRd w15 B (slv (some ⟨gC, 0, none⟩, sC2, sC3)) (C.set i ⟨y.ref, (y.c.close true).1⟩) from by
      refine ⟨?_, fun g hg => (HOWN8.out.lt g hg).1⟩
      refine ⟨Xs.set i (pgC ⟨y.ref, (y.c.close true).1⟩ (y.c.closeq q0 true)), ?_, ?_⟩
      · refine (HREC8.out.mono (fun X z ⟨s, e1, e2⟩ => (⟨s, e1, (e2.store HB18.out hf_ (by decide)).b⟩ : ElC w15 X z))).set i rfl (pgC_one _ _) ⟨_, rfl, ?_⟩
        exact ((HROW.out.new HF15.out).close true)
      · rw [List.length_set, HM.out]
        exact RowV.of_own (rowFr' HOWN8.out hf_ (fun g hg hm => by rw [List.mem_singleton] at hm; subst hm; exact blkNe HB18.out HOWN8.out (by decide) hg)))
    clear hb_ hf_
    go_wp2
    have hl := load_var agg34 size34 (xs := two (slv sL) (slv (some ⟨gC, 0, none⟩, sC2, sC3))) rfl HR15.out.at
    refine bodyPost_ret (v := .tuple #[.agg (two (slv sL) (slv (some ⟨gC, 0, none⟩, sC2, sC3))).toArray, .int .i64 0]) (by simp [results, Tryz.results17, as_addr, hl]) rfl ?_
    exact ⟨sL, (some ⟨gC, 0, none⟩, sC2, sC3), rfl, by rw [HBS.out]; exact HOL15.out.ro, by rw [HBS.out]; exact HCR15.out, HF15.out⟩
theorem nHang_ok_1_1 (vL vC : Value) (D : List PN.PL) (C : List PG) (k : Int) (w : World) (hL : LRow w vL D) (hC : CRow w vC C) (hn : NetFit D C) (i : Nat) (y : PG) (hi : PN.pick (refG k) C 0 = some (i, y)) (hw : k ∉ PN.waitsOf D) (ha : y.c.a1 = false) (hbo : ((y.c.close true).1.a0 && (y.c.close true).1.a1) = true) :
    Calls Tryz.prog 17 #[.agg #[vL, vC], .int .i64 k, .int .i64 1] w (NetRd w D (C.take i ++ C.drop (i + 1)) [.int .i64 0]) := by
  obtain ⟨n, hnl⟩ : ∃ n, D.length = n := ⟨_, rfl⟩
  obtain ⟨m, hml⟩ : ∃ m, C.length = m := ⟨_, rfl⟩
  obtain ⟨aL, cL, rfl⟩ := hL.val
  obtain ⟨aC, cC, rfl⟩ := hC.val
  rw [hnl] at hL ⊢
  rw [hml] at hC ⊢
  have HN := Lib.hid hnl
  have HM := Lib.hid hml
  obtain ⟨B, hB⟩ : ∃ B, w.heap.size = B := ⟨_, rfl⟩
  obtain ⟨wA, hwA⟩ : ∃ z, (w.alloc (.cells #[.slice aL n cL, .slice aC m cC] 34)).alloc (.cells #[.slice none 0 0, .slice none 0 0] 34) = z := ⟨_, rfl⟩
  have f2 := (Fr.refl [] (w.alloc (.cells #[.slice aL n cL, .slice aC m cC] 34))).alloc (.cells #[.slice none 0 0, .slice none 0 0] 34)
  have hb0 : Blk wA B 34 (two (.slice aL n cL) (.slice aC m cC)) := by
    rw [← hwA, ← hB]
    exact (Blk.made w 34 (two (.slice aL n cL) (.slice aC m cC))).keep f2 (by simp)
  have hb1 : Blk wA (B + 1) 34 zNt := by
    have h := Blk.made (w.alloc (.cells #[.slice aL n cL, .slice aC m cC] 34)) 34 zNt
    rw [show (w.alloc (.cells #[.slice aL n cL, .slice aC m cC] 34)).heap.size = B + 1 from by rw [← hB]; simp] at h
    rw [← hwA]
    exact h
  have hf : Fr [] w wA := by rw [← hwA]; exact ((Fr.refl [] w).alloc _).step f2
  have HB0 := Lib.hid hb0
  have HB1 := Lib.hid hb1
  have HF := Lib.hid hf
  have HBS := Lib.hid hB
  have HWA := Lib.hid hwA
  have HL := Lib.hid hL
  have HC := Lib.hid hC
  clear hb0 hb1 hf hB hwA f2 hL hC hnl hml
  have HFIT := Lib.hid hn
  clear hn
  have hY := place_some hi
  have hin : i < m := by rw [← HM.out]; exact (List.getElem?_eq_some_iff.1 hY).1
  have HI := Lib.hid hi
  have HY := Lib.hid hY
  have hi0 : (0 : Int) ≤ (i : Int) := by omega
  have hin' : (i : Int) < (m : Int) := by omega
  have dlt : decide ((i : Int) < 0) = false := decide_eq_false (by omega)
  clear hi hY
  have HWT := Lib.hid (decide_eq_false hw)
  clear hw
  have hcl : (y.c.close true).2 = 0 := by
    unfold CC.close CC.isShut
    simp [ha]
  have HCL := Lib.hid hcl
  have HBO := Lib.hid hbo
  clear hcl ha hbo
  go_enter Tryz.func17, Tryz.ntmps17
  go_wp2_with fail
  rw [HWA.out]
  simp only [HBS.out]
  refine (refEndG 1 (by omega) _).mono ?_
  rintro e w' ⟨rfl, rfl⟩
  go_upto_region 3 with fail
  refine wp_region_lit ?_
  refine wpList_val rfl (v := .agg (two (.slice aL n cL) (.slice aC m cC)).toArray) (w' := w') ?_ ?_
  · show Sem.run Tryz.prog ((Instr.loadAt 34 (.pointer (some ⟨B, 0, none⟩))) >>= fun x => pure (Next.value x)) w' = _
    rw [Sem.run_bind, load_all agg34 size34 (xs := two (.slice aL n cL) (.slice aC m cC)) rfl HB0.out.at]
    rfl
  try simp only [Act.put, List.getElem_toArray, List.getElem_cons_succ, List.getElem_cons_zero, List.setIfInBounds_toArray, List.set_cons_zero, List.set_cons_succ]
  refine wpList_plain rfl (fun K hK => ?_); go_simp; refine hK _ _ ?_; clear hK K
  try simp only [Act.put, List.getElem_toArray, List.getElem_cons_succ, List.getElem_cons_zero, List.setIfInBounds_toArray, List.set_cons_zero, List.set_cons_succ]
  refine wpList_plain rfl (fun K hK => ?_)
  go_simp
  refine (connAtG (.slice aL n cL) (.slice aC m cC) C k _ (CRow.next HC.out HF.out) (by have := HFIT.out.nc; rw [HM.out] at this ⊢; omega)).mono ?_
  rintro e w1 ⟨rfl, f1⟩
  refine hK _ _ ?_
  clear hK K
  rw [HI.out]
  simp only [place]
  try simp only [Act.put, List.getElem_toArray, List.getElem_cons_succ, List.getElem_cons_zero, List.setIfInBounds_toArray, List.set_cons_zero, List.set_cons_succ]
  refine wpList_plain rfl (fun K hK => ?_); go_simp; refine hK _ _ ?_; clear hK K
  refine wpList_nil ?_
  try simp only [Act.put, List.getElem_toArray, List.getElem_cons_succ, List.getElem_cons_zero, List.setIfInBounds_toArray, List.set_cons_zero, List.set_cons_succ]
  have HB01 := Lib.hid (HB0.out.keep f1 (by simp))
  have HB11 := Lib.hid (HB1.out.keep f1 (by simp))
  have HF1 := Lib.hid (HF.out.step f1)
  clear f1 HB0 HB1 HF HWA
  have c0 : w1.cell? ⟨B, 0, none⟩ = some (.slice aL n cL) := HB01.out.at 0 _ rfl
  have c1 : w1.cell? ⟨B, 1, none⟩ = some (.slice aC m cC) := HB01.out.at 1 _ rfl
  go_wp2_with fail
  refine (waitsG (.slice aL n cL) (.slice aC m cC) D k _ (LRow.next HL.out HF1.out) (by have := HFIT.out.nl; rw [HN.out] at this ⊢; omega) HFIT.out.q).mono ?_
  rintro e w2 ⟨rfl, f2⟩
  rw [HWT.out]
  have HB02 := Lib.hid (HB01.out.keep f2 (by simp))
  have HB12 := Lib.hid (HB11.out.keep f2 (by simp))
  have HF2 := Lib.hid (HF1.out.step f2)
  clear f2 HB01 HB11 HF1 c0 c1
  go_upto_region 8 with fail
  obtain ⟨g, off, cap, X, hvv, hg, hX, hl, q0, rfl, hrow⟩ := HC.out.lies HY.out
  rw [HM.out] at hvv
  simp only [Value.slice.injEq] at hvv
  obtain ⟨rfl, _, rfl⟩ := hvv
  have HLY := Lib.hid (show LiesAt w g (off + i * 17 + 1) (cnC y.c q0) from fun j u hj => by
    have := hl (j + 1) u (by simpa [pgC] using hj)
    rwa [show off + i * 17 + (j + 1) = off + i * 17 + 1 + j from by omega] at this)
  have HROW := Lib.hid hrow
  clear hl hrow hg hX
  have c1 : w2.cell? ⟨B, 1, none⟩ = some (.slice (some ⟨g, off, none⟩) m cC) := HB02.out.at 1 _ rfl
  refine wp_region_lit ?_
  refine wpList_plain rfl (fun K hK => ?_); go_simp; refine hK _ _ ?_; clear hK K
  refine wpList_plain rfl (fun K hK => ?_); go_simp; refine hK _ _ ?_; clear hK K
  refine wpList_plain rfl (fun K hK => ?_); go_simp; refine hK _ _ ?_; clear hK K
  refine wpList_plain rfl (fun K hK => ?_); go_simp; refine hK _ _ ?_; clear hK K
  refine wpList_plain rfl (fun K hK => ?_); go_simp; refine hK _ _ ?_; clear hK K
  try simp only [Act.put, List.getElem_toArray, List.getElem_cons_succ, List.getElem_cons_zero, List.setIfInBounds_toArray, List.set_cons_zero, List.set_cons_succ]
  refine wpList_val rfl (v := .agg (cnC y.c q0).toArray) (w' := w2) ?_ ?_
  · show Sem.run Tryz.prog ((Instr.loadAt 94 (.pointer (some ⟨g, off + i * 17 + 1, none⟩))) >>= fun x => pure (Next.value x)) w2 = _
    rw [Sem.run_bind, load_all agg94 size94 (xs := cnC y.c q0) rfl (HLY.out.keep HF2.out (by simp))]
    rfl
  try simp only [Act.put, List.getElem_toArray, List.getElem_cons_succ, List.getElem_cons_zero, List.setIfInBounds_toArray, List.set_cons_zero, List.set_cons_succ]
  refine wpList_plain rfl (fun K hK => ?_); go_simp; refine hK _ _ ?_; clear hK K
  try simp only [Act.put, List.getElem_toArray, List.getElem_cons_succ, List.getElem_cons_zero, List.setIfInBounds_toArray, List.set_cons_zero, List.set_cons_succ]
  refine wpList_plain rfl (fun K hK => ?_)
  go_simp
  refine (dClose_1 y.c q0 _).mono ?_
  rintro e w3 ⟨rfl, f3⟩
  refine hK _ _ ?_
  clear hK K
  try simp only [Act.put, List.getElem_toArray, List.getElem_cons_succ, List.getElem_cons_zero, List.setIfInBounds_toArray, List.set_cons_zero, List.set_cons_succ]
  refine wpList_plain rfl (fun K hK => ?_); go_simp; refine hK _ _ ?_; clear hK K
  refine wpList_plain rfl (fun K hK => ?_); go_simp; refine hK _ _ ?_; clear hK K
  refine wpList_plain rfl (fun K hK => ?_); go_simp; refine hK _ _ ?_; clear hK K
  refine wpList_plain rfl (fun K hK => ?_); go_simp; refine hK _ _ ?_; clear hK K
  try simp only [Act.put, List.getElem_toArray, List.getElem_cons_succ, List.getElem_cons_zero, List.setIfInBounds_toArray, List.set_cons_zero, List.set_cons_succ]
  obtain ⟨E4, hE_⟩ : ∃ E, w3.heap.size = E := ⟨_, rfl⟩
  obtain ⟨wx, hw_⟩ : ∃ z, w3.alloc (.cells #[.int .i64 0, .slice none 0 0, .bool false, .slice none 0 0, .int .i64 0, .int .i64 0, .int .i64 0, .int .i64 0, .slice none 0 0, .bool false, .slice none 0 0, .int .i64 0, .int .i64 0, .int .i64 0, .bool false, .bool false] 94) = z := ⟨_, rfl⟩
  have hbx : Blk wx E4 94 zCn := by rw [← hw_, ← hE_]; exact Blk.made w3 94 zCn
  have fx : Fr [] w3 wx := by rw [← hw_]; exact (Fr.refl [] w3).alloc _
  rw [hw_]
  simp only [hE_]
  have HE4 := Lib.hid (show w.heap.size ≤ E4 ∧ B < E4 ∧ B + 1 < E4 from by rw [← hE_]; exact ⟨(HF2.out.step f3).size, (HB02.out.keep f3 (by simp)).lt, (HB12.out.keep f3 (by simp)).lt⟩)
  have HX := Lib.hid hbx
  have HF3 := Lib.hid ((HF2.out.step f3).step fx)
  have HB03 := Lib.hid ((HB02.out.keep f3 (by simp)).keep fx (by simp))
  have HB13 := Lib.hid ((HB12.out.keep f3 (by simp)).keep fx (by simp))
  clear f3 fx hbx hw_ hE_ HB02 HB12 HF2 c1
  obtain ⟨w4, hst, hb_, hf_⟩ := store_all (t := 94) (cnC (y.c.close true).1 (y.c.closeq q0 true)) size94 rfl (cnC_one _ _) HX.out rfl
  refine wpList_skp rfl (w' := w4) ?_ ?_
  · show Sem.run Tryz.prog ((Instr.storeAt 94 (.pointer (some ⟨E4, 0, none⟩)) (.agg (cnC (y.c.close true).1 (y.c.closeq q0 true)).toArray)) >>= fun _ => pure Next.skip) _ = _
    rw [Sem.run_bind, hst]
    rfl
  clear hst
  try simp only [Act.put, List.getElem_toArray, List.getElem_cons_succ, List.getElem_cons_zero, List.setIfInBounds_toArray, List.set_cons_zero, List.set_cons_succ]
  refine wpList_plain rfl (fun K hK => ?_); go_simp; refine hK _ _ ?_; clear hK K
  refine wpList_nil ?_
  try simp only [Act.put, List.getElem_toArray, List.getElem_cons_succ, List.getElem_cons_zero, List.setIfInBounds_toArray, List.set_cons_zero, List.set_cons_succ]
  have HX4 := Lib.hid hb_
  have HB04 := Lib.hid (HB03.out.keep hf_ (fun hm => by rw [List.mem_singleton] at hm; have := HE4.out; omega))
  have HB14 := Lib.hid (HB13.out.keep hf_ (fun hm => by rw [List.mem_singleton] at hm; have := HE4.out; omega))
  have HF4 := Lib.hid (HF3.out.own1 (S := []) (B := 0) hf_ HE4.out.1)
  clear hb_ hf_ HX HB03 HB13 HF3
  rw [HCL.out]
  go_upto_region 11 with fail
  refine wp_region_lit ?_
  refine wpList_val rfl (v := .agg (two (.slice aL n cL) (.slice (some ⟨g, off, none⟩) m cC)).toArray) (w' := w4) ?_ ?_
  · show Sem.run Tryz.prog ((Instr.loadAt 34 (.pointer (some ⟨B, 0, none⟩))) >>= fun x => pure (Next.value x)) w4 = _
    rw [Sem.run_bind, load_all agg34 size34 (xs := two (.slice aL n cL) (.slice (some ⟨g, off, none⟩) m cC)) rfl HB04.out.at]
    rfl
  try simp only [Act.put, List.getElem_toArray, List.getElem_cons_succ, List.getElem_cons_zero, List.setIfInBounds_toArray, List.set_cons_zero, List.set_cons_succ]
  refine wpList_plain rfl (fun K hK => ?_)
  go_simp
  refine (nCopy_any (.slice aL n cL) (.slice (some ⟨g, off, none⟩) m cC) D C _ (LRow.next HL.out HF4.out) (CRow.next HC.out HF4.out) HFIT.out).mono ?_
  rintro e w5 ⟨sL, sC, rfl, oL, oC, f5⟩
  refine hK _ _ ?_
  clear hK K
  try simp only [Act.put, List.getElem_toArray, List.getElem_cons_succ, List.getElem_cons_zero, List.setIfInBounds_toArray, List.set_cons_zero, List.set_cons_succ]
  refine wpList_plain rfl (fun K hK => ?_); go_simp; refine hK _ _ ?_; clear hK K
  try simp only [Act.put, List.getElem_toArray, List.getElem_cons_succ, List.getElem_cons_zero, List.setIfInBounds_toArray, List.set_cons_zero, List.set_cons_succ]
  have HOL5 := Lib.hid (oL.base (B' := B) (by rw [← HBS.out]; exact HF4.out.size))
  have HOC5 := Lib.hid (oC.base (B' := B) (by rw [← HBS.out]; exact HF4.out.size))
  have HX5 := Lib.hid (HX4.out.keep f5 (by simp))
  have HB15 := Lib.hid (HB14.out.keep f5 (by simp))
  have HF5 := Lib.hid (HF4.out.step f5)
  clear oL oC f5 HX4 HB04 HB14 HF4
  obtain ⟨E6, hE_⟩ : ∃ E, w5.heap.size = E := ⟨_, rfl⟩
  obtain ⟨wy, hw_⟩ : ∃ z, w5.alloc (.cells #[.slice none 0 0, .slice none 0 0] 34) = z := ⟨_, rfl⟩
  have hbx : Blk wy E6 34 zNt := by rw [← hw_, ← hE_]; exact Blk.made w5 34 zNt
  have fx : Fr [] w5 wy := by rw [← hw_]; exact (Fr.refl [] w5).alloc _
  rw [hw_]
  simp only [hE_]
  have HE6 := Lib.hid (show w.heap.size ≤ E6 ∧ B + 1 < E6 ∧ E4 < E6 from by rw [← hE_]; exact ⟨HF5.out.size, HB15.out.lt, HX5.out.lt⟩)
  have HY6 := Lib.hid hbx
  have HX6 := Lib.hid (HX5.out.keep fx (by simp))
  have HB16 := Lib.hid (HB15.out.keep fx (by simp))
  have HF6 := Lib.hid (HF5.out.step fx)
  have HOL6 := Lib.hid (HOL5.out.next fx)
  have HOC6 := Lib.hid (HOC5.out.next fx)
  clear fx hbx hw_ hE_ HX5 HB15 HF5 HOL5 HOC5
  obtain ⟨w7, hst, hb_, hf_⟩ := store_all (t := 34) (two (slv sL) (slv sC)) size34 rfl (two_one _ _) HY6.out rfl
  refine wpList_skp rfl (w' := w7) ?_ ?_
  · show Sem.run Tryz.prog ((Instr.storeAt 34 (.pointer (some ⟨E6, 0, none⟩)) (.agg (two (slv sL) (slv sC)).toArray)) >>= fun _ => pure Next.skip) _ = _
    rw [Sem.run_bind, hst]
    rfl
  clear hst
  try simp only [Act.put, List.getElem_toArray, List.getElem_cons_succ, List.getElem_cons_zero, List.setIfInBounds_toArray, List.set_cons_zero, List.set_cons_succ]
  refine wpList_nil ?_
  try simp only [Act.put, List.getElem_toArray, List.getElem_cons_succ, List.getElem_cons_zero, List.setIfInBounds_toArray, List.set_cons_zero, List.set_cons_succ]
  have HY7 := Lib.hid hb_
  have HX7 := Lib.hid (HX6.out.keep hf_ (fun hm => by rw [List.mem_singleton] at hm; have := HE6.out; omega))
  have HB17 := Lib.hid (HB16.out.keep hf_ (fun hm => by rw [List.mem_singleton] at hm; have := HE6.out; omega))
  have HF7 := Lib.hid (HF6.out.own1 (S := []) (B := 0) hf_ HE6.out.1)
  have HOL7 := Lib.hid (HOL6.out.far HY6.out hf_ (by decide) (by decide))
  obtain ⟨Xs, hrec, hown⟩ := HOC6.out.far HY6.out hf_ (by decide) (by decide)
  rw [HM.out] at hown
  have HREC7 := Lib.hid hrec
  have HOWN7 := Lib.hid hown
  clear hb_ hf_ HY6 HX6 HB16 HF6 HOL6 HOC6
  have hXi := List.getElem?_eq_getElem (l := Xs) (i := i) (by rw [hrec.len, HM.out]; exact hin)
  obtain ⟨X, hXX⟩ : ∃ X, Xs[i]'(by rw [hrec.len, HM.out]; exact hin) = X := ⟨_, rfl⟩
  rw [hXX] at hXi
  obtain ⟨q, rfl, hqo⟩ := hrec.el i X y hXi HY.out
  have HXI := Lib.hid hXi
  obtain ⟨sC1, sC2, sC3⟩ := sC
  obtain ⟨gC, hgC, hsn⟩ : ∃ gC, sC1 = some ⟨gC, 0, none⟩ ∧ sC2 = m := by
    rcases hown.2 with ⟨he, h0⟩ | ⟨gC, cap, cur, he, _⟩
    · omega
    · simp only [slv, Value.slice.injEq] at he
      exact ⟨gC, he.1, he.2.1⟩
  subst hgC
  subst hsn
  have c7 : w7.cell? ⟨E6, 1, none⟩ = some (.slice (some ⟨gC, 0, none⟩) sC2 sC3) := HY7.out.at 1 _ rfl
  clear hrec hown hqo hXi hXX
  go_upto_region 12 with fail
  refine wp_region_lit ?_
  refine wpList_plain rfl (fun K hK => ?_); go_simp; refine hK _ _ ?_; clear hK K
  refine wpList_plain rfl (fun K hK => ?_); go_simp; refine hK _ _ ?_; clear hK K
  refine wpList_plain rfl (fun K hK => ?_); go_simp; refine hK _ _ ?_; clear hK K
  try simp only [Act.put, List.getElem_toArray, List.getElem_cons_succ, List.getElem_cons_zero, List.setIfInBounds_toArray, List.set_cons_zero, List.set_cons_succ]
  refine wpList_val rfl (v := .agg (cnC (y.c.close true).1 (y.c.closeq q0 true)).toArray) (w' := w7) ?_ ?_
  · show Sem.run Tryz.prog ((Instr.loadAt 94 (.pointer (some ⟨E4, 0, none⟩))) >>= fun x => pure (Next.value x)) w7 = _
    rw [Sem.run_bind, load_all agg94 size94 (xs := cnC (y.c.close true).1 (y.c.closeq q0 true)) rfl HX7.out.at]
    rfl
  try simp only [Act.put, List.getElem_toArray, List.getElem_cons_succ, List.getElem_cons_zero, List.setIfInBounds_toArray, List.set_cons_zero, List.set_cons_succ]
  refine wpList_plain rfl (fun K hK => ?_); go_simp; refine hK _ _ ?_; clear hK K
  refine wpList_plain rfl (fun K hK => ?_); go_simp; refine hK _ _ ?_; clear hK K
  try simp only [Act.put, List.getElem_toArray, List.getElem_cons_succ, List.getElem_cons_zero, List.setIfInBounds_toArray, List.set_cons_zero, List.set_cons_succ]
  obtain ⟨w8, hst, hrow8, hf_⟩ := own_store (t := 94) (k := i * 17 + 1) (cnC (y.c.close true).1 (y.c.closeq q0 true)) (.agg (cnC (y.c.close true).1 (y.c.closeq q0 true)).toArray) size94 rfl rfl (cnC_one _ _) HOWN7.out (by show i * 17 + 1 + 16 ≤ sC2 * 17; omega)
  refine wpList_skp rfl (w' := w8) ?_ ?_
  · show Sem.run Tryz.prog ((Instr.storeAt 94 (.pointer (some ⟨gC, i * 17 + 1, none⟩)) (.agg (cnC (y.c.close true).1 (y.c.closeq q0 true)).toArray)) >>= fun _ => pure Next.skip) _ = _
    rw [Sem.run_bind, hst]
    rfl
  clear hst c7
  try simp only [Act.put, List.getElem_toArray, List.getElem_cons_succ, List.getElem_cons_zero, List.setIfInBounds_toArray, List.set_cons_zero, List.set_cons_succ]
  refine wpList_nil ?_
  try simp only [Act.put, List.getElem_toArray, List.getElem_cons_succ, List.getElem_cons_zero, List.setIfInBounds_toArray, List.set_cons_zero, List.set_cons_succ]
  have hfo : Fr (Value.ownBlock (slv (some ⟨gC, 0, none⟩, sC2, sC3))).toList w7 w8 := hf_
  have HY8 := Lib.hid (HY7.out.farRow HOWN7.out hfo (by decide))
  have HX8 := Lib.hid (HX7.out.farRow HOWN7.out hfo (by decide))
  have HB18 := Lib.hid (HB17.out.farRow HOWN7.out hfo (by decide))
  have HF8 := Lib.hid (HF7.out.ownRow HOWN7.out hfo (by rw [HBS.out]; exact Nat.le_refl _))
  have HOL8 := Lib.hid (HOL7.out.farRow HOWN7.out hfo (by decide) (by decide))
  have HREC8 := Lib.hid (HREC7.out.mono (fun X z ⟨s, e1, e2⟩ => (⟨s, e1, ⟨rowFar e2.b0 HOWN7.out hfo (by decide), rowFar e2.r0 HOWN7.out hfo (by decide), rowFar e2.b1 HOWN7.out hfo (by decide), rowFar e2.r1 HOWN7.out hfo (by decide)⟩⟩ : ElCO B w8 X z)))
  have HOWN8 := Lib.hid (show w8.ownsRow B 96 17 (slv (some ⟨gC, 0, none⟩, sC2, sC3)) sC2 (Xs.set i (pgC ⟨y.ref, (y.c.close true).1⟩ (y.c.closeq q0 true))).flatten from by
    have hfl := flat_set (vs := cnC (y.c.close true).1 (y.c.closeq q0 true)) (a := 1) HREC7.out.sz HXI.out (by show 1 + 16 ≤ 17; omega)
    have hX' : (pgC y q).take 1 ++ cnC (y.c.close true).1 (y.c.closeq q0 true) ++ (pgC y q).drop (1 + (cnC (y.c.close true).1 (y.c.closeq q0 true)).length) = pgC ⟨y.ref, (y.c.close true).1⟩ (y.c.closeq q0 true) := rfl
    rw [hX'] at hfl
    rw [hfl]
    exact hrow8)
  clear hfo hf_ hrow8 HY7 HX7 HB17 HF7 HOL7 HREC7 HOWN7
  have k0 : w8.cell? ⟨E4, 14, none⟩ = some (.bool (y.c.close true).1.a0) := HX8.out.at 14 _ rfl
  have k1 : w8.cell? ⟨E4, 15, none⟩ = some (.bool (y.c.close true).1.a1) := HX8.out.at 15 _ rfl
  obtain ⟨b0, hb0⟩ : ∃ z, (y.c.close true).1.a0 = z := ⟨_, rfl⟩
  obtain ⟨b1, hb1⟩ : ∃ z, (y.c.close true).1.a1 = z := ⟨_, rfl⟩
  have HB01 := Lib.hid HBO.out
  rw [hb0, hb1] at HB01
  rw [hb0] at k0
  rw [hb1] at k1
  clear hb0 hb1
  obtain ⟨rfl, rfl⟩ : b0 = true ∧ b1 = true := by
    have := HB01.out
    cases b0 <;> cases b1 <;> simp_all
  obtain ⟨a0, ht0, hr0⟩ := own_slice_to elemConn HOWN8.out i (by omega)
  obtain ⟨vr, hvr, hrr⟩ := own_slice_from elemConn HOWN8.out (i + 1) (by omega)
  have hty0 : TyR w8 B (.slice a0 i i) 96 := by
    obtain ⟨_, htt, hss⟩ := elemConn.el
    intro gg hgg
    have hrun := ht0 w8
    rw [show slv (some ⟨gC, 0, none⟩, sC2, sC3) = .slice (some ⟨gC, 0, none⟩) sC2 sC3 from rfl, run_slice_hm w8 _ _ _ _ htt .i64 .i64 i i (by omega) (by omega) (by
      rcases HOWN8.out.2 with ⟨he, _⟩ | ⟨g1, cap, cur, he, _, _, hnc, _⟩
      · cases he
      · simp only [slv, Value.slice.injEq] at he
        omega), hss] at hrun
    simp only [Result.andThen_ok, Result.ok.injEq, sliced, Value.slice.injEq, and_true] at hrun
    have ha : a0 = some ⟨gC, 0, none⟩ := by
      rw [← hrun.1]
      split
      · rfl
      · simp [Addr.add_lit]
    rw [ha] at hgg
    simp only [Value.ownBlock, Option.some.injEq] at hgg
    subst hgg
    exact TyR.of_own HOWN8.out gC rfl
  have hlen8 : (Xs.set i (pgC ⟨y.ref, (y.c.close true).1⟩ (y.c.closeq q0 true))).length = sC2 := by rw [List.length_set, HREC8.out.len, HM.out]
  have hsz8 : ∀ X ∈ Xs.set i (pgC ⟨y.ref, (y.c.close true).1⟩ (y.c.closeq q0 true)), X.length = 17 := fun X hX => by
    rcases List.mem_or_eq_of_mem_set hX with hX | rfl
    · exact HREC8.out.sz X hX
    · rfl
  have HR0 := Lib.hid (show RowV w8 (.slice a0 i i) i 17 (Xs.take i).flatten from by
    rw [flat_take i hsz8, List.take_set_of_le (Nat.le_refl i)] at hr0
    exact hr0)
  have HRR := Lib.hid (show RowV w8 vr (sC2 - (i + 1)) 17 (Xs.drop (i + 1)).flatten from by
    rw [flat_drop (i + 1) hsz8, List.drop_set_of_lt (Nat.lt_succ_self i)] at hrr
    exact hrr)
  have HTY := Lib.hid hty0
  clear hr0 hrr hty0 hlen8 hsz8
  obtain ⟨w9, hw9⟩ : ∃ z, w8.drew = z := ⟨_, rfl⟩
  have f9 : Fr [] w8 w9 := by rw [← hw9]; exact (Fr.refl [] w8).drew
  have HY9 := Lib.hid (HY8.out.keep f9 (by simp))
  have HF89 := Lib.hid f9
  have HW9 := Lib.hid hw9
  clear hw9 f9
  go_upto_region 14 with fail
  clear k0 k1
  refine wp_region_held_drew (S := fun _ => True) (by kernel_rfl) (trivial) (fun hHeld => ?_)
  clear hHeld
  rw [HW9.out]
  have hi9 : (i : Int) < 1000 := by have := HFIT.out.nc; rw [HM.out] at this; omega
  refine wpAnyH_take (i := 0) (oi := _) (v := ?_) rfl (by kernel_rfl) (by kernel_rfl) (by kernel_rfl) (fun _ _ _ h => h) (Or.inl ⟨by rfl, ?_⟩) (by first | assumption | trivial) ?_
  rotate_left
  · intro w hSw; (try dsimp only at hSw); go_simp; try with_reducible rfl
  try simp only [Act.put, List.getElem_toArray, List.getElem_cons_succ, List.getElem_cons_zero, List.setIfInBounds_toArray, List.set_cons_zero, List.set_cons_succ]
  refine wpAnyH_take (i := 2) (oi := _) (v := ?_) rfl (by kernel_rfl) (by kernel_rfl) (by kernel_rfl) (fun _ _ _ h => h) (Or.inl ⟨by rfl, ?_⟩) (by first | assumption | trivial) ?_
  rotate_left
  · intro w hSw; (try dsimp only at hSw); go_simp; try with_reducible rfl
  try simp only [Act.put, List.getElem_toArray, List.getElem_cons_succ, List.getElem_cons_zero, List.setIfInBounds_toArray, List.set_cons_zero, List.set_cons_succ]
  refine wpAnyH_take (i := 3) (oi := _) (v := ?_) rfl (by kernel_rfl) (by kernel_rfl) (by kernel_rfl) (fun _ _ _ h => h) (Or.inl ⟨by rfl, ?_⟩) (by first | assumption | trivial) ?_
  rotate_left
  · intro w hSw; (try dsimp only at hSw); go_simp; try with_reducible rfl
  try simp only [Act.put, List.getElem_toArray, List.getElem_cons_succ, List.getElem_cons_zero, List.setIfInBounds_toArray, List.set_cons_zero, List.set_cons_succ]
  refine wpAnyH_take (i := 5) (oi := _) (v := ?_) rfl (by kernel_rfl) (by kernel_rfl) (by kernel_rfl) (fun _ _ _ h => h) (Or.inl ⟨by rfl, ?_⟩) (by first | assumption | trivial) ?_
  rotate_left
  · intro w hSw; (try dsimp only at hSw); go_simp; try with_reducible rfl
  try simp only [Act.put, List.getElem_toArray, List.getElem_cons_succ, List.getElem_cons_zero, List.setIfInBounds_toArray, List.set_cons_zero, List.set_cons_succ]
  refine wpAnyH_take (i := 7) (oi := _) (v := ?_) rfl (by kernel_rfl) (by kernel_rfl) (by kernel_rfl) (fun _ _ _ h => h) (Or.inl ⟨by rfl, ?_⟩) (by first | assumption | trivial) ?_
  rotate_left
  · intro w hSw; (try dsimp only at hSw); go_simp; try with_reducible rfl
  try simp only [Act.put, List.getElem_toArray, List.getElem_cons_succ, List.getElem_cons_zero, List.setIfInBounds_toArray, List.set_cons_zero, List.set_cons_succ]
  refine wpAnyH_take (i := 8) (oi := _) (v := .int .i64 ((i + 1 : Nat) : Int)) rfl (by kernel_rfl) (by kernel_rfl) (by kernel_rfl) (fun _ _ _ h => h) (Or.inl ⟨by rfl, ?_⟩) (by first | assumption | trivial) ?_
  · intro w hSw
    try dsimp only at hSw
    go_simp
    exact IntWalk.i64_in _ (by omega)
  try simp only [Act.put, List.getElem_toArray, List.getElem_cons_succ, List.getElem_cons_zero, List.setIfInBounds_toArray, List.set_cons_zero, List.set_cons_succ]
  refine wpAnyH_ready (rs := [1, 6]) (by kernel_rfl) (by simp) ?_
  refine AllReadyH.cons (o := _) rfl (fun K hK => ?_) (AllReadyH.cons (o := _) rfl (fun K hK => ?_) AllReadyH.nil)
  · skip
    have c6 : w9.cell? ⟨E6, 1, none⟩ = some (.slice (some ⟨gC, 0, none⟩) sC2 sC3) := HY9.out.at 1 _ rfl
    go_simp
    refine hK.out _ _ (trivial) (fun hHeld => ?_)
    clear hK K
    clear hHeld
    try simp only [Act.put, List.getElem_toArray, List.getElem_cons_succ, List.getElem_cons_zero, List.setIfInBounds_toArray, List.set_cons_zero, List.set_cons_succ]
    clear c6
    refine wpAnyH_take (i := 4) (oi := _) (v := .slice a0 i i) rfl (by kernel_rfl) (by kernel_rfl) (by kernel_rfl) (fun _ _ _ h => h) (Or.inl ⟨by rfl, ?_⟩) (by first | assumption | trivial) ?_
    · intro w hSw
      try dsimp only at hSw
      exact exec_slice_to (V := slv (some ⟨gC, 0, none⟩, sC2, sC3)) (H := .int .i64 i) (M := .int .i64 i) rfl rfl rfl rfl elemConn.el.2.1 (ht0 w)
    try simp only [Act.put, List.getElem_toArray, List.getElem_cons_succ, List.getElem_cons_zero, List.setIfInBounds_toArray, List.set_cons_zero, List.set_cons_succ]
    refine wpAnyH_ready (rs := [6]) (by kernel_rfl) (by simp) ?_
    refine AllReadyH.cons (o := _) rfl (fun K hK => ?_) AllReadyH.nil
    have c6 : w9.cell? ⟨E6, 1, none⟩ = some (.slice (some ⟨gC, 0, none⟩) sC2 sC3) := HY9.out.at 1 _ rfl
    go_simp
    refine hK.out _ _ (trivial) (fun hHeld => ?_)
    clear hK K
    clear hHeld
    try simp only [Act.put, List.getElem_toArray, List.getElem_cons_succ, List.getElem_cons_zero, List.setIfInBounds_toArray, List.set_cons_zero, List.set_cons_succ]
    clear c6
    refine wpAnyH_take (i := 9) (oi := _) (v := vr) rfl (by kernel_rfl) (by kernel_rfl) (by kernel_rfl) (fun _ _ _ h => h) (Or.inl ⟨by rfl, ?_⟩) (by first | assumption | trivial) ?_
    · intro w hSw
      try dsimp only at hSw
      exact exec_slice_from (V := slv (some ⟨gC, 0, none⟩, sC2, sC3)) (L := .int .i64 ((i + 1 : Nat) : Int)) rfl rfl rfl elemConn.el.2.1 (hvr w)
    try simp only [Act.put, List.getElem_toArray, List.getElem_cons_succ, List.getElem_cons_zero, List.setIfInBounds_toArray, List.set_cons_zero, List.set_cons_succ]
    refine wpAnyH_ready (rs := [10]) (by kernel_rfl) (by simp) ?_
    refine AllReadyH.cons (o := _) rfl (fun K hK => ?_) AllReadyH.nil
    split
    rotate_left
    · rename_i hno
      exact absurd rfl hno
    refine wp_append_rd elemConn _ _ rfl (a0 := a0) (n := i) (xs := (Xs.take i).flatten) rfl (HR0.out.new HF89.out) (by rw [← HBS.out]; exact (HF8.out.step HF89.out).size) (HTY.out.keep HF89.out (fun g _ hm => by cases hm)) (X := vr) (m := sC2 - (i + 1)) (news := (Xs.drop (i + 1)).flatten) rfl (HRR.out.new HF89.out) (by have := HFIT.out.nc; rw [HM.out] at this; omega) (by decide) ?_
    intro sC' w10 hr10 ht10 f10
    have HY10 := Lib.hid (HY9.out.keep f10 (by simp))
    have HB110 := Lib.hid ((HB18.out.keep HF89.out (by simp)).keep f10 (by simp))
    have HF10 := Lib.hid ((HF8.out.step HF89.out).step f10)
    have HOL10 := Lib.hid ((HOL8.out.next HF89.out).next f10)
    have HREC10 := Lib.hid (HREC8.out.mono (fun X z ⟨s, e1, e2⟩ => (⟨s, e1, (e2.new HF89.out).new f10⟩ : ElCO B w10 X z)))
    have HR10 := Lib.hid hr10
    have HT10 := Lib.hid ht10
    clear hr10 ht10 f10
    refine hK.out _ _ (trivial) (fun hHeld => ?_)
    clear hK K
    clear hHeld
    try simp only [Act.put, List.getElem_toArray, List.getElem_cons_succ, List.getElem_cons_zero, List.setIfInBounds_toArray, List.set_cons_zero, List.set_cons_succ]
    refine wpAnyH_take (i := 11) (oi := _) (v := ?_) rfl (by kernel_rfl) (by kernel_rfl) (by kernel_rfl) (fun _ _ _ h => h) (Or.inl ⟨by rfl, ?_⟩) (by first | assumption | trivial) ?_
    rotate_left
    · intro w hSw; (try dsimp only at hSw); go_simp; try with_reducible rfl
    try simp only [Act.put, List.getElem_toArray, List.getElem_cons_succ, List.getElem_cons_zero, List.setIfInBounds_toArray, List.set_cons_zero, List.set_cons_succ]
    refine wpAnyH_ready (rs := [12]) (by kernel_rfl) (by simp) ?_
    refine AllReadyH.cons (o := _) rfl (fun K hK => ?_) AllReadyH.nil
    obtain ⟨w11, hst, hb_, hf_⟩ := store_cell (t := 32) (o := 1) (slv sC') size32 rfl rfl HY10.out (by show 1 + 1 ≤ 2; omega)
    split
    rotate_left
    · rename_i hno
      exact absurd rfl hno
    refine wp_skp (w' := w11) ?_ ?_
    · show Sem.run Tryz.prog ((Instr.storeAt 32 (.pointer (some ⟨E6, 1, none⟩)) (slv sC')) >>= fun _ => pure Next.skip) _ = _
      rw [Sem.run_bind, hst]
      rfl
    clear hst
    have HY11 := Lib.hid (show Blk w11 E6 34 (two (slv sL) (slv sC')) from hb_)
    have HB111 := Lib.hid (HB110.out.keep hf_ (fun hm => by rw [List.mem_singleton] at hm; have := HE6.out; omega))
    have HF11 := Lib.hid (HF10.out.own1 (S := []) (B := 0) hf_ HE6.out.1)
    have HOL11 := Lib.hid (HOL10.out.far HY10.out hf_ (by decide) (by decide))
    have HREC11 := Lib.hid (HREC10.out.mono (fun X z ⟨s, e1, e2⟩ => (⟨s, e1, e2.store HY10.out hf_ (by decide)⟩ : ElCO B w11 X z)))
    have hnn : ∀ g, (slv sC').ownBlock = some g → g ∉ [E6] := fun g hg hm => by
      rw [List.mem_singleton] at hm
      subst hm
      exact HT10.out.ne HY10.out (by decide) hg
    have HR11 := Lib.hid (HR10.out.not hf_ hnn)
    have HT11 := Lib.hid (HT10.out.keep hf_ hnn)
    clear hb_ hf_ hnn
    refine hK.out _ _ (trivial) (fun hHeld => ?_)
    clear hK K
    clear hHeld
    try simp only [Act.put, List.getElem_toArray, List.getElem_cons_succ, List.getElem_cons_zero, List.setIfInBounds_toArray, List.set_cons_zero, List.set_cons_succ]
    refine wpAnyH_done (by kernel_rfl) ?_ _
    clear HY8 HB18 HF8 HOL8 HREC8 HOWN8 HR0 HRR HTY HY9 HF89 HW9 HY10 HB110 HF10 HOL10 HREC10 HR10 HT10
    go_upto_region 15 with fail
    refine wp_region_lit ?_
    refine wpList_val rfl (v := .agg (two (slv sL) (slv sC')).toArray) (w' := w11) ?_ ?_
    · show Sem.run Tryz.prog ((Instr.loadAt 34 (.pointer (some ⟨E6, 0, none⟩))) >>= fun x => pure (Next.value x)) w11 = _
      rw [Sem.run_bind, load_all agg34 size34 (xs := two (slv sL) (slv sC')) rfl HY11.out.at]
      rfl
    try simp only [Act.put, List.getElem_toArray, List.getElem_cons_succ, List.getElem_cons_zero, List.setIfInBounds_toArray, List.set_cons_zero, List.set_cons_succ]
    obtain ⟨w15, hst, hb_, hf_⟩ := store_all (t := 34) (two (slv sL) (slv sC')) size34 rfl (two_one _ _) HB111.out rfl
    refine wpList_skp rfl (w' := w15) ?_ ?_
    · show Sem.run Tryz.prog ((Instr.storeAt 34 (.pointer (some ⟨B + 1, 0, none⟩)) (.agg (two (slv sL) (slv sC')).toArray)) >>= fun _ => pure Next.skip) _ = _
      rw [Sem.run_bind, hst]
      rfl
    clear hst
    try simp only [Act.put, List.getElem_toArray, List.getElem_cons_succ, List.getElem_cons_zero, List.setIfInBounds_toArray, List.set_cons_zero, List.set_cons_succ]
    refine wpList_plain rfl (fun K hK => ?_); go_simp; refine hK _ _ ?_; clear hK K
    refine wpList_nil ?_
    try simp only [Act.put, List.getElem_toArray, List.getElem_cons_succ, List.getElem_cons_zero, List.setIfInBounds_toArray, List.set_cons_zero, List.set_cons_succ]
    have HR15 := Lib.hid hb_
    have HF15 := Lib.hid (HF11.out.own1 (S := []) (B := 0) hf_ (by have := HBS.out; omega))
    have HOL15 := Lib.hid (HOL11.out.far HB111.out hf_ (by decide) (by decide))
    have HCR15 := Lib.hid (show CRd w15 B (slv sC') (C.take i ++ C.drop (i + 1)) from by
      refine ⟨?_, fun g hg => (HT11.out g hg).1⟩
      refine ⟨Xs.take i ++ Xs.drop (i + 1), ?_, ?_⟩
      · have h0 := HREC11.out.mono (fun X z ⟨s, e1, e2⟩ => (⟨s, e1, (e2.store HB111.out hf_ (by decide)).b⟩ : ElC w15 X z))
        exact (h0.take i).app (h0.drop (i + 1))
      · have hlen : (C.take i ++ C.drop (i + 1)).length = i + (sC2 - (i + 1)) := by
          rw [List.length_append, List.length_take, List.length_drop, HM.out]
          omega
        rw [hlen, List.flatten_append]
        exact HR11.out.not hf_ (fun g hg hm => by rw [List.mem_singleton] at hm; subst hm; exact HT11.out.ne HB111.out (by decide) hg))
    clear hb_ hf_
    go_wp2
    have hl := load_var agg34 size34 (xs := two (slv sL) (slv sC')) rfl HR15.out.at
    refine bodyPost_ret (v := .tuple #[.agg (two (slv sL) (slv sC')).toArray, .int .i64 0]) (by simp [results, Tryz.results17, as_addr, hl]) rfl ?_
    exact ⟨sL, sC', rfl, by rw [HBS.out]; exact HOL15.out.ro, by rw [HBS.out]; exact HCR15.out, HF15.out⟩
  · skip
    have c6 : w9.cell? ⟨E6, 1, none⟩ = some (.slice (some ⟨gC, 0, none⟩) sC2 sC3) := HY9.out.at 1 _ rfl
    go_simp
    refine hK.out _ _ (trivial) (fun hHeld => ?_)
    clear hK K
    clear hHeld
    try simp only [Act.put, List.getElem_toArray, List.getElem_cons_succ, List.getElem_cons_zero, List.setIfInBounds_toArray, List.set_cons_zero, List.set_cons_succ]
    clear c6
    refine wpAnyH_take (i := 9) (oi := _) (v := vr) rfl (by kernel_rfl) (by kernel_rfl) (by kernel_rfl) (fun _ _ _ h => h) (Or.inl ⟨by rfl, ?_⟩) (by first | assumption | trivial) ?_
    · intro w hSw
      try dsimp only at hSw
      exact exec_slice_from (V := slv (some ⟨gC, 0, none⟩, sC2, sC3)) (L := .int .i64 ((i + 1 : Nat) : Int)) rfl rfl rfl elemConn.el.2.1 (hvr w)
    try simp only [Act.put, List.getElem_toArray, List.getElem_cons_succ, List.getElem_cons_zero, List.setIfInBounds_toArray, List.set_cons_zero, List.set_cons_succ]
    refine wpAnyH_ready (rs := [1]) (by kernel_rfl) (by simp) ?_
    refine AllReadyH.cons (o := _) rfl (fun K hK => ?_) AllReadyH.nil
    have c6 : w9.cell? ⟨E6, 1, none⟩ = some (.slice (some ⟨gC, 0, none⟩) sC2 sC3) := HY9.out.at 1 _ rfl
    go_simp
    refine hK.out _ _ (trivial) (fun hHeld => ?_)
    clear hK K
    clear hHeld
    try simp only [Act.put, List.getElem_toArray, List.getElem_cons_succ, List.getElem_cons_zero, List.setIfInBounds_toArray, List.set_cons_zero, List.set_cons_succ]
    clear c6
    refine wpAnyH_take (i := 4) (oi := _) (v := .slice a0 i i) rfl (by kernel_rfl) (by kernel_rfl) (by kernel_rfl) (fun _ _ _ h => h) (Or.inl ⟨by rfl, ?_⟩) (by first | assumption | trivial) ?_
    · intro w hSw
      try dsimp only at hSw
      exact exec_slice_to (V := slv (some ⟨gC, 0, none⟩, sC2, sC3)) (H := .int .i64 i) (M := .int .i64 i) rfl rfl rfl rfl elemConn.el.2.1 (ht0 w)
    try simp only [Act.put, List.getElem_toArray, List.getElem_cons_succ, List.getElem_cons_zero, List.setIfInBounds_toArray, List.set_cons_zero, List.set_cons_succ]
    refine wpAnyH_ready (rs := [10]) (by kernel_rfl) (by simp) ?_
    refine AllReadyH.cons (o := _) rfl (fun K hK => ?_) AllReadyH.nil
    split
    rotate_left
    · rename_i hno
      exact absurd rfl hno
    refine wp_append_rd elemConn _ _ rfl (a0 := a0) (n := i) (xs := (Xs.take i).flatten) rfl (HR0.out.new HF89.out) (by rw [← HBS.out]; exact (HF8.out.step HF89.out).size) (HTY.out.keep HF89.out (fun g _ hm => by cases hm)) (X := vr) (m := sC2 - (i + 1)) (news := (Xs.drop (i + 1)).flatten) rfl (HRR.out.new HF89.out) (by have := HFIT.out.nc; rw [HM.out] at this; omega) (by decide) ?_
    intro sC' w10 hr10 ht10 f10
    have HY10 := Lib.hid (HY9.out.keep f10 (by simp))
    have HB110 := Lib.hid ((HB18.out.keep HF89.out (by simp)).keep f10 (by simp))
    have HF10 := Lib.hid ((HF8.out.step HF89.out).step f10)
    have HOL10 := Lib.hid ((HOL8.out.next HF89.out).next f10)
    have HREC10 := Lib.hid (HREC8.out.mono (fun X z ⟨s, e1, e2⟩ => (⟨s, e1, (e2.new HF89.out).new f10⟩ : ElCO B w10 X z)))
    have HR10 := Lib.hid hr10
    have HT10 := Lib.hid ht10
    clear hr10 ht10 f10
    refine hK.out _ _ (trivial) (fun hHeld => ?_)
    clear hK K
    clear hHeld
    try simp only [Act.put, List.getElem_toArray, List.getElem_cons_succ, List.getElem_cons_zero, List.setIfInBounds_toArray, List.set_cons_zero, List.set_cons_succ]
    refine wpAnyH_take (i := 11) (oi := _) (v := ?_) rfl (by kernel_rfl) (by kernel_rfl) (by kernel_rfl) (fun _ _ _ h => h) (Or.inl ⟨by rfl, ?_⟩) (by first | assumption | trivial) ?_
    rotate_left
    · intro w hSw; (try dsimp only at hSw); go_simp; try with_reducible rfl
    try simp only [Act.put, List.getElem_toArray, List.getElem_cons_succ, List.getElem_cons_zero, List.setIfInBounds_toArray, List.set_cons_zero, List.set_cons_succ]
    refine wpAnyH_ready (rs := [12]) (by kernel_rfl) (by simp) ?_
    refine AllReadyH.cons (o := _) rfl (fun K hK => ?_) AllReadyH.nil
    obtain ⟨w11, hst, hb_, hf_⟩ := store_cell (t := 32) (o := 1) (slv sC') size32 rfl rfl HY10.out (by show 1 + 1 ≤ 2; omega)
    split
    rotate_left
    · rename_i hno
      exact absurd rfl hno
    refine wp_skp (w' := w11) ?_ ?_
    · show Sem.run Tryz.prog ((Instr.storeAt 32 (.pointer (some ⟨E6, 1, none⟩)) (slv sC')) >>= fun _ => pure Next.skip) _ = _
      rw [Sem.run_bind, hst]
      rfl
    clear hst
    have HY11 := Lib.hid (show Blk w11 E6 34 (two (slv sL) (slv sC')) from hb_)
    have HB111 := Lib.hid (HB110.out.keep hf_ (fun hm => by rw [List.mem_singleton] at hm; have := HE6.out; omega))
    have HF11 := Lib.hid (HF10.out.own1 (S := []) (B := 0) hf_ HE6.out.1)
    have HOL11 := Lib.hid (HOL10.out.far HY10.out hf_ (by decide) (by decide))
    have HREC11 := Lib.hid (HREC10.out.mono (fun X z ⟨s, e1, e2⟩ => (⟨s, e1, e2.store HY10.out hf_ (by decide)⟩ : ElCO B w11 X z)))
    have hnn : ∀ g, (slv sC').ownBlock = some g → g ∉ [E6] := fun g hg hm => by
      rw [List.mem_singleton] at hm
      subst hm
      exact HT10.out.ne HY10.out (by decide) hg
    have HR11 := Lib.hid (HR10.out.not hf_ hnn)
    have HT11 := Lib.hid (HT10.out.keep hf_ hnn)
    clear hb_ hf_ hnn
    refine hK.out _ _ (trivial) (fun hHeld => ?_)
    clear hK K
    clear hHeld
    try simp only [Act.put, List.getElem_toArray, List.getElem_cons_succ, List.getElem_cons_zero, List.setIfInBounds_toArray, List.set_cons_zero, List.set_cons_succ]
    refine wpAnyH_done (by kernel_rfl) ?_ _
    clear HY8 HB18 HF8 HOL8 HREC8 HOWN8 HR0 HRR HTY HY9 HF89 HW9 HY10 HB110 HF10 HOL10 HREC10 HR10 HT10
    go_upto_region 15 with fail
    refine wp_region_lit ?_
    refine wpList_val rfl (v := .agg (two (slv sL) (slv sC')).toArray) (w' := w11) ?_ ?_
    · show Sem.run Tryz.prog ((Instr.loadAt 34 (.pointer (some ⟨E6, 0, none⟩))) >>= fun x => pure (Next.value x)) w11 = _
      rw [Sem.run_bind, load_all agg34 size34 (xs := two (slv sL) (slv sC')) rfl HY11.out.at]
      rfl
    try simp only [Act.put, List.getElem_toArray, List.getElem_cons_succ, List.getElem_cons_zero, List.setIfInBounds_toArray, List.set_cons_zero, List.set_cons_succ]
    obtain ⟨w15, hst, hb_, hf_⟩ := store_all (t := 34) (two (slv sL) (slv sC')) size34 rfl (two_one _ _) HB111.out rfl
    refine wpList_skp rfl (w' := w15) ?_ ?_
    · show Sem.run Tryz.prog ((Instr.storeAt 34 (.pointer (some ⟨B + 1, 0, none⟩)) (.agg (two (slv sL) (slv sC')).toArray)) >>= fun _ => pure Next.skip) _ = _
      rw [Sem.run_bind, hst]
      rfl
    clear hst
    try simp only [Act.put, List.getElem_toArray, List.getElem_cons_succ, List.getElem_cons_zero, List.setIfInBounds_toArray, List.set_cons_zero, List.set_cons_succ]
    refine wpList_plain rfl (fun K hK => ?_); go_simp; refine hK _ _ ?_; clear hK K
    refine wpList_nil ?_
    try simp only [Act.put, List.getElem_toArray, List.getElem_cons_succ, List.getElem_cons_zero, List.setIfInBounds_toArray, List.set_cons_zero, List.set_cons_succ]
    have HR15 := Lib.hid hb_
    have HF15 := Lib.hid (HF11.out.own1 (S := []) (B := 0) hf_ (by have := HBS.out; omega))
    have HOL15 := Lib.hid (HOL11.out.far HB111.out hf_ (by decide) (by decide))
    have HCR15 := Lib.hid (show CRd w15 B (slv sC') (C.take i ++ C.drop (i + 1)) from by
      refine ⟨?_, fun g hg => (HT11.out g hg).1⟩
      refine ⟨Xs.take i ++ Xs.drop (i + 1), ?_, ?_⟩
      · have h0 := HREC11.out.mono (fun X z ⟨s, e1, e2⟩ => (⟨s, e1, (e2.store HB111.out hf_ (by decide)).b⟩ : ElC w15 X z))
        exact (h0.take i).app (h0.drop (i + 1))
      · have hlen : (C.take i ++ C.drop (i + 1)).length = i + (sC2 - (i + 1)) := by
          rw [List.length_append, List.length_take, List.length_drop, HM.out]
          omega
        rw [hlen, List.flatten_append]
        exact HR11.out.not hf_ (fun g hg hm => by rw [List.mem_singleton] at hm; subst hm; exact HT11.out.ne HB111.out (by decide) hg))
    clear hb_ hf_
    go_wp2
    have hl := load_var agg34 size34 (xs := two (slv sL) (slv sC')) rfl HR15.out.at
    refine bodyPost_ret (v := .tuple #[.agg (two (slv sL) (slv sC')).toArray, .int .i64 0]) (by simp [results, Tryz.results17, as_addr, hl]) rfl ?_
    exact ⟨sL, sC', rfl, by rw [HBS.out]; exact HOL15.out.ro, by rw [HBS.out]; exact HCR15.out, HF15.out⟩
end Go.Proofs.YtmdhlodafjpnmaaGreat
