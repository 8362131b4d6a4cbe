/- The reference's nets in memory: Pair. -/
import Derived.Test.YtmdhlodafjpnmaaGreatG8
import Derived.Test.YtmdhlodafjpnmaaGreatRM3
namespace Go.Proofs.YtmdhlodafjpnmaaGreat
open Go.RowKit
set_option linter.unusedVariables false
set_option linter.unusedSimpArgs false
set_option maxRecDepth 100000
set_option maxHeartbeats 8000000

section
variable {P : Program} {w : World} {base n sz bytes : Nat} {t e : TypeId} {v : Value} {xs : List Value}
theorem Elem.el (E : Elem P t e sz bytes) : P.elem t = e ∧ P.underlying t = some (.slice (P.elem t)) ∧ ∀ W : World, (sizeOf (P.elem t)).run P W = .ok sz W := by
  have he : P.elem t = e := by simp [Program.elem, E.ht]
  obtain ⟨i, z, hi, _, hsz, _⟩ := E.hi
  refine ⟨he, by rw [he]; exact E.ht, fun W => ?_⟩
  rw [he]
  simp [sizeOf, typeInfo, hi, hsz]
/-- v[k:]. -/
theorem own_slice_from (E : Elem P t e sz bytes) (h : w.ownsRow base e sz v n xs) (k : Nat) (hk : k ≤ n) :
    ∃ v', (∀ W : World, (Instr.slice t v (some (.int .i64 k)) none none).run P W = .ok v' W) ∧ RowV w v' (n - k) sz (xs.drop (k * sz)) := by
  obtain ⟨_, ht, hs⟩ := E.el
  have hl : (xs.drop (k * sz)).length = (n - k) * sz := by rw [List.length_drop, h.1, Nat.sub_mul]
  obtain ⟨a, cap, rfl, hnc⟩ : ∃ a cap, v = .slice a n cap ∧ n ≤ cap := by
    rcases h.2 with ⟨rfl, rfl⟩ | ⟨g, cap, cur, rfl, hb, hg, hnc, _⟩
    · exact ⟨none, 0, rfl, Nat.le_refl _⟩
    · exact ⟨_, cap, rfl, hnc⟩
  refine ⟨sliced a k n cap sz, fun W => ?_, hl, ?_⟩
  · rw [run_slice_l W t a n cap ht .i64 k (by omega) (by omega), hs]
    simp [Result.andThen]
  · unfold sliced
    by_cases h0 : n - k = 0
    · rw [h0]
      exact .inl ⟨rfl, _, _, rfl⟩
    · rw [if_neg (by omega)]
      rcases h.2 with ⟨he, rfl⟩ | ⟨g, cap', cur, he, hb, hg, _⟩
      · omega
      · simp only [Value.slice.injEq] at he
        obtain ⟨rfl, _, rfl⟩ := he
        refine .inr ⟨g, k * sz, cap - k, ?_, (Array.getElem?_eq_some_iff.1 hg).1, fun j u hj => ?_⟩
        · simp [Addr.add_lit]
        · rw [List.getElem?_drop] at hj
          have := World.ownsRow.cells h (g := g) rfl _ u hj
          rwa [Addr.add_lit, Nat.zero_add] at this
/-- v[:k:k]. -/
theorem own_slice_to (E : Elem P t e sz bytes) (h : w.ownsRow base e sz v n xs) (k : Nat) (hk : k ≤ n) :
    ∃ a0, (∀ W : World, (Instr.slice t v none (some (.int .i64 k)) (some (.int .i64 k))).run P W = .ok (.slice a0 k k) W) ∧ RowV w (.slice a0 k k) k sz (xs.take (k * sz)) := by
  obtain ⟨_, ht, hs⟩ := E.el
  have hl : (xs.take (k * sz)).length = k * sz := by
    rw [List.length_take, h.1, Nat.min_eq_left (Nat.mul_le_mul_right _ hk)]
  obtain ⟨a, cap, rfl, hnc⟩ : ∃ a cap, v = .slice a n cap ∧ n ≤ cap := by
    rcases h.2 with ⟨rfl, rfl⟩ | ⟨g, cap, cur, rfl, hb, hg, hnc, _⟩
    · exact ⟨none, 0, rfl, Nat.le_refl _⟩
    · exact ⟨_, cap, rfl, hnc⟩
  refine ⟨if k = 0 then a else a.map (·.add (0 * sz)), fun W => ?_, hl, ?_⟩
  · rw [run_slice_hm W t a n cap ht .i64 .i64 k k (by omega) (by omega) (by omega), hs]
    simp [Result.andThen, sliced]
  · by_cases h0 : k = 0
    · subst h0
      exact .inl ⟨rfl, _, _, rfl⟩
    · rw [if_neg h0]
      rcases h.2 with ⟨he, rfl⟩ | ⟨g, cap', cur, he, hb, hg, _⟩
      · omega
      · simp only [Value.slice.injEq] at he
        obtain ⟨rfl, _, rfl⟩ := he
        refine .inr ⟨g, 0, k, ?_, (Array.getElem?_eq_some_iff.1 hg).1, fun j u hj => ?_⟩
        · simp [Addr.add_lit]
        · rw [List.getElem?_take] at hj
          split at hj
          · have := World.ownsRow.cells h (g := g) rfl j u hj
            rwa [Addr.add_lit] at this
          · cases hj
end
section
variable {P : Program} {o : Oper} {a : Act} {w w' : World} {v : Value}
theorem exec_slice_from {t : TypeId} {x lo : Operand} {V L : Value} (ho : o.op = .slice t x (some lo) none none) (hx : a.eval x = V) (hl : a.eval lo = L) (ht : P.underlying t = some (.slice (P.elem t))) (hrun : (Instr.slice t V (some L) none none).run P w = .ok v w') : (execOp a.eval o).run P w = .ok (.value v) w' := by
  simp [execOp, ho, hx, hl, run_sliceAt_slice w t V (some L) none none ht, hrun]
theorem exec_slice_to {t : TypeId} {x hi mx : Operand} {V H M : Value} (ho : o.op = .slice t x none (some hi) (some mx)) (hx : a.eval x = V) (hh : a.eval hi = H) (hm : a.eval mx = M) (ht : P.underlying t = some (.slice (P.elem t))) (hrun : (Instr.slice t V none (some H) (some M)).run P w = .ok v w') : (execOp a.eval o).run P w = .ok (.value v) w' := by
  simp [execOp, ho, hx, hh, hm, run_sliceAt_slice w t V none (some H) (some M) ht, hrun]
end
def zSS (c : Int) : SS := ⟨c, [], false, [], 0, 0, 0⟩
def newCC (c : Int) : CC := ⟨zSS c, zSS c, false, false⟩
structure NG where
  L : List PN.PL
  C : List PG
def frG (C : List PG) : Nat := PN.free (C.map (·.ref))
def insG (C : List PG) (c : Int) : List PG := C.take (frG C) ++ ⟨frG C, newCC c⟩ :: C.drop (frG C)
def q0 : Q4 := ⟨(none, 0, 0), (none, 0, 0), (none, 0, 0), (none, 0, 0)⟩
theorem q0_own (w : World) (B : Nat) (c : Int) : CnO w B (newCC c) q0 := ⟨BsO.nil w B, BsO.nil w B, BsO.nil w B, BsO.nil w B⟩
/-- A row of one's own out of parts. -/
theorem COwn.ins {w : World} {B : Nat} {v : Value} {C : List PG} (h : COwn w B v C) : ∃ Xs, Recs 17 (ElCO B w) Xs C ∧ w.ownsRow B 96 17 v C.length Xs.flatten := h
theorem place_neg {α : Type} {o : Option (Nat × α)} (h : place o < 0) : o = none := by
  cases o with
  | none => rfl
  | some a =>
    obtain ⟨i, x⟩ := a
    simp [place] at h
    omega
theorem refG_mem {C : List PG} {r : Nat} : (∃ i y, PN.pick (refG r) C 0 = some (i, y)) ↔ r ∈ C.map (·.ref) := by
  constructor
  · rintro ⟨i, y, h⟩
    obtain ⟨j, _, h2, h3⟩ := PN.pick_some h
    have h3 := of_decide_eq_true h3
    exact List.mem_map.2 ⟨y, List.mem_of_getElem? h2, by omega⟩
  · intro h
    obtain ⟨y, hy, hr⟩ := List.mem_map.1 h
    cases e : PN.pick (refG r) C 0 with
    | none =>
      have := PN.pick_none e y hy
      simp [refG] at this
      omega
    | some a => exact ⟨a.1, a.2, rfl⟩
/-- A net handed back, all of it one's own. -/
def NetOut (w : World) (D : List PN.PL) (C : List PG) (rs : List Value) (e : Ending) (w' : World) : Prop :=
  ∃ sL sC : Sli, e = .returned (.tuple (.agg #[slv sL, slv sC] :: rs).toArray) ∧ LOwn w' w.heap.size (slv sL) D ∧ COwn w' w.heap.size (slv sC) C ∧ Fr [] w w'
theorem two_get (s t : Sli) (w : World) (b : Nat) (ty : TypeId) (h : Blk w b ty (two (slv s) (slv t))) : w.cell? ⟨b, 0, none⟩ = some (slv s) ∧ w.cell? ⟨b, 1, none⟩ = some (slv t) := ⟨h.at 0 _ rfl, h.at 1 _ rfl⟩
theorem two_oneS (a b : Option Addr) (n m c d : Nat) : ∀ u ∈ two (.slice a n c) (.slice b m d), u.oneCell' = true := by
  intro u hu
  simp only [two, List.mem_cons, List.not_mem_nil, or_false] at hu
  rcases hu with rfl | rfl <;> rfl
theorem nPair_bad (vL vC : Value) (D : List PN.PL) (C : List PG) (c : Int) (w : World) (hL : LRow w vL D) (hC : CRow w vC C) (hc : ¬ (0 ≤ c ∧ c ≤ 4096)) :
    Calls Tryz.prog 13 #[.agg #[vL, vC], .int .i64 c] w fun e w' => e = .returned (.tuple #[.agg #[vL, vC], .int .i64 0, .int .i64 2]) ∧ Fr [] w w' := by
  obtain ⟨n, hnl⟩ : ∃ n, D.length = n := ⟨_, rfl⟩
  obtain ⟨m, hml⟩ : ∃ m, C.length = m := ⟨_, rfl⟩
  obtain ⟨aL, cL, rfl⟩ := hL.val
  obtain ⟨aC, cC, rfl⟩ := hC.val
  rw [hnl] at hL ⊢
  rw [hml] at hC ⊢
  have HN := Lib.hid hnl
  have HM := Lib.hid hml
  obtain ⟨B, hB⟩ : ∃ B, w.heap.size = B := ⟨_, rfl⟩
  obtain ⟨wA, hwA⟩ : ∃ z, (w.alloc (.cells #[.slice aL n cL, .slice aC m cC] 34)).alloc (.cells #[.slice none 0 0, .slice none 0 0] 34) = z := ⟨_, rfl⟩
  have f2 := (Fr.refl [] (w.alloc (.cells #[.slice aL n cL, .slice aC m cC] 34))).alloc (.cells #[.slice none 0 0, .slice none 0 0] 34)
  have hb0 : Blk wA B 34 (two (.slice aL n cL) (.slice aC m cC)) := by
    rw [← hwA, ← hB]
    exact (Blk.made w 34 (two (.slice aL n cL) (.slice aC m cC))).keep f2 (by simp)
  have hb1 : Blk wA (B + 1) 34 zNt := by
    have h := Blk.made (w.alloc (.cells #[.slice aL n cL, .slice aC m cC] 34)) 34 zNt
    rw [show (w.alloc (.cells #[.slice aL n cL, .slice aC m cC] 34)).heap.size = B + 1 from by rw [← hB]; simp] at h
    rw [← hwA]
    exact h
  have hf : Fr [] w wA := by rw [← hwA]; exact ((Fr.refl [] w).alloc _).step f2
  have HB0 := Lib.hid hb0
  have HB1 := Lib.hid hb1
  have HF := Lib.hid hf
  have HBS := Lib.hid hB
  have HWA := Lib.hid hwA
  have HL := Lib.hid hL
  have HC := Lib.hid hC
  clear hb0 hb1 hf hB hwA f2 hL hC hnl hml
  
  go_enter Tryz.func13, Tryz.ntmps13
  go_upto_region 1 with fail
  rw [HWA.out]
  simp only [HBS.out]
  refine wp_region_lit ?_
  refine wpList_plain rfl (fun K hK => ?_); go_simp; refine hK _ _ ?_; clear hK K
  refine wpList_plain rfl (fun K hK => ?_); go_simp; refine hK _ _ ?_; clear hK K
  try simp only [Act.put, List.getElem_toArray, List.getElem_cons_succ, List.getElem_cons_zero, List.setIfInBounds_toArray, List.set_cons_zero, List.set_cons_succ]
  refine wpList_plain rfl (fun K hK => ?_)
  go_simp
  refine (dnNew_bad c hc _).mono ?_
  rintro e w1 ⟨rfl, f1⟩
  refine hK _ _ ?_
  clear hK K
  try simp only [Act.put, List.getElem_toArray, List.getElem_cons_succ, List.getElem_cons_zero, List.setIfInBounds_toArray, List.set_cons_zero, List.set_cons_succ]
  refine wpList_plain rfl (fun K hK => ?_); go_simp; refine hK _ _ ?_; clear hK K
  refine wpList_plain rfl (fun K hK => ?_); go_simp; refine hK _ _ ?_; clear hK K
  refine wpList_plain rfl (fun K hK => ?_); go_simp; refine hK _ _ ?_; clear hK K
  refine wpList_plain rfl (fun K hK => ?_); go_simp; refine hK _ _ ?_; clear hK K
  try simp only [Act.put, List.getElem_toArray, List.getElem_cons_succ, List.getElem_cons_zero, List.setIfInBounds_toArray, List.set_cons_zero, List.set_cons_succ]
  obtain ⟨E1, hE1⟩ : ∃ E, w1.heap.size = E := ⟨_, rfl⟩
  obtain ⟨wx, hwx⟩ : ∃ z, w1.alloc (.cells #[.int .i64 0, .slice none 0 0, .bool false, .slice none 0 0, .int .i64 0, .int .i64 0, .int .i64 0, .int .i64 0, .slice none 0 0, .bool false, .slice none 0 0, .int .i64 0, .int .i64 0, .int .i64 0, .bool false, .bool false] 94) = z := ⟨_, rfl⟩
  have hbx : Blk wx E1 94 zCn := by rw [← hwx, ← hE1]; exact Blk.made w1 94 zCn
  have fx : Fr [] w1 wx := by rw [← hwx]; exact (Fr.refl [] w1).alloc _
  rw [hwx]
  simp only [hE1]
  have HE1 := Lib.hid (show w.heap.size ≤ E1 ∧ B < E1 ∧ B + 1 < E1 from by rw [← hE1]; exact ⟨(HF.out.step f1).size, (HB0.out.keep f1 (by simp)).lt, (HB1.out.keep f1 (by simp)).lt⟩)
  have HX := Lib.hid hbx
  have HF1 := Lib.hid ((HF.out.step f1).step fx)
  have HB01 := Lib.hid ((HB0.out.keep f1 (by simp)).keep fx (by simp))
  have HB11 := Lib.hid ((HB1.out.keep f1 (by simp)).keep fx (by simp))
  clear f1 fx hbx hwx hE1 HB0 HB1 HF
  obtain ⟨w2, hst, hb_, hf_⟩ := store_all (t := 94) zeroL size94 rfl (cnL_one _ _ _ _ _ _ _) HX.out rfl
  refine wpList_skp rfl (w' := w2) ?_ ?_
  · show Sem.run Tryz.prog ((Instr.storeAt 94 (.pointer (some ⟨E1, 0, none⟩)) (.agg zeroL.toArray)) >>= fun _ => pure Next.skip) _ = _
    rw [Sem.run_bind, hst]
    rfl
  clear hst
  try simp only [Act.put, List.getElem_toArray, List.getElem_cons_succ, List.getElem_cons_zero, List.setIfInBounds_toArray, List.set_cons_zero, List.set_cons_succ]
  refine wpList_plain rfl (fun K hK => ?_); go_simp; refine hK _ _ ?_; clear hK K
  refine wpList_nil ?_
  try simp only [Act.put, List.getElem_toArray, List.getElem_cons_succ, List.getElem_cons_zero, List.setIfInBounds_toArray, List.set_cons_zero, List.set_cons_succ]
  have HX2 := Lib.hid (show Blk w2 E1 94 (zeroL) from hb_)
  have HF2 := Lib.hid (HF1.out.own1 (S := []) (B := 0) hf_ HE1.out.1)
  have HB02 := Lib.hid (HB01.out.keep hf_ (fun hm => by rw [List.mem_singleton] at hm; have := HE1.out; omega))
  have HB12 := Lib.hid (HB11.out.keep hf_ (fun hm => by rw [List.mem_singleton] at hm; have := HE1.out; omega))
  clear hb_ hf_ HX HF1 HB01 HB11
  go_upto_region 3 with fail
  refine wp_region_lit ?_
  refine wpList_val rfl (v := .agg (two (.slice aL n cL) (.slice aC m cC)).toArray) (w' := w2) ?_ ?_
  · show Sem.run Tryz.prog ((Instr.loadAt 34 (.pointer (some ⟨B, 0, none⟩))) >>= fun x => pure (Next.value x)) w2 = _
    rw [Sem.run_bind, load_all agg34 size34 (xs := two (.slice aL n cL) (.slice aC m cC)) rfl HB02.out.at]
    rfl
  try simp only [Act.put, List.getElem_toArray, List.getElem_cons_succ, List.getElem_cons_zero, List.setIfInBounds_toArray, List.set_cons_zero, List.set_cons_succ]
  refine wpList_plain rfl (fun K hK => ?_); go_simp; refine hK _ _ ?_; clear hK K
  obtain ⟨w9, hst, hb_, hf_⟩ := store_all (t := 34) (two (.slice aL n cL) (.slice aC m cC)) size34 rfl (two_oneS _ _ _ _ _ _) HB12.out rfl
  refine wpList_skp rfl (w' := w9) ?_ ?_
  · show Sem.run Tryz.prog ((Instr.storeAt 34 (.pointer (some ⟨B + 1, 0, none⟩)) (.agg (two (.slice aL n cL) (.slice aC m cC)).toArray)) >>= fun _ => pure Next.skip) _ = _
    rw [Sem.run_bind, hst]
    rfl
  clear hst
  try simp only [Act.put, List.getElem_toArray, List.getElem_cons_succ, List.getElem_cons_zero, List.setIfInBounds_toArray, List.set_cons_zero, List.set_cons_succ]
  refine wpList_plain rfl (fun K hK => ?_); go_simp; refine hK _ _ ?_; clear hK K
  refine wpList_plain rfl (fun K hK => ?_); go_simp; refine hK _ _ ?_; clear hK K
  refine wpList_nil ?_
  try simp only [Act.put, List.getElem_toArray, List.getElem_cons_succ, List.getElem_cons_zero, List.setIfInBounds_toArray, List.set_cons_zero, List.set_cons_succ]
  have HR9 := Lib.hid hb_
  have HF9 := Lib.hid (HF2.out.own1 (S := []) (B := 0) hf_ (by have := HBS.out; omega))
  clear hb_ hf_
  go_wp2
  have hl := load_var agg34 size34 (xs := two (.slice aL n cL) (.slice aC m cC)) rfl HR9.out.at
  refine bodyPost_ret (v := .tuple #[.agg (two (.slice aL n cL) (.slice aC m cC)).toArray, .int .i64 0, .int .i64 2]) (by simp [results, Tryz.results13, as_addr, hl]) rfl ?_
  exact ⟨rfl, HF9.out⟩
theorem nPair_full (vL vC : Value) (D : List PN.PL) (C : List PG) (c : Int) (w : World) (hL : LRow w vL D) (hC : CRow w vC C) (hc : 0 ≤ c ∧ c ≤ 4096) (hm : 128 ≤ C.length) (hm2 : C.length ≤ 1000) :
    Calls Tryz.prog 13 #[.agg #[vL, vC], .int .i64 c] w fun e w' => e = .returned (.tuple #[.agg #[vL, vC], .int .i64 0, .int .i64 7]) ∧ Fr [] w w' := by
  obtain ⟨n, hnl⟩ : ∃ n, D.length = n := ⟨_, rfl⟩
  obtain ⟨m, hml⟩ : ∃ m, C.length = m := ⟨_, rfl⟩
  obtain ⟨aL, cL, rfl⟩ := hL.val
  obtain ⟨aC, cC, rfl⟩ := hC.val
  rw [hnl] at hL ⊢
  rw [hml] at hC ⊢
  have HN := Lib.hid hnl
  have HM := Lib.hid hml
  obtain ⟨B, hB⟩ : ∃ B, w.heap.size = B := ⟨_, rfl⟩
  obtain ⟨wA, hwA⟩ : ∃ z, (w.alloc (.cells #[.slice aL n cL, .slice aC m cC] 34)).alloc (.cells #[.slice none 0 0, .slice none 0 0] 34) = z := ⟨_, rfl⟩
  have f2 := (Fr.refl [] (w.alloc (.cells #[.slice aL n cL, .slice aC m cC] 34))).alloc (.cells #[.slice none 0 0, .slice none 0 0] 34)
  have hb0 : Blk wA B 34 (two (.slice aL n cL) (.slice aC m cC)) := by
    rw [← hwA, ← hB]
    exact (Blk.made w 34 (two (.slice aL n cL) (.slice aC m cC))).keep f2 (by simp)
  have hb1 : Blk wA (B + 1) 34 zNt := by
    have h := Blk.made (w.alloc (.cells #[.slice aL n cL, .slice aC m cC] 34)) 34 zNt
    rw [show (w.alloc (.cells #[.slice aL n cL, .slice aC m cC] 34)).heap.size = B + 1 from by rw [← hB]; simp] at h
    rw [← hwA]
    exact h
  have hf : Fr [] w wA := by rw [← hwA]; exact ((Fr.refl [] w).alloc _).step f2
  have HB0 := Lib.hid hb0
  have HB1 := Lib.hid hb1
  have HF := Lib.hid hf
  have HBS := Lib.hid hB
  have HWA := Lib.hid hwA
  have HL := Lib.hid hL
  have HC := Lib.hid hC
  clear hb0 hb1 hf hB hwA f2 hL hC hnl hml
  
  rw [HM.out] at hm hm2
  have hm' : (128 : Int) ≤ (m : Int) := by omega
  go_enter Tryz.func13, Tryz.ntmps13
  go_upto_region 1 with fail
  rw [HWA.out]
  simp only [HBS.out]
  refine wp_region_lit ?_
  refine wpList_plain rfl (fun K hK => ?_); go_simp; refine hK _ _ ?_; clear hK K
  refine wpList_plain rfl (fun K hK => ?_); go_simp; refine hK _ _ ?_; clear hK K
  try simp only [Act.put, List.getElem_toArray, List.getElem_cons_succ, List.getElem_cons_zero, List.setIfInBounds_toArray, List.set_cons_zero, List.set_cons_succ]
  refine wpList_plain rfl (fun K hK => ?_)
  go_simp
  refine (dnNew_ok c hc _).mono ?_
  rintro e w1 ⟨rfl, f1⟩
  refine hK _ _ ?_
  clear hK K
  try simp only [Act.put, List.getElem_toArray, List.getElem_cons_succ, List.getElem_cons_zero, List.setIfInBounds_toArray, List.set_cons_zero, List.set_cons_succ]
  refine wpList_plain rfl (fun K hK => ?_); go_simp; refine hK _ _ ?_; clear hK K
  refine wpList_plain rfl (fun K hK => ?_); go_simp; refine hK _ _ ?_; clear hK K
  refine wpList_plain rfl (fun K hK => ?_); go_simp; refine hK _ _ ?_; clear hK K
  refine wpList_plain rfl (fun K hK => ?_); go_simp; refine hK _ _ ?_; clear hK K
  try simp only [Act.put, List.getElem_toArray, List.getElem_cons_succ, List.getElem_cons_zero, List.setIfInBounds_toArray, List.set_cons_zero, List.set_cons_succ]
  obtain ⟨E1, hE1⟩ : ∃ E, w1.heap.size = E := ⟨_, rfl⟩
  obtain ⟨wx, hwx⟩ : ∃ z, w1.alloc (.cells #[.int .i64 0, .slice none 0 0, .bool false, .slice none 0 0, .int .i64 0, .int .i64 0, .int .i64 0, .int .i64 0, .slice none 0 0, .bool false, .slice none 0 0, .int .i64 0, .int .i64 0, .int .i64 0, .bool false, .bool false] 94) = z := ⟨_, rfl⟩
  have hbx : Blk wx E1 94 zCn := by rw [← hwx, ← hE1]; exact Blk.made w1 94 zCn
  have fx : Fr [] w1 wx := by rw [← hwx]; exact (Fr.refl [] w1).alloc _
  rw [hwx]
  simp only [hE1]
  have HE1 := Lib.hid (show w.heap.size ≤ E1 ∧ B < E1 ∧ B + 1 < E1 from by rw [← hE1]; exact ⟨(HF.out.step f1).size, (HB0.out.keep f1 (by simp)).lt, (HB1.out.keep f1 (by simp)).lt⟩)
  have HX := Lib.hid hbx
  have HF1 := Lib.hid ((HF.out.step f1).step fx)
  have HB01 := Lib.hid ((HB0.out.keep f1 (by simp)).keep fx (by simp))
  have HB11 := Lib.hid ((HB1.out.keep f1 (by simp)).keep fx (by simp))
  clear f1 fx hbx hwx hE1 HB0 HB1 HF
  obtain ⟨w2, hst, hb_, hf_⟩ := store_all (t := 94) (cnL c 0 0 0 0 false false) size94 rfl (cnL_one _ _ _ _ _ _ _) HX.out rfl
  refine wpList_skp rfl (w' := w2) ?_ ?_
  · show Sem.run Tryz.prog ((Instr.storeAt 94 (.pointer (some ⟨E1, 0, none⟩)) (.agg (cnL c 0 0 0 0 false false).toArray)) >>= fun _ => pure Next.skip) _ = _
    rw [Sem.run_bind, hst]
    rfl
  clear hst
  try simp only [Act.put, List.getElem_toArray, List.getElem_cons_succ, List.getElem_cons_zero, List.setIfInBounds_toArray, List.set_cons_zero, List.set_cons_succ]
  refine wpList_plain rfl (fun K hK => ?_); go_simp; refine hK _ _ ?_; clear hK K
  refine wpList_nil ?_
  try simp only [Act.put, List.getElem_toArray, List.getElem_cons_succ, List.getElem_cons_zero, List.setIfInBounds_toArray, List.set_cons_zero, List.set_cons_succ]
  have HX2 := Lib.hid (show Blk w2 E1 94 (cnC (newCC c) q0) from hb_)
  have HF2 := Lib.hid (HF1.out.own1 (S := []) (B := 0) hf_ HE1.out.1)
  have HB02 := Lib.hid (HB01.out.keep hf_ (fun hm => by rw [List.mem_singleton] at hm; have := HE1.out; omega))
  have HB12 := Lib.hid (HB11.out.keep hf_ (fun hm => by rw [List.mem_singleton] at hm; have := HE1.out; omega))
  clear hb_ hf_ HX HF1 HB01 HB11
  have cC0 : w2.cell? ⟨B, 1, none⟩ = some (.slice aC m cC) := HB02.out.at 1 _ rfl
  go_upto_region 5 with fail
  clear cC0
  refine wp_region_lit ?_
  refine wpList_val rfl (v := .agg (two (.slice aL n cL) (.slice aC m cC)).toArray) (w' := w2) ?_ ?_
  · show Sem.run Tryz.prog ((Instr.loadAt 34 (.pointer (some ⟨B, 0, none⟩))) >>= fun x => pure (Next.value x)) w2 = _
    rw [Sem.run_bind, load_all agg34 size34 (xs := two (.slice aL n cL) (.slice aC m cC)) rfl HB02.out.at]
    rfl
  try simp only [Act.put, List.getElem_toArray, List.getElem_cons_succ, List.getElem_cons_zero, List.setIfInBounds_toArray, List.set_cons_zero, List.set_cons_succ]
  obtain ⟨w9, hst, hb_, hf_⟩ := store_all (t := 34) (two (.slice aL n cL) (.slice aC m cC)) size34 rfl (two_oneS _ _ _ _ _ _) HB12.out rfl
  refine wpList_skp rfl (w' := w9) ?_ ?_
  · show Sem.run Tryz.prog ((Instr.storeAt 34 (.pointer (some ⟨B + 1, 0, none⟩)) (.agg (two (.slice aL n cL) (.slice aC m cC)).toArray)) >>= fun _ => pure Next.skip) _ = _
    rw [Sem.run_bind, hst]
    rfl
  clear hst
  try simp only [Act.put, List.getElem_toArray, List.getElem_cons_succ, List.getElem_cons_zero, List.setIfInBounds_toArray, List.set_cons_zero, List.set_cons_succ]
  refine wpList_plain rfl (fun K hK => ?_); go_simp; refine hK _ _ ?_; clear hK K
  refine wpList_plain rfl (fun K hK => ?_); go_simp; refine hK _ _ ?_; clear hK K
  refine wpList_nil ?_
  try simp only [Act.put, List.getElem_toArray, List.getElem_cons_succ, List.getElem_cons_zero, List.setIfInBounds_toArray, List.set_cons_zero, List.set_cons_succ]
  have HR9 := Lib.hid hb_
  have HF9 := Lib.hid (HF2.out.own1 (S := []) (B := 0) hf_ (by have := HBS.out; omega))
  clear hb_ hf_
  go_wp2
  have hl := load_var agg34 size34 (xs := two (.slice aL n cL) (.slice aC m cC)) rfl HR9.out.at
  refine bodyPost_ret (v := .tuple #[.agg (two (.slice aL n cL) (.slice aC m cC)).toArray, .int .i64 0, .int .i64 7]) (by simp [results, Tryz.results13, as_addr, hl]) rfl ?_
  exact ⟨rfl, HF9.out⟩
theorem nPair_ok (vL vC : Value) (D : List PN.PL) (C : List PG) (c : Int) (w : World) (hL : LRow w vL D) (hC : CRow w vC C) (hc : 0 ≤ c ∧ c ≤ 4096) (hn : NetFit D C) (hm : C.length < 128) (hs : C.Pairwise (fun a b => a.ref < b.ref)) :
    Calls Tryz.prog 13 #[.agg #[vL, vC], .int .i64 c] w (NetOut w D (insG C c) [.int .i64 (frG C), .int .i64 0]) := by
  obtain ⟨n, hnl⟩ : ∃ n, D.length = n := ⟨_, rfl⟩
  obtain ⟨m, hml⟩ : ∃ m, C.length = m := ⟨_, rfl⟩
  obtain ⟨aL, cL, rfl⟩ := hL.val
  obtain ⟨aC, cC, rfl⟩ := hC.val
  rw [hnl] at hL ⊢
  rw [hml] at hC ⊢
  have HN := Lib.hid hnl
  have HM := Lib.hid hml
  obtain ⟨B, hB⟩ : ∃ B, w.heap.size = B := ⟨_, rfl⟩
  obtain ⟨wA, hwA⟩ : ∃ z, (w.alloc (.cells #[.slice aL n cL, .slice aC m cC] 34)).alloc (.cells #[.slice none 0 0, .slice none 0 0] 34) = z := ⟨_, rfl⟩
  have f2 := (Fr.refl [] (w.alloc (.cells #[.slice aL n cL, .slice aC m cC] 34))).alloc (.cells #[.slice none 0 0, .slice none 0 0] 34)
  have hb0 : Blk wA B 34 (two (.slice aL n cL) (.slice aC m cC)) := by
    rw [← hwA, ← hB]
    exact (Blk.made w 34 (two (.slice aL n cL) (.slice aC m cC))).keep f2 (by simp)
  have hb1 : Blk wA (B + 1) 34 zNt := by
    have h := Blk.made (w.alloc (.cells #[.slice aL n cL, .slice aC m cC] 34)) 34 zNt
    rw [show (w.alloc (.cells #[.slice aL n cL, .slice aC m cC] 34)).heap.size = B + 1 from by rw [← hB]; simp] at h
    rw [← hwA]
    exact h
  have hf : Fr [] w wA := by rw [← hwA]; exact ((Fr.refl [] w).alloc _).step f2
  have HB0 := Lib.hid hb0
  have HB1 := Lib.hid hb1
  have HF := Lib.hid hf
  have HBS := Lib.hid hB
  have HWA := Lib.hid hwA
  have HL := Lib.hid hL
  have HC := Lib.hid hC
  clear hb0 hb1 hf hB hwA f2 hL hC hnl hml
  
  have HFIT := Lib.hid hn
  have HK := Lib.hid (PN.free_spec (C.map (·.ref)))
  obtain ⟨k, hk⟩ : ∃ k, frG C = k := ⟨_, rfl⟩
  have hkm : k ≤ m := by rw [← hk, ← HM.out]; exact PN.free_le
  have hk' : PN.free (C.map (·.ref)) = k := hk
  rw [hk'] at HK
  rw [hk]
  have HKK := Lib.hid hk
  clear hk hk'
  rw [HM.out] at hm
  have hm' : (m : Int) < 128 := by omega
  clear hn
  go_enter Tryz.func13, Tryz.ntmps13
  go_upto_region 1 with fail
  rw [HWA.out]
  simp only [HBS.out]
  refine wp_region_lit ?_
  refine wpList_plain rfl (fun K hK => ?_); go_simp; refine hK _ _ ?_; clear hK K
  refine wpList_plain rfl (fun K hK => ?_); go_simp; refine hK _ _ ?_; clear hK K
  try simp only [Act.put, List.getElem_toArray, List.getElem_cons_succ, List.getElem_cons_zero, List.setIfInBounds_toArray, List.set_cons_zero, List.set_cons_succ]
  refine wpList_plain rfl (fun K hK => ?_)
  go_simp
  refine (dnNew_ok c hc _).mono ?_
  rintro e w1 ⟨rfl, f1⟩
  refine hK _ _ ?_
  clear hK K
  try simp only [Act.put, List.getElem_toArray, List.getElem_cons_succ, List.getElem_cons_zero, List.setIfInBounds_toArray, List.set_cons_zero, List.set_cons_succ]
  refine wpList_plain rfl (fun K hK => ?_); go_simp; refine hK _ _ ?_; clear hK K
  refine wpList_plain rfl (fun K hK => ?_); go_simp; refine hK _ _ ?_; clear hK K
  refine wpList_plain rfl (fun K hK => ?_); go_simp; refine hK _ _ ?_; clear hK K
  refine wpList_plain rfl (fun K hK => ?_); go_simp; refine hK _ _ ?_; clear hK K
  try simp only [Act.put, List.getElem_toArray, List.getElem_cons_succ, List.getElem_cons_zero, List.setIfInBounds_toArray, List.set_cons_zero, List.set_cons_succ]
  obtain ⟨E1, hE1⟩ : ∃ E, w1.heap.size = E := ⟨_, rfl⟩
  obtain ⟨wx, hwx⟩ : ∃ z, w1.alloc (.cells #[.int .i64 0, .slice none 0 0, .bool false, .slice none 0 0, .int .i64 0, .int .i64 0, .int .i64 0, .int .i64 0, .slice none 0 0, .bool false, .slice none 0 0, .int .i64 0, .int .i64 0, .int .i64 0, .bool false, .bool false] 94) = z := ⟨_, rfl⟩
  have hbx : Blk wx E1 94 zCn := by rw [← hwx, ← hE1]; exact Blk.made w1 94 zCn
  have fx : Fr [] w1 wx := by rw [← hwx]; exact (Fr.refl [] w1).alloc _
  rw [hwx]
  simp only [hE1]
  have HE1 := Lib.hid (show w.heap.size ≤ E1 ∧ B < E1 ∧ B + 1 < E1 from by rw [← hE1]; exact ⟨(HF.out.step f1).size, (HB0.out.keep f1 (by simp)).lt, (HB1.out.keep f1 (by simp)).lt⟩)
  have HX := Lib.hid hbx
  have HF1 := Lib.hid ((HF.out.step f1).step fx)
  have HB01 := Lib.hid ((HB0.out.keep f1 (by simp)).keep fx (by simp))
  have HB11 := Lib.hid ((HB1.out.keep f1 (by simp)).keep fx (by simp))
  clear f1 fx hbx hwx hE1 HB0 HB1 HF
  obtain ⟨w2, hst, hb_, hf_⟩ := store_all (t := 94) (cnL c 0 0 0 0 false false) size94 rfl (cnL_one _ _ _ _ _ _ _) HX.out rfl
  refine wpList_skp rfl (w' := w2) ?_ ?_
  · show Sem.run Tryz.prog ((Instr.storeAt 94 (.pointer (some ⟨E1, 0, none⟩)) (.agg (cnL c 0 0 0 0 false false).toArray)) >>= fun _ => pure Next.skip) _ = _
    rw [Sem.run_bind, hst]
    rfl
  clear hst
  try simp only [Act.put, List.getElem_toArray, List.getElem_cons_succ, List.getElem_cons_zero, List.setIfInBounds_toArray, List.set_cons_zero, List.set_cons_succ]
  refine wpList_plain rfl (fun K hK => ?_); go_simp; refine hK _ _ ?_; clear hK K
  refine wpList_nil ?_
  try simp only [Act.put, List.getElem_toArray, List.getElem_cons_succ, List.getElem_cons_zero, List.setIfInBounds_toArray, List.set_cons_zero, List.set_cons_succ]
  have HX2 := Lib.hid (show Blk w2 E1 94 (cnC (newCC c) q0) from hb_)
  have HF2 := Lib.hid (HF1.out.own1 (S := []) (B := 0) hf_ HE1.out.1)
  have HB02 := Lib.hid (HB01.out.keep hf_ (fun hm => by rw [List.mem_singleton] at hm; have := HE1.out; omega))
  have HB12 := Lib.hid (HB11.out.keep hf_ (fun hm => by rw [List.mem_singleton] at hm; have := HE1.out; omega))
  clear hb_ hf_ HX HF1 HB01 HB11
  have cC0 : w2.cell? ⟨B, 1, none⟩ = some (.slice aC m cC) := HB02.out.at 1 _ rfl
  go_wp2_with fail
  go_loopw [9] (fun i wr => ∃ (wz : World) (q : Nat), wz = wr ∧ i = .int .i64 q ∧ q ≤ k ∧ Fr [] w2 wr) (fun i _ => k - (intOf i).toNat)
  case atStart => exact ⟨_, 0, rfl, rfl, by omega, Fr.refl _ _⟩
  case round =>
    obtain ⟨wr, q, hwz, rfl, hq, fr⟩ := hrel
    subst hwz
    have HB03 := Lib.hid (HB02.out.keep fr (by simp))
    have HB13 := Lib.hid (HB12.out.keep fr (by simp))
    have HX3 := Lib.hid (HX2.out.keep fr (by simp))
    have HF3 := Lib.hid (HF2.out.step fr)
    have HFR := Lib.hid fr
    clear fr cC0
    go_upto_region 7 with fail
    refine wp_region_lit ?_
    refine wpList_val rfl (v := .agg (two (.slice aL n cL) (.slice aC m cC)).toArray) (w' := wr) ?_ ?_
    · show Sem.run Tryz.prog ((Instr.loadAt 34 (.pointer (some ⟨B, 0, none⟩))) >>= fun x => pure (Next.value x)) wr = _
      rw [Sem.run_bind, load_all agg34 size34 (xs := two (.slice aL n cL) (.slice aC m cC)) rfl HB03.out.at]
      rfl
    try simp only [Act.put, List.getElem_toArray, List.getElem_cons_succ, List.getElem_cons_zero, List.setIfInBounds_toArray, List.set_cons_zero, List.set_cons_succ]
    refine wpList_plain rfl (fun K hK => ?_); go_simp; refine hK _ _ ?_; clear hK K
    try simp only [Act.put, List.getElem_toArray, List.getElem_cons_succ, List.getElem_cons_zero, List.setIfInBounds_toArray, List.set_cons_zero, List.set_cons_succ]
    refine wpList_plain rfl (fun K hK => ?_)
    go_simp
    refine (connAtG (.slice aL n cL) (.slice aC m cC) C (q : Int) _ (by have := CRow.next (show CRow w (.slice aC m cC) C from by have := HC.out; exact this) HF3.out; exact this) (by rw [HM.out]; omega)).mono ?_
    rintro e w4 ⟨rfl, f4⟩
    refine hK _ _ ?_
    clear hK K
    try simp only [Act.put, List.getElem_toArray, List.getElem_cons_succ, List.getElem_cons_zero, List.setIfInBounds_toArray, List.set_cons_zero, List.set_cons_succ]
    have HB04 := Lib.hid (HB03.out.keep f4 (by simp))
    have HB14 := Lib.hid (HB13.out.keep f4 (by simp))
    have HX4 := Lib.hid (HX3.out.keep f4 (by simp))
    have HF4 := Lib.hid (HF3.out.step f4)
    have HFR4 := Lib.hid (HFR.out.step f4)
    clear f4 HB03 HB13 HX3 HF3 HFR
    obtain ⟨P, hP⟩ : ∃ P, place (PN.pick (refG (q : Int)) C 0) = P := ⟨_, rfl⟩
    rw [hP]
    by_cases hqk : q < k
    · skip
      have hP0 : 0 ≤ P := by
        obtain ⟨i, y, he⟩ := refG_mem.2 (HK.out.2.1 q hqk)
        rw [← hP, he]
        simp [place]
      have d0 : decide (0 ≤ P) = true := decide_eq_true hP0
      clear hP
      go_wp2
      go_roundw
      case rel => exact ⟨_, q + 1, rfl, by go_num, by omega, HFR4.out⟩
      case measure => simp [intOf]; omega
    · skip
      obtain rfl : q = k := by omega
      have hP0 : P < 0 := by
        rw [← hP]
        cases he : PN.pick (refG (q : Int)) C 0 with
        | none => simp [place]
        | some a => exact absurd (refG_mem.1 ⟨a.1, a.2, he⟩) HK.out.1
      have d0 : decide (0 ≤ P) = false := decide_eq_false (by omega)
      clear hP
      go_upto_region 9 with fail
      refine wp_region_lit ?_
      refine wpList_val rfl (v := .agg (two (.slice aL n cL) (.slice aC m cC)).toArray) (w' := w4) ?_ ?_
      · show Sem.run Tryz.prog ((Instr.loadAt 34 (.pointer (some ⟨B, 0, none⟩))) >>= fun x => pure (Next.value x)) w4 = _
        rw [Sem.run_bind, load_all agg34 size34 (xs := two (.slice aL n cL) (.slice aC m cC)) rfl HB04.out.at]
        rfl
      try simp only [Act.put, List.getElem_toArray, List.getElem_cons_succ, List.getElem_cons_zero, List.setIfInBounds_toArray, List.set_cons_zero, List.set_cons_succ]
      refine wpList_plain rfl (fun K hK => ?_)
      go_simp
      refine (nCopy_any (.slice aL n cL) (.slice aC m cC) D C _ (LRow.next HL.out HF4.out) (CRow.next HC.out HF4.out) HFIT.out).mono ?_
      rintro e w5 ⟨sL, sC, rfl, oL, oC, f5⟩
      refine hK _ _ ?_
      clear hK K
      try simp only [Act.put, List.getElem_toArray, List.getElem_cons_succ, List.getElem_cons_zero, List.setIfInBounds_toArray, List.set_cons_zero, List.set_cons_succ]
      have HB15 := Lib.hid (HB14.out.keep f5 (by simp))
      have HX5 := Lib.hid (HX4.out.keep f5 (by simp))
      have HF5 := Lib.hid (HF4.out.step f5)
      have HOL5 := Lib.hid (oL.base (B' := B) (by rw [← HBS.out]; exact HF4.out.size))
      have HOC5 := Lib.hid (oC.base (B' := B) (by rw [← HBS.out]; exact HF4.out.size))
      clear f5 oL oC HB04 HB14 HX4 HF4 HFR4
      refine wpList_plain rfl (fun K hK => ?_); go_simp; refine hK _ _ ?_; clear hK K
      try simp only [Act.put, List.getElem_toArray, List.getElem_cons_succ, List.getElem_cons_zero, List.setIfInBounds_toArray, List.set_cons_zero, List.set_cons_succ]
      obtain ⟨E6, hE6⟩ : ∃ E, w5.heap.size = E := ⟨_, rfl⟩
      obtain ⟨wy, hwy⟩ : ∃ z, w5.alloc (.cells #[.slice none 0 0, .slice none 0 0] 34) = z := ⟨_, rfl⟩
      have hby : Blk wy E6 34 zNt := by rw [← hwy, ← hE6]; exact Blk.made w5 34 zNt
      have fy : Fr [] w5 wy := by rw [← hwy]; exact (Fr.refl [] w5).alloc _
      rw [hwy]
      simp only [hE6]
      have HE6 := Lib.hid (show w.heap.size ≤ E6 ∧ B + 1 < E6 ∧ E1 < E6 from by rw [← hE6]; exact ⟨HF5.out.size, HB15.out.lt, HX5.out.lt⟩)
      have HY6 := Lib.hid hby
      have HB16 := Lib.hid (HB15.out.keep fy (by simp))
      have HX6 := Lib.hid (HX5.out.keep fy (by simp))
      have HF6 := Lib.hid (HF5.out.step fy)
      have HOL6 := Lib.hid (HOL5.out.next fy)
      have HOC6 := Lib.hid (HOC5.out.next fy)
      clear fy hby hwy hE6 HB15 HX5 HF5 HOL5 HOC5
      obtain ⟨w7, hst, hb_, hf_⟩ := store_all (t := 34) (two (slv sL) (slv sC)) size34 rfl (two_one _ _) HY6.out rfl
      refine wpList_skp rfl (w' := w7) ?_ ?_
      · show Sem.run Tryz.prog ((Instr.storeAt 34 (.pointer (some ⟨E6, 0, none⟩)) (.agg (two (slv sL) (slv sC)).toArray)) >>= fun _ => pure Next.skip) _ = _
        rw [Sem.run_bind, hst]
        rfl
      clear hst
      try simp only [Act.put, List.getElem_toArray, List.getElem_cons_succ, List.getElem_cons_zero, List.setIfInBounds_toArray, List.set_cons_zero, List.set_cons_succ]
      refine wpList_nil ?_
      try simp only [Act.put, List.getElem_toArray, List.getElem_cons_succ, List.getElem_cons_zero, List.setIfInBounds_toArray, List.set_cons_zero, List.set_cons_succ]
      have HY7 := Lib.hid hb_
      have HB17 := Lib.hid (HB16.out.keep hf_ (fun hm => by rw [List.mem_singleton] at hm; have := HE6.out; omega))
      have HX7 := Lib.hid (HX6.out.keep hf_ (fun hm => by rw [List.mem_singleton] at hm; have := HE6.out; omega))
      have HF7 := Lib.hid (HF6.out.own1 (S := []) (B := 0) hf_ HE6.out.1)
      have HOL7 := Lib.hid (HOL6.out.far HY6.out hf_ (by decide) (by decide))
      have HOC7 := Lib.hid (HOC6.out.far HY6.out hf_ (by decide) (by decide))
      clear hb_ hf_ HY6 HB16 HX6 HF6 HOL6 HOC6
      obtain ⟨w8, hw8⟩ : ∃ z, w7.drew = z := ⟨_, rfl⟩
      have f8 : Fr [] w7 w8 := by rw [← hw8]; exact (Fr.refl [] w7).drew
      have HY8 := Lib.hid (HY7.out.keep f8 (by simp))
      have HB18 := Lib.hid (HB17.out.keep f8 (by simp))
      have HX8 := Lib.hid (HX7.out.keep f8 (by simp))
      have HF8 := Lib.hid (HF7.out.step f8)
      have HOL8 := Lib.hid (HOL7.out.next f8)
      obtain ⟨Xs, hrec, hown⟩ := HOC7.out.next f8
      rw [HM.out] at hown
      obtain ⟨vr, hvr, hrr⟩ := own_slice_from elemConn hown q hkm
      have HW8 := Lib.hid hw8
      have HREC8 := Lib.hid hrec
      have HOWN8 := Lib.hid hown
      have HRR8 := Lib.hid hrr
      clear f8 hw8 hrec hown hrr HY7 HB17 HX7 HF7 HOL7 HOC7
      go_upto_region 10 with fail
      obtain ⟨sC1, sC2, sC3⟩ := sC
      refine wp_region_held_drew (S := fun w' => w'.cell? ⟨E6, 1, none⟩ = some (.slice sC1 sC2 sC3) ∧ LiesAt w' E1 0 (cnC (newCC c) q0)) (by kernel_rfl) (by rw [HW8.out]; exact ⟨HY8.out.at 1 _ rfl, HX8.out.at⟩) (fun hHeld => ?_)
      rw [HW8.out] at hHeld ⊢
      refine wpAnyH_take (i := 0) (oi := _) (v := ?_) rfl (by kernel_rfl) (by kernel_rfl) (by kernel_rfl) (fun _ _ _ h => h) (Or.inl ⟨by rfl, ?_⟩) (by first | assumption | trivial) ?_
      rotate_left
      · intro w hSw; (try dsimp only at hSw); go_simp; try with_reducible rfl
      try simp only [Act.put, List.getElem_toArray, List.getElem_cons_succ, List.getElem_cons_zero, List.setIfInBounds_toArray, List.set_cons_zero, List.set_cons_succ]
      refine wpAnyH_take (i := 1) (oi := _) (v := .agg (cnC (newCC c) q0).toArray) rfl (by kernel_rfl) (by kernel_rfl) (by kernel_rfl) (fun _ _ _ h => h) (Or.inl ⟨by rfl, ?_⟩) (by first | assumption | trivial) ?_
      · intro w hSw
        try dsimp only at hSw
        show Sem.run Tryz.prog ((Instr.loadAt 94 (.pointer (some ⟨E1, 0, none⟩))) >>= fun x => pure (Next.value x)) w = _
        rw [Sem.run_bind, load_all agg94 size94 (xs := cnC (newCC c) q0) rfl hSw.2]
        rfl
      try simp only [Act.put, List.getElem_toArray, List.getElem_cons_succ, List.getElem_cons_zero, List.setIfInBounds_toArray, List.set_cons_zero, List.set_cons_succ]
      refine wpAnyH_take (i := 2) (oi := _) (v := .agg (pgC ⟨q, newCC c⟩ q0).toArray) rfl (by kernel_rfl) (by kernel_rfl) (by kernel_rfl) (fun _ _ _ h => h) (Or.inl ⟨by rfl, ?_⟩) (by first | assumption | trivial) ?_
      · intro w hSw
        try dsimp only at hSw
        exact exec_bld2 (V := .int .i64 q) (U := .agg (cnC (newCC c) q0).toArray) rfl rfl rfl (bldConn ⟨q, newCC c⟩ q0 w)
      try simp only [Act.put, List.getElem_toArray, List.getElem_cons_succ, List.getElem_cons_zero, List.setIfInBounds_toArray, List.set_cons_zero, List.set_cons_succ]
      refine wpAnyH_take (i := 4) (oi := _) (v := ?_) rfl (by kernel_rfl) (by kernel_rfl) (by kernel_rfl) (fun _ _ _ h => h) (Or.inl ⟨by rfl, ?_⟩) (by first | assumption | trivial) ?_
      rotate_left
      · intro w hSw; (try dsimp only at hSw); go_simp; try with_reducible rfl
      try simp only [Act.put, List.getElem_toArray, List.getElem_cons_succ, List.getElem_cons_zero, List.setIfInBounds_toArray, List.set_cons_zero, List.set_cons_succ]
      refine wpAnyH_take (i := 5) (oi := _) (v := ?_) rfl (by kernel_rfl) (by kernel_rfl) (by kernel_rfl) (fun _ _ _ h => h) (Or.inl ⟨by rfl, ?_⟩) (by first | assumption | trivial) ?_
      rotate_left
      · intro w hSw; (try dsimp only at hSw); go_simp; try with_reducible rfl
      try simp only [Act.put, List.getElem_toArray, List.getElem_cons_succ, List.getElem_cons_zero, List.setIfInBounds_toArray, List.set_cons_zero, List.set_cons_succ]
      refine wpAnyH_take (i := 6) (oi := _) (v := ?_) rfl (by kernel_rfl) (by kernel_rfl) (by kernel_rfl) (fun _ _ _ h => h) (Or.inl ⟨by rfl, ?_⟩) (by first | assumption | trivial) ?_
      rotate_left
      · intro w hSw; (try dsimp only at hSw); go_simp; try with_reducible rfl
      try simp only [Act.put, List.getElem_toArray, List.getElem_cons_succ, List.getElem_cons_zero, List.setIfInBounds_toArray, List.set_cons_zero, List.set_cons_succ]
      refine wpAnyH_take (i := 7) (oi := _) (v := vr) rfl (by kernel_rfl) (by kernel_rfl) (by kernel_rfl) (fun _ _ _ h => h) (Or.inl ⟨by rfl, ?_⟩) (by first | assumption | trivial) ?_
      · intro w hSw
        try dsimp only at hSw
        exact exec_slice_from (V := slv (sC1, sC2, sC3)) (L := .int .i64 q) rfl rfl rfl elemConn.el.2.1 (hvr w)
      try simp only [Act.put, List.getElem_toArray, List.getElem_cons_succ, List.getElem_cons_zero, List.setIfInBounds_toArray, List.set_cons_zero, List.set_cons_succ]
      refine wpAnyH_ready (rs := [3]) (by kernel_rfl) (by simp) ?_
      refine AllReadyH.cons (o := _) rfl (fun K hK => ?_) AllReadyH.nil
      obtain ⟨w9, hw9⟩ : ∃ z, w8.alloc (.cells (pgC ⟨q, newCC c⟩ q0).toArray 96) = z := ⟨_, rfl⟩
      obtain ⟨E9, hE9⟩ : ∃ z, w8.heap.size = z := ⟨_, rfl⟩
      have hb9 : w9.ownsRow B 96 17 (.slice (some ⟨E9, 0, none⟩) 1 1) 1 (pgC ⟨q, newCC c⟩ q0) := by
        rw [← hw9, ← hE9]
        exact World.ownsRow_lit w8 (pgC ⟨q, newCC c⟩ q0).toArray 1 (by rw [← HBS.out]; exact HF8.out.size) (by unfold maxLen; omega) rfl
      have f9 : Fr [] w8 w9 := by rw [← hw9]; exact (Fr.refl [] w8).alloc _
      have HE9 := Lib.hid (show w.heap.size ≤ E9 ∧ w8.heap.size = E9 from ⟨by rw [← hE9]; exact HF8.out.size, hE9⟩)
      split
      rotate_left
      · rename_i hno
        exact absurd rfl hno
      refine wp_vl (v := .slice (some ⟨E9, 0, none⟩) 1 1) (w' := w9) ?_ ?_
      · refine exec_bsl (V := .agg (pgC ⟨q, newCC c⟩ q0).toArray) rfl rfl ?_
        rw [bslConn, hw9, hE9]
      have HB9 := Lib.hid hb9
      have HF9 := Lib.hid f9
      clear hw9 hE9 hb9 f9
      refine hK.out _ _ (⟨(HY8.out.keep HF9.out (by simp)).at 1 _ rfl, (HX8.out.keep HF9.out (by simp)).at⟩) (fun hHeld => ?_)
      clear hK K
      try simp only [Act.put, List.getElem_toArray, List.getElem_cons_succ, List.getElem_cons_zero, List.setIfInBounds_toArray, List.set_cons_zero, List.set_cons_succ]
      refine wpAnyH_ready (rs := [8]) (by kernel_rfl) (by simp) ?_
      refine AllReadyH.cons (o := _) rfl (fun K hK => ?_) AllReadyH.nil
      split
      rotate_left
      · rename_i hno
        exact absurd rfl hno
      refine wp_append_any elemConn _ _ rfl B (v := .slice (some ⟨E9, 0, none⟩) 1 1) (n := 1) (xs := pgC ⟨q, newCC c⟩ q0) rfl HB9.out (X := vr) (m := m - q) (news := (Xs.drop q).flatten) rfl (by rw [← flat_drop q HREC8.out.sz]; exact HRR8.out.new HF9.out) (flat_one (HREC8.out.drop q).one) (by omega) (by decide) (by have := HBS.out; have := (HF8.out.step HF9.out).size; omega) ?_
      intro sR w10 ho10 f10
      have HF10 := Lib.hid (show Fr [] w8 w10 from HF9.out.trans f10 (fun x hx hl => by
        simp only [Value.ownBlock, Option.toList_some, List.mem_singleton] at hx
        have := HE9.out.2
        omega))
      have HO10 := Lib.hid ho10
      clear ho10 f10
      refine hK.out _ _ (⟨(HY8.out.keep HF10.out (by simp)).at 1 _ rfl, (HX8.out.keep HF10.out (by simp)).at⟩) (fun hHeld => ?_)
      clear hK K
      try simp only [Act.put, List.getElem_toArray, List.getElem_cons_succ, List.getElem_cons_zero, List.setIfInBounds_toArray, List.set_cons_zero, List.set_cons_succ]
      refine wpAnyH_take (i := 9) (oi := _) (v := ?_) rfl (by kernel_rfl) (by kernel_rfl) (by kernel_rfl) (fun _ _ _ h => h) (Or.inl ⟨by rfl, ?_⟩) (by first | assumption | trivial) ?_
      rotate_left
      · intro w hSw; (try dsimp only at hSw); go_simp; try with_reducible rfl
      try simp only [Act.put, List.getElem_toArray, List.getElem_cons_succ, List.getElem_cons_zero, List.setIfInBounds_toArray, List.set_cons_zero, List.set_cons_succ]
      refine wpAnyH_done (by kernel_rfl) ?_ _
      clear hHeld
      have HY10 := Lib.hid (HY8.out.keep HF10.out (by simp))
      have HB110 := Lib.hid (HB18.out.keep HF10.out (by simp))
      have HFT := Lib.hid (HF8.out.step HF10.out)
      have HOL10 := Lib.hid (HOL8.out.next HF10.out)
      have HREC10 := Lib.hid (HREC8.out.mono (fun X y ⟨s, e1, e2⟩ => (⟨s, e1, e2.new HF10.out⟩ : ElCO B w10 X y)))
      obtain ⟨a0, ht0, hr0⟩ := own_slice_to elemConn (rowNew HOWN8.out HF10.out) q hkm
      have HR0 := Lib.hid (show RowV w10 (.slice a0 q q) q 17 (Xs.take q).flatten from by rw [← flat_take q HREC10.out.sz]; exact hr0)
      clear hr0 HB9 HF9 HF10 HY8 HX8 HB18 HF8 HOL8 HREC8 HOWN8 HRR8 HW8 HE9
      go_upto_region 11 with fail
      have c1 : w10.cell? ⟨E6, 1, none⟩ = some (.slice sC1 sC2 sC3) := HY10.out.at 1 _ rfl
      refine wp_region_lit ?_
      refine wpList_plain rfl (fun K hK => ?_); go_simp; refine hK _ _ ?_; clear hK K
      refine wpList_plain rfl (fun K hK => ?_); go_simp; refine hK _ _ ?_; clear hK K
      refine wpList_plain rfl (fun K hK => ?_); go_simp; refine hK _ _ ?_; clear hK K
      refine wpList_plain rfl (fun K hK => ?_); go_simp; refine hK _ _ ?_; clear hK K
      try simp only [Act.put, List.getElem_toArray, List.getElem_cons_succ, List.getElem_cons_zero, List.setIfInBounds_toArray, List.set_cons_zero, List.set_cons_succ]
      refine wpList_val rfl (v := .slice a0 q q) (w' := w10) (exec_slice_to (V := slv (sC1, sC2, sC3)) (H := .int .i64 q) (M := .int .i64 q) rfl rfl rfl rfl elemConn.el.2.1 (ht0 w10)) ?_
      try simp only [Act.put, List.getElem_toArray, List.getElem_cons_succ, List.getElem_cons_zero, List.setIfInBounds_toArray, List.set_cons_zero, List.set_cons_succ]
      refine wpList_plain rfl (fun K hK => ?_); go_simp; refine hK _ _ ?_; clear hK K
      try simp only [Act.put, List.getElem_toArray, List.getElem_cons_succ, List.getElem_cons_zero, List.setIfInBounds_toArray, List.set_cons_zero, List.set_cons_succ]
      refine wpList_append_cap elemConn rfl _ _ rfl (a0 := a0) (n := q) (xs := (Xs.take q).flatten) rfl HR0.out (X := slv sR) (m := 1 + (m - q)) (news := pgC ⟨q, newCC c⟩ q0 ++ (Xs.drop q).flatten) rfl (RowV.of_own HO10.out) (by omega) (by omega) (by decide) ?_
      intro sC' w11 ho11 f11
      try simp only [Act.put, List.getElem_toArray, List.getElem_cons_succ, List.getElem_cons_zero, List.setIfInBounds_toArray, List.set_cons_zero, List.set_cons_succ]
      refine wpList_plain rfl (fun K hK => ?_); go_simp; refine hK _ _ ?_; clear hK K
      try simp only [Act.put, List.getElem_toArray, List.getElem_cons_succ, List.getElem_cons_zero, List.setIfInBounds_toArray, List.set_cons_zero, List.set_cons_succ]
      have HY11 := Lib.hid (HY10.out.keep f11 (by simp))
      have HB111 := Lib.hid (HB110.out.keep f11 (by simp))
      have HF11 := Lib.hid (HFT.out.step f11)
      have HOL11 := Lib.hid (HOL10.out.next f11)
      have HOC11 := Lib.hid (show COwn w11 B (slv sC') (insG C c) from by
        refine ⟨Xs.take q ++ ([pgC ⟨q, newCC c⟩ q0] ++ Xs.drop q), ?_, ?_⟩
        · have h0 := HREC10.out.mono (fun X y ⟨s, e1, e2⟩ => (⟨s, e1, e2.new f11⟩ : ElCO B w11 X y))
          have h1 : Recs 17 (ElCO B w11) [pgC ⟨q, newCC c⟩ q0] [(⟨q, newCC c⟩ : PG)] := Recs.push Recs.nil rfl (pgC_one _ _) ⟨q0, rfl, q0_own _ _ _⟩
          have h2 := (h0.take q).app (h1.app (h0.drop q))
          unfold insG
          rw [HKK.out]
          exact h2
        · have hlen : (insG C c).length = q + (1 + (m - q)) := by
            unfold insG
            rw [HKK.out, List.length_append, List.length_cons, List.length_take, List.length_drop, HM.out]
            omega
          rw [hlen]
          have := rowBase ho11 (base' := B) (by rw [← HBS.out]; exact HFT.out.size)
          rw [List.flatten_append, List.flatten_append, List.flatten_singleton]
          exact this)
      clear ho11 f11 c1 HY10 HB110 HFT HOL10 HREC10 HO10 HR0
      obtain ⟨w12, hst, hb_, hf_⟩ := store_cell (t := 32) (o := 1) (slv sC') size32 rfl rfl HY11.out (by show 1 + 1 ≤ 2; omega)
      refine wpList_skp rfl (w' := w12) ?_ ?_
      · show Sem.run Tryz.prog ((Instr.storeAt 32 (.pointer (some ⟨E6, 1, none⟩)) (slv sC')) >>= fun _ => pure Next.skip) _ = _
        rw [Sem.run_bind, hst]
        rfl
      clear hst
      try simp only [Act.put, List.getElem_toArray, List.getElem_cons_succ, List.getElem_cons_zero, List.setIfInBounds_toArray, List.set_cons_zero, List.set_cons_succ]
      refine wpList_nil ?_
      try simp only [Act.put, List.getElem_toArray, List.getElem_cons_succ, List.getElem_cons_zero, List.setIfInBounds_toArray, List.set_cons_zero, List.set_cons_succ]
      have HY12 := Lib.hid (show Blk w12 E6 34 (two (slv sL) (slv sC')) from hb_)
      have HB112 := Lib.hid (HB111.out.keep hf_ (fun hm => by rw [List.mem_singleton] at hm; have := HE6.out; omega))
      have HF12 := Lib.hid (HF11.out.own1 (S := []) (B := 0) hf_ HE6.out.1)
      have HOL12 := Lib.hid (HOL11.out.far HY11.out hf_ (by decide) (by decide))
      have HOC12 := Lib.hid (HOC11.out.far HY11.out hf_ (by decide) (by decide))
      clear hb_ hf_ HY11 HB111 HF11 HOL11 HOC11
      go_upto_region 12 with fail
      refine wp_region_lit ?_
      refine wpList_val rfl (v := .agg (two (slv sL) (slv sC')).toArray) (w' := w12) ?_ ?_
      · show Sem.run Tryz.prog ((Instr.loadAt 34 (.pointer (some ⟨E6, 0, none⟩))) >>= fun x => pure (Next.value x)) w12 = _
        rw [Sem.run_bind, load_all agg34 size34 (xs := two (slv sL) (slv sC')) rfl HY12.out.at]
        rfl
      try simp only [Act.put, List.getElem_toArray, List.getElem_cons_succ, List.getElem_cons_zero, List.setIfInBounds_toArray, List.set_cons_zero, List.set_cons_succ]
      refine wpList_plain rfl (fun K hK => ?_); go_simp; refine hK _ _ ?_; clear hK K
      try simp only [Act.put, List.getElem_toArray, List.getElem_cons_succ, List.getElem_cons_zero, List.setIfInBounds_toArray, List.set_cons_zero, List.set_cons_succ]
      obtain ⟨w13, hst, hb_, hf_⟩ := store_all (t := 34) (two (slv sL) (slv sC')) size34 rfl (two_one _ _) HB112.out rfl
      refine wpList_skp rfl (w' := w13) ?_ ?_
      · show Sem.run Tryz.prog ((Instr.storeAt 34 (.pointer (some ⟨B + 1, 0, none⟩)) (.agg (two (slv sL) (slv sC')).toArray)) >>= fun _ => pure Next.skip) _ = _
        rw [Sem.run_bind, hst]
        rfl
      clear hst
      try simp only [Act.put, List.getElem_toArray, List.getElem_cons_succ, List.getElem_cons_zero, List.setIfInBounds_toArray, List.set_cons_zero, List.set_cons_succ]
      refine wpList_plain rfl (fun K hK => ?_); go_simp; refine hK _ _ ?_; clear hK K
      refine wpList_plain rfl (fun K hK => ?_); go_simp; refine hK _ _ ?_; clear hK K
      refine wpList_nil ?_
      try simp only [Act.put, List.getElem_toArray, List.getElem_cons_succ, List.getElem_cons_zero, List.setIfInBounds_toArray, List.set_cons_zero, List.set_cons_succ]
      have HR13 := Lib.hid hb_
      have HF13 := Lib.hid (HF12.out.own1 (S := []) (B := 0) hf_ (by have := HBS.out; omega))
      have HOL13 := Lib.hid (HOL12.out.far HB112.out hf_ (by decide) (by decide))
      have HOC13 := Lib.hid (HOC12.out.far HB112.out hf_ (by decide) (by decide))
      clear hb_ hf_
      go_wp2
      have hl := load_var agg34 size34 (xs := two (slv sL) (slv sC')) rfl HR13.out.at
      refine bodyPost_ret (v := .tuple #[.agg (two (slv sL) (slv sC')).toArray, .int .i64 q, .int .i64 0]) (by simp [results, Tryz.results13, as_addr, hl]) rfl ?_
      exact ⟨sL, sC', rfl, by rw [HBS.out]; exact HOL13.out, by rw [HBS.out]; exact HOC13.out, HF13.out⟩
end Go.Proofs.YtmdhlodafjpnmaaGreat
