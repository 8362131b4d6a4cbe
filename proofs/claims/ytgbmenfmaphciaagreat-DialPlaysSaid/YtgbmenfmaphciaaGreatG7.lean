/- Rows of integers that can be read; addresses compared. -/
/- The reference's nets in memory: Copy. -/
import Derived.Test.YtgbmenfmaphciaaGreatTK
import Derived.Test.YtgbmenfmaphciaaGreatRM3
import Derived.Test.YtgbmenfmaphciaaGreatBacklog
import Derived.Laws.StructEq
import Derived.BigQuiet
namespace Go.Proofs.YtgbmenfmaphciaaGreat
set_option linter.unusedVariables false
set_option linter.unusedSimpArgs false
set_option linter.unusedSectionVars false
open Go.RowKit
set_option linter.unusedVariables false
set_option linter.unusedSimpArgs false
set_option maxRecDepth 100000
set_option maxHeartbeats 8000000
theorem IntRow.ofV {w : World} {v : Value} {l : List Int} (h : RowV w v l.length 1 (intsV l)) (hl : l.length ≤ 100000) : IntRow w v l := by
 rcases h.2 with ⟨h0, a, c, rfl⟩ | ⟨g, off, c, rfl, hg, hc⟩
 ·exact .inl ⟨List.eq_nil_of_length_eq_zero h0, a, c, rfl⟩
 ·refine .inr ⟨g, off, c, rfl, by unfold maxLen; omega, fun i x hx => hc i _ ?_⟩
  simp [intsV, hx]
theorem Blk.farRow {w w' : World} {b B n sz : Nat} {t e : TypeId} {ys xs : List Value} {u : Value} (h : Blk w b t ys) (hu : w.ownsRow B e sz u n xs) (f : Fr u.ownBlock.toList w w') (hne : t ≠ e) : Blk w' b t ys :=
 h.keep f (fun hm => by
  have : u.ownBlock = some b := by simpa using hm
  exact blkNe h hu hne this)
theorem Fr.ownRow {w w1 w2 : World} {B n sz : Nat} {e : TypeId} {xs : List Value} {u : Value} (h : Fr [] w w1) (hu : w1.ownsRow B e sz u n xs) (f : Fr u.ownBlock.toList w1 w2) (hB : w.heap.size ≤ B) : Fr [] w w2 :=
 h.trans f (fun x hx hl => by
  have hx' : u.ownBlock = some x := by simpa using hx
  have := (hu.lt x hx').1
  omega)
theorem bytes_eq (a b : ByteArray) : (a.toList == b.toList) = decide (a = b) := by
 by_cases e : a = b
 ·subst e
  simp
 ·rw [decide_eq_false e]
  refine beq_eq_false_iff_ne.2 (fun h => e ?_)
  rw [ByteArray.toList_eq, ByteArray.toList_eq] at h
  exact ByteArray.ext (Array.toList_inj.1 h)
theorem eqAdrRaw (s1 s2 : ByteArray) (p1 p2 : Int) (w : World) : (Op.equalIn 10000 36 (.agg #[.string s1, .int .i64 p1]) (.agg #[.string s2, .int .i64 p2])).run Tryz.prog w = .ok (decide (s1 = s2 ∧ p1 = p2)) w := by
 have u1 := Tryz.underlying3
 have a1 := Tryz.isAgg3
 have z1 := Tryz.sizeOf3
 have u2 := Tryz.underlying9
 have a2 := Tryz.isAgg9
 have z2 := Tryz.sizeOf9
 have hS : Tryz.prog.underlying 36 = some (.struct (Tryz.prog.fieldsOf 36)) := by kernel_rfl
 have hp : Tryz.prog.stoodInHeld 36 = false := by kernel_rfl
 rw [show (10000 : Nat) = 9999 + 1 from rfl, run_equalIn_agg w 9999 36 _ _ hS hp]
 simp only [Program.fieldsOf, Tryz.underlying36]
 have hb := bytes_eq s1 s2
 go_simp
 by_cases h1 : s1 = s2 <;> by_cases h2 : p1 = p2 <;> simp [h1, h2, bytes_eq]
theorem eqAdr (s1 s2 : ByteArray) (p1 p2 : Int) (w : World) : (binOp .eql 36 (.agg #[.string s1, .int .i64 p1]) (.agg #[.string s2, .int .i64 p2])).run Tryz.prog w = .ok (.bool (decide (s1 = s2 ∧ p1 = p2))) w := by
 rw [run_eql_struct, eqAdrRaw]
 rfl
def zLs : List Value := [.int .i64 0, .string ⟨#[]⟩, .int .i64 0, .int .i64 0, .slice none 0 0]
def zNt : List Value := [.slice none 0 0, .slice none 0 0]
def two (a b : Value) : List Value := [a, b]
theorem two_one (s t : Sli) : ∀ u ∈ two (slv s) (slv t), u.oneCell' = true := by
 intro u hu
 simp only [two, List.mem_cons, List.not_mem_nil, or_false] at hu
 rcases hu with rfl | rfl <;> rfl
theorem take_get {α : Type} {D : List α} {q : Nat} {y : α} (hy : D[q]? = some y) : D.take (q + 1) = D.take q ++ [y] := by rw [List.take_add_one, hy]; rfl
structure NetFit (D : List PN.PL) (C : List PG) : Prop where
 nl : D.length ≤ 1000
 nc : C.length ≤ 1000
 q : ∀ x ∈ D, x.l.length ≤ 100000
 c : ∀ y ∈ C, y.c.fit
theorem nCopy_any (vL vC : Value) (D : List PN.PL) (C : List PG) (w : World) (hL : LRow w vL D) (hC : CRow w vC C) (hn : NetFit D C) :
  Calls Tryz.prog 48 #[.agg #[vL, vC]] w fun e w' => ∃ sL sC : Sli, e = .returned (.agg #[slv sL, slv sC]) ∧ LOwn w' w.heap.size (slv sL) D ∧ COwn w' w.heap.size (slv sC) C ∧ Fr [] w w' := by
 obtain ⟨n, hnl⟩ : ∃ n, D.length = n := ⟨_, rfl⟩
 obtain ⟨m, hml⟩ : ∃ m, C.length = m := ⟨_, rfl⟩
 obtain ⟨aL, cL, rfl⟩ := hL.val
 obtain ⟨aC, cC, rfl⟩ := hC.val
 rw [hnl] at hL ⊢
 rw [hml] at hC ⊢
 have HN := Lib.hid hnl
 have HM := Lib.hid hml
 have HFIT := Lib.hid hn
 have hn1 := hn.nl
 have hm1 := hn.nc
 rw [hnl] at hn1
 rw [hml] at hm1
 obtain ⟨B, hB⟩ : ∃ B, w.heap.size = B := ⟨_, rfl⟩
 obtain ⟨wA, hwA⟩ : ∃ z, ((w.alloc (.cells #[.slice aL n cL, .slice aC m cC] 31)).alloc (.cells #[.slice none 0 0, .slice none 0 0] 31)).alloc (.cells #[.slice none 0 0, .slice none 0 0] 31) = z := ⟨_, rfl⟩
 have f1 : Fr [] w (w.alloc (.cells #[.slice aL n cL, .slice aC m cC] 31)) := (Fr.refl [] w).alloc _
 have f2 := (Fr.refl [] (w.alloc (.cells #[.slice aL n cL, .slice aC m cC] 31))).alloc (.cells #[.slice none 0 0, .slice none 0 0] 31)
 have f3 := (Fr.refl [] ((w.alloc (.cells #[.slice aL n cL, .slice aC m cC] 31)).alloc (.cells #[.slice none 0 0, .slice none 0 0] 31))).alloc (.cells #[.slice none 0 0, .slice none 0 0] 31)
 have hb0 : Blk wA B 31 (two (.slice aL n cL) (.slice aC m cC)) := by
  rw [← hwA, ← hB]
  exact ((Blk.made w 31 (two (.slice aL n cL) (.slice aC m cC))).keep f2 (by simp)).keep f3 (by simp)
 have hb1 : Blk wA (B + 1) 31 zNt := by
  have h := (Blk.made (w.alloc (.cells #[.slice aL n cL, .slice aC m cC] 31)) 31 zNt).keep f3 (by simp)
  rw [show (w.alloc (.cells #[.slice aL n cL, .slice aC m cC] 31)).heap.size = B + 1 from by rw [← hB]; simp] at h
  rw [← hwA]
  exact h
 have hb2 : Blk wA (B + 2) 31 (two (slv (none, 0, 0)) (slv (none, 0, 0))) := by
  have h := Blk.made ((w.alloc (.cells #[.slice aL n cL, .slice aC m cC] 31)).alloc (.cells #[.slice none 0 0, .slice none 0 0] 31)) 31 zNt
  rw [show ((w.alloc (.cells #[.slice aL n cL, .slice aC m cC] 31)).alloc (.cells #[.slice none 0 0, .slice none 0 0] 31)).heap.size = B + 2 from by rw [← hB]; simp] at h
  rw [← hwA]
  exact h
 have hf : Fr [] w wA := by rw [← hwA]; exact (f1.step f2).step f3
 have HB0 := Lib.hid hb0
 have HB1 := Lib.hid hb1
 have HB2 := Lib.hid hb2
 have HF := Lib.hid hf
 have HBS := Lib.hid hB
 have HWA := Lib.hid hwA
 have HL := Lib.hid hL
 have HC := Lib.hid hC
 have cL0 : wA.cell? ⟨B, 0, none⟩ = some (.slice aL n cL) := hb0.at 0 _ rfl
 clear hb0 hb1 hb2 hf hB hwA f1 f2 f3 hL hC hnl hml hn
 go_enter Tryz.func48, Tryz.ntmps48
 go_upto_region 2 with fail
 have hsz2 : w.heap.size + 1 + 1 = B + 2 := by rw [HBS.out]
 rw [HWA.out]
 simp only [HBS.out]
 clear hsz2
 go_wp2_with fail
 go_loopw [4] (fun i wr => ∃ (wz : World) (q : Nat) (vo : Sli), wz = wr ∧ i = .int .i64 q ∧ q ≤ n ∧ LOwn wr B (slv vo) (D.take q) ∧ Blk wr (B + 2) 31 (two (slv vo) (slv (none, 0, 0))) ∧ Blk wr B 31 (two (.slice aL n cL) (.slice aC m cC)) ∧ Blk wr (B + 1) 31 zNt ∧ Fr [] w wr) (fun i _ => n - (intOf i).toNat)
 case atStart => exact ⟨_, 0, (none, 0, 0), rfl, rfl, by omega, ⟨[], Recs.nil, World.ownsRow_nil _ _ _ _, List.Pairwise.nil⟩, HB2.out, HB0.out, HB1.out, HF.out⟩
 case round =>
  obtain ⟨wr, q, vo, hwz, rfl, hq, ho, k2, k0, k1, fr⟩ := hrel
  subst hwz
  have HO := Lib.hid ho
  have K0 := Lib.hid k0
  have K1 := Lib.hid k1
  have K2 := Lib.hid k2
  have FR := Lib.hid fr
  clear cL0
  have cL0 : wr.cell? ⟨B, 0, none⟩ = some (.slice aL n cL) := k0.at 0 _ rfl
  clear ho k0 k1 k2 fr
  by_cases hlt : q < n
  ·skip
   have hlt' : (q : Int) < (n : Int) := by omega
   have hq0 : (0 : Int) ≤ (q : Int) := by omega
   have hy := List.getElem?_eq_getElem (l := D) (i := q) (by rw [HN.out]; exact hlt)
   obtain ⟨y, hye⟩ : ∃ y, D[q]'(by rw [HN.out]; exact hlt) = y := ⟨_, rfl⟩
   rw [hye] at hy
   obtain ⟨g, off, cap, X, hv, hg, hX, hl, q0, rfl, hrow⟩ := (HL.out.next FR.out).lies hy
   rw [HN.out] at hv
   simp only [Value.slice.injEq] at hv
   obtain ⟨rfl, _, rfl⟩ := hv
   have HLY := Lib.hid hl
   have HROW := Lib.hid hrow
   have HYY := Lib.hid hy
   have HQL := Lib.hid (HFIT.out.q y (List.mem_of_getElem? hy))
   have HTL := Lib.hid (show (D.take q).length = q from by rw [List.length_take, HN.out]; omega)
   clear hy hye hl hrow hg hX
   go_upto_region 5 with fail
   refine wp_region_lit ?_
   iterate 4 (refine wpList_plain rfl (fun K hK => ?_); go_simp; refine hK _ _ ?_; clear hK K)
   try simp only [Act.put, nrZ]
   refine ldZ (load_all agg100 size100 (xs := lsC y q0) rfl HLY.out) ?_
   refine wpList_plain rfl (fun K hK => ?_); go_simp; refine hK _ _ ?_; clear hK K
   try simp only [Act.put, nrZ]
   obtain ⟨E1, hE1⟩ : ∃ E, wr.heap.size = E := ⟨_, rfl⟩
   obtain ⟨wx, hwx⟩ : ∃ z, wr.alloc (.cells #[.int .i64 0, .string ⟨#[]⟩, .int .i64 0, .int .i64 0, .slice none 0 0] 122) = z := ⟨_, rfl⟩
   have hbx : Blk wx E1 122 zLs := by rw [← hwx, ← hE1]; exact Blk.made wr 122 zLs
   have fx : Fr [] wr wx := by rw [← hwx]; exact (Fr.refl [] wr).alloc _
   rw [hwx]
   simp only [hE1]
   have HE1 := Lib.hid hE1
   have HX := Lib.hid hbx
   have HG := Lib.hid fx
   clear fx hbx hwx hE1
   obtain ⟨w1, hst, hb_, hf_⟩ := store_all (t := 122) (lsC y q0) size100 rfl (lsC_one _ _) HX.out rfl
   refine stZ hst ?_
   clear hst
   refine wpList_nil ?_
   try simp only [Act.put, nrZ]
   have HX1 := Lib.hid hb_
   have HG1 := Lib.hid (HG.out.own1 (S := []) (B := 0) hf_ (by rw [HE1.out]; exact Nat.le_refl _))
   clear hb_ hf_ HX HG
   go_upto_region 6 with fail
   have c4 : w1.cell? ⟨E1, 4, none⟩ = some (.slice q0.1 q0.2.1 q0.2.2) := HX1.out.at 4 _ rfl
   refine wp_region_lit ?_
   iterate 3 (refine wpList_plain rfl (fun K hK => ?_); go_simp; refine hK _ _ ?_; clear hK K)
   refine wpList_append_any elemInt rfl _ _ rfl E1 (v := .slice none 0 0) (n := 0) (xs := []) rfl (World.ownsRow_nil _ _ _ _) (X := slv q0) (m := y.l.length) (news := intsV y.l) rfl (HROW.out.new HG1.out) (intsV_one _) (by have := HQL.out; omega) (by decide) (by have := HE1.out; have := HG1.out.size; omega) ?_
   intro q1 w2 ho1 f1
   have f1 : Fr [] w1 w2 := f1
   rw [Nat.zero_add, List.nil_append] at ho1
   try simp only [Act.put, nrZ]
   iterate 2 (refine wpList_plain rfl (fun K hK => ?_); go_simp; refine hK _ _ ?_; clear hK K)
   try simp only [Act.put, nrZ]
   have HX2 := Lib.hid (HX1.out.keep f1 (by simp))
   have HG2 := Lib.hid (HG1.out.step f1)
   have HO1 := Lib.hid ho1
   clear ho1 f1 c4 HX1 HG1
   obtain ⟨w3, hst, hb_, hf_⟩ := store_cell (t := 64) (o := 4) (slv q1) size75 rfl rfl HX2.out (by show 4 + 1 ≤ 5; omega)
   refine stZ hst ?_
   clear hst
   refine wpList_nil ?_
   try simp only [Act.put, nrZ]
   have HX3 := Lib.hid (show Blk w3 E1 122 (lsC y q1) from hb_)
   have HG3 := Lib.hid (HG2.out.own1 (S := []) (B := 0) hf_ (by rw [HE1.out]; exact Nat.le_refl _))
   have HO3 := Lib.hid (rowBase (rowFr' HO1.out hf_ (fun g hg hm => by rw [List.mem_singleton] at hm; subst hm; exact blkNe HX2.out HO1.out (by decide) hg)) (base' := B) (by rw [← HE1.out, ← HBS.out]; exact FR.out.size))
   have HQN := Lib.hid (fun g (hg : (slv q1).ownBlock = some g) => (HO1.out.lt g hg).1)
   clear hb_ hf_ HX2 HG2 HO1
   go_upto_region 7 with fail
   have c2 : w3.cell? ⟨B + 2, 0, none⟩ = some (.slice vo.1 vo.2.1 vo.2.2) := (K2.out.keep HG3.out (by simp)).at 0 _ rfl
   refine wp_region_lit ?_
   iterate 2 (refine wpList_plain rfl (fun K hK => ?_); go_simp; refine hK _ _ ?_; clear hK K)
   try simp only [Act.put, nrZ]
   refine ldZ (load_all agg100 size100 (xs := lsC y q1) rfl HX3.out.at) ?_
   obtain ⟨w4, hw4⟩ : ∃ z, w3.alloc (.cells (lsC y q1).toArray 122) = z := ⟨_, rfl⟩
   obtain ⟨E4, hE4⟩ : ∃ z, w3.heap.size = z := ⟨_, rfl⟩
   have hb4 : Blk w4 E4 122 (lsC y q1) := by rw [← hw4, ← hE4]; exact Blk.made w3 122 (lsC y q1)
   have f4 : Fr [] w3 w4 := by rw [← hw4]; exact (Fr.refl [] w3).alloc _
   refine wpList_val rfl (v := .slice (some ⟨E4, 0, none⟩) 1 1) (w' := w4) ?_ ?_
   ·refine exec_bsl (V := .agg (lsC y q1).toArray) rfl rfl ?_
    rw [bslLis, hw4, hE4]
   try simp only [Act.put, nrZ]
   have hrow4 : RowV w4 (.slice (some ⟨E4, 0, none⟩) 1 1) 1 5 (lsC y q1) := ⟨rfl, .inr ⟨E4, 0, 1, rfl, hb4.lt, hb4.at⟩⟩
   have HR4 := Lib.hid hrow4
   have HG4 := Lib.hid (HG3.out.step f4)
   have HO4 := Lib.hid (rowNew HO3.out f4)
   clear hrow4 hb4 f4 hw4 hE4 HO3 HX3 HG3 c2
   obtain ⟨Xs, hrec0, hown0, hsep⟩ := HO.out
   rw [HTL.out] at hown0
   have HSEP := Lib.hid (show Sep (Xs ++ [lsC y q1]) from by
    refine List.pairwise_append.2 ⟨hsep, List.pairwise_singleton _ _, fun X hX Y hY g h1 h2 => ?_⟩
    rw [List.mem_singleton] at hY
    subst hY
    have h3 := HQN.out g h2
    obtain ⟨j, hj⟩ := List.getElem?_of_mem hX
    have hjD : j < (D.take q).length := by rw [← hrec0.len]; exact (List.getElem?_eq_some_iff.1 hj).1
    obtain ⟨qq, hqX, hqq⟩ := hrec0.el j X _ hj (List.getElem?_eq_getElem hjD)
    rw [hqX] at h1
    have h4 := (hqq.lt g h1).2
    have h5 := HE1.out
    omega)
   have hrec := hrec0.mono (fun X y ⟨t, e1, e2⟩ => (⟨t, e1, rowNew e2 HG4.out⟩ : ElLO B w4 X y))
   have hown := rowNew hown0 HG4.out
   clear hrec0 hown0 hsep
   refine wpList_append_any elemLis rfl _ _ rfl B (v := slv vo) (n := q) (xs := Xs.flatten) rfl hown (X := .slice (some ⟨E4, 0, none⟩) 1 1) (m := 1) (news := lsC y q1) rfl HR4.out (lsC_one _ _) (by omega) (by decide) (by have := HBS.out; have := FR.out.size; have := HG4.out.size; omega) ?_
   intro vo' w5 ho5 f5
   try simp only [Act.put, nrZ]
   refine wpList_plain rfl (fun K hK => ?_); go_simp; refine hK _ _ ?_; clear hK K
   try simp only [Act.put, nrZ]
   have HK2 := Lib.hid ((K2.out.keep HG4.out (by simp)).farRow hown f5 (by decide))
   have HK0 := Lib.hid ((K0.out.keep HG4.out (by simp)).farRow hown f5 (by decide))
   have HK1 := Lib.hid ((K1.out.keep HG4.out (by simp)).farRow hown f5 (by decide))
   have HF5 := Lib.hid ((FR.out.step HG4.out).ownRow hown f5 (by rw [HBS.out]; exact Nat.le_refl _))
   have HREC := Lib.hid (hrec.mono (fun X y ⟨q, e1, e2⟩ => (⟨q, e1, rowFar e2 hown f5 (by decide)⟩ : ElLO B w5 X y)))
   have HQ5 := Lib.hid (rowFar HO4.out hown f5 (by decide))
   have HO5 := Lib.hid ho5
   clear hrec hown ho5 f5 K0 K1 K2 FR HG4 HO4 HR4 HO
   obtain ⟨w6, hst, hb_, hf_⟩ := store_cell (t := 28) (o := 0) (slv vo') size31 rfl rfl HK2.out (by show 0 + 1 ≤ 2; omega)
   refine stZ hst ?_
   clear hst
   refine wpList_nil ?_
   try simp only [Act.put, nrZ]
   have HK6 := Lib.hid (show Blk w6 (B + 2) 31 (two (slv vo') (slv (none, 0, 0))) from hb_)
   have HL6 := Lib.hid (show LOwn w6 B (slv vo') (D.take (q + 1)) from by
    rw [take_get HYY.out]
    refine ⟨Xs ++ [lsC y q1], ((HREC.out.push rfl (lsC_one y q1) ⟨q1, rfl, HQ5.out⟩).mono (fun X z ⟨s, e1, e2⟩ => ⟨s, e1, rowFr' e2 hf_ (fun g hg hm => by rw [List.mem_singleton] at hm; subst hm; exact blkNe HK2.out e2 (by decide) hg)⟩)), ?_⟩
    refine ⟨?_, HSEP.out⟩
    rw [List.length_append, HTL.out, List.length_singleton, List.flatten_append, List.flatten_singleton]
    exact rowFr' HO5.out hf_ (fun g hg hm => by rw [List.mem_singleton] at hm; subst hm; exact blkNe HK2.out HO5.out (by decide) hg))
   have HK60 := Lib.hid (HK0.out.keep hf_ (by simp))
   have HK61 := Lib.hid (HK1.out.keep hf_ (by simp))
   have HF6 := Lib.hid (HF5.out.own1 (S := []) (B := 0) hf_ (by have := HBS.out; omega))
   clear hb_ hf_ HK2 HK0 HK1 HF5 HREC HQ5 HO5 HLY HROW HYY
   go_wp2
   go_roundw
   case rel => exact ⟨_, q + 1, vo', rfl, by go_num, by omega, HL6.out, HK6.out, HK60.out, HK61.out, HF6.out⟩
   case measure => simp [intOf]; omega
  ·skip
   obtain rfl : q = n := by omega
   have HDL := Lib.hid (show LOwn wr B (slv vo) D from by
    have := HO.out
    rwa [List.take_of_length_le (by rw [HN.out]; exact Nat.le_refl _)] at this)
   clear HO
   have cC0 : wr.cell? ⟨B, 1, none⟩ = some (.slice aC m cC) := K0.out.at 1 _ rfl
   go_wp2_with fail
   go_loopw [6] (fun i wq => ∃ (wz : World) (p : Nat) (vc : Sli), wz = wq ∧ i = .int .i64 p ∧ p ≤ m ∧ COwn wq B (slv vc) (C.take p) ∧ LOwn wq B (slv vo) D ∧ Blk wq (B + 2) 31 (two (slv vo) (slv vc)) ∧ Blk wq B 31 (two (.slice aL q cL) (.slice aC m cC)) ∧ Blk wq (B + 1) 31 zNt ∧ Fr [] w wq) (fun i _ => m - (intOf i).toNat)
   case atStart => exact ⟨_, 0, (none, 0, 0), rfl, rfl, by omega, ⟨[], Recs.nil, World.ownsRow_nil _ _ _ _⟩, HDL.out, K2.out, K0.out, K1.out, FR.out⟩
   case round =>
    rename_i i0 wq
    obtain ⟨wz, p, vc, hwz, rfl, hp, hoC, hoL, k2, k0, k1, fr⟩ := hrel
    subst hwz
    have HOC := Lib.hid hoC
    have HOL := Lib.hid hoL
    have J0 := Lib.hid k0
    have J1 := Lib.hid k1
    have J2 := Lib.hid k2
    have JR := Lib.hid fr
    clear cC0
    have cC0 : wz.cell? ⟨B, 1, none⟩ = some (.slice aC m cC) := k0.at 1 _ rfl
    clear hoC hoL k0 k1 k2 fr
    by_cases hlt : p < m
    ·skip
     have hlt' : (p : Int) < (m : Int) := by omega
     have hq0 : (0 : Int) ≤ (p : Int) := by omega
     have hy := List.getElem?_eq_getElem (l := C) (i := p) (by rw [HM.out]; exact hlt)
     obtain ⟨y, hye⟩ : ∃ y, C[p]'(by rw [HM.out]; exact hlt) = y := ⟨_, rfl⟩
     rw [hye] at hy
     obtain ⟨g, off, cap, X, hv, hg, hX, hl, q0, rfl, hrow⟩ := HC.out.lies hy
     rw [HM.out] at hv
     simp only [Value.slice.injEq] at hv
     obtain ⟨rfl, _, rfl⟩ := hv
     have HLR := Lib.hid (show w.cell? ⟨g, off + p * 17, none⟩ = some (.int .i64 y.ref) from hl 0 _ rfl)
     have HLY := Lib.hid (show LiesAt w g (off + p * 17 + 1) (cnC y.c q0) from fun j u hj => by
      have := hl (j + 1) u (by simpa [pgC] using hj)
      rwa [show off + p * 17 + (j + 1) = off + p * 17 + 1 + j from by omega] at this)
     have HROW := Lib.hid hrow
     have HYY := Lib.hid hy
     have HQL := Lib.hid (HFIT.out.c y (List.mem_of_getElem? hy))
     have HTL := Lib.hid (show (C.take p).length = p from by rw [List.length_take, HM.out]; omega)
     clear hy hye hl hrow hg hX
     obtain ⟨w0, hw0⟩ : ∃ z, wz.drew = z := ⟨_, rfl⟩
     have f0 : Fr [] wz w0 := by rw [← hw0]; exact (Fr.refl [] wz).drew
     have HK0_0 := Lib.hid (J0.out.keep f0 (by simp))
     have HK1_0 := Lib.hid (J1.out.keep f0 (by simp))
     have HK2_0 := Lib.hid (J2.out.keep f0 (by simp))
     have HF_0 := Lib.hid (JR.out.step f0)
     have HL_0 := Lib.hid (HOL.out.next f0)
     have HC_0 := Lib.hid (HOC.out.next f0)
     have HW0 := Lib.hid hw0
     clear f0 hw0 J0 J1 J2 JR HOL HOC
     go_upto_region 11 with fail
     clear cC0
     refine wp_region_held_drew (S := fun w' => w'.cell? ⟨B, 1, none⟩ = some (.slice (some ⟨g, off, none⟩) m cC) ∧ w'.cell? ⟨g, off + p * 17, none⟩ = some (.int .i64 y.ref) ∧ LiesAt w' g (off + p * 17 + 1) (cnC y.c q0)) (by kernel_rfl) (by rw [HW0.out]; exact ⟨HK0_0.out.at 1 _ rfl, HF_0.out.keep HLR.out (by simp), HLY.out.keep HF_0.out (by simp)⟩) (fun hHeld => ?_)
     rw [HW0.out] at hHeld ⊢
     refine tkZ 0 ?_
     refine tkZ 2 ?_
     refine tkZ 3 ?_
     refine tkZ 4 ?_
     refine tkZ 5 ?_
     refine tkZ 6 ?_
     refine tkZ 7 ?_
     refine tkZ 8 ?_
     refine tkZ 9 ?_
     refine tkZ 10 ?_
     refine tkZ 11 ?_
     refine tkZ 12 ?_
     refine tvZ 13 _ rfl (fun w hSw => ldX (load_all agg94 size94 (xs := cnC y.c q0) rfl hSw.2.2)) ?_
     refine wpAnyH_ready (rs := [1, 14]) (by kernel_rfl) (by simp) ?_
     refine AllReadyH.cons (o := _) rfl (fun K hK => ?_) (AllReadyH.cons (o := _) rfl (fun K hK => ?_) AllReadyH.nil)
     ·skip
      have c2 := (show w0.cell? ⟨B + 2, 1, none⟩ = some (.slice vc.1 vc.2.1 vc.2.2) from HK2_0.out.at 1 _ rfl)
      go_simp
      refine hK.out _ _ (hHeld) (fun hHeld => ?_)
      clear hK K
      try simp only [Act.put, nrZ]
      clear c2
      refine rdZ 14 (fun K hK => ?_)
      go_simp
      refine (dCopy_any y.c q0 _ (HROW.out.new HF_0.out) HQL.out).mono ?_
      rintro e w1 ⟨q1, rfl, hq1, f1⟩
      have HK0_1 := Lib.hid (HK0_0.out.keep f1 (by simp))
      have HK1_1 := Lib.hid (HK1_0.out.keep f1 (by simp))
      have HK2_1 := Lib.hid (HK2_0.out.keep f1 (by simp))
      have HF_1 := Lib.hid (HF_0.out.step f1)
      have HL_1 := Lib.hid (HL_0.out.next f1)
      have HC_1 := Lib.hid (HC_0.out.next f1)
      have HQ_1 := Lib.hid (hq1.base (B' := B) (by rw [← HBS.out]; exact HF_0.out.size))
      clear f1 hq1
      refine hK.out _ _ (⟨HK0_1.out.at 1 _ rfl, HF_1.out.keep HLR.out (by simp), HLY.out.keep HF_1.out (by simp)⟩) (fun hHeld => ?_)
      clear hK K
      try simp only [Act.put, nrZ]
      refine tvZ 15 (.agg (pgC y q1).toArray) rfl ?_ ?_
      ·intro w hSw
       try dsimp only at hSw
       exact exec_bld2 (V := .int .i64 y.ref) (U := .agg (cnC y.c q1).toArray) rfl rfl rfl (bldConn y q1 w)
      try simp only [Act.put, nrZ]
      refine rdZ 16 (fun K hK => ?_)
      obtain ⟨w2, hw2⟩ : ∃ z, w1.alloc (.cells (pgC y q1).toArray 138) = z := ⟨_, rfl⟩
      obtain ⟨E2, hE2⟩ : ∃ z, w1.heap.size = z := ⟨_, rfl⟩
      have hb2 : Blk w2 E2 138 (pgC y q1) := by rw [← hw2, ← hE2]; exact Blk.made w1 138 (pgC y q1)
      have f2 : Fr [] w1 w2 := by rw [← hw2]; exact (Fr.refl [] w1).alloc _
      split
      rotate_left
      ·rename_i hno
       exact absurd rfl hno
      refine wp_vl (v := .slice (some ⟨E2, 0, none⟩) 1 1) (w' := w2) ?_ ?_
      ·refine exec_bsl (V := .agg (pgC y q1).toArray) rfl rfl ?_
       rw [bslConn, hw2, hE2]
      have HK0_2 := Lib.hid (HK0_1.out.keep f2 (by simp))
      have HK1_2 := Lib.hid (HK1_1.out.keep f2 (by simp))
      have HK2_2 := Lib.hid (HK2_1.out.keep f2 (by simp))
      have HF_2 := Lib.hid (HF_1.out.step f2)
      have HL_2 := Lib.hid (HL_1.out.next f2)
      have HC_2 := Lib.hid (HC_1.out.next f2)
      have HQ_2 := Lib.hid (HQ_1.out.new f2)
      have HR_2 := Lib.hid (show RowV w2 (.slice (some ⟨E2, 0, none⟩) 1 1) 1 17 (pgC y q1) from ⟨rfl, .inr ⟨E2, 0, 1, rfl, hb2.lt, hb2.at⟩⟩)
      clear f2 hw2 hE2 hb2
      refine hK.out _ _ (⟨HK0_2.out.at 1 _ rfl, HF_2.out.keep HLR.out (by simp), HLY.out.keep HF_2.out (by simp)⟩) (fun hHeld => ?_)
      clear hK K
      try simp only [Act.put, nrZ]
      refine rdZ 17 (fun K hK => ?_)
      split
      rotate_left
      ·rename_i hno
       exact absurd rfl hno
      obtain ⟨Xs, hrec, hown⟩ := HC_2.out
      rw [HTL.out] at hown
      refine wp_append_any elemConn _ _ rfl B (v := slv vc) (n := p) (xs := Xs.flatten) rfl hown (X := .slice (some ⟨E2, 0, none⟩) 1 1) (m := 1) (news := pgC y q1) rfl HR_2.out (pgC_one _ _) (by omega) (by decide) (by have := HBS.out; have := HF_2.out.size; omega) ?_
      intro vc' w3 ho3 f3
      have HK2_3 := Lib.hid (HK2_2.out.farRow hown f3 (by decide))
      have HK0_3 := Lib.hid (HK0_2.out.farRow hown f3 (by decide))
      have HK1_3 := Lib.hid (HK1_2.out.farRow hown f3 (by decide))
      have HF_3 := Lib.hid (HF_2.out.ownRow hown f3 (by rw [HBS.out]; exact Nat.le_refl _))
      have HL_3 := Lib.hid (HL_2.out.farRow hown f3 (by decide) (by decide))
      have HREC := Lib.hid (hrec.mono (fun X y ⟨q, e1, e2⟩ => (⟨q, e1, ⟨rowFar e2.b0 hown f3 (by decide), rowFar e2.r0 hown f3 (by decide), rowFar e2.b1 hown f3 (by decide), rowFar e2.r1 hown f3 (by decide)⟩⟩ : ElCO B w3 X y)))
      have HQ_3 := Lib.hid (show CnO w3 B y.c q1 from ⟨rowFar HQ_2.out.b0 hown f3 (by decide), rowFar HQ_2.out.r0 hown f3 (by decide), rowFar HQ_2.out.b1 hown f3 (by decide), rowFar HQ_2.out.r1 hown f3 (by decide)⟩)
      have HO_3 := Lib.hid ho3
      clear hrec hown ho3 f3
      refine hK.out _ _ (⟨HK0_3.out.at 1 _ rfl, HF_3.out.keep HLR.out (by simp), HLY.out.keep HF_3.out (by simp)⟩) (fun hHeld => ?_)
      clear hK K
      try simp only [Act.put, nrZ]
      refine tkZ 18 ?_
      refine rdZ 19 (fun K hK => ?_)
      obtain ⟨w4, hst, hb_, hf_⟩ := store_cell (t := 29) (o := 1) (slv vc') size32 rfl rfl HK2_3.out (by show 1 + 1 ≤ 2; omega)
      split
      rotate_left
      ·rename_i hno
       exact absurd rfl hno
      refine stY hst ?_
      clear hst
      have HK2_4 := Lib.hid (show Blk w4 (B + 2) 31 (two (slv vo) (slv vc')) from hb_)
      have HC_4 := Lib.hid (show COwn w4 B (slv vc') (C.take (p + 1)) from by
       rw [take_get HYY.out]
       refine ⟨Xs ++ [pgC y q1], ((HREC.out.push rfl (pgC_one y q1) ⟨q1, rfl, HQ_3.out⟩).mono (fun X z ⟨s, e1, e2⟩ => ⟨s, e1, e2.store HK2_3.out hf_ (by decide)⟩)), ?_⟩
       rw [List.length_append, HTL.out, List.length_singleton, List.flatten_append, List.flatten_singleton]
       exact rowFr' HO_3.out hf_ (fun g hg hm => by rw [List.mem_singleton] at hm; subst hm; exact blkNe HK2_3.out HO_3.out (by decide) hg))
      have HK0_4 := Lib.hid (HK0_3.out.keep hf_ (by simp))
      have HK1_4 := Lib.hid (HK1_3.out.keep hf_ (by simp))
      have HL_4 := Lib.hid (HL_3.out.far HK2_3.out hf_ (by decide) (by decide))
      have HF_4 := Lib.hid (HF_3.out.own1 (S := []) (B := 0) hf_ (by have := HBS.out; omega))
      clear hb_ hf_
      refine hK.out _ _ (⟨HK0_4.out.at 1 _ rfl, HF_4.out.keep HLR.out (by simp), HLY.out.keep HF_4.out (by simp)⟩) (fun hHeld => ?_)
      clear hK K
      try simp only [Act.put, nrZ]
      refine wpAnyH_done (by kernel_rfl) ?_ _
      clear hHeld HK0_0 HK0_1 HK0_2 HK0_3 HK1_0 HK1_1 HK1_2 HK1_3 HK2_0 HK2_1 HK2_2 HK2_3 HF_0 HF_1 HF_2 HF_3 HL_0 HL_1 HL_2 HL_3 HC_0 HC_1 HC_2 HQ_1 HQ_2 HQ_3 HO_3 HREC HR_2 HLR HLY HROW HYY HW0
      go_wp2
      go_roundw
      case rel => exact ⟨_, p + 1, vc', rfl, by go_num, by omega, HC_4.out, HL_4.out, HK2_4.out, HK0_4.out, HK1_4.out, HF_4.out⟩
      case measure => simp [intOf]; omega
     ·skip
      go_simp
      refine (dCopy_any y.c q0 _ (HROW.out.new HF_0.out) HQL.out).mono ?_
      rintro e w1 ⟨q1, rfl, hq1, f1⟩
      have HK0_1 := Lib.hid (HK0_0.out.keep f1 (by simp))
      have HK1_1 := Lib.hid (HK1_0.out.keep f1 (by simp))
      have HK2_1 := Lib.hid (HK2_0.out.keep f1 (by simp))
      have HF_1 := Lib.hid (HF_0.out.step f1)
      have HL_1 := Lib.hid (HL_0.out.next f1)
      have HC_1 := Lib.hid (HC_0.out.next f1)
      have HQ_1 := Lib.hid (hq1.base (B' := B) (by rw [← HBS.out]; exact HF_0.out.size))
      clear f1 hq1
      refine hK.out _ _ (⟨HK0_1.out.at 1 _ rfl, HF_1.out.keep HLR.out (by simp), HLY.out.keep HF_1.out (by simp)⟩) (fun hHeld => ?_)
      clear hK K
      try simp only [Act.put, nrZ]
      refine tvZ 15 (.agg (pgC y q1).toArray) rfl ?_ ?_
      ·intro w hSw
       try dsimp only at hSw
       exact exec_bld2 (V := .int .i64 y.ref) (U := .agg (cnC y.c q1).toArray) rfl rfl rfl (bldConn y q1 w)
      try simp only [Act.put, nrZ]
      refine wpAnyH_ready (rs := [1, 16]) (by kernel_rfl) (by simp) ?_
      refine AllReadyH.cons (o := _) rfl (fun K hK => ?_) (AllReadyH.cons (o := _) rfl (fun K hK => ?_) AllReadyH.nil)
      ·skip
       have c2 := (show w1.cell? ⟨B + 2, 1, none⟩ = some (.slice vc.1 vc.2.1 vc.2.2) from HK2_1.out.at 1 _ rfl)
       go_simp
       refine hK.out _ _ (hHeld) (fun hHeld => ?_)
       clear hK K
       try simp only [Act.put, nrZ]
       clear c2
       refine rdZ 16 (fun K hK => ?_)
       obtain ⟨w2, hw2⟩ : ∃ z, w1.alloc (.cells (pgC y q1).toArray 138) = z := ⟨_, rfl⟩
       obtain ⟨E2, hE2⟩ : ∃ z, w1.heap.size = z := ⟨_, rfl⟩
       have hb2 : Blk w2 E2 138 (pgC y q1) := by rw [← hw2, ← hE2]; exact Blk.made w1 138 (pgC y q1)
       have f2 : Fr [] w1 w2 := by rw [← hw2]; exact (Fr.refl [] w1).alloc _
       split
       rotate_left
       ·rename_i hno
        exact absurd rfl hno
       refine wp_vl (v := .slice (some ⟨E2, 0, none⟩) 1 1) (w' := w2) ?_ ?_
       ·refine exec_bsl (V := .agg (pgC y q1).toArray) rfl rfl ?_
        rw [bslConn, hw2, hE2]
       have HK0_2 := Lib.hid (HK0_1.out.keep f2 (by simp))
       have HK1_2 := Lib.hid (HK1_1.out.keep f2 (by simp))
       have HK2_2 := Lib.hid (HK2_1.out.keep f2 (by simp))
       have HF_2 := Lib.hid (HF_1.out.step f2)
       have HL_2 := Lib.hid (HL_1.out.next f2)
       have HC_2 := Lib.hid (HC_1.out.next f2)
       have HQ_2 := Lib.hid (HQ_1.out.new f2)
       have HR_2 := Lib.hid (show RowV w2 (.slice (some ⟨E2, 0, none⟩) 1 1) 1 17 (pgC y q1) from ⟨rfl, .inr ⟨E2, 0, 1, rfl, hb2.lt, hb2.at⟩⟩)
       clear f2 hw2 hE2 hb2
       refine hK.out _ _ (⟨HK0_2.out.at 1 _ rfl, HF_2.out.keep HLR.out (by simp), HLY.out.keep HF_2.out (by simp)⟩) (fun hHeld => ?_)
       clear hK K
       try simp only [Act.put, nrZ]
       refine rdZ 17 (fun K hK => ?_)
       split
       rotate_left
       ·rename_i hno
        exact absurd rfl hno
       obtain ⟨Xs, hrec, hown⟩ := HC_2.out
       rw [HTL.out] at hown
       refine wp_append_any elemConn _ _ rfl B (v := slv vc) (n := p) (xs := Xs.flatten) rfl hown (X := .slice (some ⟨E2, 0, none⟩) 1 1) (m := 1) (news := pgC y q1) rfl HR_2.out (pgC_one _ _) (by omega) (by decide) (by have := HBS.out; have := HF_2.out.size; omega) ?_
       intro vc' w3 ho3 f3
       have HK2_3 := Lib.hid (HK2_2.out.farRow hown f3 (by decide))
       have HK0_3 := Lib.hid (HK0_2.out.farRow hown f3 (by decide))
       have HK1_3 := Lib.hid (HK1_2.out.farRow hown f3 (by decide))
       have HF_3 := Lib.hid (HF_2.out.ownRow hown f3 (by rw [HBS.out]; exact Nat.le_refl _))
       have HL_3 := Lib.hid (HL_2.out.farRow hown f3 (by decide) (by decide))
       have HREC := Lib.hid (hrec.mono (fun X y ⟨q, e1, e2⟩ => (⟨q, e1, ⟨rowFar e2.b0 hown f3 (by decide), rowFar e2.r0 hown f3 (by decide), rowFar e2.b1 hown f3 (by decide), rowFar e2.r1 hown f3 (by decide)⟩⟩ : ElCO B w3 X y)))
       have HQ_3 := Lib.hid (show CnO w3 B y.c q1 from ⟨rowFar HQ_2.out.b0 hown f3 (by decide), rowFar HQ_2.out.r0 hown f3 (by decide), rowFar HQ_2.out.b1 hown f3 (by decide), rowFar HQ_2.out.r1 hown f3 (by decide)⟩)
       have HO_3 := Lib.hid ho3
       clear hrec hown ho3 f3
       refine hK.out _ _ (⟨HK0_3.out.at 1 _ rfl, HF_3.out.keep HLR.out (by simp), HLY.out.keep HF_3.out (by simp)⟩) (fun hHeld => ?_)
       clear hK K
       try simp only [Act.put, nrZ]
       refine tkZ 18 ?_
       refine rdZ 19 (fun K hK => ?_)
       obtain ⟨w4, hst, hb_, hf_⟩ := store_cell (t := 29) (o := 1) (slv vc') size32 rfl rfl HK2_3.out (by show 1 + 1 ≤ 2; omega)
       split
       rotate_left
       ·rename_i hno
        exact absurd rfl hno
       refine stY hst ?_
       clear hst
       have HK2_4 := Lib.hid (show Blk w4 (B + 2) 31 (two (slv vo) (slv vc')) from hb_)
       have HC_4 := Lib.hid (show COwn w4 B (slv vc') (C.take (p + 1)) from by
        rw [take_get HYY.out]
        refine ⟨Xs ++ [pgC y q1], ((HREC.out.push rfl (pgC_one y q1) ⟨q1, rfl, HQ_3.out⟩).mono (fun X z ⟨s, e1, e2⟩ => ⟨s, e1, e2.store HK2_3.out hf_ (by decide)⟩)), ?_⟩
        rw [List.length_append, HTL.out, List.length_singleton, List.flatten_append, List.flatten_singleton]
        exact rowFr' HO_3.out hf_ (fun g hg hm => by rw [List.mem_singleton] at hm; subst hm; exact blkNe HK2_3.out HO_3.out (by decide) hg))
       have HK0_4 := Lib.hid (HK0_3.out.keep hf_ (by simp))
       have HK1_4 := Lib.hid (HK1_3.out.keep hf_ (by simp))
       have HL_4 := Lib.hid (HL_3.out.far HK2_3.out hf_ (by decide) (by decide))
       have HF_4 := Lib.hid (HF_3.out.own1 (S := []) (B := 0) hf_ (by have := HBS.out; omega))
       clear hb_ hf_
       refine hK.out _ _ (⟨HK0_4.out.at 1 _ rfl, HF_4.out.keep HLR.out (by simp), HLY.out.keep HF_4.out (by simp)⟩) (fun hHeld => ?_)
       clear hK K
       try simp only [Act.put, nrZ]
       refine wpAnyH_done (by kernel_rfl) ?_ _
       clear hHeld HK0_0 HK0_1 HK0_2 HK0_3 HK1_0 HK1_1 HK1_2 HK1_3 HK2_0 HK2_1 HK2_2 HK2_3 HF_0 HF_1 HF_2 HF_3 HL_0 HL_1 HL_2 HL_3 HC_0 HC_1 HC_2 HQ_1 HQ_2 HQ_3 HO_3 HREC HR_2 HLR HLY HROW HYY HW0
       go_wp2
       go_roundw
       case rel => exact ⟨_, p + 1, vc', rfl, by go_num, by omega, HC_4.out, HL_4.out, HK2_4.out, HK0_4.out, HK1_4.out, HF_4.out⟩
       case measure => simp [intOf]; omega
      ·skip
       obtain ⟨w2, hw2⟩ : ∃ z, w1.alloc (.cells (pgC y q1).toArray 138) = z := ⟨_, rfl⟩
       obtain ⟨E2, hE2⟩ : ∃ z, w1.heap.size = z := ⟨_, rfl⟩
       have hb2 : Blk w2 E2 138 (pgC y q1) := by rw [← hw2, ← hE2]; exact Blk.made w1 138 (pgC y q1)
       have f2 : Fr [] w1 w2 := by rw [← hw2]; exact (Fr.refl [] w1).alloc _
       split
       rotate_left
       ·rename_i hno
        exact absurd rfl hno
       refine wp_vl (v := .slice (some ⟨E2, 0, none⟩) 1 1) (w' := w2) ?_ ?_
       ·refine exec_bsl (V := .agg (pgC y q1).toArray) rfl rfl ?_
        rw [bslConn, hw2, hE2]
       have HK0_2 := Lib.hid (HK0_1.out.keep f2 (by simp))
       have HK1_2 := Lib.hid (HK1_1.out.keep f2 (by simp))
       have HK2_2 := Lib.hid (HK2_1.out.keep f2 (by simp))
       have HF_2 := Lib.hid (HF_1.out.step f2)
       have HL_2 := Lib.hid (HL_1.out.next f2)
       have HC_2 := Lib.hid (HC_1.out.next f2)
       have HQ_2 := Lib.hid (HQ_1.out.new f2)
       have HR_2 := Lib.hid (show RowV w2 (.slice (some ⟨E2, 0, none⟩) 1 1) 1 17 (pgC y q1) from ⟨rfl, .inr ⟨E2, 0, 1, rfl, hb2.lt, hb2.at⟩⟩)
       clear f2 hw2 hE2 hb2
       refine hK.out _ _ (⟨HK0_2.out.at 1 _ rfl, HF_2.out.keep HLR.out (by simp), HLY.out.keep HF_2.out (by simp)⟩) (fun hHeld => ?_)
       clear hK K
       try simp only [Act.put, nrZ]
       refine rdZ 1 (fun K hK => ?_)
       have c2 := (show w2.cell? ⟨B + 2, 1, none⟩ = some (.slice vc.1 vc.2.1 vc.2.2) from HK2_2.out.at 1 _ rfl)
       go_simp
       refine hK.out _ _ (hHeld) (fun hHeld => ?_)
       clear hK K
       try simp only [Act.put, nrZ]
       clear c2
       refine rdZ 17 (fun K hK => ?_)
       split
       rotate_left
       ·rename_i hno
        exact absurd rfl hno
       obtain ⟨Xs, hrec, hown⟩ := HC_2.out
       rw [HTL.out] at hown
       refine wp_append_any elemConn _ _ rfl B (v := slv vc) (n := p) (xs := Xs.flatten) rfl hown (X := .slice (some ⟨E2, 0, none⟩) 1 1) (m := 1) (news := pgC y q1) rfl HR_2.out (pgC_one _ _) (by omega) (by decide) (by have := HBS.out; have := HF_2.out.size; omega) ?_
       intro vc' w3 ho3 f3
       have HK2_3 := Lib.hid (HK2_2.out.farRow hown f3 (by decide))
       have HK0_3 := Lib.hid (HK0_2.out.farRow hown f3 (by decide))
       have HK1_3 := Lib.hid (HK1_2.out.farRow hown f3 (by decide))
       have HF_3 := Lib.hid (HF_2.out.ownRow hown f3 (by rw [HBS.out]; exact Nat.le_refl _))
       have HL_3 := Lib.hid (HL_2.out.farRow hown f3 (by decide) (by decide))
       have HREC := Lib.hid (hrec.mono (fun X y ⟨q, e1, e2⟩ => (⟨q, e1, ⟨rowFar e2.b0 hown f3 (by decide), rowFar e2.r0 hown f3 (by decide), rowFar e2.b1 hown f3 (by decide), rowFar e2.r1 hown f3 (by decide)⟩⟩ : ElCO B w3 X y)))
       have HQ_3 := Lib.hid (show CnO w3 B y.c q1 from ⟨rowFar HQ_2.out.b0 hown f3 (by decide), rowFar HQ_2.out.r0 hown f3 (by decide), rowFar HQ_2.out.b1 hown f3 (by decide), rowFar HQ_2.out.r1 hown f3 (by decide)⟩)
       have HO_3 := Lib.hid ho3
       clear hrec hown ho3 f3
       refine hK.out _ _ (⟨HK0_3.out.at 1 _ rfl, HF_3.out.keep HLR.out (by simp), HLY.out.keep HF_3.out (by simp)⟩) (fun hHeld => ?_)
       clear hK K
       try simp only [Act.put, nrZ]
       refine tkZ 18 ?_
       refine rdZ 19 (fun K hK => ?_)
       obtain ⟨w4, hst, hb_, hf_⟩ := store_cell (t := 29) (o := 1) (slv vc') size32 rfl rfl HK2_3.out (by show 1 + 1 ≤ 2; omega)
       split
       rotate_left
       ·rename_i hno
        exact absurd rfl hno
       refine stY hst ?_
       clear hst
       have HK2_4 := Lib.hid (show Blk w4 (B + 2) 31 (two (slv vo) (slv vc')) from hb_)
       have HC_4 := Lib.hid (show COwn w4 B (slv vc') (C.take (p + 1)) from by
        rw [take_get HYY.out]
        refine ⟨Xs ++ [pgC y q1], ((HREC.out.push rfl (pgC_one y q1) ⟨q1, rfl, HQ_3.out⟩).mono (fun X z ⟨s, e1, e2⟩ => ⟨s, e1, e2.store HK2_3.out hf_ (by decide)⟩)), ?_⟩
        rw [List.length_append, HTL.out, List.length_singleton, List.flatten_append, List.flatten_singleton]
        exact rowFr' HO_3.out hf_ (fun g hg hm => by rw [List.mem_singleton] at hm; subst hm; exact blkNe HK2_3.out HO_3.out (by decide) hg))
       have HK0_4 := Lib.hid (HK0_3.out.keep hf_ (by simp))
       have HK1_4 := Lib.hid (HK1_3.out.keep hf_ (by simp))
       have HL_4 := Lib.hid (HL_3.out.far HK2_3.out hf_ (by decide) (by decide))
       have HF_4 := Lib.hid (HF_3.out.own1 (S := []) (B := 0) hf_ (by have := HBS.out; omega))
       clear hb_ hf_
       refine hK.out _ _ (⟨HK0_4.out.at 1 _ rfl, HF_4.out.keep HLR.out (by simp), HLY.out.keep HF_4.out (by simp)⟩) (fun hHeld => ?_)
       clear hK K
       try simp only [Act.put, nrZ]
       refine wpAnyH_done (by kernel_rfl) ?_ _
       clear hHeld HK0_0 HK0_1 HK0_2 HK0_3 HK1_0 HK1_1 HK1_2 HK1_3 HK2_0 HK2_1 HK2_2 HK2_3 HF_0 HF_1 HF_2 HF_3 HL_0 HL_1 HL_2 HL_3 HC_0 HC_1 HC_2 HQ_1 HQ_2 HQ_3 HO_3 HREC HR_2 HLR HLY HROW HYY HW0
       go_wp2
       go_roundw
       case rel => exact ⟨_, p + 1, vc', rfl, by go_num, by omega, HC_4.out, HL_4.out, HK2_4.out, HK0_4.out, HK1_4.out, HF_4.out⟩
       case measure => simp [intOf]; omega
    ·skip
     obtain rfl : p = m := by omega
     have HDC := Lib.hid (show COwn wz B (slv vc) C from by
      have := HOC.out
      rwa [List.take_of_length_le (by rw [HM.out]; exact Nat.le_refl _)] at this)
     go_upto_region 12 with fail
     refine wp_region_lit ?_
     refine ldZ (load_all agg34 size34 (xs := two (slv vo) (slv vc)) rfl J2.out.at) ?_
     obtain ⟨w9, hst, hb_, hf_⟩ := store_all (t := 31) (two (slv vo) (slv vc)) size34 rfl (two_one _ _) J1.out rfl
     refine stZ hst ?_
     clear hst
     refine wpList_nil ?_
     try simp only [Act.put, nrZ]
     have HR9 := Lib.hid hb_
     have HF9 := Lib.hid (JR.out.own1 (S := []) (B := 0) hf_ (by have := HBS.out; omega))
     have HL9 := Lib.hid (HOL.out.far J1.out hf_ (by decide) (by decide))
     have HC9 := Lib.hid (HDC.out.far J1.out hf_ (by decide) (by decide))
     clear hb_ hf_
     go_wp2
     have hl := load_var agg34 size34 (xs := two (slv vo) (slv vc)) rfl HR9.out.at
     refine bodyPost_ret (v := .agg (two (slv vo) (slv vc)).toArray) (by simp [results, Tryz.results48, as_addr, hl]) rfl ?_
     exact ⟨vo, vc, rfl, by rw [HBS.out]; exact HL9.out, by rw [HBS.out]; exact HC9.out, HF9.out⟩
end Go.Proofs.YtgbmenfmaphciaaGreat
