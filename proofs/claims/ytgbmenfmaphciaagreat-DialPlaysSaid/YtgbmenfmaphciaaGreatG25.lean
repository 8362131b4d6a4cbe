/- The reference's tables of addresses that are bound: Bind. -/
/- The reference's table of the addresses that are bound; what its Bind answers over it. -/
import Derived.Test.YtgbmenfmaphciaaGreatTK
import Derived.Test.YtgbmenfmaphciaaGreatFew
import Derived.Deep.CutBlock
namespace Go.Proofs.YtgbmenfmaphciaaGreat
set_option linter.unusedVariables false
set_option linter.unusedSimpArgs false
set_option linter.unusedSectionVars false
open Go.RowKit
set_option linter.unusedVariables false
set_option linter.unusedSimpArgs false
set_option maxRecDepth 100000
set_option maxHeartbeats 8000000
abbrev BOwn : World → Nat → Value → List Bd → Prop := RowO 172 3 ElB
theorem BOwn.row {w : World} {B : Nat} {v : Value} {T : List Bd} (h : BOwn w B v T) : BRow w v T := by
 obtain ⟨Xs, h1, h2⟩ := h
 exact ⟨Xs, h1, RowV.of_own h2⟩
theorem BOwn.next {w w' : World} {B : Nat} {v : Value} {T : List Bd} (h : BOwn w B v T) (f : Fr [] w w') : BOwn w' B v T := by
 obtain ⟨Xs, h1, h2⟩ := h
 exact ⟨Xs, h1, rowNew h2 f⟩
theorem BOwn.base {w : World} {B B' : Nat} {v : Value} {T : List Bd} (h : BOwn w B v T) (hb : B' ≤ B) : BOwn w B' v T := by
 obtain ⟨Xs, h1, h2⟩ := h
 exact ⟨Xs, h1, rowBase h2 hb⟩
theorem BOwn.nil (w : World) (B : Nat) : BOwn w B (.slice none 0 0) [] := ⟨[], Recs.nil, World.ownsRow_nil _ _ _ _⟩
def freeB (T : List Bd) (s : ByteArray) (q : Int) : Prop := ∀ x ∈ T, atB s q x = false
def insB (T : List Bd) (k : Nat) (x : Bd) : List Bd := T.take k ++ x :: T.drop k
def BindOut (w : World) (vb : Value) (T : List Bd) (s : ByteArray) (q v : Int) (e : Ending) (w' : World) : Prop := Fr [] w w' ∧
 ((¬ freeB T s q ∧ e = .returned (.tuple #[vb, .agg (sp ⟨#[]⟩ 0).toArray, .int .i64 11])) ∨
   (freeB T s q ∧ 128 ≤ T.length ∧ e = .returned (.tuple #[vb, .agg (sp ⟨#[]⟩ 0).toArray, .int .i64 7])) ∨
   (freeB T s q ∧ T.length < 128 ∧ ∃ (sU : Sli) (k : Nat), k ≤ T.length ∧ BOwn w' w.heap.size (slv sU) (insB T k ⟨s, q, v⟩) ∧ e = .returned (.tuple #[slv sU, .agg (sp s q).toArray, .int .i64 0])))
theorem freeB_pick (T : List Bd) (s : ByteArray) (q : Int) : freeB T s q ↔ place (PN.pick (atB s q) T 0) < 0 := by
 have h := pickB_iff T s q
 constructor
 ·intro hf
  refine Int.not_le.1 (fun h0 => ?_)
  obtain ⟨x, hx, h1⟩ := h.1 h0
  rw [hf x hx] at h1
  cases h1
 ·intro h0 x hx
  cases e : atB s q x with
  | false => rfl
  | true => exact absurd (h.2 ⟨x, hx, e⟩) (by omega)
section
variable {P : Program} {o : Oper} {a : Act} {t e : TypeId} {sz bytes base n : Nat} {w w' : World} {v : Value} {xs : List Value}
theorem exec_slice_upG {x hi : Operand} {V H : Value} (ho : o.op = .slice t x none (some hi) none) (hx : a.eval x = V) (hh : a.eval hi = H) (ht : P.underlying t = some (.slice (P.elem t))) (hrun : (Instr.slice t V none (some H) none).run P w = .ok v w') : (execOp a.eval o).run P w = .ok (.value v) w' := by
 simp [execOp, ho, hx, hh, run_sliceAt_slice (P := P) w t V none (some H) none ht, hrun]
theorem own_slice_up (E : Elem P t e sz bytes) (h : w.ownsRow base e sz v n xs) (k : Nat) (hk : k ≤ n) :
  ∃ v', (∀ W : World, (Instr.slice t v none (some (.int .i64 k)) none).run P W = .ok v' W) ∧ RowV w v' k sz (xs.take (k * sz)) := by
 obtain ⟨_, ht, hs⟩ := E.el
 have hl : (xs.take (k * sz)).length = k * sz := by
  rw [List.length_take, h.1, Nat.min_eq_left (Nat.mul_le_mul_right _ hk)]
 obtain ⟨a, cap, rfl, hnc⟩ : ∃ a cap, v = .slice a n cap ∧ n ≤ cap := by
  rcases h.2 with ⟨rfl, rfl⟩ | ⟨g, cap, cur, rfl, hb, hg, hnc, _⟩
  ·exact ⟨none, 0, rfl, Nat.le_refl _⟩
  ·exact ⟨_, cap, rfl, hnc⟩
 refine ⟨sliced a 0 k cap sz, fun W => ?_, hl, ?_⟩
 ·rw [run_slice_h W t a n cap ht .i64 k (by omega) (by omega), hs]
  simp [Result.andThen, sliced]
 ·unfold sliced
  by_cases h0 : k = 0
  ·subst h0
   exact .inl ⟨rfl, _, _, rfl⟩
  ·rw [if_neg (by omega)]
   rcases h.2 with ⟨he, rfl⟩ | ⟨g, cap', cur, he, hb, hg, _⟩
   ·omega
   ·simp only [Value.slice.injEq] at he
    obtain ⟨rfl, _, rfl⟩ := he
    refine .inr ⟨g, 0, cap - 0, ?_, (Array.getElem?_eq_some_iff.1 hg).1, fun j u hj => ?_⟩
    ·simp [Addr.add_lit]
    ·rw [List.getElem?_take] at hj
     split at hj
     ·have := World.ownsRow.cells h (g := g) rfl j u hj
      rwa [Addr.add_lit] at this
     ·cases hj
end
theorem insB_flat {T : List Bd} {Xs : List (List Value)} (h : Recs 3 (fun X y => X = bdC y) Xs T) (k : Nat) (x : Bd) :
  Recs 3 (fun X y => X = bdC y) (Xs.take k ++ bdC x :: Xs.drop k) (insB T k x) := by
 have h1 : Recs 3 (fun X y => X = bdC y) ([] ++ [bdC x]) ([] ++ [x]) := Recs.nil.push rfl (bdC_one x) rfl
 exact (h.take k).app (h1.app (h.drop k))
theorem bind_any (vb : Value) (T : List Bd) (B0 : Nat) (s : ByteArray) (p v : Int) (w : World) (h : BOwn w B0 vb T) (hn : T.length ≤ 1000) (hs : s.size ≤ 1000000) (hv : addrB s.data.toList p = true) (h0 : 0 ≤ v) :
  Calls Tryz.prog 45 #[vb, .agg #[.string s, .int .i64 p], .int .i64 v] w (BindOut w vb T s (portB T s p) v) := by
 obtain ⟨a, c, rfl⟩ := h.row.val
 obtain ⟨n, hnl⟩ : ∃ n, T.length = n := ⟨_, rfl⟩
 have HN := Lib.hid hnl
 rw [hnl] at h hn ⊢
 obtain ⟨q, hq⟩ : ∃ q, portB T s p = q := ⟨_, rfl⟩
 rw [hq]
 have HQ := Lib.hid hq
 obtain ⟨B, hB⟩ : ∃ B, w.heap.size = B := ⟨_, rfl⟩
 obtain ⟨wA, hwA⟩ : ∃ z, (w.alloc (.cells #[.string s, .int .i64 p] 36)).alloc (.cells #[.string ⟨#[]⟩, .int .i64 0] 36) = z := ⟨_, rfl⟩
 have f2 := (Fr.refl [] (w.alloc (.cells #[.string s, .int .i64 p] 36))).alloc (.cells #[.string ⟨#[]⟩, .int .i64 0] 36)
 have hb0 : Blk wA B 36 (sp s p) := by
  rw [← hwA, ← hB]
  exact (Blk.made w 36 (sp s p)).keep f2 (by simp)
 have hb1 : Blk wA (B + 1) 36 (sp ⟨#[]⟩ 0) := by
  have h := Blk.made (w.alloc (.cells #[.string s, .int .i64 p] 36)) 36 (sp ⟨#[]⟩ 0)
  rw [show (w.alloc (.cells #[.string s, .int .i64 p] 36)).heap.size = B + 1 from by rw [← hB]; simp] at h
  rw [← hwA]
  exact h
 have hf : Fr [] w wA := by rw [← hwA]; exact ((Fr.refl [] w).alloc _).step f2
 have HF := Lib.hid hf
 have HBS := Lib.hid hB
 have HWA := Lib.hid hwA
 have HB0 := Lib.hid hb0
 have HB1 := Lib.hid hb1
 have HT := Lib.hid h
 have HAV := Lib.hid (fun W : World => by
  have h := refValid_any s p hs W
  rw [hv] at h
  exact h)
 have e0 : wA.cell? ⟨B, 0, none⟩ = some (.string s) := hb0.at 0 _ rfl
 have e1 : wA.cell? ⟨B, 1, none⟩ = some (.int .i64 p) := hb0.at 1 _ rfl
 have dv : decide (v < 0) = false := decide_eq_false (by omega)
 clear hb0 hb1 hf hB hwA f2 hv hq h hnl
 go_enter Tryz.func45, Tryz.ntmps45
 go_upto_region 1 with fail
 rw [HWA.out]
 simp only [HBS.out]
 go_wp2_with fail
 refine (HAV.out _).mono ?_
 rintro e w1 ⟨rfl, f1⟩
 have HF1 := Lib.hid (HF.out.step f1)
 have HB01 := Lib.hid (HB0.out.keep f1 (by simp))
 have HB11 := Lib.hid (HB1.out.keep f1 (by simp))
 clear f1 HF HB0 HB1 HAV HWA e0 e1
 have e0 : w1.cell? ⟨B, 0, none⟩ = some (.string s) := HB01.out.at 0 _ rfl
 have e1 : w1.cell? ⟨B, 1, none⟩ = some (.int .i64 p) := HB01.out.at 1 _ rfl
 go_upto_if 22 with fail
 go_cut [] from 20 to 27 (fun wc => Blk wc B 36 (sp s q) ∧ Blk wc (B + 1) 36 (sp ⟨#[]⟩ 0) ∧ Fr [] w wc)
 case first =>
  by_cases hp : p = 0
  ·have dp : (p == 0) = true := beq_iff_eq.2 hp
   have HP := Lib.hid hp
   clear hp
   go_upto_region 4 with fail
   refine wp_region_lit ?_
   iterate 3 (refine wpList_plain rfl (fun K hK => ?_); go_simp; refine hK _ _ ?_; clear hK K)
   try simp only [Act.put, nrZ]
   refine wpList_plain rfl (fun K hK => ?_)
   go_simp
   refine (refFree_any (.slice a n c) T s _ (BRow.next (BOwn.row HT.out) HF1.out) (by rw [HN.out]; exact hn)).mono ?_
   rintro e w2 ⟨rfl, f2⟩
   refine hK _ _ ?_
   clear hK K
   try simp only [Act.put, nrZ]
   refine wpList_plain rfl (fun K hK => ?_); go_simp; refine hK _ _ ?_; clear hK K
   try simp only [Act.put, nrZ]
   have hqq : (49152 : Int) + (PN.free (portsB T s) : Int) = q := by rw [← HQ.out, portB, if_pos HP.out]
   rw [hqq]
   have HB02 := Lib.hid (HB01.out.keep f2 (by simp))
   have HB12 := Lib.hid (HB11.out.keep f2 (by simp))
   have HF2 := Lib.hid (HF1.out.step f2)
   clear f2 hqq e0 e1
   obtain ⟨w3, hst, hb_, hf_⟩ := store_cell (o := 1) (t := 3) (.int .i64 q) size3 rfl rfl HB02.out (by simp [sp])
   refine stZ hst ?_
   clear hst
   refine wpList_nil ?_
   try simp only [Act.put, nrZ]
   have HS3 := Lib.hid (show Blk w3 B 36 (sp s q) from hb_)
   have HB13 := Lib.hid (HB12.out.keep hf_ (by simp))
   have HF3 := Lib.hid (HF2.out.own1 (S := []) (B := 0) hf_ (by have := HBS.out; omega))
   clear hb_ hf_
   go_wp2
   go_meet
   case rel => exact ⟨HS3.out, HB13.out, HF3.out⟩
  ·have dp : (p == 0) = false := beq_eq_false_iff_ne.2 hp
   have hqq : p = q := by rw [← HQ.out, portB, if_neg hp]
   have HBq := Lib.hid (show Blk w1 B 36 (sp s q) from by rw [← hqq]; exact HB01.out)
   clear hqq hp
   go_wp2
   go_meet
   case rel => exact ⟨HBq.out, HB11.out, HF1.out⟩
 case rest =>
  obtain ⟨hb0, hb1, hf1⟩ := hcut
  have HB02 := Lib.hid hb0
  have HB12 := Lib.hid hb1
  have HF2 := Lib.hid hf1
  clear hb0 hb1 hf1 e0 e1 HB01 HB11 HF1
  have e0 : wc.cell? ⟨B, 0, none⟩ = some (.string s) := HB02.out.at 0 _ rfl
  have e1 : wc.cell? ⟨B, 1, none⟩ = some (.int .i64 q) := HB02.out.at 1 _ rfl
  have HFR := Lib.hid (freeB_pick T s q)
  have HFI := Lib.hid (fun W (f : Fr [] wc W) => refFind_any (.slice a n c) T s q W (BRow.next (BOwn.row HT.out) (HF2.out.step f)) (by rw [HN.out]; omega))
  obtain ⟨pl, hpl⟩ : ∃ z, place (PN.pick (atB s q) T 0) = z := ⟨_, rfl⟩
  rw [hpl] at HFR HFI
  clear hpl
  by_cases hfr : 0 ≤ pl
  ·have dg : decide (0 ≤ pl) = true := decide_eq_true hfr
   have HNF := Lib.hid (show ¬ freeB T s q from fun h => by have := HFR.out.1 h; omega)
   clear hfr
   go_upto_region 5 with fail
   refine wp_region_lit ?_
   refine wpList_plain rfl (fun K hK => ?_); go_simp; refine hK _ _ ?_; clear hK K
   try simp only [Act.put, nrZ]
   refine ldZ (load_all agg28 size28 (xs := sp s q) rfl HB02.out.at) ?_
   refine wpList_plain rfl (fun K hK => ?_)
   go_simp
   refine (HFI.out _ (Fr.refl _ _)).mono ?_
   rintro e w3 ⟨rfl, f3⟩
   refine hK _ _ ?_
   clear hK K
   try simp only [Act.put, nrZ]
   refine wpList_plain rfl (fun K hK => ?_); go_simp; refine hK _ _ ?_; clear hK K
   refine wpList_nil ?_
   try simp only [Act.put, nrZ]
   have HB03 := Lib.hid (HB02.out.keep f3 (by simp))
   have HB13 := Lib.hid (HB12.out.keep f3 (by simp))
   have HF3 := Lib.hid (HF2.out.step f3)
   clear f3 HB02 HB12 HF2 e0 e1 HFI
   go_upto_region 6 with fail
   refine wp_region_lit ?_
   iterate 3 (refine wpList_plain rfl (fun K hK => ?_); go_simp; refine hK _ _ ?_; clear hK K)
   try simp only [Act.put, nrZ]
   obtain ⟨w9, hst, hb_, hf_⟩ := store_all (t := 36) (sp ⟨#[]⟩ 0) size28 rfl (sp_one _ _) HB13.out rfl
   refine stZ hst ?_
   clear hst
   refine wpList_plain rfl (fun K hK => ?_); go_simp; refine hK _ _ ?_; clear hK K
   refine wpList_nil ?_
   try simp only [Act.put, nrZ]
   have HR9 := Lib.hid hb_
   have HF9 := Lib.hid (HF3.out.own1 (S := []) (B := 0) hf_ (by have := HBS.out; omega))
   clear hb_ hf_
   go_wp2
   have hl := load_var agg28 size28 (xs := sp ⟨#[]⟩ 0) rfl HR9.out.at
   refine bodyPost_ret (v := .tuple #[.slice a n c, .agg (sp ⟨#[]⟩ 0).toArray, .int .i64 11]) (by simp [results, Tryz.results45, as_addr, hl]) rfl ?_
   exact ⟨HF9.out, .inl ⟨HNF.out, rfl⟩⟩
  ·have dg : decide (0 ≤ pl) = false := decide_eq_false hfr
   have HNF := Lib.hid (show freeB T s q from HFR.out.2 (by omega))
   clear hfr
   go_upto_region 5 with fail
   refine wp_region_lit ?_
   refine wpList_plain rfl (fun K hK => ?_); go_simp; refine hK _ _ ?_; clear hK K
   try simp only [Act.put, nrZ]
   refine ldZ (load_all agg28 size28 (xs := sp s q) rfl HB02.out.at) ?_
   refine wpList_plain rfl (fun K hK => ?_)
   go_simp
   refine (HFI.out _ (Fr.refl _ _)).mono ?_
   rintro e w3 ⟨rfl, f3⟩
   refine hK _ _ ?_
   clear hK K
   try simp only [Act.put, nrZ]
   refine wpList_plain rfl (fun K hK => ?_); go_simp; refine hK _ _ ?_; clear hK K
   refine wpList_nil ?_
   try simp only [Act.put, nrZ]
   have HB03 := Lib.hid (HB02.out.keep f3 (by simp))
   have HB13 := Lib.hid (HB12.out.keep f3 (by simp))
   have HF3 := Lib.hid (HF2.out.step f3)
   clear f3 HB02 HB12 HF2 e0 e1 HFI
   by_cases hful : 128 ≤ n
   ·have hful' : (128 : Int) ≤ (n : Int) := by omega
    go_upto_region 8 with fail
    refine wp_region_lit ?_
    iterate 3 (refine wpList_plain rfl (fun K hK => ?_); go_simp; refine hK _ _ ?_; clear hK K)
    try simp only [Act.put, nrZ]
    obtain ⟨w9, hst, hb_, hf_⟩ := store_all (t := 36) (sp ⟨#[]⟩ 0) size28 rfl (sp_one _ _) HB13.out rfl
    refine stZ hst ?_
    clear hst
    refine wpList_plain rfl (fun K hK => ?_); go_simp; refine hK _ _ ?_; clear hK K
    refine wpList_nil ?_
    try simp only [Act.put, nrZ]
    have HR9 := Lib.hid hb_
    have HF9 := Lib.hid (HF3.out.own1 (S := []) (B := 0) hf_ (by have := HBS.out; omega))
    clear hb_ hf_
    go_wp2
    have hl := load_var agg28 size28 (xs := sp ⟨#[]⟩ 0) rfl HR9.out.at
    refine bodyPost_ret (v := .tuple #[.slice a n c, .agg (sp ⟨#[]⟩ 0).toArray, .int .i64 7]) (by simp [results, Tryz.results45, as_addr, hl]) rfl ?_
    exact ⟨HF9.out, .inr (.inl ⟨HNF.out, by rw [HN.out]; exact hful, rfl⟩)⟩
   ·have hful' : ¬ (128 : Int) ≤ (n : Int) := by omega
    obtain ⟨Xs, hX1, hX2⟩ := HT.out
    rw [HN.out] at hX2
    have HX1 := Lib.hid hX1
    have HX2 := Lib.hid hX2
    clear hX1 hX2
    go_upto_block 0 with fail
    go_cut [9] from 39 to 54 (fun i wz => ∃ k : Nat, i = .int .i64 k ∧ k ≤ n ∧ Fr [] w3 wz)
    case first =>
     go_wp2_with fail
     go_loopw [9] (fun i wr => ∃ (wz : World) (k : Nat), wz = wr ∧ i = .int .i64 k ∧ k ≤ n ∧ Fr [] w3 wr) (fun i _ => n - (intOf i).toNat)
     case atStart => exact ⟨_, 0, rfl, rfl, by omega, Fr.refl _ _⟩
     case round =>
      obtain ⟨wr, k, hwz, rfl, hk, hF⟩ := hrel
      subst hwz
      have HW := Lib.hid hF
      have HB04 := Lib.hid (HB03.out.keep hF (by simp))
      have HB14 := Lib.hid (HB13.out.keep hF (by simp))
      have HF4 := Lib.hid (HF3.out.step hF)
      clear hF
      obtain ⟨w4, hw4⟩ : ∃ z, wr.drew = z := ⟨_, rfl⟩
      have f4 : Fr [] wr w4 := by rw [← hw4]; exact (Fr.refl [] wr).drew
      have HW4 := Lib.hid (HW.out.step f4)
      have HF5 := Lib.hid (HF4.out.step f4)
      have HB05 := Lib.hid (HB04.out.keep f4 (by simp))
      have HB15 := Lib.hid (HB14.out.keep f4 (by simp))
      have HWW := Lib.hid hw4
      clear f4 hw4
      by_cases hlt : k < n
      ·have hlt' : (k : Int) < (n : Int) := by omega
       have hk0 : (0 : Int) ≤ (k : Int) := by omega
       have hy := List.getElem?_eq_getElem (l := T) (i := k) (by rw [HN.out]; exact hlt)
       obtain ⟨y, hye⟩ : ∃ y, T[k]'(by rw [HN.out]; exact hlt) = y := ⟨_, rfl⟩
       rw [hye] at hy
       obtain ⟨g, off, cap, X, hv, hg, _, hl, rfl⟩ := (BRow.next (BOwn.row HT.out) HF5.out).lies hy
       rw [HN.out] at hv
       simp only [Value.slice.injEq] at hv
       obtain ⟨rfl, _, rfl⟩ := hv
       have HL0 := Lib.hid hl
       clear hy hye hl hg
       go_upto_region 10 with fail
       refine wp_region_held_drew (S := fun w' => w'.cell? ⟨g, off + k * 3 + 0, none⟩ = some (.string y.s) ∧ w'.cell? ⟨g, off + k * 3 + 1, none⟩ = some (.int .i64 y.p) ∧ w'.cell? ⟨B, 0, none⟩ = some (.string s) ∧ w'.cell? ⟨B, 1, none⟩ = some (.int .i64 q)) (by kernel_rfl) (by rw [HWW.out]; exact ⟨HL0.out 0 _ rfl, HL0.out 1 _ rfl, HB05.out.at 0 _ rfl, HB05.out.at 1 _ rfl⟩) (fun hHeld => ?_)
       rw [HWW.out] at hHeld ⊢
       refine tkZ 0 ?_
       refine tkZ 1 ?_
       refine tkZ 2 ?_
       refine tkZ 3 ?_
       refine tkZ 4 ?_
       refine tkZ 5 ?_
       refine tkZ 6 ?_
       refine tkZ 7 ?_
       refine tkZ 8 ?_
       refine tvZ 9 (.agg (sp y.s y.p).toArray) rfl ?_ ?_
       ·intro w hSw
        try dsimp only at hSw
        show Sem.run Tryz.prog ((Instr.loadAt 36 (.pointer (some ⟨g, off + k * 3, none⟩))) >>= fun x => pure (Next.value x)) w = _
        rw [Sem.run_bind, load_all agg28 size28 (xs := sp y.s y.p) rfl (fun j u hj => by
         match j with
         | 0 => cases hj; exact hSw.1
         | 1 => cases hj; exact hSw.2.1)]
        rfl
       try simp only [Act.put, nrZ]
       refine tvZ 10 (.agg (sp s q).toArray) rfl ?_ ?_
       ·intro w hSw
        try dsimp only at hSw
        show Sem.run Tryz.prog ((Instr.loadAt 36 (.pointer (some ⟨B, 0, none⟩))) >>= fun x => pure (Next.value x)) w = _
        rw [Sem.run_bind, load_all agg28 size28 (xs := sp s q) rfl (fun j u hj => by
         rw [Nat.zero_add]
         match j with
         | 0 => cases hj; exact hSw.2.2.1
         | 1 => cases hj; exact hSw.2.2.2)]
        rfl
       try simp only [Act.put, nrZ]
       refine rdZ 11 (fun K hK => ?_)
       go_simp
       refine (refCmp_any y.s s y.p q _).mono ?_
       rintro e w5 ⟨cm, rfl, f5⟩
       have HF6 := Lib.hid (HF5.out.step f5)
       have HB06 := Lib.hid (HB05.out.keep f5 (by simp))
       have HB16 := Lib.hid (HB15.out.keep f5 (by simp))
       have HW6 := Lib.hid (HW4.out.step f5)
       have hS6 : w5.cell? ⟨g, off + k * 3 + 0, none⟩ = some (.string y.s) ∧ w5.cell? ⟨g, off + k * 3 + 1, none⟩ = some (.int .i64 y.p) ∧ w5.cell? ⟨B, 0, none⟩ = some (.string s) ∧ w5.cell? ⟨B, 1, none⟩ = some (.int .i64 q) := ⟨f5.keep (HL0.out 0 _ rfl) (by simp), f5.keep (HL0.out 1 _ rfl) (by simp), HB06.out.at 0 _ rfl, HB06.out.at 1 _ rfl⟩
       clear f5
       refine hK.out _ _ (hS6) (fun hHeld => ?_)
       clear hK K
       try simp only [Act.put, nrZ]
       refine tkZ 12 ?_
       refine tkZ 13 ?_
       refine wpAnyH_done (by kernel_rfl) ?_ _
       clear hHeld hS6
       by_cases hc : cm < 0
       ·go_wp2
        go_roundw
        case rel => exact ⟨_, k + 1, rfl, by go_num, by omega, HW6.out⟩
        case measure => simp [intOf]; omega
       ·go_wp2
        go_meet
        case rel => exact ⟨k, rfl, hk, HW6.out⟩
      ·skip
       go_upto_region 10 with fail
       refine wp_region_held_drew (S := fun _ => True) (by kernel_rfl) (trivial) (fun hHeld => ?_)
       clear hHeld
       rw [HWW.out]
       refine tkZ 0 ?_
       refine tkZ 1 ?_
       refine tkZ 2 ?_
       refine tkZ 3 ?_
       refine tkZ 4 ?_
       refine wpAnyH_take (i := 5) (oi := _) (v := undef) rfl (by kernel_rfl) (by kernel_rfl) (by kernel_rfl) (fun _ _ _ h => h) (Or.inr ⟨by rfl, rfl⟩) (by first | assumption | trivial) ?_
       try simp only [Act.put, nrZ]
       refine wpAnyH_take (i := 6) (oi := _) (v := undef) rfl (by kernel_rfl) (by kernel_rfl) (by kernel_rfl) (fun _ _ _ h => h) (Or.inr ⟨by rfl, rfl⟩) (by first | assumption | trivial) ?_
       try simp only [Act.put, nrZ]
       refine wpAnyH_take (i := 7) (oi := _) (v := undef) rfl (by kernel_rfl) (by kernel_rfl) (by kernel_rfl) (fun _ _ _ h => h) (Or.inr ⟨by rfl, rfl⟩) (by first | assumption | trivial) ?_
       try simp only [Act.put, nrZ]
       refine wpAnyH_take (i := 8) (oi := _) (v := undef) rfl (by kernel_rfl) (by kernel_rfl) (by kernel_rfl) (fun _ _ _ h => h) (Or.inr ⟨by rfl, rfl⟩) (by first | assumption | trivial) ?_
       try simp only [Act.put, nrZ]
       refine wpAnyH_take (i := 9) (oi := _) (v := undef) rfl (by kernel_rfl) (by kernel_rfl) (by kernel_rfl) (fun _ _ _ h => h) (Or.inr ⟨by rfl, rfl⟩) (by first | assumption | trivial) ?_
       try simp only [Act.put, nrZ]
       refine wpAnyH_take (i := 10) (oi := _) (v := undef) rfl (by kernel_rfl) (by kernel_rfl) (by kernel_rfl) (fun _ _ _ h => h) (Or.inr ⟨by rfl, rfl⟩) (by first | assumption | trivial) ?_
       try simp only [Act.put, nrZ]
       refine wpAnyH_take (i := 11) (oi := _) (v := undef) rfl (by kernel_rfl) (by kernel_rfl) (by kernel_rfl) (fun _ _ _ h => h) (Or.inr ⟨by rfl, rfl⟩) (by first | assumption | trivial) ?_
       try simp only [Act.put, nrZ]
       refine wpAnyH_take (i := 12) (oi := _) (v := undef) rfl (by kernel_rfl) (by kernel_rfl) (by kernel_rfl) (fun _ _ _ h => h) (Or.inr ⟨by rfl, rfl⟩) (by first | assumption | trivial) ?_
       try simp only [Act.put, nrZ]
       refine tkZ 13 ?_
       refine wpAnyH_done (by kernel_rfl) ?_ _
       go_wp2
       go_meet
       case rel => exact ⟨k, rfl, hk, HW4.out⟩
    case rest =>
     obtain ⟨k, rfl, hk, hfc⟩ := hcut
     have HB04 := Lib.hid (HB03.out.keep hfc (by simp))
     have HB14 := Lib.hid (HB13.out.keep hfc (by simp))
     have HF4 := Lib.hid (HF3.out.step hfc)
     clear hfc
     obtain ⟨w4, hw4⟩ : ∃ z, wc.drew = z := ⟨_, rfl⟩
     have f4 : Fr [] wc w4 := by rw [← hw4]; exact (Fr.refl [] wc).drew
     have HF5 := Lib.hid (HF4.out.step f4)
     have HB05 := Lib.hid (HB04.out.keep f4 (by simp))
     have HB15 := Lib.hid (HB14.out.keep f4 (by simp))
     have HX5 := Lib.hid (rowNew HX2.out HF5.out)
     have HWW := Lib.hid hw4
     clear f4 hw4
     obtain ⟨vr, hvr, hrr⟩ := own_slice_from elemBd HX5.out k hk
     obtain ⟨vu, hvu, hru⟩ := own_slice_up elemBd HX5.out k hk
     have HVR := Lib.hid hvr
     have HVU := Lib.hid hvu
     have HRR := Lib.hid (show RowV w4 vr (n - k) 3 (Xs.drop k).flatten from by rw [← flat_drop k HX1.out.sz]; exact hrr)
     have HRU := Lib.hid (show RowV w4 vu k 3 (Xs.take k).flatten from by rw [← flat_take k HX1.out.sz]; exact hru)
     clear hvr hvu hrr hru
     go_upto_region 12 with fail
     refine wp_region_held_drew (S := fun w' => w'.cell? ⟨B, 0, none⟩ = some (.string s) ∧ w'.cell? ⟨B, 1, none⟩ = some (.int .i64 q)) (by kernel_rfl) (by rw [HWW.out]; exact ⟨HB05.out.at 0 _ rfl, HB05.out.at 1 _ rfl⟩) (fun hHeld => ?_)
     rw [HWW.out] at hHeld ⊢
     refine tvZ 0 (.agg (sp s q).toArray) rfl ?_ ?_
     ·intro w hSw
      try dsimp only at hSw
      show Sem.run Tryz.prog ((Instr.loadAt 36 (.pointer (some ⟨B, 0, none⟩))) >>= fun x => pure (Next.value x)) w = _
      rw [Sem.run_bind, load_all agg28 size28 (xs := sp s q) rfl (fun j u hj => by
       rw [Nat.zero_add]
       match j with
       | 0 => cases hj; exact hSw.1
       | 1 => cases hj; exact hSw.2)]
      rfl
     try simp only [Act.put, nrZ]
     refine tkZ 1 ?_
     refine tvZ 2 (.agg #[.string s, .int .i64 q, .int .i64 v]) rfl ?_ ?_
     ·intro w hSw
      try dsimp only at hSw
      exact exec_bld2 (V := .agg #[.string s, .int .i64 q]) (U := .int .i64 v) rfl rfl rfl (bldBd s q v w)
     try simp only [Act.put, nrZ]
     refine tkZ 4 ?_
     refine tkZ 5 ?_
     refine tvZ 6 vr rfl ?_ ?_
     ·intro w hSw
      try dsimp only at hSw
      exact exec_slice_from (V := .slice a n c) (L := .int .i64 k) rfl rfl rfl elemBd.el.2.1 (HVR.out w)
     try simp only [Act.put, nrZ]
     refine rdZ 3 (fun K hK => ?_)
     obtain ⟨w5, hw5⟩ : ∃ z, w4.alloc (.cells #[.string s, .int .i64 q, .int .i64 v] 172) = z := ⟨_, rfl⟩
     obtain ⟨E5, hE5⟩ : ∃ z, w4.heap.size = z := ⟨_, rfl⟩
     have hown : w5.ownsRow B 172 3 (.slice (some ⟨E5, 0, none⟩) 1 1) 1 (bdC ⟨s, q, v⟩) := by
      rw [← hw5, ← hE5]
      exact World.ownsRow_lit w4 #[.string s, .int .i64 q, .int .i64 v] 1 (by rw [← HBS.out]; exact HF5.out.size) (by unfold maxLen; omega) rfl
     have f5 : Fr [] w4 w5 := by rw [← hw5]; exact (Fr.refl [] w4).alloc _
     have HE5 := Lib.hid hE5
     split
     rotate_left
     ·rename_i hno
      exact absurd rfl hno
     refine wp_vl (v := .slice (some ⟨E5, 0, none⟩) 1 1) (w' := w5) ?_ ?_
     ·refine exec_bsl (V := .agg #[.string s, .int .i64 q, .int .i64 v]) rfl rfl ?_
      rw [bslBd, hw5, hE5]
     have HOWN5 := Lib.hid hown
     have HG5 := Lib.hid f5
     clear hw5 hE5 hown f5
     refine hK.out _ _ (⟨HG5.out.keep hHeld.1 (by simp), HG5.out.keep hHeld.2 (by simp)⟩) (fun hHeld => ?_)
     clear hK K
     try simp only [Act.put, nrZ]
     refine rdZ 7 (fun K hK => ?_)
     split
     rotate_left
     ·rename_i hno
      exact absurd rfl hno
     refine wp_append_any elemBd _ _ rfl B (v := .slice (some ⟨E5, 0, none⟩) 1 1) (n := 1) (xs := bdC ⟨s, q, v⟩) rfl HOWN5.out (X := vr) (m := n - k) (news := (Xs.drop k).flatten) rfl (HRR.out.new HG5.out) (flat_one (HX1.out.drop k).one) (by omega) (by decide) (by have := HBS.out; have := (HF5.out.step HG5.out).size; omega) ?_
     intro sR w6 ho6 f6
     have HF6 := Lib.hid (show Fr [] w4 w6 from HG5.out.trans f6 (fun x hx hl => by
      simp only [Value.ownBlock, Option.toList_some, List.mem_singleton] at hx
      have := HE5.out
      omega))
     have HO6 := Lib.hid ho6
     clear ho6 f6
     refine hK.out _ _ (⟨HF6.out.keep (HB05.out.at 0 _ rfl) (by simp), HF6.out.keep (HB05.out.at 1 _ rfl) (by simp)⟩) (fun hHeld => ?_)
     clear hK K
     try simp only [Act.put, nrZ]
     refine tkZ 8 ?_
     refine wpAnyH_done (by kernel_rfl) ?_ _
     clear hHeld
     obtain ⟨w7, hw7⟩ : ∃ z, w6.drew = z := ⟨_, rfl⟩
     have f7 : Fr [] w4 w7 := by rw [← hw7]; exact HF6.out.drew
     have HF7 := Lib.hid (HF5.out.step f7)
     have HB07 := Lib.hid (HB05.out.keep f7 (by simp))
     have HB17 := Lib.hid (HB15.out.keep f7 (by simp))
     have HRU7 := Lib.hid (HRU.out.new f7)
     have HO7 := Lib.hid (show w7.ownsRow B 172 3 (slv sR) (1 + (n - k)) (bdC ⟨s, q, v⟩ ++ (Xs.drop k).flatten) from by
      have h := HO6.out
      rw [← hw7]
      exact rowNew h ((Fr.refl [] w6).drew))
     have HW7 := Lib.hid hw7
     clear f7 hw7 HF4 HB04 HB14 HO6 HF6 HG5 HOWN5 HE5
     go_upto_region 13 with fail
     refine wp_region_held_drew (S := fun w' => w'.cell? ⟨B, 0, none⟩ = some (.string s) ∧ w'.cell? ⟨B, 1, none⟩ = some (.int .i64 q)) (by kernel_rfl) (by rw [HW7.out]; exact ⟨HB07.out.at 0 _ rfl, HB07.out.at 1 _ rfl⟩) (fun hHeld => ?_)
     rw [HW7.out] at hHeld ⊢
     refine tkZ 0 ?_
     refine tkZ 1 ?_
     refine tvZ 2 vu rfl ?_ ?_
     ·intro w hSw
      try dsimp only at hSw
      exact exec_slice_upG (V := .slice a n c) (H := .int .i64 k) rfl rfl rfl elemBd.el.2.1 (HVU.out w)
     try simp only [Act.put, nrZ]
     refine tkZ 4 ?_
     refine tvZ 6 (.agg (sp s q).toArray) rfl ?_ ?_
     ·intro w hSw
      try dsimp only at hSw
      show Sem.run Tryz.prog ((Instr.loadAt 36 (.pointer (some ⟨B, 0, none⟩))) >>= fun x => pure (Next.value x)) w = _
      rw [Sem.run_bind, load_all agg28 size28 (xs := sp s q) rfl (fun j u hj => by
       rw [Nat.zero_add]
       match j with
       | 0 => cases hj; exact hSw.1
       | 1 => cases hj; exact hSw.2)]
      rfl
     try simp only [Act.put, nrZ]
     refine rdZ 3 (fun K hK => ?_)
     split
     rotate_left
     ·rename_i hno
      exact absurd rfl hno
     refine wp_append_any elemBd _ _ rfl B (v := .slice none 0 0) (n := 0) (xs := []) rfl (World.ownsRow_nil _ _ _ _) (X := vu) (m := k) (news := (Xs.take k).flatten) rfl HRU7.out (flat_one (HX1.out.take k).one) (by omega) (by decide) (by have := HBS.out; have := HF7.out.size; omega) ?_
     intro sT w8 ho8 f8
     have f8 : Fr [] w7 w8 := f8
     have HF8 := Lib.hid (HF7.out.step f8)
     have HB08 := Lib.hid (HB07.out.keep f8 (by simp))
     have HB18 := Lib.hid (HB17.out.keep f8 (by simp))
     have HO8 := Lib.hid ho8
     have HP8 := Lib.hid (rowNew HO7.out f8)
     clear ho8 f8
     refine hK.out _ _ (⟨HB08.out.at 0 _ rfl, HB08.out.at 1 _ rfl⟩) (fun hHeld => ?_)
     clear hK K
     try simp only [Act.put, nrZ]
     refine rdZ 5 (fun K hK => ?_)
     split
     rotate_left
     ·rename_i hno
      exact absurd rfl hno
     refine wp_append_any elemBd _ _ rfl B (v := slv sT) (n := 0 + k) (xs := [] ++ (Xs.take k).flatten) rfl HO8.out (X := slv sR) (m := 1 + (n - k)) (news := bdC ⟨s, q, v⟩ ++ (Xs.drop k).flatten) rfl (RowV.of_own HP8.out) (by
      intro u hu
      rcases List.mem_append.1 hu with hu | hu
      ·exact bdC_one _ u hu
      ·exact flat_one (HX1.out.drop k).one u hu) (by omega) (by decide) (by have := HBS.out; have := HF8.out.size; omega) ?_
     intro sU w9 ho9 f9
     have HB09 := Lib.hid (HB08.out.farRow HO8.out f9 (by decide))
     have HB19 := Lib.hid (HB18.out.farRow HO8.out f9 (by decide))
     have HF9 := Lib.hid (HF8.out.ownRow HO8.out f9 (by rw [HBS.out]; exact Nat.le_refl _))
     have HO9 := Lib.hid ho9
     clear ho9 f9
     refine hK.out _ _ (⟨HB09.out.at 0 _ rfl, HB09.out.at 1 _ rfl⟩) (fun hHeld => ?_)
     clear hK K
     try simp only [Act.put, nrZ]
     refine tkZ 7 ?_
     refine rdZ 8 (fun K hK => ?_)
     obtain ⟨w10, hst, hb_, hf_⟩ := store_all (t := 36) (sp s q) size28 rfl (sp_one _ _) HB19.out rfl
     split
     rotate_left
     ·rename_i hno
      exact absurd rfl hno
     refine stY hst ?_
     clear hst
     have HB110 := Lib.hid hb_
     have HF10 := Lib.hid (HF9.out.own1 (S := []) (B := 0) hf_ (by have := HBS.out; omega))
     have HO10 := Lib.hid (rowFr' HO9.out hf_ (fun g hg hm => blkNe HB19.out HO9.out (by decide) (by rw [List.mem_singleton] at hm; rw [← hm]; exact hg)))
     have HS10 := Lib.hid (show _ ∧ _ from ⟨(HB09.out.keep hf_ (by simp)).at 0 _ rfl, (HB09.out.keep hf_ (by simp)).at 1 _ rfl⟩)
     clear hb_ hf_
     refine hK.out _ _ (HS10.out) (fun hHeld => ?_)
     clear hK K
     try simp only [Act.put, nrZ]
     refine tkZ 9 ?_
     refine wpAnyH_done (by kernel_rfl) ?_ _
     clear hHeld
     go_wp2
     have hl := load_var agg28 size28 (xs := sp s q) rfl HB110.out.at
     refine bodyPost_ret (v := .tuple #[slv sU, .agg (sp s q).toArray, .int .i64 0]) (by simp [results, Tryz.results45, as_addr, hl]) rfl ?_
     refine ⟨HF10.out, .inr (.inr ⟨HNF.out, by rw [HN.out]; omega, sU, k, by rw [HN.out]; exact hk, ?_, rfl⟩)⟩
     have hI := insB_flat HX1.out k ⟨s, q, v⟩
     refine ⟨_, hI, ?_⟩
     have hlen : (insB T k ⟨s, q, v⟩).length = 0 + k + (1 + (n - k)) := by
      have := HN.out
      simp [insB]
      omega
     rw [hlen, HBS.out]
     have h := HO10.out
     simpa using h
def lB (x : PN.PL) : Bd := ⟨x.s, x.p, x.ref⟩
structure AdrFit (D : List PN.PL) : Prop where
 ok : ∀ y ∈ D, y.s.size ≤ 1000000 ∧ addrB y.s.data.toList y.p = true ∧ y.p ≠ 0
 ne : D.Pairwise (fun a b => ¬ (a.s = b.s ∧ a.p = b.p))
 nl : D.length ≤ 128
theorem insB_perm (T : List Bd) (k : Nat) (x : Bd) : (insB T k x).Perm (T ++ [x]) := by
 unfold insB
 refine List.perm_middle.trans ?_
 rw [List.take_append_drop]
 exact List.perm_append_comm (l₁ := [x]) (l₂ := T)
theorem freeB_perm {T U : List Bd} (h : T.Perm U) (s : ByteArray) (q : Int) : freeB T s q ↔ freeB U s q := by
 unfold freeB
 exact ⟨fun hf x hx => hf x (h.mem_iff.2 hx), fun hf x hx => hf x (h.mem_iff.1 hx)⟩
theorem portB_perm {T U : List Bd} (h : T.Perm U) (s : ByteArray) (p : Int) : portB T s p = portB U s p := by
 unfold portB portsB
 rw [PN.free_perm ((h.filter _).map _)]
theorem portB_L (D : List PN.PL) (s : ByteArray) (p : Int) : portB (D.map lB) s p = PN.portOf D s p := by
 unfold portB PN.portOf portsB PN.ports
 rw [List.filter_map, List.map_map]
 rfl
theorem freeB_L (D : List PN.PL) (s : ByteArray) (q : Int) : freeB (D.map lB) s q ↔ ∀ x ∈ D, PN.atP s q x = false := by
 unfold freeB
 constructor
 ·intro h x hx
  exact h (lB x) (List.mem_map.2 ⟨x, hx, rfl⟩)
 ·intro h x hx
  obtain ⟨y, hy, rfl⟩ := List.mem_map.1 hx
  exact h y hy
theorem AdrFit.free {D : List PN.PL} (h : AdrFit D) {q : Nat} {y : PN.PL} (hy : D[q]? = some y) {T : List Bd} (hT : T.Perm ((D.take q).map lB)) : freeB T y.s y.p := by
 rw [freeB_perm hT, freeB_L]
 intro x hx
 obtain ⟨j, hj⟩ := List.getElem?_of_mem hx
 have hl := (List.getElem?_eq_some_iff.1 hj).1
 rw [List.length_take] at hl
 rw [List.getElem?_take_of_lt (by omega)] at hj
 obtain ⟨hj1, rfl⟩ := List.getElem?_eq_some_iff.1 hj
 obtain ⟨hq1, rfl⟩ := List.getElem?_eq_some_iff.1 hy
 exact decide_eq_false (List.pairwise_iff_getElem.1 h.ne j q hj1 hq1 (by omega))
theorem bind_new (vb : Value) (T : List Bd) (B0 : Nat) (s : ByteArray) (p v : Int) (w : World) (h : BOwn w B0 vb T) (hn : T.length < 128) (hs : s.size ≤ 1000000) (hv : addrB s.data.toList p = true) (hp : p ≠ 0) (h0 : 0 ≤ v) (hf : freeB T s p) :
  Calls Tryz.prog 45 #[vb, .agg #[.string s, .int .i64 p], .int .i64 v] w fun e w' => Fr [] w w' ∧ ∃ (sU : Sli) (T' : List Bd), T'.Perm (T ++ [⟨s, p, v⟩]) ∧ BOwn w' w.heap.size (slv sU) T' ∧ e = .returned (.tuple #[slv sU, .agg (sp s p).toArray, .int .i64 0]) := by
 have hq : portB T s p = p := if_neg hp
 refine (bind_any vb T B0 s p v w h (by omega) hs hv h0).mono ?_
 rw [hq]
 rintro e w' ⟨f, h1 | h1 | h1⟩
 ·exact absurd hf h1.1
 ·exact absurd h1.2.1 (by omega)
 ·obtain ⟨_, _, sU, k, _, h2, h3⟩ := h1
  exact ⟨f, sU, _, insB_perm T k _, h2, h3⟩
theorem bound_any (vL vC : Value) (D : List PN.PL) (w : World) (hL : LRow w vL D) (ha : AdrFit D) :
  Calls Tryz.prog 46 #[.agg #[vL, vC]] w fun e w' => ∃ (sb : Sli) (T : List Bd), e = .returned (slv sb) ∧ T.Perm (D.map lB) ∧ BOwn w' w.heap.size (slv sb) T ∧ Fr [] w w' := by
 obtain ⟨aL, cL, rfl⟩ := hL.val
 obtain ⟨n, hnl⟩ : ∃ n, D.length = n := ⟨_, rfl⟩
 have hn := ha.nl
 rw [hnl] at hL hn ⊢
 have HN := Lib.hid hnl
 obtain ⟨B, hB⟩ : ∃ B, w.heap.size = B := ⟨_, rfl⟩
 obtain ⟨wA, hwA⟩ : ∃ z, w.alloc (.cells #[.slice aL n cL, vC] 31) = z := ⟨_, rfl⟩
 have hb0 : Blk wA B 31 (two (.slice aL n cL) vC) := by
  rw [← hwA, ← hB]
  exact Blk.made w 31 (two (.slice aL n cL) vC)
 have hf : Fr [] w wA := by rw [← hwA]; exact (Fr.refl [] w).alloc _
 have HF := Lib.hid hf
 have HBS := Lib.hid hB
 have HWA := Lib.hid hwA
 have HB0 := Lib.hid hb0
 have HL := Lib.hid hL
 have HA := Lib.hid ha
 clear hb0 hf hB hwA hL ha hnl
 go_enter Tryz.func46, Tryz.ntmps46
 go_wp2
 rw [HWA.out]
 simp only [HBS.out]
 go_loopw [3, 4] (fun b i wr => ∃ (wz : World) (sb : Sli) (T : List Bd) (q : Nat), wz = wr ∧ b = .slice sb.1 sb.2.1 sb.2.2 ∧ i = .int .i64 q ∧ q ≤ n ∧ T.Perm ((D.take q).map lB) ∧ BOwn wr B (slv sb) T ∧ Fr [] wA wr) (fun _ i _ => n - (intOf i).toNat)
 case atStart => exact ⟨_, (none, 0, 0), [], 0, rfl, rfl, rfl, by omega, by simp, BOwn.nil _ _, Fr.refl _ _⟩
 case round =>
  obtain ⟨wr, ⟨b1, b2, b3⟩, T, q, hwz, rfl, rfl, hq, hT, hO, hF⟩ := hrel
  subst hwz
  have HT := Lib.hid hT
  have HO := Lib.hid hO
  have HW := Lib.hid hF
  have HB1 := Lib.hid (HB0.out.keep hF (by simp))
  have HF1 := Lib.hid (HF.out.step hF)
  clear hT hO hF
  have e0 : wr.cell? ⟨B, 0, none⟩ = some (.slice aL n cL) := HB1.out.at 0 _ rfl
  by_cases hlt : q < n
  ·have hlt' : (q : Int) < (n : Int) := by omega
   have hq0 : (0 : Int) ≤ (q : Int) := by omega
   have hy := List.getElem?_eq_getElem (l := D) (i := q) (by rw [HN.out]; exact hlt)
   obtain ⟨y, hye⟩ : ∃ y, D[q]'(by rw [HN.out]; exact hlt) = y := ⟨_, rfl⟩
   rw [hye] at hy
   obtain ⟨g, off, cap, X, hv, hg, _, hl, q0, rfl, _⟩ := (LRow.next HL.out HF1.out).lies hy
   rw [HN.out] at hv
   simp only [Value.slice.injEq] at hv
   obtain ⟨rfl, _, rfl⟩ := hv
   have HL0 := Lib.hid hl
   have HY := Lib.hid hy
   clear hy hye hl hg
   go_upto_region 5 with fail
   obtain ⟨w2, hw2⟩ : ∃ z, wr.drew = z := ⟨_, rfl⟩
   have f2 : Fr [] wr w2 := by rw [← hw2]; exact (Fr.refl [] wr).drew
   have HB2 := Lib.hid (HB1.out.keep f2 (by simp))
   have HF2 := Lib.hid (HF1.out.step f2)
   have HW2 := Lib.hid (HW.out.step f2)
   have HO2 := Lib.hid (HO.out.next f2)
   have HWW := Lib.hid hw2
   have HLS := Lib.hid (show LiesAt w2 g (off + q * 5) (lsC y q0) from by rw [← hw2]; exact HL0.out)
   clear f2 hw2 e0
   refine wp_region_held_drew (S := fun w' => w'.cell? ⟨B, 0, none⟩ = some (.slice (some ⟨g, off, none⟩) n cL) ∧ w'.cell? ⟨g, off + q * 5, none⟩ = some (.int .i64 y.ref) ∧ w'.cell? ⟨g, off + q * 5 + 1, none⟩ = some (.string y.s) ∧ w'.cell? ⟨g, off + q * 5 + 1 + 1, none⟩ = some (.int .i64 y.p)) (by kernel_rfl) (by rw [HWW.out]; exact ⟨HB2.out.at 0 _ rfl, HLS.out 0 _ rfl, HLS.out 1 _ rfl, HLS.out 2 _ rfl⟩) (fun hHeld => ?_)
   rw [HWW.out] at hHeld ⊢
   refine tkZ 0 ?_
   refine tkZ 1 ?_
   refine tkZ 2 ?_
   refine tkZ 3 ?_
   refine tkZ 4 ?_
   refine tkZ 5 ?_
   refine tkZ 6 ?_
   refine tvZ 7 (.agg (sp y.s y.p).toArray) rfl ?_ ?_
   ·intro w hSw
    try dsimp only at hSw
    show Sem.run Tryz.prog ((Instr.loadAt 36 (.pointer (some ⟨g, off + q * 5 + 1, none⟩))) >>= fun x => pure (Next.value x)) w = _
    rw [Sem.run_bind, load_all agg28 size28 (xs := sp y.s y.p) rfl (fun j u hj => by
     match j with
     | 0 => cases hj; exact hSw.2.2.1
     | 1 => cases hj; exact hSw.2.2.2)]
    rfl
   try simp only [Act.put, nrZ]
   refine tkZ 8 ?_
   refine tkZ 9 ?_
   refine tkZ 10 ?_
   refine tkZ 11 ?_
   refine tkZ 12 ?_
   refine tkZ 13 ?_
   refine rdZ 14 (fun K hK => ?_)
   go_simp
   refine (bind_new (.slice b1 b2 b3) T B y.s y.p y.ref _ HO2.out (by have := HT.out.length_eq; rw [List.length_map, List.length_take] at this; omega) ((HA.out.ok y (List.mem_of_getElem? HY.out)).1) ((HA.out.ok y (List.mem_of_getElem? HY.out)).2.1) ((HA.out.ok y (List.mem_of_getElem? HY.out)).2.2) (by omega) (HA.out.free HY.out HT.out)).mono ?_
   rintro e w3 ⟨f3, ⟨u1, u2, u3⟩, T', hT', hO', rfl⟩
   have HF3 := Lib.hid (HW2.out.step f3)
   have HO3 := Lib.hid (hO'.base (B' := B) (by rw [← HBS.out]; exact HF2.out.size))
   have HT3 := Lib.hid (show T'.Perm ((D.take (q + 1)).map lB) from by
    refine hT'.trans ?_
    rw [List.take_add_one, HY.out, List.map_append]
    exact HT.out.append (List.Perm.refl _))
   have hS3 : w3.cell? ⟨B, 0, none⟩ = some (.slice (some ⟨g, off, none⟩) n cL) ∧ w3.cell? ⟨g, off + q * 5, none⟩ = some (.int .i64 y.ref) ∧ w3.cell? ⟨g, off + q * 5 + 1, none⟩ = some (.string y.s) ∧ w3.cell? ⟨g, off + q * 5 + 1 + 1, none⟩ = some (.int .i64 y.p) := ⟨f3.keep hHeld.1 (by simp), f3.keep hHeld.2.1 (by simp), f3.keep hHeld.2.2.1 (by simp), f3.keep hHeld.2.2.2 (by simp)⟩
   clear f3 hT' hO'
   refine hK.out _ _ (hS3) (fun hHeld => ?_)
   clear hK K
   try simp only [Act.put, nrZ]
   refine tkZ 15 ?_
   refine tkZ 16 ?_
   refine tkZ 17 ?_
   refine tkZ 18 ?_
   refine tkZ 19 ?_
   refine wpAnyH_done (by kernel_rfl) ?_ _
   clear hHeld hS3
   go_wp2
   go_roundw
   case rel => exact ⟨_, (u1, u2, u3), T', q + 1, rfl, rfl, by go_num, by omega, HT3.out, HO3.out, HF3.out⟩
   case measure => simp [intOf]; omega
  ·have hqn : q = n := by omega
   subst hqn
   go_wp2
   go_ret
   exact ⟨(b1, b2, b3), T, rfl, by have h := HT.out; rwa [List.take_of_length_le (by rw [HN.out]; exact Nat.le_refl _)] at h, by rw [HBS.out]; exact HO.out, HF1.out⟩
theorem bindAns_any (vL vC : Value) (D : List PN.PL) (s : ByteArray) (p : Int) (w : World) (hL : LRow w vL D) (ha : AdrFit D) (hs : s.size ≤ 1000000) (hv : addrB s.data.toList p = true) :
  ((¬ ∀ x ∈ D, PN.atP s (PN.portOf D s p) x = false) → BindAns w vL vC s p ⟨#[]⟩ 0 11) ∧
  ((∀ x ∈ D, PN.atP s (PN.portOf D s p) x = false) → 128 ≤ D.length → BindAns w vL vC s p ⟨#[]⟩ 0 7) ∧
  ((∀ x ∈ D, PN.atP s (PN.portOf D s p) x = false) → D.length < 128 → BindAns w vL vC s p s (PN.portOf D s p) 0) := by
 have key : ∀ (s' : ByteArray) (p' e0 : Int), (∀ (T : List Bd) (vb : Value) W e W', T.Perm (D.map lB) → BindOut W vb T s (portB T s p) 0 e W' → (∃ l, e = .returned (.tuple #[l, .agg (sp s' p').toArray, .int .i64 e0]))) → BindAns w vL vC s p s' p' e0 := by
  intro s' p' e0 hk W f
  refine (bound_any vL vC D W (LRow.next hL f) ha).mono ?_
  rintro e w1 ⟨sb, T, rfl, hT, hO, f1⟩
  refine ⟨_, rfl, f1, fun W' f' => ?_⟩
  refine (bind_any _ T _ s p 0 W' (hO.next f') (by rw [hT.length_eq, List.length_map]; have := ha.nl; omega) hs hv (by omega)).mono ?_
  intro e w2 h
  exact ⟨hk T _ _ _ _ hT h, h.1⟩
 have hpf : ∀ T, T.Perm (D.map lB) → portB T s p = PN.portOf D s p ∧ (freeB T s (portB T s p) ↔ ∀ x ∈ D, PN.atP s (PN.portOf D s p) x = false) ∧ T.length = D.length := fun T hT => by
  have h1 : portB T s p = PN.portOf D s p := by rw [portB_perm hT, portB_L]
  rw [h1]
  exact ⟨rfl, by rw [freeB_perm hT, freeB_L], by rw [hT.length_eq, List.length_map]⟩
 refine ⟨fun hb => key _ _ _ ?_, fun hf hn => key _ _ _ ?_, fun hf hn => key _ _ _ ?_⟩
 ·rintro T vb W e W' hT ⟨_, h | h | h⟩
  ·exact ⟨_, h.2⟩
  ·exact absurd ((hpf T hT).2.1.1 h.1) hb
  ·exact absurd ((hpf T hT).2.1.1 h.1) hb
 ·rintro T vb W e W' hT ⟨_, h | h | h⟩
  ·exact absurd ((hpf T hT).2.1.2 hf) h.1
  ·exact ⟨_, h.2.2⟩
  ·exact absurd h.2.1 (by rw [(hpf T hT).2.2]; omega)
 ·rintro T vb W e W' hT ⟨_, h | h | h⟩
  ·exact absurd ((hpf T hT).2.1.2 hf) h.1
  ·exact absurd h.2.1 (by rw [(hpf T hT).2.2]; omega)
  ·obtain ⟨_, _, sU, k, _, _, h3⟩ := h
   rw [(hpf T hT).1] at h3
   exact ⟨_, h3⟩
end Go.Proofs.YtgbmenfmaphciaaGreat
