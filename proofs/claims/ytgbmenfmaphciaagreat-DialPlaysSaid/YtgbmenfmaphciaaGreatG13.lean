/- The reference's nets in memory: Connect. -/
/- The reference's nets in memory: Hang. -/
/- The reference's nets in memory: Listen; Bind of an empty table. -/
import Derived.Test.YtgbmenfmaphciaaGreatTK
import Derived.Test.YtgbmenfmaphciaaGreatG9
import Derived.Test.YtgbmenfmaphciaaGreatAddr2
namespace Go.Proofs.YtgbmenfmaphciaaGreat
set_option linter.unusedVariables false
set_option linter.unusedSimpArgs false
set_option linter.unusedSectionVars false
open Go.RowKit
set_option linter.unusedVariables false
set_option linter.unusedSimpArgs false
set_option maxRecDepth 100000
set_option maxHeartbeats 8000000
theorem own_store {w : World} {base n sz g c k m : Nat} {e t : TypeId} {xs : List Value} (vs : List Value) (val : Value) (hS : ∀ w, (sizeOf t).run Tryz.prog w = .ok m w) (hc : val.cells = vs.toArray) (hm : vs.length = m) (h1 : ∀ u ∈ vs, u.oneCell' = true)
  (h : w.ownsRow base e sz (.slice (some ⟨g, 0, none⟩) n c) n xs) (hk : k + m ≤ n * sz) :
  ∃ w', (Instr.storeAt t (.pointer (some ⟨g, k, none⟩)) val).run Tryz.prog w = .ok () w' ∧ w'.ownsRow base e sz (.slice (some ⟨g, 0, none⟩) n c) n (xs.take k ++ vs ++ xs.drop (k + m)) ∧ Fr [g] w w' := by
 rcases h.2 with ⟨he, _⟩ | ⟨g', cap, cur, he, hb, hg, hn, hcm, hcs, htake⟩
 ·cases he
 simp only [Value.slice.injEq, Option.some.injEq, Addr.mk.injEq, and_true, true_and] at he
 obtain ⟨rfl, rfl⟩ := he
 have hfit : k + m ≤ cur.size := by
  rw [hcs]
  exact Nat.le_trans hk (Nat.mul_le_mul_right _ hn)
 have hst := run_storeCells_at Tryz.prog g k e vs 0 cur w hg (by omega) h1
 have hs : (Instr.sureAddr (.pointer (some ⟨g, k, none⟩))).run Tryz.prog w = .ok ⟨g, k, none⟩ w := by simp [Instr.sureAddr]
 simp only [Nat.add_zero] at hst
 rw [hm] at hst
 have hxl := h.1
 refine ⟨w.setRow g (List.take k cur.toList ++ vs ++ List.drop (k + m) cur.toList).toArray, ?_, ⟨?_, .inr ⟨g, c, (List.take k cur.toList ++ vs ++ List.drop (k + m) cur.toList).toArray, rfl, hb, setRow_heap w g cur _ _ _ hg, hn, hcm, ?_, ?_⟩⟩, ?_⟩
 ·unfold Instr.storeAt
  rw [Sem.run_bind, hs]
  simp only [Result.andThen_ok]
  unfold storeVar
  rw [Sem.run_bind, hS]
  simp only [Result.andThen_ok]
  rw [if_neg (by rw [hc]; simp [hm]), hc]
  exact hst
 ·simp only [List.length_append, List.length_take, List.length_drop]
  omega
 ·simp only [List.size_toArray, List.length_append, List.length_take, List.length_drop, Array.length_toList]
  rw [← hcs]
  omega
 ·have hl1 : (List.take k cur.toList ++ vs).length = k + m := by
   simp only [List.length_append, List.length_take, Array.length_toList]
   omega
  have hx1 : xs.take k = cur.toList.take k := by rw [← htake, List.take_take, Nat.min_eq_left (by omega)]
  have hx2 : xs.drop (k + m) = (cur.toList.drop (k + m)).take (n * sz - (k + m)) := by rw [← htake, List.drop_take]
  rw [hx1, hx2, List.take_append, hl1, List.take_of_length_le (by omega)]
 ·exact ⟨rfl, rfl, rfl, by simp [World.setRow], fun j hj hn => setRow_other w g j _ (by simpa using hn)⟩
theorem cut3 {α : Type} (A X R vs : List α) (n a : Nat) (hA : A.length = n) (ha : a + vs.length ≤ X.length) :
  A ++ ((X.take a ++ vs ++ X.drop (a + vs.length)) ++ R) = (A ++ (X ++ R)).take (n + a) ++ vs ++ (A ++ (X ++ R)).drop (n + a + vs.length) := by
 subst hA
 rw [List.take_append (l₁ := A), List.take_of_length_le (l := A) (by omega), Nat.add_sub_cancel_left, List.take_append_of_le_length (l₁ := X) (by omega)]
 rw [show A.length + a + vs.length = A.length + (a + vs.length) from by omega, List.drop_append, List.drop_of_length_le (l := A) (by omega), List.nil_append, Nat.add_sub_cancel_left, List.drop_append_of_le_length (l₁ := X) (by omega)]
 simp [List.append_assoc]
theorem flat_set {sz : Nat} {Xs : List (List Value)} {i a : Nat} {X vs : List Value} (hl : ∀ X ∈ Xs, X.length = sz) (hX : Xs[i]? = some X) (ha : a + vs.length ≤ sz) :
  (Xs.set i (X.take a ++ vs ++ X.drop (a + vs.length))).flatten = Xs.flatten.take (i * sz + a) ++ vs ++ Xs.flatten.drop (i * sz + a + vs.length) := by
 obtain ⟨hi, rfl⟩ := List.getElem?_eq_some_iff.1 hX
 have hlX := hl _ (List.getElem_mem hi)
 have hcut : Xs.flatten = (Xs.take i).flatten ++ (Xs[i] ++ (Xs.drop (i + 1)).flatten) := by
  have h := congrArg List.flatten (List.take_append_drop i Xs)
  rw [List.drop_eq_getElem_cons hi, List.flatten_append, List.flatten_cons] at h
  exact h.symm
 have ht : ((Xs.take i).flatten).length = i * sz := by
  rw [flat_len (fun X hX => hl X (List.mem_of_mem_take hX)), List.length_take, Nat.min_eq_left (by omega)]
 rw [PN.set_cut hi, List.flatten_append, List.flatten_cons, hcut]
 exact cut3 _ _ _ _ _ _ ht (by omega)
theorem exec_bslInt (k : Int) (w : World) : (Instr.buildSlice 64 1 #[(0, .int .i64 k)]).run Tryz.prog w = .ok (.slice (some ⟨w.heap.size, 0, none⟩) 1 1) (w.alloc (.cells #[.int .i64 k] 3)) := by kernel_rfl
def CRd (w : World) (B : Nat) (v : Value) (C : List PG) : Prop := CRow w v C ∧ ∀ g, v.ownBlock = some g → B ≤ g
def NetRd (w : World) (D : List PN.PL) (C : List PG) (rs : List Value) (e : Ending) (w' : World) : Prop :=
 ∃ sL sC : Sli, e = .returned (.tuple (.agg #[slv sL, slv sC] :: rs).toArray) ∧ RowO 122 5 (ElLO w.heap.size) w' w.heap.size (slv sL) D ∧ CRd w' w.heap.size (slv sC) C ∧ Fr [] w w'
theorem COwn.rd {w : World} {B : Nat} {v : Value} {C : List PG} (h : COwn w B v C) : CRd w B v C := by
 refine ⟨h.row, ?_⟩
 obtain ⟨Xs, _, h2⟩ := h
 exact fun g hg => (h2.lt g hg).1
theorem LOwn.ro {w : World} {B : Nat} {v : Value} {D : List PN.PL} (h : LOwn w B v D) : RowO 122 5 (ElLO B) w B v D := by
 obtain ⟨Xs, h1, h2, _⟩ := h
 exact ⟨Xs, h1, h2⟩
theorem NetOut.rd {w w' : World} {D : List PN.PL} {C : List PG} {rs : List Value} {e : Ending} (h : NetOut w D C rs e w') : NetRd w D C rs e w' := by
 obtain ⟨sL, sC, h1, h2, h3, h4⟩ := h
 exact ⟨sL, sC, h1, h2.ro, h3.rd, h4⟩
theorem RowO.row {w : World} {B : Nat} {v : Value} {D : List PN.PL} (h : RowO 122 5 (ElLO B) w B v D) : LRow w v D := by
 obtain ⟨Xs, h1, h2⟩ := h
 exact ⟨Xs, h1.mono (fun X y h => h.el), RowV.of_own h2⟩
theorem RowO.far {w w' : World} {B b : Nat} {v : Value} {D : List PN.PL} {t : TypeId} {ys : List Value} (h : RowO 122 5 (ElLO B) w B v D) (hb : Blk w b t ys) (f : Fr [b] w w') (h1 : t ≠ 122) (h2 : t ≠ 3) : RowO 122 5 (ElLO B) w' B v D := by
 obtain ⟨Xs, r1, r2⟩ := h
 exact ⟨Xs, r1.mono (fun X y ⟨q, e1, e2⟩ => ⟨q, e1, rowFr' e2 f (fun g hg hm => by rw [List.mem_singleton] at hm; subst hm; exact blkNe hb e2 h2 hg)⟩), rowFr' r2 f (fun g hg hm => by rw [List.mem_singleton] at hm; subst hm; exact blkNe hb r2 h1 hg)⟩
theorem place_some {α : Type} {p : α → Bool} {D : List α} {i : Nat} {y : α} (h : PN.pick p D 0 = some (i, y)) : D[i]? = some y := by
 obtain ⟨j, h1, h2, _⟩ := PN.pick_some h
 obtain rfl : i = j := by omega
 exact h2
theorem nConnect_ok (vL vC : Value) (D : List PN.PL) (C : List PG) (s : ByteArray) (p c : Int) (w : World) (hL : LRow w vL D) (hC : CRow w vC C) (hs : s.size ≤ 1000000) (hv : addrB s.data.toList p = true) (hc : 0 ≤ c ∧ c ≤ 4096) (hn : NetFit D C) (hm : C.length < 128) (hso : C.Pairwise (fun a b => a.ref < b.ref)) (i : Nat) (y : PN.PL) (hi : PN.pick (PN.atP s p) D 0 = some (i, y)) (hq : (y.l.length : Int) ≠ y.most) :
  Calls Tryz.prog 41 #[.agg #[vL, vC], .agg #[.string s, .int .i64 p], .int .i64 c] w (NetRd w (D.set i { y with l := y.l ++ [(frG C : Int)] }) (insG C c) [.int .i64 (frG C), .int .i64 0]) := by
 obtain ⟨n, hnl⟩ : ∃ n, D.length = n := ⟨_, rfl⟩
 obtain ⟨m, hml⟩ : ∃ m, C.length = m := ⟨_, rfl⟩
 obtain ⟨aL, cL, rfl⟩ := hL.val
 obtain ⟨aC, cC, rfl⟩ := hC.val
 rw [hnl] at hL ⊢
 rw [hml] at hC ⊢
 have HN := Lib.hid hnl
 have HM := Lib.hid hml
 obtain ⟨B, hB⟩ : ∃ B, w.heap.size = B := ⟨_, rfl⟩
 obtain ⟨u1, hu1⟩ : ∃ z, w.alloc (.cells #[.slice aL n cL, .slice aC m cC] 31) = z := ⟨_, rfl⟩
 obtain ⟨u2, hu2⟩ : ∃ z, u1.alloc (.cells #[.string s, .int .i64 p] 36) = z := ⟨_, rfl⟩
 obtain ⟨wA, hwA⟩ : ∃ z, u2.alloc (.cells #[.slice none 0 0, .slice none 0 0] 31) = z := ⟨_, rfl⟩
 have s1 : u1.heap.size = B + 1 := by rw [← hu1, ← hB]; simp
 have s2 : u2.heap.size = B + 2 := by rw [← hu2]; simp [s1]
 have f1 : Fr [] w u1 := by rw [← hu1]; exact (Fr.refl [] w).alloc _
 have f2 : Fr [] u1 u2 := by rw [← hu2]; exact (Fr.refl [] u1).alloc _
 have f3 : Fr [] u2 wA := by rw [← hwA]; exact (Fr.refl [] u2).alloc _
 have hb0 : Blk wA B 31 (two (.slice aL n cL) (.slice aC m cC)) := by
  have h := Blk.made w 31 (two (.slice aL n cL) (.slice aC m cC))
  rw [hB] at h
  exact ((show Blk u1 B 31 _ from by rw [← hu1]; exact h).keep f2 (by simp)).keep f3 (by simp)
 have hb1 : Blk wA (B + 1) 36 (two (.string s) (.int .i64 p)) := by
  have h := Blk.made u1 36 (two (.string s) (.int .i64 p))
  rw [s1] at h
  exact (show Blk u2 (B + 1) 36 _ from by rw [← hu2]; exact h).keep f3 (by simp)
 have hb2 : Blk wA (B + 2) 31 zNt := by
  have h := Blk.made u2 31 zNt
  rw [s2] at h
  rw [← hwA]
  exact h
 have hf : Fr [] w wA := (f1.step f2).step f3
 have HB0 := Lib.hid hb0
 have HB1 := Lib.hid hb1
 have HB2 := Lib.hid hb2
 have HF := Lib.hid hf
 have HBS := Lib.hid hB
 have HU1 := Lib.hid hu1
 have HU2 := Lib.hid hu2
 have HWA := Lib.hid hwA
 have HL := Lib.hid hL
 have HC := Lib.hid hC
 have HS1 := Lib.hid s1
 have HS2 := Lib.hid s2
 clear hb0 hb1 hb2 hf hB hu1 hu2 hwA f1 f2 f3 s1 s2 hL hC hnl hml
 
 have HFIT := Lib.hid hn
 have HSO := Lib.hid hso
 have HV := Lib.hid hv
 have hY := place_some hi
 have HI := Lib.hid hi
 have hin : i < n := by rw [← HN.out]; exact (List.getElem?_eq_some_iff.1 hY).1
 have HY := Lib.hid hY
 rw [HM.out] at hm
 have hm' : (m : Int) < 128 := by omega
 clear hn hso hv hY hi
 go_enter Tryz.func41, Tryz.ntmps41
 go_upto_region 1 with fail
 simp only [HU1.out, HU2.out, HWA.out, HBS.out, HS1.out, HS2.out]
 refine wp_region_lit ?_
 iterate 2 (refine wpList_plain rfl (fun K hK => ?_); go_simp; refine hK _ _ ?_; clear hK K)
 try simp only [Act.put, nrZ]
 refine wpList_plain rfl (fun K hK => ?_)
 go_simp
 refine (dnNew_ok c hc _).mono ?_
 rintro e w1 ⟨rfl, f1⟩
 refine hK _ _ ?_
 clear hK K
 try simp only [Act.put, nrZ]
 iterate 4 (refine wpList_plain rfl (fun K hK => ?_); go_simp; refine hK _ _ ?_; clear hK K)
 try simp only [Act.put, nrZ]
 obtain ⟨E1, hE_⟩ : ∃ E, w1.heap.size = E := ⟨_, rfl⟩
 obtain ⟨wx, hw_⟩ : ∃ z, w1.alloc (.cells #[.int .i64 0, .slice none 0 0, .bool false, .slice none 0 0, .int .i64 0, .int .i64 0, .int .i64 0, .int .i64 0, .slice none 0 0, .bool false, .slice none 0 0, .int .i64 0, .int .i64 0, .int .i64 0, .bool false, .bool false] 99) = z := ⟨_, rfl⟩
 have hbx : Blk wx E1 99 zCn := by rw [← hw_, ← hE_]; exact Blk.made w1 99 zCn
 have fx : Fr [] w1 wx := by rw [← hw_]; exact (Fr.refl [] w1).alloc _
 rw [hw_]
 simp only [hE_]
 have HE1 := Lib.hid (show w.heap.size ≤ E1 ∧ B < E1 ∧ B + 1 < E1 ∧ B + 2 < E1 from by rw [← hE_]; exact ⟨(HF.out.step f1).size, (HB0.out.keep f1 (by simp)).lt, (HB1.out.keep f1 (by simp)).lt, (HB2.out.keep f1 (by simp)).lt⟩)
 have HX := Lib.hid hbx
 have HF1 := Lib.hid ((HF.out.step f1).step fx)
 have HA0 := Lib.hid ((HB0.out.keep f1 (by simp)).keep fx (by simp))
 have HA1 := Lib.hid ((HB1.out.keep f1 (by simp)).keep fx (by simp))
 have HA2 := Lib.hid ((HB2.out.keep f1 (by simp)).keep fx (by simp))
 clear f1 fx hbx hw_ hE_ HB0 HB1 HB2 HF
 obtain ⟨w2, hst, hb_, hf_⟩ := store_all (t := 99) (cnL c 0 0 0 0 false false) size94 rfl (cnL_one _ _ _ _ _ _ _) HX.out rfl
 refine stZ hst ?_
 clear hst
 refine wpList_plain rfl (fun K hK => ?_); go_simp; refine hK _ _ ?_; clear hK K
 refine wpList_nil ?_
 try simp only [Act.put, nrZ]
 have HF2 := Lib.hid (HF1.out.own1 (S := []) (B := 0) hf_ HE1.out.1)
 have HB02 := Lib.hid (HA0.out.keep hf_ (fun hm => by rw [List.mem_singleton] at hm; have := HE1.out; omega))
 have HB12 := Lib.hid (HA1.out.keep hf_ (fun hm => by rw [List.mem_singleton] at hm; have := HE1.out; omega))
 have HB22 := Lib.hid (HA2.out.keep hf_ (fun hm => by rw [List.mem_singleton] at hm; have := HE1.out; omega))
 clear hb_ hf_ HX HF1 HA0 HA1 HA2
 have e0 : w2.cell? ⟨B + 1, 0, none⟩ = some (.string s) := HB12.out.at 0 _ rfl
 have e1 : w2.cell? ⟨B + 1, 1, none⟩ = some (.int .i64 p) := HB12.out.at 1 _ rfl
 have HAV := Lib.hid (fun W : World => by
  have h := refValid_any s p hs W
  rw [HV.out] at h
  exact h)
 go_wp2_with fail
 refine (HAV.out _).mono ?_
 rintro e w3 ⟨rfl, f3⟩
 have HF3 := Lib.hid (HF2.out.step f3)
 have HB03 := Lib.hid (HB02.out.keep f3 (by simp))
 have HB13 := Lib.hid (HB12.out.keep f3 (by simp))
 have HB23 := Lib.hid (HB22.out.keep f3 (by simp))
 clear f3 HF2 HB02 HB12 HB22 HAV e0 e1
 have e0 : w3.cell? ⟨B + 1, 0, none⟩ = some (.string s) := HB13.out.at 0 _ rfl
 have e1 : w3.cell? ⟨B + 1, 1, none⟩ = some (.int .i64 p) := HB13.out.at 1 _ rfl
 go_upto_region 4 with fail
 refine wp_region_lit ?_
 refine ldZ (load_all agg34 size34 (xs := two (.slice aL n cL) (.slice aC m cC)) rfl HB03.out.at) ?_
 refine wpList_plain rfl (fun K hK => ?_); go_simp; refine hK _ _ ?_; clear hK K
 try simp only [Act.put, nrZ]
 refine wpList_plain rfl (fun K hK => ?_)
 go_simp
 refine (atG (.slice aL n cL) (.slice aC m cC) D s p _ (LRow.next HL.out HF3.out) (by rw [HN.out]; have := HFIT.out.nl; rw [HN.out] at this; omega)).mono ?_
 rintro e w4 ⟨rfl, f4⟩
 refine hK _ _ ?_
 clear hK K
 rw [HI.out]
 simp only [place]
 try simp only [Act.put, nrZ]
 refine wpList_plain rfl (fun K hK => ?_); go_simp; refine hK _ _ ?_; clear hK K
 refine wpList_nil ?_
 try simp only [Act.put, nrZ]
 have HF4 := Lib.hid (HF3.out.step f4)
 have HB04 := Lib.hid (HB03.out.keep f4 (by simp))
 have HB24 := Lib.hid (HB23.out.keep f4 (by simp))
 clear f4 HF3 HB03 HB13 HB23 e0 e1
 have hi0 : (0 : Int) ≤ (i : Int) := by omega
 have hin' : (i : Int) < (n : Int) := by omega
 have dlt : decide ((i : Int) < 0) = false := decide_eq_false (by omega)
 go_upto_region 7 with fail
 obtain ⟨g, off, cap, X, hvv, hg, hX, hl, q0, rfl, hrow⟩ := HL.out.lies HY.out
 rw [HN.out] at hvv
 simp only [Value.slice.injEq] at hvv
 obtain ⟨rfl, _, rfl⟩ := hvv
 have HLY := Lib.hid hl
 have HROW := Lib.hid hrow
 have hql : q0.2.1 = y.l.length := by
  obtain ⟨a, c', he⟩ := hrow.val
  simp only [slv, Value.slice.injEq] at he
  exact he.2.1
 obtain ⟨Q1, Q2, Q3⟩ := q0
 simp only at hql
 subst hql
 clear hl hrow hg hX
 obtain ⟨w5, hw5⟩ : ∃ z, w4.drew = z := ⟨_, rfl⟩
 have f5 : Fr [] w4 w5 := by rw [← hw5]; exact (Fr.refl [] w4).drew
 have HF5 := Lib.hid (HF4.out.step f5)
 have HB05 := Lib.hid (HB04.out.keep f5 (by simp))
 have HB25 := Lib.hid (HB24.out.keep f5 (by simp))
 have HW5 := Lib.hid hw5
 clear f5 hw5 HF4 HB04 HB24
 refine wp_region_held_drew (S := fun w' => w'.cell? ⟨B, 0, none⟩ = some (.slice (some ⟨g, off, none⟩) n cL) ∧ w'.cell? ⟨g, off + i * 5 + 3, none⟩ = some (.int .i64 y.most) ∧ w'.cell? ⟨g, off + i * 5 + 4, none⟩ = some (.slice Q1 y.l.length Q3)) (by kernel_rfl) (by rw [HW5.out]; exact ⟨HB05.out.at 0 _ rfl, HF5.out.keep (HLY.out 3 _ rfl) (by simp), HF5.out.keep (HLY.out 4 _ rfl) (by simp)⟩) (fun hHeld => ?_)
 rw [HW5.out] at hHeld ⊢
 refine tkZ 0 ?_
 refine tkZ 1 ?_
 refine tkZ 2 ?_
 refine tkZ 3 ?_
 refine tkZ 4 ?_
 refine tkZ 5 ?_
 refine tkZ 6 ?_
 refine tkZ 7 ?_
 refine tkZ 8 ?_
 refine tkZ 9 ?_
 refine tkZ 10 ?_
 refine tkZ 11 ?_
 refine tkZ 12 ?_
 refine tkZ 13 ?_
 refine tkZ 14 ?_
 refine tkZ 15 ?_
 refine wpAnyH_done (by kernel_rfl) ?_ _
 clear hHeld
 have deq : ((y.l.length : Int) == y.most) = false := beq_eq_false_iff_ne.2 hq
 have deq2 : decide ((y.l.length : Int) = y.most) = false := decide_eq_false hq
 go_upto_region 9 with fail
 refine wp_region_lit ?_
 refine ldZ (load_all agg34 size34 (xs := two (.slice (some ⟨g, off, none⟩) n cL) (.slice aC m cC)) rfl HB05.out.at) ?_
 refine wpList_plain rfl (fun K hK => ?_); go_simp; refine hK _ _ ?_; clear hK K
 try simp only [Act.put, nrZ]
 refine wpList_plain rfl (fun K hK => ?_)
 go_simp
 refine (nPair_ok (.slice (some ⟨g, off, none⟩) n cL) (.slice aC m cC) D C c _ (LRow.next HL.out HF5.out) (CRow.next HC.out HF5.out) hc HFIT.out (by rw [HM.out]; exact hm) HSO.out).mono ?_
 rintro e w6 ⟨sL, sC, rfl, oL, oC, f6⟩
 refine hK _ _ ?_
 clear hK K
 try simp only [Act.put, nrZ]
 iterate 5 (refine wpList_plain rfl (fun K hK => ?_); go_simp; refine hK _ _ ?_; clear hK K)
 try simp only [Act.put, nrZ]
 have HF6 := Lib.hid (HF5.out.step f6)
 have HB26 := Lib.hid (HB25.out.keep f6 (by simp))
 have HOL6 := Lib.hid (oL.base (B' := B) (by rw [← HBS.out]; exact HF5.out.size))
 have HOC6 := Lib.hid (oC.base (B' := B) (by rw [← HBS.out]; exact HF5.out.size))
 clear oL oC f6 HF5 HB05 HB25 HLY HROW
 obtain ⟨E7, hE_⟩ : ∃ E, w6.heap.size = E := ⟨_, rfl⟩
 obtain ⟨wy, hw_⟩ : ∃ z, w6.alloc (.cells #[.slice none 0 0, .slice none 0 0] 31) = z := ⟨_, rfl⟩
 have hbx : Blk wy E7 31 zNt := by rw [← hw_, ← hE_]; exact Blk.made w6 31 zNt
 have fx : Fr [] w6 wy := by rw [← hw_]; exact (Fr.refl [] w6).alloc _
 rw [hw_]
 simp only [hE_]
 have HE7 := Lib.hid (show w.heap.size ≤ E7 ∧ B + 2 < E7 from by rw [← hE_]; exact ⟨HF6.out.size, HB26.out.lt⟩)
 have HY7 := Lib.hid hbx
 have HF7 := Lib.hid (HF6.out.step fx)
 have HB27 := Lib.hid (HB26.out.keep fx (by simp))
 have HOL7 := Lib.hid (HOL6.out.next fx)
 have HOC7 := Lib.hid (HOC6.out.next fx)
 clear fx hbx hw_ hE_ HF6 HB26 HOL6 HOC6
 obtain ⟨w8, hst, hb_, hf_⟩ := store_all (t := 31) (two (slv sL) (slv sC)) size34 rfl (two_one _ _) HY7.out rfl
 refine stZ hst ?_
 clear hst
 iterate 2 (refine wpList_plain rfl (fun K hK => ?_); go_simp; refine hK _ _ ?_; clear hK K)
 refine wpList_nil ?_
 try simp only [Act.put, nrZ]
 have HY8 := Lib.hid hb_
 have HB28 := Lib.hid (HB27.out.keep hf_ (fun hm => by rw [List.mem_singleton] at hm; have := HE7.out; omega))
 have HF8 := Lib.hid (HF7.out.own1 (S := []) (B := 0) hf_ HE7.out.1)
 have HOL8 := Lib.hid (HOL7.out.far HY7.out hf_ (by decide) (by decide))
 have HOC8 := Lib.hid (HOC7.out.far HY7.out hf_ (by decide) (by decide))
 clear hb_ hf_ HY7 HB27 HF7 HOL7 HOC7
 obtain ⟨w9, hw9⟩ : ∃ z, w8.drew = z := ⟨_, rfl⟩
 have f9 : Fr [] w8 w9 := by rw [← hw9]; exact (Fr.refl [] w8).drew
 have HY9 := Lib.hid (HY8.out.keep f9 (by simp))
 have HB29 := Lib.hid (HB28.out.keep f9 (by simp))
 have HF9 := Lib.hid (HF8.out.step f9)
 have HOC9 := Lib.hid (HOC8.out.next f9)
 obtain ⟨Xs, hrec, hown, hsep⟩ := HOL8.out.next f9
 rw [HN.out] at hown
 have HW9 := Lib.hid hw9
 clear f9 hw9 HY8 HB28 HF8 HOL8 HOC8
 have hXi := List.getElem?_eq_getElem (l := Xs) (i := i) (by rw [hrec.len, HN.out]; exact hin)
 obtain ⟨X, hXX⟩ : ∃ X, Xs[i]'(by rw [hrec.len, HN.out]; exact hin) = X := ⟨_, rfl⟩
 rw [hXX] at hXi
 obtain ⟨q, rfl, hqo⟩ := hrec.el i X y hXi HY.out
 have HXI := Lib.hid hXi
 have HREC9 := Lib.hid hrec
 have HSEP := Lib.hid hsep
 have HOWN9 := Lib.hid hown
 have HQO9 := Lib.hid hqo
 obtain ⟨sL1, sL2, sL3⟩ := sL
 obtain ⟨gL, hgL, hsn⟩ : ∃ gL, sL1 = some ⟨gL, 0, none⟩ ∧ sL2 = n := by
  rcases hown.2 with ⟨he, h0⟩ | ⟨gL, cap, cur, he, _⟩
  ·omega
  ·simp only [slv, Value.slice.injEq] at he
   exact ⟨gL, he.1, he.2.1⟩
 subst hgL
 subst hsn
 have HCQ := Lib.hid (show LiesAt w9 gL (i * 5) (lsC y q) from by
  obtain ⟨g', off', c', he, hg', hl'⟩ := (RowV.of_own hown).at hin
  simp only [slv, Value.slice.injEq, Option.some.injEq, Addr.mk.injEq, and_true] at he
  obtain ⟨⟨rfl, rfl⟩, _, rfl⟩ := he
  rw [flat_at hrec.sz hXi, Nat.zero_add] at hl'
  exact hl')
 clear hrec hown hqo hXi hXX hsep
 go_upto_region 12 with fail
 refine wp_region_held_drew (S := fun w' => w'.cell? ⟨E7, 0, none⟩ = some (.slice (some ⟨gL, 0, none⟩) sL2 sL3)) (by kernel_rfl) (by rw [HW9.out]; exact HY9.out.at 0 _ rfl) (fun hHeld => ?_)
 rw [HW9.out] at hHeld ⊢
 refine tkZ 0 ?_
 refine tkZ 1 ?_
 refine tkZ 2 ?_
 refine tkZ 3 ?_
 refine tkZ 4 ?_
 refine tkZ 5 ?_
 refine tkZ 6 ?_
 refine tkZ 7 ?_
 refine tkZ 8 ?_
 refine tkZ 10 ?_
 refine wpAnyH_ready (rs := [9, 11]) (by kernel_rfl) (by simp) ?_
 refine AllReadyH.cons (o := _) rfl (fun K hK => ?_) (AllReadyH.cons (o := _) rfl (fun K hK => ?_) AllReadyH.nil)
 ·skip
  have c4 : w9.cell? ⟨gL, i * 5 + 4, none⟩ = some (.slice q.1 q.2.1 q.2.2) := HCQ.out 4 _ rfl
  go_simp
  refine hK.out _ _ (hHeld) (fun hHeld => ?_)
  clear hK K
  try simp only [Act.put, nrZ]
  clear c4
  refine rdZ 11 (fun K hK => ?_)
  obtain ⟨w10, hw10⟩ : ∃ z, w9.alloc (.cells #[.int .i64 (frG C)] 3) = z := ⟨_, rfl⟩
  obtain ⟨E10, hE10⟩ : ∃ z, w9.heap.size = z := ⟨_, rfl⟩
  have f10 : Fr [] w9 w10 := by rw [← hw10]; exact (Fr.refl [] w9).alloc _
  have hb10 : Blk w10 E10 3 (intsV [(frG C : Int)]) := by rw [← hw10, ← hE10]; exact Blk.made w9 3 (intsV [(frG C : Int)])
  have HR10 := Lib.hid (show RowV w10 (.slice (some ⟨E10, 0, none⟩) 1 1) 1 1 (intsV [(frG C : Int)]) from ⟨rfl, .inr ⟨E10, 0, 1, rfl, hb10.lt, hb10.at⟩⟩)
  split
  rotate_left
  ·rename_i hno
   exact absurd rfl hno
  refine wp_vl (v := .slice (some ⟨E10, 0, none⟩) 1 1) (w' := w10) ?_ ?_
  ·refine exec_bsl (V := .int .i64 (frG C)) rfl rfl ?_
   rw [exec_bslInt, hw10, hE10]
  have HF10 := Lib.hid f10
  clear hw10 hE10 hb10 f10
  refine hK.out _ _ (HF10.out.keep hHeld (by simp)) (fun hHeld => ?_)
  clear hK K
  try simp only [Act.put, nrZ]
  refine rdZ 12 (fun K hK => ?_)
  split
  rotate_left
  ·rename_i hno
   exact absurd rfl hno
  refine wp_append_any elemInt _ _ rfl B (v := slv q) (n := y.l.length) (xs := intsV y.l) rfl (rowNew HQO9.out HF10.out) (X := .slice (some ⟨E10, 0, none⟩) 1 1) (m := 1) (news := intsV [(frG C : Int)]) rfl HR10.out (intsV_one _) (by have := HFIT.out.q y (List.mem_of_getElem? HY.out); omega) (by decide) (by have := HBS.out; have := (HF9.out.step HF10.out).size; omega) ?_
  intro q' w11 ho11 f11
  have hq10 := rowNew HQO9.out HF10.out
  have HY11 := Lib.hid ((HY9.out.keep HF10.out (by simp)).farRow hq10 f11 (by decide))
  have HB211 := Lib.hid ((HB29.out.keep HF10.out (by simp)).farRow hq10 f11 (by decide))
  have HF11 := Lib.hid ((HF9.out.step HF10.out).ownRow hq10 f11 (by rw [HBS.out]; exact Nat.le_refl _))
  have HOC11 := Lib.hid ((HOC9.out.next HF10.out).farRow hq10 f11 (by decide) (by decide))
  have HOWN11 := Lib.hid (rowFar (rowNew HOWN9.out HF10.out) hq10 f11 (by decide))
  have HQ11 := Lib.hid ho11
  have HFQ := Lib.hid f11
  clear ho11 f11 hq10
  refine hK.out _ _ (HY11.out.at 0 _ rfl) (fun hHeld => ?_)
  clear hK K
  try simp only [Act.put, nrZ]
  refine tkZ 13 ?_
  refine tkZ 14 ?_
  refine tkZ 15 ?_
  refine rdZ 16 (fun K hK => ?_)
  obtain ⟨w12, hst, hrow12, hf_⟩ := own_store (t := 64) (k := i * 5 + 4) [slv q'] (slv q') size75 rfl rfl (by intro u hu; rw [List.mem_singleton] at hu; rw [hu]; rfl) HOWN11.out (by show i * 5 + 4 + 1 ≤ sL2 * 5; omega)
  split
  rotate_left
  ·rename_i hno
   exact absurd rfl hno
  refine stY hst ?_
  clear hst
  have HY12 := Lib.hid (HY11.out.keep hf_ (fun hm => by rw [List.mem_singleton] at hm; exact blkNe HY11.out HOWN11.out (by decide) (by simp [slv, Value.ownBlock, hm])))
  have HB212 := Lib.hid (HB211.out.keep hf_ (fun hm => by rw [List.mem_singleton] at hm; exact blkNe HB211.out HOWN11.out (by decide) (by simp [slv, Value.ownBlock, hm])))
  have HF12 := Lib.hid (HF11.out.own1 (S := []) (B := 0) hf_ (by rw [HBS.out]; exact (HOWN11.out.lt gL rfl).1))
  have hfo : Fr (Value.ownBlock (slv (some ⟨gL, 0, none⟩, sL2, sL3))).toList w11 w12 := hf_
  have HOC12 := Lib.hid (HOC11.out.farRow HOWN11.out hfo (by decide) (by decide))
  have HROW12 := Lib.hid hrow12
  have HFO := Lib.hid hfo
  clear hrow12 hfo hf_
  refine hK.out _ _ (HY12.out.at 0 _ rfl) (fun hHeld => ?_)
  clear hK K
  try simp only [Act.put, nrZ]
  refine wpAnyH_done (by kernel_rfl) ?_ _
  clear hHeld
  have HLL := Lib.hid (show RowO 122 5 (ElLO B) w12 B (slv (some ⟨gL, 0, none⟩, sL2, sL3)) (D.set i { y with l := y.l ++ [(frG C : Int)] }) from by
   refine ⟨Xs.set i (lsC { y with l := y.l ++ [(frG C : Int)] } q'), ?_, ?_⟩
   ·have hq9 := rowNew HQO9.out HF10.out
    refine ⟨by rw [List.length_set, List.length_set, HREC9.out.len], fun X hX => ?_, fun X hX => ?_, fun j X z hXj hzj => ?_⟩
    ·rcases List.mem_or_eq_of_mem_set hX with hX | rfl
     ·exact HREC9.out.sz X hX
     ·rfl
    ·rcases List.mem_or_eq_of_mem_set hX with hX | rfl
     ·exact HREC9.out.one X hX
     ·exact lsC_one _ _
    ·by_cases hij : i = j
     ·subst hij
      rw [List.getElem?_set_self (List.getElem?_eq_some_iff.1 HXI.out).1] at hXj
      rw [List.getElem?_set_self (List.getElem?_eq_some_iff.1 HY.out).1] at hzj
      cases hXj
      cases hzj
      refine ⟨q', rfl, ?_⟩
      have h9 := rowFar HQ11.out HOWN11.out HFO.out (by decide)
      simpa [intsV] using h9
     ·rw [List.getElem?_set_ne hij] at hXj hzj
      obtain ⟨t, rfl, ht⟩ := HREC9.out.el j X z hXj hzj
      have hne := HSEP.out.ne hij HXI.out hXj
      have ht2 := rowFr' (rowNew ht HF10.out) HFQ.out (fun g hg hm => by
       have hm' : (slv q).ownBlock = some g := by simpa using hm
       exact hne g hm' hg)
      have h9 := rowFar ht2 HOWN11.out HFO.out (by decide)
      exact ⟨t, rfl, h9⟩
   ·have hfl := flat_set (vs := [slv q']) (a := 4) HREC9.out.sz HXI.out (by simp)
    have hX' : (lsC y q).take 4 ++ [slv q'] ++ (lsC y q).drop (4 + [slv q'].length) = lsC { y with l := y.l ++ [(frG C : Int)] } q' := rfl
    rw [hX'] at hfl
    rw [hfl, List.length_set, HN.out]
    exact HROW12.out)
  clear HREC9 HSEP HOWN9 HQO9 HCQ HXI HROW12 HFO HFQ HQ11 HOWN11 HR10 HF10 HY9 HB29 HF9 HOC9 HY11 HB211 HF11 HOC11
  go_upto_region 13 with fail
  refine wp_region_lit ?_
  refine ldZ (load_all agg34 size34 (xs := two (slv (some ⟨gL, 0, none⟩, sL2, sL3)) (slv sC)) rfl HY12.out.at) ?_
  refine wpList_plain rfl (fun K hK => ?_); go_simp; refine hK _ _ ?_; clear hK K
  try simp only [Act.put, nrZ]
  obtain ⟨w13, hst, hb_, hf_⟩ := store_all (t := 31) (two (slv (some ⟨gL, 0, none⟩, sL2, sL3)) (slv sC)) size34 rfl (two_one _ _) HB212.out rfl
  refine stZ hst ?_
  clear hst
  iterate 2 (refine wpList_plain rfl (fun K hK => ?_); go_simp; refine hK _ _ ?_; clear hK K)
  refine wpList_nil ?_
  try simp only [Act.put, nrZ]
  have HR13 := Lib.hid hb_
  have HF13 := Lib.hid (HF12.out.own1 (S := []) (B := 0) hf_ (by have := HBS.out; omega))
  have HLL13 := Lib.hid (RowO.far HLL.out HB212.out hf_ (by decide) (by decide))
  have HCC13 := Lib.hid (HOC12.out.far HB212.out hf_ (by decide) (by decide))
  clear hb_ hf_
  go_wp2
  have hl := load_var agg34 size34 (xs := two (slv (some ⟨gL, 0, none⟩, sL2, sL3)) (slv sC)) rfl HR13.out.at
  refine bodyPost_ret (v := .tuple #[.agg (two (slv (some ⟨gL, 0, none⟩, sL2, sL3)) (slv sC)).toArray, .int .i64 (frG C), .int .i64 0]) (by simp [results, Tryz.results41, as_addr, hl]) rfl ?_
  exact ⟨_, sC, rfl, by rw [HBS.out]; exact HLL13.out, by rw [HBS.out]; exact HCC13.out.rd, HF13.out⟩
 ·skip
  obtain ⟨w10, hw10⟩ : ∃ z, w9.alloc (.cells #[.int .i64 (frG C)] 3) = z := ⟨_, rfl⟩
  obtain ⟨E10, hE10⟩ : ∃ z, w9.heap.size = z := ⟨_, rfl⟩
  have f10 : Fr [] w9 w10 := by rw [← hw10]; exact (Fr.refl [] w9).alloc _
  have hb10 : Blk w10 E10 3 (intsV [(frG C : Int)]) := by rw [← hw10, ← hE10]; exact Blk.made w9 3 (intsV [(frG C : Int)])
  have HR10 := Lib.hid (show RowV w10 (.slice (some ⟨E10, 0, none⟩) 1 1) 1 1 (intsV [(frG C : Int)]) from ⟨rfl, .inr ⟨E10, 0, 1, rfl, hb10.lt, hb10.at⟩⟩)
  split
  rotate_left
  ·rename_i hno
   exact absurd rfl hno
  refine wp_vl (v := .slice (some ⟨E10, 0, none⟩) 1 1) (w' := w10) ?_ ?_
  ·refine exec_bsl (V := .int .i64 (frG C)) rfl rfl ?_
   rw [exec_bslInt, hw10, hE10]
  have HF10 := Lib.hid f10
  clear hw10 hE10 hb10 f10
  refine hK.out _ _ (HF10.out.keep hHeld (by simp)) (fun hHeld => ?_)
  clear hK K
  try simp only [Act.put, nrZ]
  refine rdZ 9 (fun K hK => ?_)
  have c4 : w10.cell? ⟨gL, i * 5 + 4, none⟩ = some (.slice q.1 q.2.1 q.2.2) := HF10.out.keep (HCQ.out 4 _ rfl) (by simp)
  go_simp
  refine hK.out _ _ (hHeld) (fun hHeld => ?_)
  clear hK K
  try simp only [Act.put, nrZ]
  clear c4
  refine rdZ 12 (fun K hK => ?_)
  split
  rotate_left
  ·rename_i hno
   exact absurd rfl hno
  refine wp_append_any elemInt _ _ rfl B (v := slv q) (n := y.l.length) (xs := intsV y.l) rfl (rowNew HQO9.out HF10.out) (X := .slice (some ⟨E10, 0, none⟩) 1 1) (m := 1) (news := intsV [(frG C : Int)]) rfl HR10.out (intsV_one _) (by have := HFIT.out.q y (List.mem_of_getElem? HY.out); omega) (by decide) (by have := HBS.out; have := (HF9.out.step HF10.out).size; omega) ?_
  intro q' w11 ho11 f11
  have hq10 := rowNew HQO9.out HF10.out
  have HY11 := Lib.hid ((HY9.out.keep HF10.out (by simp)).farRow hq10 f11 (by decide))
  have HB211 := Lib.hid ((HB29.out.keep HF10.out (by simp)).farRow hq10 f11 (by decide))
  have HF11 := Lib.hid ((HF9.out.step HF10.out).ownRow hq10 f11 (by rw [HBS.out]; exact Nat.le_refl _))
  have HOC11 := Lib.hid ((HOC9.out.next HF10.out).farRow hq10 f11 (by decide) (by decide))
  have HOWN11 := Lib.hid (rowFar (rowNew HOWN9.out HF10.out) hq10 f11 (by decide))
  have HQ11 := Lib.hid ho11
  have HFQ := Lib.hid f11
  clear ho11 f11 hq10
  refine hK.out _ _ (HY11.out.at 0 _ rfl) (fun hHeld => ?_)
  clear hK K
  try simp only [Act.put, nrZ]
  refine tkZ 13 ?_
  refine tkZ 14 ?_
  refine tkZ 15 ?_
  refine rdZ 16 (fun K hK => ?_)
  obtain ⟨w12, hst, hrow12, hf_⟩ := own_store (t := 64) (k := i * 5 + 4) [slv q'] (slv q') size75 rfl rfl (by intro u hu; rw [List.mem_singleton] at hu; rw [hu]; rfl) HOWN11.out (by show i * 5 + 4 + 1 ≤ sL2 * 5; omega)
  split
  rotate_left
  ·rename_i hno
   exact absurd rfl hno
  refine stY hst ?_
  clear hst
  have HY12 := Lib.hid (HY11.out.keep hf_ (fun hm => by rw [List.mem_singleton] at hm; exact blkNe HY11.out HOWN11.out (by decide) (by simp [slv, Value.ownBlock, hm])))
  have HB212 := Lib.hid (HB211.out.keep hf_ (fun hm => by rw [List.mem_singleton] at hm; exact blkNe HB211.out HOWN11.out (by decide) (by simp [slv, Value.ownBlock, hm])))
  have HF12 := Lib.hid (HF11.out.own1 (S := []) (B := 0) hf_ (by rw [HBS.out]; exact (HOWN11.out.lt gL rfl).1))
  have hfo : Fr (Value.ownBlock (slv (some ⟨gL, 0, none⟩, sL2, sL3))).toList w11 w12 := hf_
  have HOC12 := Lib.hid (HOC11.out.farRow HOWN11.out hfo (by decide) (by decide))
  have HROW12 := Lib.hid hrow12
  have HFO := Lib.hid hfo
  clear hrow12 hfo hf_
  refine hK.out _ _ (HY12.out.at 0 _ rfl) (fun hHeld => ?_)
  clear hK K
  try simp only [Act.put, nrZ]
  refine wpAnyH_done (by kernel_rfl) ?_ _
  clear hHeld
  have HLL := Lib.hid (show RowO 122 5 (ElLO B) w12 B (slv (some ⟨gL, 0, none⟩, sL2, sL3)) (D.set i { y with l := y.l ++ [(frG C : Int)] }) from by
   refine ⟨Xs.set i (lsC { y with l := y.l ++ [(frG C : Int)] } q'), ?_, ?_⟩
   ·have hq9 := rowNew HQO9.out HF10.out
    refine ⟨by rw [List.length_set, List.length_set, HREC9.out.len], fun X hX => ?_, fun X hX => ?_, fun j X z hXj hzj => ?_⟩
    ·rcases List.mem_or_eq_of_mem_set hX with hX | rfl
     ·exact HREC9.out.sz X hX
     ·rfl
    ·rcases List.mem_or_eq_of_mem_set hX with hX | rfl
     ·exact HREC9.out.one X hX
     ·exact lsC_one _ _
    ·by_cases hij : i = j
     ·subst hij
      rw [List.getElem?_set_self (List.getElem?_eq_some_iff.1 HXI.out).1] at hXj
      rw [List.getElem?_set_self (List.getElem?_eq_some_iff.1 HY.out).1] at hzj
      cases hXj
      cases hzj
      refine ⟨q', rfl, ?_⟩
      have h9 := rowFar HQ11.out HOWN11.out HFO.out (by decide)
      simpa [intsV] using h9
     ·rw [List.getElem?_set_ne hij] at hXj hzj
      obtain ⟨t, rfl, ht⟩ := HREC9.out.el j X z hXj hzj
      have hne := HSEP.out.ne hij HXI.out hXj
      have ht2 := rowFr' (rowNew ht HF10.out) HFQ.out (fun g hg hm => by
       have hm' : (slv q).ownBlock = some g := by simpa using hm
       exact hne g hm' hg)
      have h9 := rowFar ht2 HOWN11.out HFO.out (by decide)
      exact ⟨t, rfl, h9⟩
   ·have hfl := flat_set (vs := [slv q']) (a := 4) HREC9.out.sz HXI.out (by simp)
    have hX' : (lsC y q).take 4 ++ [slv q'] ++ (lsC y q).drop (4 + [slv q'].length) = lsC { y with l := y.l ++ [(frG C : Int)] } q' := rfl
    rw [hX'] at hfl
    rw [hfl, List.length_set, HN.out]
    exact HROW12.out)
  clear HREC9 HSEP HOWN9 HQO9 HCQ HXI HROW12 HFO HFQ HQ11 HOWN11 HR10 HF10 HY9 HB29 HF9 HOC9 HY11 HB211 HF11 HOC11
  go_upto_region 13 with fail
  refine wp_region_lit ?_
  refine ldZ (load_all agg34 size34 (xs := two (slv (some ⟨gL, 0, none⟩, sL2, sL3)) (slv sC)) rfl HY12.out.at) ?_
  refine wpList_plain rfl (fun K hK => ?_); go_simp; refine hK _ _ ?_; clear hK K
  try simp only [Act.put, nrZ]
  obtain ⟨w13, hst, hb_, hf_⟩ := store_all (t := 31) (two (slv (some ⟨gL, 0, none⟩, sL2, sL3)) (slv sC)) size34 rfl (two_one _ _) HB212.out rfl
  refine stZ hst ?_
  clear hst
  iterate 2 (refine wpList_plain rfl (fun K hK => ?_); go_simp; refine hK _ _ ?_; clear hK K)
  refine wpList_nil ?_
  try simp only [Act.put, nrZ]
  have HR13 := Lib.hid hb_
  have HF13 := Lib.hid (HF12.out.own1 (S := []) (B := 0) hf_ (by have := HBS.out; omega))
  have HLL13 := Lib.hid (RowO.far HLL.out HB212.out hf_ (by decide) (by decide))
  have HCC13 := Lib.hid (HOC12.out.far HB212.out hf_ (by decide) (by decide))
  clear hb_ hf_
  go_wp2
  have hl := load_var agg34 size34 (xs := two (slv (some ⟨gL, 0, none⟩, sL2, sL3)) (slv sC)) rfl HR13.out.at
  refine bodyPost_ret (v := .tuple #[.agg (two (slv (some ⟨gL, 0, none⟩, sL2, sL3)) (slv sC)).toArray, .int .i64 (frG C), .int .i64 0]) (by simp [results, Tryz.results41, as_addr, hl]) rfl ?_
  exact ⟨_, sC, rfl, by rw [HBS.out]; exact HLL13.out, by rw [HBS.out]; exact HCC13.out.rd, HF13.out⟩
theorem Bs.nil (w : World) : Bs w (none, 0, 0) [] := RowV.nil w 1 none 0
theorem CnB.closeW {w : World} {x : CC} {q : Q4} (h : CnB w x q) (e : Bool) : CnB w (x.closeW e).1 q := by
 obtain ⟨h0, h1, h2, h3⟩ := h
 unfold CC.closeW SS.closeW
 cases e
 ·split <;> (split <;> exact ⟨h0, h1, h2, h3⟩)
 ·split <;> (split <;> exact ⟨h0, h1, h2, h3⟩)
theorem CnB.closeR {w : World} {x : CC} {q : Q4} (h : CnB w x q) (e : Bool) : CnB w (x.closeR e).1 (x.closeRq q e) := by
 obtain ⟨h0, h1, h2, h3⟩ := h
 cases e
 ·by_cases hr : x.s1.rd = 0
  ·have e1 : (x.closeR false).1 = { x with s1 := { x.s1 with rd := 14, buf := [] } } := by simp [CC.closeR, SS.closeR, hr]
   have e2 : x.closeRq q false = { q with b1 := (none, 0, 0) } := by simp [CC.closeRq, SS.closeRb, hr]
   rw [e1, e2]
   exact ⟨h0, h1, Bs.nil w, h3⟩
  ·have e1 : (x.closeR false).1 = x := by simp [CC.closeR, SS.closeR, hr]
   have e2 : x.closeRq q false = q := by simp [CC.closeRq, SS.closeRb, hr]
   rw [e1, e2]
   exact ⟨h0, h1, h2, h3⟩
 ·by_cases hr : x.s0.rd = 0
  ·have e1 : (x.closeR true).1 = { x with s0 := { x.s0 with rd := 14, buf := [] } } := by simp [CC.closeR, SS.closeR, hr]
   have e2 : x.closeRq q true = { q with b0 := (none, 0, 0) } := by simp [CC.closeRq, SS.closeRb, hr]
   rw [e1, e2]
   exact ⟨Bs.nil w, h1, h2, h3⟩
  ·have e1 : (x.closeR true).1 = x := by simp [CC.closeR, SS.closeR, hr]
   have e2 : x.closeRq q true = q := by simp [CC.closeRq, SS.closeRb, hr]
   rw [e1, e2]
   exact ⟨h0, h1, h2, h3⟩
theorem CnB.shut {w : World} {x : CC} {q : Q4} (h : CnB w x q) (e : Bool) : CnB w (x.shut e) q := by
 obtain ⟨h0, h1, h2, h3⟩ := h
 cases e <;> exact ⟨h0, h1, h2, h3⟩
theorem CnB.close {w : World} {x : CC} {q : Q4} (h : CnB w x q) (e : Bool) : CnB w (x.close e).1 (x.closeq q e) := by
 unfold CC.close CC.closeq
 split
 ·exact h
 ·exact ((h.shut e).closeW e).closeR e
section
variable {P : Program}
theorem run_append_zero (w : World) (t ty e : TypeId) (i : TypeInfo) (ht : P.underlying t = some (.slice e)) (hi : P.info? e = some i) (a0 : Option Addr) (n : Nat) (a : Option Addr) (c : Nat) :
  (Builtin.append_ #[t, t] ty #[.slice a0 n n, .slice a 0 c]).run P w = .ok (.slice a0 n n) w := by
 cases a0 <;> cases a <;> simp [Builtin.append_, run_underlying ht, sizeOf, typeInfo, hi, Builtin.lenOf, Builtin.firstCells, storeCells, loadCells, loadCellsFrom]
def TyR (w : World) (B : Nat) (v : Value) (e : TypeId) : Prop := ∀ g, v.ownBlock = some g → B ≤ g ∧ ∃ cur, w.heap[g]? = some (.cells cur e)
theorem TyR.of_own {w : World} {B n sz : Nat} {e : TypeId} {v : Value} {xs : List Value} (h : w.ownsRow B e sz v n xs) : TyR w B v e := by
 intro g hg
 rcases h.2 with ⟨rfl, _⟩ | ⟨g', cap, cur, rfl, hb, h3, _⟩
 ·simp [Value.ownBlock] at hg
 ·simp [Value.ownBlock] at hg
  subst hg
  exact ⟨hb, cur, h3⟩
theorem TyR.ne {w : World} {B : Nat} {v : Value} {e t : TypeId} {b : Nat} {ys : List Value} (h : TyR w B v e) (hb : Blk w b t ys) (hne : t ≠ e) : v.ownBlock ≠ some b := by
 intro hg
 obtain ⟨_, cur, hc⟩ := h b hg
 unfold Blk at hb
 rw [hb] at hc
 simp only [Option.some.injEq, Obj.cells.injEq] at hc
 exact hne hc.2.1
theorem TyR.keep {w w' : World} {B : Nat} {v : Value} {e : TypeId} {S : List Nat} (h : TyR w B v e) (f : Fr S w w') (hS : ∀ g, v.ownBlock = some g → g ∉ S) : TyR w' B v e := by
 intro g hg
 obtain ⟨h1, cur, hc⟩ := h g hg
 exact ⟨h1, cur, (f.block g (Array.getElem?_eq_some_iff.1 hc).1 (hS g hg)).trans hc⟩
variable {o : Oper} {a : Act} {w : World} {Q : Exit → Act → World → Prop}
theorem wp_append_rd {K : Act → World → Prop} {t e : TypeId} {size bytes : Nat} (E : Elem P t e size bytes) (s x : Operand)
  (ho : o.op = .call { callee := .builtin .append, args := #[s, x], argTypes := #[t, t] })
  {a0 : Option Addr} {n : Nat} {xs : List Value} (hs : a.eval s = .slice a0 n n) (hrow : RowV w (.slice a0 n n) n size xs) {B : Nat} (hB : B ≤ w.heap.size) (hty : TyR w B (.slice a0 n n) e)
  {X : Value} {m : Nat} {news : List Value} (hX : a.eval x = X) (hx : RowV w X m size news)
  (h63 : n + m ≤ 1000000) (hb : bytes ≤ 1000)
  (h : ∀ s' w', RowV w' (slv s') (n + m) size (xs ++ news) → TyR w' B (slv s') e → Fr [] w w' → K (a.put o.dst (slv s')) w') : o.wp P a w K Q := by
 by_cases hm : 0 < m
 ·exact wp_append_cap E s x ho hs hrow hX hx hm h63 hb (fun s' w' h1 h2 => h s' w' (RowV.of_own h1) (TyR.of_own (rowBase h1 hB)) h2)
 ·obtain rfl : m = 0 := by omega
  obtain ⟨i, z, hi, _⟩ := E.hi
  obtain ⟨ax, cx, rfl⟩ := hx.val
  have hn : news = [] := List.eq_nil_of_length_eq_zero (by simpa using hx.1)
  subst hn
  have hrun := run_append_zero (P := P) w t o.type e i E.ht hi a0 n ax cx
  unfold Oper.wp
  simp [execOp, ho, resolve, invoke, builtin, hs, hX, hrun, Result.andThen]
  exact h (a0, n, n) w (by simpa [slv] using hrow) hty (Fr.refl _ _)
end
theorem nHang_none (vL vC : Value) (D : List PN.PL) (C : List PG) (k en : Int) (w : World) (hL : LRow w vL D) (hC : CRow w vC C) (hn : NetFit D C) (he : en = 0 ∨ en = 1) (hi : PN.pick (refG k) C 0 = none) :
  Calls Tryz.prog 21 #[.agg #[vL, vC], .int .i64 k, .int .i64 en] w fun e w' => e = .returned (.tuple #[.agg #[vL, vC], .int .i64 9]) ∧ Fr [] w w' := by
 obtain ⟨n, hnl⟩ : ∃ n, D.length = n := ⟨_, rfl⟩
 obtain ⟨m, hml⟩ : ∃ m, C.length = m := ⟨_, rfl⟩
 obtain ⟨aL, cL, rfl⟩ := hL.val
 obtain ⟨aC, cC, rfl⟩ := hC.val
 rw [hnl] at hL ⊢
 rw [hml] at hC ⊢
 have HN := Lib.hid hnl
 have HM := Lib.hid hml
 obtain ⟨B, hB⟩ : ∃ B, w.heap.size = B := ⟨_, rfl⟩
 obtain ⟨wA, hwA⟩ : ∃ z, (w.alloc (.cells #[.slice aL n cL, .slice aC m cC] 31)).alloc (.cells #[.slice none 0 0, .slice none 0 0] 31) = z := ⟨_, rfl⟩
 have f2 := (Fr.refl [] (w.alloc (.cells #[.slice aL n cL, .slice aC m cC] 31))).alloc (.cells #[.slice none 0 0, .slice none 0 0] 31)
 have hb0 : Blk wA B 31 (two (.slice aL n cL) (.slice aC m cC)) := by
  rw [← hwA, ← hB]
  exact (Blk.made w 31 (two (.slice aL n cL) (.slice aC m cC))).keep f2 (by simp)
 have hb1 : Blk wA (B + 1) 31 zNt := by
  have h := Blk.made (w.alloc (.cells #[.slice aL n cL, .slice aC m cC] 31)) 31 zNt
  rw [show (w.alloc (.cells #[.slice aL n cL, .slice aC m cC] 31)).heap.size = B + 1 from by rw [← hB]; simp] at h
  rw [← hwA]
  exact h
 have hf : Fr [] w wA := by rw [← hwA]; exact ((Fr.refl [] w).alloc _).step f2
 have HB0 := Lib.hid hb0
 have HB1 := Lib.hid hb1
 have HF := Lib.hid hf
 have HBS := Lib.hid hB
 have HWA := Lib.hid hwA
 have HL := Lib.hid hL
 have HC := Lib.hid hC
 clear hb0 hb1 hf hB hwA f2 hL hC hnl hml
 have HFIT := Lib.hid hn
 clear hn
 have HI := Lib.hid hi
 clear hi
 go_enter Tryz.func21, Tryz.ntmps21
 go_wp2_with fail
 rw [HWA.out]
 simp only [HBS.out]
 refine (refEndG en he _).mono ?_
 rintro e w' ⟨rfl, rfl⟩
 go_upto_region 3 with fail
 refine wp_region_lit ?_
 refine ldZ (load_all agg34 size34 (xs := two (.slice aL n cL) (.slice aC m cC)) rfl HB0.out.at) ?_
 refine wpList_plain rfl (fun K hK => ?_); go_simp; refine hK _ _ ?_; clear hK K
 try simp only [Act.put, nrZ]
 refine wpList_plain rfl (fun K hK => ?_)
 go_simp
 refine (connAtG (.slice aL n cL) (.slice aC m cC) C k _ (CRow.next HC.out HF.out) (by have := HFIT.out.nc; rw [HM.out] at this ⊢; omega)).mono ?_
 rintro e w1 ⟨rfl, f1⟩
 refine hK _ _ ?_
 clear hK K
 rw [HI.out]
 simp only [place]
 try simp only [Act.put, nrZ]
 refine wpList_plain rfl (fun K hK => ?_); go_simp; refine hK _ _ ?_; clear hK K
 refine wpList_nil ?_
 try simp only [Act.put, nrZ]
 have HB01 := Lib.hid (HB0.out.keep f1 (by simp))
 have HB11 := Lib.hid (HB1.out.keep f1 (by simp))
 have HF1 := Lib.hid (HF.out.step f1)
 clear f1 HB0 HB1 HF HWA
 go_upto_region 5 with fail
 refine wp_region_lit ?_
 refine ldZ (load_all agg34 size34 (xs := two (.slice aL n cL) (.slice aC m cC)) rfl HB01.out.at) ?_
 obtain ⟨w9, hst, hb_, hf_⟩ := store_all (t := 31) (two (.slice aL n cL) (.slice aC m cC)) size34 rfl (two_oneS _ _ _ _ _ _) HB11.out rfl
 refine stZ hst ?_
 clear hst
 refine wpList_plain rfl (fun K hK => ?_); go_simp; refine hK _ _ ?_; clear hK K
 refine wpList_nil ?_
 try simp only [Act.put, nrZ]
 have HR9 := Lib.hid hb_
 have HF9 := Lib.hid (HF1.out.own1 (S := []) (B := 0) hf_ (by have := HBS.out; omega))
 clear hb_ hf_
 go_wp2
 have hl := load_var agg34 size34 (xs := two (.slice aL n cL) (.slice aC m cC)) rfl HR9.out.at
 refine bodyPost_ret (v := .tuple #[.agg (two (.slice aL n cL) (.slice aC m cC)).toArray, .int .i64 9]) (by simp [results, Tryz.results21, as_addr, hl]) rfl ?_
 exact ⟨rfl, HF9.out⟩
theorem nHang_waits (vL vC : Value) (D : List PN.PL) (C : List PG) (k en : Int) (w : World) (hL : LRow w vL D) (hC : CRow w vC C) (hn : NetFit D C) (he : en = 1) (i : Nat) (y : PG) (hi : PN.pick (refG k) C 0 = some (i, y)) (hw : k ∈ PN.waitsOf D) :
  Calls Tryz.prog 21 #[.agg #[vL, vC], .int .i64 k, .int .i64 en] w fun e w' => e = .returned (.tuple #[.agg #[vL, vC], .int .i64 8]) ∧ Fr [] w w' := by
 subst he
 obtain ⟨n, hnl⟩ : ∃ n, D.length = n := ⟨_, rfl⟩
 obtain ⟨m, hml⟩ : ∃ m, C.length = m := ⟨_, rfl⟩
 obtain ⟨aL, cL, rfl⟩ := hL.val
 obtain ⟨aC, cC, rfl⟩ := hC.val
 rw [hnl] at hL ⊢
 rw [hml] at hC ⊢
 have HN := Lib.hid hnl
 have HM := Lib.hid hml
 obtain ⟨B, hB⟩ : ∃ B, w.heap.size = B := ⟨_, rfl⟩
 obtain ⟨wA, hwA⟩ : ∃ z, (w.alloc (.cells #[.slice aL n cL, .slice aC m cC] 31)).alloc (.cells #[.slice none 0 0, .slice none 0 0] 31) = z := ⟨_, rfl⟩
 have f2 := (Fr.refl [] (w.alloc (.cells #[.slice aL n cL, .slice aC m cC] 31))).alloc (.cells #[.slice none 0 0, .slice none 0 0] 31)
 have hb0 : Blk wA B 31 (two (.slice aL n cL) (.slice aC m cC)) := by
  rw [← hwA, ← hB]
  exact (Blk.made w 31 (two (.slice aL n cL) (.slice aC m cC))).keep f2 (by simp)
 have hb1 : Blk wA (B + 1) 31 zNt := by
  have h := Blk.made (w.alloc (.cells #[.slice aL n cL, .slice aC m cC] 31)) 31 zNt
  rw [show (w.alloc (.cells #[.slice aL n cL, .slice aC m cC] 31)).heap.size = B + 1 from by rw [← hB]; simp] at h
  rw [← hwA]
  exact h
 have hf : Fr [] w wA := by rw [← hwA]; exact ((Fr.refl [] w).alloc _).step f2
 have HB0 := Lib.hid hb0
 have HB1 := Lib.hid hb1
 have HF := Lib.hid hf
 have HBS := Lib.hid hB
 have HWA := Lib.hid hwA
 have HL := Lib.hid hL
 have HC := Lib.hid hC
 clear hb0 hb1 hf hB hwA f2 hL hC hnl hml
 have HFIT := Lib.hid hn
 clear hn
 have hY := place_some hi
 have hin : i < m := by rw [← HM.out]; exact (List.getElem?_eq_some_iff.1 hY).1
 have HI := Lib.hid hi
 have HY := Lib.hid hY
 have hi0 : (0 : Int) ≤ (i : Int) := by omega
 have hin' : (i : Int) < (m : Int) := by omega
 have dlt : decide ((i : Int) < 0) = false := decide_eq_false (by omega)
 clear hi hY
 have HWT := Lib.hid (decide_eq_true hw)
 clear hw
 go_enter Tryz.func21, Tryz.ntmps21
 go_wp2_with fail
 rw [HWA.out]
 simp only [HBS.out]
 refine (refEndG 1 (.inr rfl) _).mono ?_
 rintro e w' ⟨rfl, rfl⟩
 go_upto_region 3 with fail
 refine wp_region_lit ?_
 refine ldZ (load_all agg34 size34 (xs := two (.slice aL n cL) (.slice aC m cC)) rfl HB0.out.at) ?_
 refine wpList_plain rfl (fun K hK => ?_); go_simp; refine hK _ _ ?_; clear hK K
 try simp only [Act.put, nrZ]
 refine wpList_plain rfl (fun K hK => ?_)
 go_simp
 refine (connAtG (.slice aL n cL) (.slice aC m cC) C k _ (CRow.next HC.out HF.out) (by have := HFIT.out.nc; rw [HM.out] at this ⊢; omega)).mono ?_
 rintro e w1 ⟨rfl, f1⟩
 refine hK _ _ ?_
 clear hK K
 rw [HI.out]
 simp only [place]
 try simp only [Act.put, nrZ]
 refine wpList_plain rfl (fun K hK => ?_); go_simp; refine hK _ _ ?_; clear hK K
 refine wpList_nil ?_
 try simp only [Act.put, nrZ]
 have HB01 := Lib.hid (HB0.out.keep f1 (by simp))
 have HB11 := Lib.hid (HB1.out.keep f1 (by simp))
 have HF1 := Lib.hid (HF.out.step f1)
 clear f1 HB0 HB1 HF HWA
 have c0 : w1.cell? ⟨B, 0, none⟩ = some (.slice aL n cL) := HB01.out.at 0 _ rfl
 have c1 : w1.cell? ⟨B, 1, none⟩ = some (.slice aC m cC) := HB01.out.at 1 _ rfl
 go_wp2_with fail
 refine (waitsG (.slice aL n cL) (.slice aC m cC) D k _ (LRow.next HL.out HF1.out) (by have := HFIT.out.nl; rw [HN.out] at this ⊢; omega) HFIT.out.q).mono ?_
 rintro e w2 ⟨rfl, f2⟩
 rw [HWT.out]
 have HB02 := Lib.hid (HB01.out.keep f2 (by simp))
 have HB12 := Lib.hid (HB11.out.keep f2 (by simp))
 have HF2 := Lib.hid (HF1.out.step f2)
 clear f2 HB01 HB11 HF1 c0 c1
 go_upto_region 7 with fail
 refine wp_region_lit ?_
 refine ldZ (load_all agg34 size34 (xs := two (.slice aL n cL) (.slice aC m cC)) rfl HB02.out.at) ?_
 obtain ⟨w9, hst, hb_, hf_⟩ := store_all (t := 31) (two (.slice aL n cL) (.slice aC m cC)) size34 rfl (two_oneS _ _ _ _ _ _) HB12.out rfl
 refine stZ hst ?_
 clear hst
 refine wpList_plain rfl (fun K hK => ?_); go_simp; refine hK _ _ ?_; clear hK K
 refine wpList_nil ?_
 try simp only [Act.put, nrZ]
 have HR9 := Lib.hid hb_
 have HF9 := Lib.hid (HF2.out.own1 (S := []) (B := 0) hf_ (by have := HBS.out; omega))
 clear hb_ hf_
 go_wp2
 have hl := load_var agg34 size34 (xs := two (.slice aL n cL) (.slice aC m cC)) rfl HR9.out.at
 refine bodyPost_ret (v := .tuple #[.agg (two (.slice aL n cL) (.slice aC m cC)).toArray, .int .i64 8]) (by simp [results, Tryz.results21, as_addr, hl]) rfl ?_
 exact ⟨rfl, HF9.out⟩
theorem nHang_closed_0 (vL vC : Value) (D : List PN.PL) (C : List PG) (k : Int) (w : World) (hL : LRow w vL D) (hC : CRow w vC C) (hn : NetFit D C) (i : Nat) (y : PG) (hi : PN.pick (refG k) C 0 = some (i, y)) (ha : y.c.a0 = true) :
  Calls Tryz.prog 21 #[.agg #[vL, vC], .int .i64 k, .int .i64 0] w fun e w' => e = .returned (.tuple #[.agg #[vL, vC], .int .i64 14]) ∧ Fr [] w w' := by
 obtain ⟨n, hnl⟩ : ∃ n, D.length = n := ⟨_, rfl⟩
 obtain ⟨m, hml⟩ : ∃ m, C.length = m := ⟨_, rfl⟩
 obtain ⟨aL, cL, rfl⟩ := hL.val
 obtain ⟨aC, cC, rfl⟩ := hC.val
 rw [hnl] at hL ⊢
 rw [hml] at hC ⊢
 have HN := Lib.hid hnl
 have HM := Lib.hid hml
 obtain ⟨B, hB⟩ : ∃ B, w.heap.size = B := ⟨_, rfl⟩
 obtain ⟨wA, hwA⟩ : ∃ z, (w.alloc (.cells #[.slice aL n cL, .slice aC m cC] 31)).alloc (.cells #[.slice none 0 0, .slice none 0 0] 31) = z := ⟨_, rfl⟩
 have f2 := (Fr.refl [] (w.alloc (.cells #[.slice aL n cL, .slice aC m cC] 31))).alloc (.cells #[.slice none 0 0, .slice none 0 0] 31)
 have hb0 : Blk wA B 31 (two (.slice aL n cL) (.slice aC m cC)) := by
  rw [← hwA, ← hB]
  exact (Blk.made w 31 (two (.slice aL n cL) (.slice aC m cC))).keep f2 (by simp)
 have hb1 : Blk wA (B + 1) 31 zNt := by
  have h := Blk.made (w.alloc (.cells #[.slice aL n cL, .slice aC m cC] 31)) 31 zNt
  rw [show (w.alloc (.cells #[.slice aL n cL, .slice aC m cC] 31)).heap.size = B + 1 from by rw [← hB]; simp] at h
  rw [← hwA]
  exact h
 have hf : Fr [] w wA := by rw [← hwA]; exact ((Fr.refl [] w).alloc _).step f2
 have HB0 := Lib.hid hb0
 have HB1 := Lib.hid hb1
 have HF := Lib.hid hf
 have HBS := Lib.hid hB
 have HWA := Lib.hid hwA
 have HL := Lib.hid hL
 have HC := Lib.hid hC
 clear hb0 hb1 hf hB hwA f2 hL hC hnl hml
 have HFIT := Lib.hid hn
 clear hn
 have hY := place_some hi
 have hin : i < m := by rw [← HM.out]; exact (List.getElem?_eq_some_iff.1 hY).1
 have HI := Lib.hid hi
 have HY := Lib.hid hY
 have hi0 : (0 : Int) ≤ (i : Int) := by omega
 have hin' : (i : Int) < (m : Int) := by omega
 have dlt : decide ((i : Int) < 0) = false := decide_eq_false (by omega)
 clear hi hY
 have hcl : (y.c.close false).2 = 14 := by
  unfold CC.close CC.isShut
  simp [ha]
 have HCL := Lib.hid hcl
 clear hcl ha
 go_enter Tryz.func21, Tryz.ntmps21
 go_wp2_with fail
 rw [HWA.out]
 simp only [HBS.out]
 refine (refEndG 0 (by omega) _).mono ?_
 rintro e w' ⟨rfl, rfl⟩
 go_upto_region 3 with fail
 refine wp_region_lit ?_
 refine ldZ (load_all agg34 size34 (xs := two (.slice aL n cL) (.slice aC m cC)) rfl HB0.out.at) ?_
 refine wpList_plain rfl (fun K hK => ?_); go_simp; refine hK _ _ ?_; clear hK K
 try simp only [Act.put, nrZ]
 refine wpList_plain rfl (fun K hK => ?_)
 go_simp
 refine (connAtG (.slice aL n cL) (.slice aC m cC) C k _ (CRow.next HC.out HF.out) (by have := HFIT.out.nc; rw [HM.out] at this ⊢; omega)).mono ?_
 rintro e w1 ⟨rfl, f1⟩
 refine hK _ _ ?_
 clear hK K
 rw [HI.out]
 simp only [place]
 try simp only [Act.put, nrZ]
 refine wpList_plain rfl (fun K hK => ?_); go_simp; refine hK _ _ ?_; clear hK K
 refine wpList_nil ?_
 try simp only [Act.put, nrZ]
 have HB01 := Lib.hid (HB0.out.keep f1 (by simp))
 have HB11 := Lib.hid (HB1.out.keep f1 (by simp))
 have HF1 := Lib.hid (HF.out.step f1)
 clear f1 HB0 HB1 HF HWA
 obtain ⟨w2, hw2⟩ : ∃ z, z = w1 := ⟨_, rfl⟩
 subst hw2
 have HB02 := HB01
 have HB12 := HB11
 have HF2 := HF1
 clear HB01 HB11 HF1
 go_upto_region 8 with fail
 obtain ⟨g, off, cap, X, hvv, hg, hX, hl, q0, rfl, hrow⟩ := HC.out.lies HY.out
 rw [HM.out] at hvv
 simp only [Value.slice.injEq] at hvv
 obtain ⟨rfl, _, rfl⟩ := hvv
 have HLY := Lib.hid (show LiesAt w g (off + i * 17 + 1) (cnC y.c q0) from fun j u hj => by
  have := hl (j + 1) u (by simpa [pgC] using hj)
  rwa [show off + i * 17 + (j + 1) = off + i * 17 + 1 + j from by omega] at this)
 have HROW := Lib.hid hrow
 clear hl hrow hg hX
 have c1 : w2.cell? ⟨B, 1, none⟩ = some (.slice (some ⟨g, off, none⟩) m cC) := HB02.out.at 1 _ rfl
 refine wp_region_lit ?_
 iterate 5 (refine wpList_plain rfl (fun K hK => ?_); go_simp; refine hK _ _ ?_; clear hK K)
 try simp only [Act.put, nrZ]
 refine ldZ (load_all agg94 size94 (xs := cnC y.c q0) rfl (HLY.out.keep HF2.out (by simp))) ?_
 refine wpList_plain rfl (fun K hK => ?_); go_simp; refine hK _ _ ?_; clear hK K
 try simp only [Act.put, nrZ]
 refine wpList_plain rfl (fun K hK => ?_)
 go_simp
 refine (dClose_0 y.c q0 _).mono ?_
 rintro e w3 ⟨rfl, f3⟩
 refine hK _ _ ?_
 clear hK K
 try simp only [Act.put, nrZ]
 iterate 4 (refine wpList_plain rfl (fun K hK => ?_); go_simp; refine hK _ _ ?_; clear hK K)
 try simp only [Act.put, nrZ]
 obtain ⟨E4, hE_⟩ : ∃ E, w3.heap.size = E := ⟨_, rfl⟩
 obtain ⟨wx, hw_⟩ : ∃ z, w3.alloc (.cells #[.int .i64 0, .slice none 0 0, .bool false, .slice none 0 0, .int .i64 0, .int .i64 0, .int .i64 0, .int .i64 0, .slice none 0 0, .bool false, .slice none 0 0, .int .i64 0, .int .i64 0, .int .i64 0, .bool false, .bool false] 99) = z := ⟨_, rfl⟩
 have hbx : Blk wx E4 99 zCn := by rw [← hw_, ← hE_]; exact Blk.made w3 99 zCn
 have fx : Fr [] w3 wx := by rw [← hw_]; exact (Fr.refl [] w3).alloc _
 rw [hw_]
 simp only [hE_]
 have HE4 := Lib.hid (show w.heap.size ≤ E4 ∧ B < E4 ∧ B + 1 < E4 from by rw [← hE_]; exact ⟨(HF2.out.step f3).size, (HB02.out.keep f3 (by simp)).lt, (HB12.out.keep f3 (by simp)).lt⟩)
 have HX := Lib.hid hbx
 have HF3 := Lib.hid ((HF2.out.step f3).step fx)
 have HB03 := Lib.hid ((HB02.out.keep f3 (by simp)).keep fx (by simp))
 have HB13 := Lib.hid ((HB12.out.keep f3 (by simp)).keep fx (by simp))
 clear f3 fx hbx hw_ hE_ HB02 HB12 HF2 c1
 obtain ⟨w4, hst, hb_, hf_⟩ := store_all (t := 99) (cnC (y.c.close false).1 (y.c.closeq q0 false)) size94 rfl (cnC_one _ _) HX.out rfl
 refine stZ hst ?_
 clear hst
 refine wpList_plain rfl (fun K hK => ?_); go_simp; refine hK _ _ ?_; clear hK K
 refine wpList_nil ?_
 try simp only [Act.put, nrZ]
 have HX4 := Lib.hid hb_
 have HB04 := Lib.hid (HB03.out.keep hf_ (fun hm => by rw [List.mem_singleton] at hm; have := HE4.out; omega))
 have HB14 := Lib.hid (HB13.out.keep hf_ (fun hm => by rw [List.mem_singleton] at hm; have := HE4.out; omega))
 have HF4 := Lib.hid (HF3.out.own1 (S := []) (B := 0) hf_ HE4.out.1)
 clear hb_ hf_ HX HB03 HB13 HF3
 rw [HCL.out]
 go_upto_region 10 with fail
 refine wp_region_lit ?_
 refine ldZ (load_all agg34 size34 (xs := two (.slice aL n cL) (.slice (some ⟨g, off, none⟩) m cC)) rfl HB04.out.at) ?_
 refine wpList_plain rfl (fun K hK => ?_); go_simp; refine hK _ _ ?_; clear hK K
 try simp only [Act.put, nrZ]
 obtain ⟨w9, hst, hb_, hf_⟩ := store_all (t := 31) (two (.slice aL n cL) (.slice (some ⟨g, off, none⟩) m cC)) size34 rfl (two_oneS _ _ _ _ _ _) HB14.out rfl
 refine stZ hst ?_
 clear hst
 refine wpList_plain rfl (fun K hK => ?_); go_simp; refine hK _ _ ?_; clear hK K
 refine wpList_nil ?_
 try simp only [Act.put, nrZ]
 have HR9 := Lib.hid hb_
 have HF9 := Lib.hid (HF4.out.own1 (S := []) (B := 0) hf_ (by have := HBS.out; omega))
 clear hb_ hf_
 go_wp2
 have hl := load_var agg34 size34 (xs := two (.slice aL n cL) (.slice (some ⟨g, off, none⟩) m cC)) rfl HR9.out.at
 refine bodyPost_ret (v := .tuple #[.agg (two (.slice aL n cL) (.slice (some ⟨g, off, none⟩) m cC)).toArray, .int .i64 14]) (by simp [results, Tryz.results21, as_addr, hl]) rfl ?_
 exact ⟨rfl, HF9.out⟩
theorem nHang_ok_0_0 (vL vC : Value) (D : List PN.PL) (C : List PG) (k : Int) (w : World) (hL : LRow w vL D) (hC : CRow w vC C) (hn : NetFit D C) (i : Nat) (y : PG) (hi : PN.pick (refG k) C 0 = some (i, y)) (ha : y.c.a0 = false) (hbo : ((y.c.close false).1.a0 && (y.c.close false).1.a1) = false) :
  Calls Tryz.prog 21 #[.agg #[vL, vC], .int .i64 k, .int .i64 0] w (NetRd w D (C.set i ⟨y.ref, (y.c.close false).1⟩) [.int .i64 0]) := by
 obtain ⟨n, hnl⟩ : ∃ n, D.length = n := ⟨_, rfl⟩
 obtain ⟨m, hml⟩ : ∃ m, C.length = m := ⟨_, rfl⟩
 obtain ⟨aL, cL, rfl⟩ := hL.val
 obtain ⟨aC, cC, rfl⟩ := hC.val
 rw [hnl] at hL ⊢
 rw [hml] at hC ⊢
 have HN := Lib.hid hnl
 have HM := Lib.hid hml
 obtain ⟨B, hB⟩ : ∃ B, w.heap.size = B := ⟨_, rfl⟩
 obtain ⟨wA, hwA⟩ : ∃ z, (w.alloc (.cells #[.slice aL n cL, .slice aC m cC] 31)).alloc (.cells #[.slice none 0 0, .slice none 0 0] 31) = z := ⟨_, rfl⟩
 have f2 := (Fr.refl [] (w.alloc (.cells #[.slice aL n cL, .slice aC m cC] 31))).alloc (.cells #[.slice none 0 0, .slice none 0 0] 31)
 have hb0 : Blk wA B 31 (two (.slice aL n cL) (.slice aC m cC)) := by
  rw [← hwA, ← hB]
  exact (Blk.made w 31 (two (.slice aL n cL) (.slice aC m cC))).keep f2 (by simp)
 have hb1 : Blk wA (B + 1) 31 zNt := by
  have h := Blk.made (w.alloc (.cells #[.slice aL n cL, .slice aC m cC] 31)) 31 zNt
  rw [show (w.alloc (.cells #[.slice aL n cL, .slice aC m cC] 31)).heap.size = B + 1 from by rw [← hB]; simp] at h
  rw [← hwA]
  exact h
 have hf : Fr [] w wA := by rw [← hwA]; exact ((Fr.refl [] w).alloc _).step f2
 have HB0 := Lib.hid hb0
 have HB1 := Lib.hid hb1
 have HF := Lib.hid hf
 have HBS := Lib.hid hB
 have HWA := Lib.hid hwA
 have HL := Lib.hid hL
 have HC := Lib.hid hC
 clear hb0 hb1 hf hB hwA f2 hL hC hnl hml
 have HFIT := Lib.hid hn
 clear hn
 have hY := place_some hi
 have hin : i < m := by rw [← HM.out]; exact (List.getElem?_eq_some_iff.1 hY).1
 have HI := Lib.hid hi
 have HY := Lib.hid hY
 have hi0 : (0 : Int) ≤ (i : Int) := by omega
 have hin' : (i : Int) < (m : Int) := by omega
 have dlt : decide ((i : Int) < 0) = false := decide_eq_false (by omega)
 clear hi hY
 have hcl : (y.c.close false).2 = 0 := by
  unfold CC.close CC.isShut
  simp [ha]
 have HCL := Lib.hid hcl
 have HBO := Lib.hid hbo
 clear hcl ha hbo
 go_enter Tryz.func21, Tryz.ntmps21
 go_wp2_with fail
 rw [HWA.out]
 simp only [HBS.out]
 refine (refEndG 0 (by omega) _).mono ?_
 rintro e w' ⟨rfl, rfl⟩
 go_upto_region 3 with fail
 refine wp_region_lit ?_
 refine ldZ (load_all agg34 size34 (xs := two (.slice aL n cL) (.slice aC m cC)) rfl HB0.out.at) ?_
 refine wpList_plain rfl (fun K hK => ?_); go_simp; refine hK _ _ ?_; clear hK K
 try simp only [Act.put, nrZ]
 refine wpList_plain rfl (fun K hK => ?_)
 go_simp
 refine (connAtG (.slice aL n cL) (.slice aC m cC) C k _ (CRow.next HC.out HF.out) (by have := HFIT.out.nc; rw [HM.out] at this ⊢; omega)).mono ?_
 rintro e w1 ⟨rfl, f1⟩
 refine hK _ _ ?_
 clear hK K
 rw [HI.out]
 simp only [place]
 try simp only [Act.put, nrZ]
 refine wpList_plain rfl (fun K hK => ?_); go_simp; refine hK _ _ ?_; clear hK K
 refine wpList_nil ?_
 try simp only [Act.put, nrZ]
 have HB01 := Lib.hid (HB0.out.keep f1 (by simp))
 have HB11 := Lib.hid (HB1.out.keep f1 (by simp))
 have HF1 := Lib.hid (HF.out.step f1)
 clear f1 HB0 HB1 HF HWA
 obtain ⟨w2, hw2⟩ : ∃ z, z = w1 := ⟨_, rfl⟩
 subst hw2
 have HB02 := HB01
 have HB12 := HB11
 have HF2 := HF1
 clear HB01 HB11 HF1
 go_upto_region 8 with fail
 obtain ⟨g, off, cap, X, hvv, hg, hX, hl, q0, rfl, hrow⟩ := HC.out.lies HY.out
 rw [HM.out] at hvv
 simp only [Value.slice.injEq] at hvv
 obtain ⟨rfl, _, rfl⟩ := hvv
 have HLY := Lib.hid (show LiesAt w g (off + i * 17 + 1) (cnC y.c q0) from fun j u hj => by
  have := hl (j + 1) u (by simpa [pgC] using hj)
  rwa [show off + i * 17 + (j + 1) = off + i * 17 + 1 + j from by omega] at this)
 have HROW := Lib.hid hrow
 clear hl hrow hg hX
 have c1 : w2.cell? ⟨B, 1, none⟩ = some (.slice (some ⟨g, off, none⟩) m cC) := HB02.out.at 1 _ rfl
 refine wp_region_lit ?_
 iterate 5 (refine wpList_plain rfl (fun K hK => ?_); go_simp; refine hK _ _ ?_; clear hK K)
 try simp only [Act.put, nrZ]
 refine ldZ (load_all agg94 size94 (xs := cnC y.c q0) rfl (HLY.out.keep HF2.out (by simp))) ?_
 refine wpList_plain rfl (fun K hK => ?_); go_simp; refine hK _ _ ?_; clear hK K
 try simp only [Act.put, nrZ]
 refine wpList_plain rfl (fun K hK => ?_)
 go_simp
 refine (dClose_0 y.c q0 _).mono ?_
 rintro e w3 ⟨rfl, f3⟩
 refine hK _ _ ?_
 clear hK K
 try simp only [Act.put, nrZ]
 iterate 4 (refine wpList_plain rfl (fun K hK => ?_); go_simp; refine hK _ _ ?_; clear hK K)
 try simp only [Act.put, nrZ]
 obtain ⟨E4, hE_⟩ : ∃ E, w3.heap.size = E := ⟨_, rfl⟩
 obtain ⟨wx, hw_⟩ : ∃ z, w3.alloc (.cells #[.int .i64 0, .slice none 0 0, .bool false, .slice none 0 0, .int .i64 0, .int .i64 0, .int .i64 0, .int .i64 0, .slice none 0 0, .bool false, .slice none 0 0, .int .i64 0, .int .i64 0, .int .i64 0, .bool false, .bool false] 99) = z := ⟨_, rfl⟩
 have hbx : Blk wx E4 99 zCn := by rw [← hw_, ← hE_]; exact Blk.made w3 99 zCn
 have fx : Fr [] w3 wx := by rw [← hw_]; exact (Fr.refl [] w3).alloc _
 rw [hw_]
 simp only [hE_]
 have HE4 := Lib.hid (show w.heap.size ≤ E4 ∧ B < E4 ∧ B + 1 < E4 from by rw [← hE_]; exact ⟨(HF2.out.step f3).size, (HB02.out.keep f3 (by simp)).lt, (HB12.out.keep f3 (by simp)).lt⟩)
 have HX := Lib.hid hbx
 have HF3 := Lib.hid ((HF2.out.step f3).step fx)
 have HB03 := Lib.hid ((HB02.out.keep f3 (by simp)).keep fx (by simp))
 have HB13 := Lib.hid ((HB12.out.keep f3 (by simp)).keep fx (by simp))
 clear f3 fx hbx hw_ hE_ HB02 HB12 HF2 c1
 obtain ⟨w4, hst, hb_, hf_⟩ := store_all (t := 99) (cnC (y.c.close false).1 (y.c.closeq q0 false)) size94 rfl (cnC_one _ _) HX.out rfl
 refine stZ hst ?_
 clear hst
 refine wpList_plain rfl (fun K hK => ?_); go_simp; refine hK _ _ ?_; clear hK K
 refine wpList_nil ?_
 try simp only [Act.put, nrZ]
 have HX4 := Lib.hid hb_
 have HB04 := Lib.hid (HB03.out.keep hf_ (fun hm => by rw [List.mem_singleton] at hm; have := HE4.out; omega))
 have HB14 := Lib.hid (HB13.out.keep hf_ (fun hm => by rw [List.mem_singleton] at hm; have := HE4.out; omega))
 have HF4 := Lib.hid (HF3.out.own1 (S := []) (B := 0) hf_ HE4.out.1)
 clear hb_ hf_ HX HB03 HB13 HF3
 rw [HCL.out]
 go_upto_region 11 with fail
 refine wp_region_lit ?_
 refine ldZ (load_all agg34 size34 (xs := two (.slice aL n cL) (.slice (some ⟨g, off, none⟩) m cC)) rfl HB04.out.at) ?_
 refine wpList_plain rfl (fun K hK => ?_)
 go_simp
 refine (nCopy_any (.slice aL n cL) (.slice (some ⟨g, off, none⟩) m cC) D C _ (LRow.next HL.out HF4.out) (CRow.next HC.out HF4.out) HFIT.out).mono ?_
 rintro e w5 ⟨sL, sC, rfl, oL, oC, f5⟩
 refine hK _ _ ?_
 clear hK K
 try simp only [Act.put, nrZ]
 refine wpList_plain rfl (fun K hK => ?_); go_simp; refine hK _ _ ?_; clear hK K
 try simp only [Act.put, nrZ]
 have HOL5 := Lib.hid (oL.base (B' := B) (by rw [← HBS.out]; exact HF4.out.size))
 have HOC5 := Lib.hid (oC.base (B' := B) (by rw [← HBS.out]; exact HF4.out.size))
 have HX5 := Lib.hid (HX4.out.keep f5 (by simp))
 have HB15 := Lib.hid (HB14.out.keep f5 (by simp))
 have HF5 := Lib.hid (HF4.out.step f5)
 clear oL oC f5 HX4 HB04 HB14 HF4
 obtain ⟨E6, hE_⟩ : ∃ E, w5.heap.size = E := ⟨_, rfl⟩
 obtain ⟨wy, hw_⟩ : ∃ z, w5.alloc (.cells #[.slice none 0 0, .slice none 0 0] 31) = z := ⟨_, rfl⟩
 have hbx : Blk wy E6 31 zNt := by rw [← hw_, ← hE_]; exact Blk.made w5 31 zNt
 have fx : Fr [] w5 wy := by rw [← hw_]; exact (Fr.refl [] w5).alloc _
 rw [hw_]
 simp only [hE_]
 have HE6 := Lib.hid (show w.heap.size ≤ E6 ∧ B + 1 < E6 ∧ E4 < E6 from by rw [← hE_]; exact ⟨HF5.out.size, HB15.out.lt, HX5.out.lt⟩)
 have HY6 := Lib.hid hbx
 have HX6 := Lib.hid (HX5.out.keep fx (by simp))
 have HB16 := Lib.hid (HB15.out.keep fx (by simp))
 have HF6 := Lib.hid (HF5.out.step fx)
 have HOL6 := Lib.hid (HOL5.out.next fx)
 have HOC6 := Lib.hid (HOC5.out.next fx)
 clear fx hbx hw_ hE_ HX5 HB15 HF5 HOL5 HOC5
 obtain ⟨w7, hst, hb_, hf_⟩ := store_all (t := 31) (two (slv sL) (slv sC)) size34 rfl (two_one _ _) HY6.out rfl
 refine stZ hst ?_
 clear hst
 refine wpList_nil ?_
 try simp only [Act.put, nrZ]
 have HY7 := Lib.hid hb_
 have HX7 := Lib.hid (HX6.out.keep hf_ (fun hm => by rw [List.mem_singleton] at hm; have := HE6.out; omega))
 have HB17 := Lib.hid (HB16.out.keep hf_ (fun hm => by rw [List.mem_singleton] at hm; have := HE6.out; omega))
 have HF7 := Lib.hid (HF6.out.own1 (S := []) (B := 0) hf_ HE6.out.1)
 have HOL7 := Lib.hid (HOL6.out.far HY6.out hf_ (by decide) (by decide))
 obtain ⟨Xs, hrec, hown⟩ := HOC6.out.far HY6.out hf_ (by decide) (by decide)
 rw [HM.out] at hown
 have HREC7 := Lib.hid hrec
 have HOWN7 := Lib.hid hown
 clear hb_ hf_ HY6 HX6 HB16 HF6 HOL6 HOC6
 have hXi := List.getElem?_eq_getElem (l := Xs) (i := i) (by rw [hrec.len, HM.out]; exact hin)
 obtain ⟨X, hXX⟩ : ∃ X, Xs[i]'(by rw [hrec.len, HM.out]; exact hin) = X := ⟨_, rfl⟩
 rw [hXX] at hXi
 obtain ⟨q, rfl, hqo⟩ := hrec.el i X y hXi HY.out
 have HXI := Lib.hid hXi
 obtain ⟨sC1, sC2, sC3⟩ := sC
 obtain ⟨gC, hgC, hsn⟩ : ∃ gC, sC1 = some ⟨gC, 0, none⟩ ∧ sC2 = m := by
  rcases hown.2 with ⟨he, h0⟩ | ⟨gC, cap, cur, he, _⟩
  ·omega
  ·simp only [slv, Value.slice.injEq] at he
   exact ⟨gC, he.1, he.2.1⟩
 subst hgC
 subst hsn
 have c7 : w7.cell? ⟨E6, 1, none⟩ = some (.slice (some ⟨gC, 0, none⟩) sC2 sC3) := HY7.out.at 1 _ rfl
 clear hrec hown hqo hXi hXX
 go_upto_region 12 with fail
 refine wp_region_lit ?_
 iterate 3 (refine wpList_plain rfl (fun K hK => ?_); go_simp; refine hK _ _ ?_; clear hK K)
 try simp only [Act.put, nrZ]
 refine ldZ (load_all agg94 size94 (xs := cnC (y.c.close false).1 (y.c.closeq q0 false)) rfl HX7.out.at) ?_
 iterate 2 (refine wpList_plain rfl (fun K hK => ?_); go_simp; refine hK _ _ ?_; clear hK K)
 try simp only [Act.put, nrZ]
 obtain ⟨w8, hst, hrow8, hf_⟩ := own_store (t := 99) (k := i * 17 + 1) (cnC (y.c.close false).1 (y.c.closeq q0 false)) (.agg (cnC (y.c.close false).1 (y.c.closeq q0 false)).toArray) size94 rfl rfl (cnC_one _ _) HOWN7.out (by show i * 17 + 1 + 16 ≤ sC2 * 17; omega)
 refine stZ hst ?_
 clear hst c7
 try simp only [Act.put, nrZ]
 refine wpList_nil ?_
 try simp only [Act.put, nrZ]
 have hfo : Fr (Value.ownBlock (slv (some ⟨gC, 0, none⟩, sC2, sC3))).toList w7 w8 := hf_
 have HY8 := Lib.hid (HY7.out.farRow HOWN7.out hfo (by decide))
 have HX8 := Lib.hid (HX7.out.farRow HOWN7.out hfo (by decide))
 have HB18 := Lib.hid (HB17.out.farRow HOWN7.out hfo (by decide))
 have HF8 := Lib.hid (HF7.out.ownRow HOWN7.out hfo (by rw [HBS.out]; exact Nat.le_refl _))
 have HOL8 := Lib.hid (HOL7.out.farRow HOWN7.out hfo (by decide) (by decide))
 have HREC8 := Lib.hid (HREC7.out.mono (fun X z ⟨s, e1, e2⟩ => (⟨s, e1, ⟨rowFar e2.b0 HOWN7.out hfo (by decide), rowFar e2.r0 HOWN7.out hfo (by decide), rowFar e2.b1 HOWN7.out hfo (by decide), rowFar e2.r1 HOWN7.out hfo (by decide)⟩⟩ : ElCO B w8 X z)))
 have HOWN8 := Lib.hid (show w8.ownsRow B 138 17 (slv (some ⟨gC, 0, none⟩, sC2, sC3)) sC2 (Xs.set i (pgC ⟨y.ref, (y.c.close false).1⟩ (y.c.closeq q0 false))).flatten from by
  have hfl := flat_set (vs := cnC (y.c.close false).1 (y.c.closeq q0 false)) (a := 1) HREC7.out.sz HXI.out (by show 1 + 16 ≤ 17; omega)
  have hX' : (pgC y q).take 1 ++ cnC (y.c.close false).1 (y.c.closeq q0 false) ++ (pgC y q).drop (1 + (cnC (y.c.close false).1 (y.c.closeq q0 false)).length) = pgC ⟨y.ref, (y.c.close false).1⟩ (y.c.closeq q0 false) := rfl
  rw [hX'] at hfl
  rw [hfl]
  exact hrow8)
 clear hfo hf_ hrow8 HY7 HX7 HB17 HF7 HOL7 HREC7 HOWN7
 have k0 : w8.cell? ⟨E4, 14, none⟩ = some (.bool (y.c.close false).1.a0) := HX8.out.at 14 _ rfl
 have k1 : w8.cell? ⟨E4, 15, none⟩ = some (.bool (y.c.close false).1.a1) := HX8.out.at 15 _ rfl
 obtain ⟨b0, hb0⟩ : ∃ z, (y.c.close false).1.a0 = z := ⟨_, rfl⟩
 obtain ⟨b1, hb1⟩ : ∃ z, (y.c.close false).1.a1 = z := ⟨_, rfl⟩
 have HB01 := Lib.hid HBO.out
 rw [hb0, hb1] at HB01
 rw [hb0] at k0
 rw [hb1] at k1
 clear hb0 hb1
 cases b0 with
 | true =>
  cases b1 with
  | true => exact absurd HB01.out (by decide)
  | false =>
   go_upto_region 15 with fail
   refine wp_region_lit ?_
   refine ldZ (load_all agg34 size34 (xs := two (slv sL) (slv (some ⟨gC, 0, none⟩, sC2, sC3))) rfl HY8.out.at) ?_
   obtain ⟨w15, hst, hb_, hf_⟩ := store_all (t := 31) (two (slv sL) (slv (some ⟨gC, 0, none⟩, sC2, sC3))) size34 rfl (two_one _ _) HB18.out rfl
   refine stZ hst ?_
   clear hst
   refine wpList_plain rfl (fun K hK => ?_); go_simp; refine hK _ _ ?_; clear hK K
   refine wpList_nil ?_
   try simp only [Act.put, nrZ]
   have HR15 := Lib.hid hb_
   have HF15 := Lib.hid (HF8.out.own1 (S := []) (B := 0) hf_ (by have := HBS.out; omega))
   have HOL15 := Lib.hid (HOL8.out.far HB18.out hf_ (by decide) (by decide))
   have HCR15 := Lib.hid (show CRd w15 B (slv (some ⟨gC, 0, none⟩, sC2, sC3)) (C.set i ⟨y.ref, (y.c.close false).1⟩) from by
    refine ⟨?_, fun g hg => (HOWN8.out.lt g hg).1⟩
    refine ⟨Xs.set i (pgC ⟨y.ref, (y.c.close false).1⟩ (y.c.closeq q0 false)), ?_, ?_⟩
    ·refine (HREC8.out.mono (fun X z ⟨s, e1, e2⟩ => (⟨s, e1, (e2.store HB18.out hf_ (by decide)).b⟩ : ElC w15 X z))).set i rfl (pgC_one _ _) ⟨_, rfl, ?_⟩
     exact ((HROW.out.new HF15.out).close false)
    ·rw [List.length_set, HM.out]
     exact RowV.of_own (rowFr' HOWN8.out hf_ (fun g hg hm => by rw [List.mem_singleton] at hm; subst hm; exact blkNe HB18.out HOWN8.out (by decide) hg)))
   clear hb_ hf_
   go_wp2
   have hl := load_var agg34 size34 (xs := two (slv sL) (slv (some ⟨gC, 0, none⟩, sC2, sC3))) rfl HR15.out.at
   refine bodyPost_ret (v := .tuple #[.agg (two (slv sL) (slv (some ⟨gC, 0, none⟩, sC2, sC3))).toArray, .int .i64 0]) (by simp [results, Tryz.results21, as_addr, hl]) rfl ?_
   exact ⟨sL, (some ⟨gC, 0, none⟩, sC2, sC3), rfl, by rw [HBS.out]; exact HOL15.out.ro, by rw [HBS.out]; exact HCR15.out, HF15.out⟩
 | false =>
  go_upto_region 15 with fail
  refine wp_region_lit ?_
  refine ldZ (load_all agg34 size34 (xs := two (slv sL) (slv (some ⟨gC, 0, none⟩, sC2, sC3))) rfl HY8.out.at) ?_
  obtain ⟨w15, hst, hb_, hf_⟩ := store_all (t := 31) (two (slv sL) (slv (some ⟨gC, 0, none⟩, sC2, sC3))) size34 rfl (two_one _ _) HB18.out rfl
  refine stZ hst ?_
  clear hst
  refine wpList_plain rfl (fun K hK => ?_); go_simp; refine hK _ _ ?_; clear hK K
  refine wpList_nil ?_
  try simp only [Act.put, nrZ]
  have HR15 := Lib.hid hb_
  have HF15 := Lib.hid (HF8.out.own1 (S := []) (B := 0) hf_ (by have := HBS.out; omega))
  have HOL15 := Lib.hid (HOL8.out.far HB18.out hf_ (by decide) (by decide))
  have HCR15 := Lib.hid (show CRd w15 B (slv (some ⟨gC, 0, none⟩, sC2, sC3)) (C.set i ⟨y.ref, (y.c.close false).1⟩) from by
   refine ⟨?_, fun g hg => (HOWN8.out.lt g hg).1⟩
   refine ⟨Xs.set i (pgC ⟨y.ref, (y.c.close false).1⟩ (y.c.closeq q0 false)), ?_, ?_⟩
   ·refine (HREC8.out.mono (fun X z ⟨s, e1, e2⟩ => (⟨s, e1, (e2.store HB18.out hf_ (by decide)).b⟩ : ElC w15 X z))).set i rfl (pgC_one _ _) ⟨_, rfl, ?_⟩
    exact ((HROW.out.new HF15.out).close false)
   ·rw [List.length_set, HM.out]
    exact RowV.of_own (rowFr' HOWN8.out hf_ (fun g hg hm => by rw [List.mem_singleton] at hm; subst hm; exact blkNe HB18.out HOWN8.out (by decide) hg)))
  clear hb_ hf_
  go_wp2
  have hl := load_var agg34 size34 (xs := two (slv sL) (slv (some ⟨gC, 0, none⟩, sC2, sC3))) rfl HR15.out.at
  refine bodyPost_ret (v := .tuple #[.agg (two (slv sL) (slv (some ⟨gC, 0, none⟩, sC2, sC3))).toArray, .int .i64 0]) (by simp [results, Tryz.results21, as_addr, hl]) rfl ?_
  exact ⟨sL, (some ⟨gC, 0, none⟩, sC2, sC3), rfl, by rw [HBS.out]; exact HOL15.out.ro, by rw [HBS.out]; exact HCR15.out, HF15.out⟩
theorem nHang_ok_0_1 (vL vC : Value) (D : List PN.PL) (C : List PG) (k : Int) (w : World) (hL : LRow w vL D) (hC : CRow w vC C) (hn : NetFit D C) (i : Nat) (y : PG) (hi : PN.pick (refG k) C 0 = some (i, y)) (ha : y.c.a0 = false) (hbo : ((y.c.close false).1.a0 && (y.c.close false).1.a1) = true) :
  Calls Tryz.prog 21 #[.agg #[vL, vC], .int .i64 k, .int .i64 0] w (NetRd w D (C.take i ++ C.drop (i + 1)) [.int .i64 0]) := by
 obtain ⟨n, hnl⟩ : ∃ n, D.length = n := ⟨_, rfl⟩
 obtain ⟨m, hml⟩ : ∃ m, C.length = m := ⟨_, rfl⟩
 obtain ⟨aL, cL, rfl⟩ := hL.val
 obtain ⟨aC, cC, rfl⟩ := hC.val
 rw [hnl] at hL ⊢
 rw [hml] at hC ⊢
 have HN := Lib.hid hnl
 have HM := Lib.hid hml
 obtain ⟨B, hB⟩ : ∃ B, w.heap.size = B := ⟨_, rfl⟩
 obtain ⟨wA, hwA⟩ : ∃ z, (w.alloc (.cells #[.slice aL n cL, .slice aC m cC] 31)).alloc (.cells #[.slice none 0 0, .slice none 0 0] 31) = z := ⟨_, rfl⟩
 have f2 := (Fr.refl [] (w.alloc (.cells #[.slice aL n cL, .slice aC m cC] 31))).alloc (.cells #[.slice none 0 0, .slice none 0 0] 31)
 have hb0 : Blk wA B 31 (two (.slice aL n cL) (.slice aC m cC)) := by
  rw [← hwA, ← hB]
  exact (Blk.made w 31 (two (.slice aL n cL) (.slice aC m cC))).keep f2 (by simp)
 have hb1 : Blk wA (B + 1) 31 zNt := by
  have h := Blk.made (w.alloc (.cells #[.slice aL n cL, .slice aC m cC] 31)) 31 zNt
  rw [show (w.alloc (.cells #[.slice aL n cL, .slice aC m cC] 31)).heap.size = B + 1 from by rw [← hB]; simp] at h
  rw [← hwA]
  exact h
 have hf : Fr [] w wA := by rw [← hwA]; exact ((Fr.refl [] w).alloc _).step f2
 have HB0 := Lib.hid hb0
 have HB1 := Lib.hid hb1
 have HF := Lib.hid hf
 have HBS := Lib.hid hB
 have HWA := Lib.hid hwA
 have HL := Lib.hid hL
 have HC := Lib.hid hC
 clear hb0 hb1 hf hB hwA f2 hL hC hnl hml
 have HFIT := Lib.hid hn
 clear hn
 have hY := place_some hi
 have hin : i < m := by rw [← HM.out]; exact (List.getElem?_eq_some_iff.1 hY).1
 have HI := Lib.hid hi
 have HY := Lib.hid hY
 have hi0 : (0 : Int) ≤ (i : Int) := by omega
 have hin' : (i : Int) < (m : Int) := by omega
 have dlt : decide ((i : Int) < 0) = false := decide_eq_false (by omega)
 clear hi hY
 have hcl : (y.c.close false).2 = 0 := by
  unfold CC.close CC.isShut
  simp [ha]
 have HCL := Lib.hid hcl
 have HBO := Lib.hid hbo
 clear hcl ha hbo
 go_enter Tryz.func21, Tryz.ntmps21
 go_wp2_with fail
 rw [HWA.out]
 simp only [HBS.out]
 refine (refEndG 0 (by omega) _).mono ?_
 rintro e w' ⟨rfl, rfl⟩
 go_upto_region 3 with fail
 refine wp_region_lit ?_
 refine ldZ (load_all agg34 size34 (xs := two (.slice aL n cL) (.slice aC m cC)) rfl HB0.out.at) ?_
 refine wpList_plain rfl (fun K hK => ?_); go_simp; refine hK _ _ ?_; clear hK K
 try simp only [Act.put, nrZ]
 refine wpList_plain rfl (fun K hK => ?_)
 go_simp
 refine (connAtG (.slice aL n cL) (.slice aC m cC) C k _ (CRow.next HC.out HF.out) (by have := HFIT.out.nc; rw [HM.out] at this ⊢; omega)).mono ?_
 rintro e w1 ⟨rfl, f1⟩
 refine hK _ _ ?_
 clear hK K
 rw [HI.out]
 simp only [place]
 try simp only [Act.put, nrZ]
 refine wpList_plain rfl (fun K hK => ?_); go_simp; refine hK _ _ ?_; clear hK K
 refine wpList_nil ?_
 try simp only [Act.put, nrZ]
 have HB01 := Lib.hid (HB0.out.keep f1 (by simp))
 have HB11 := Lib.hid (HB1.out.keep f1 (by simp))
 have HF1 := Lib.hid (HF.out.step f1)
 clear f1 HB0 HB1 HF HWA
 obtain ⟨w2, hw2⟩ : ∃ z, z = w1 := ⟨_, rfl⟩
 subst hw2
 have HB02 := HB01
 have HB12 := HB11
 have HF2 := HF1
 clear HB01 HB11 HF1
 go_upto_region 8 with fail
 obtain ⟨g, off, cap, X, hvv, hg, hX, hl, q0, rfl, hrow⟩ := HC.out.lies HY.out
 rw [HM.out] at hvv
 simp only [Value.slice.injEq] at hvv
 obtain ⟨rfl, _, rfl⟩ := hvv
 have HLY := Lib.hid (show LiesAt w g (off + i * 17 + 1) (cnC y.c q0) from fun j u hj => by
  have := hl (j + 1) u (by simpa [pgC] using hj)
  rwa [show off + i * 17 + (j + 1) = off + i * 17 + 1 + j from by omega] at this)
 have HROW := Lib.hid hrow
 clear hl hrow hg hX
 have c1 : w2.cell? ⟨B, 1, none⟩ = some (.slice (some ⟨g, off, none⟩) m cC) := HB02.out.at 1 _ rfl
 refine wp_region_lit ?_
 iterate 5 (refine wpList_plain rfl (fun K hK => ?_); go_simp; refine hK _ _ ?_; clear hK K)
 try simp only [Act.put, nrZ]
 refine ldZ (load_all agg94 size94 (xs := cnC y.c q0) rfl (HLY.out.keep HF2.out (by simp))) ?_
 refine wpList_plain rfl (fun K hK => ?_); go_simp; refine hK _ _ ?_; clear hK K
 try simp only [Act.put, nrZ]
 refine wpList_plain rfl (fun K hK => ?_)
 go_simp
 refine (dClose_0 y.c q0 _).mono ?_
 rintro e w3 ⟨rfl, f3⟩
 refine hK _ _ ?_
 clear hK K
 try simp only [Act.put, nrZ]
 iterate 4 (refine wpList_plain rfl (fun K hK => ?_); go_simp; refine hK _ _ ?_; clear hK K)
 try simp only [Act.put, nrZ]
 obtain ⟨E4, hE_⟩ : ∃ E, w3.heap.size = E := ⟨_, rfl⟩
 obtain ⟨wx, hw_⟩ : ∃ z, w3.alloc (.cells #[.int .i64 0, .slice none 0 0, .bool false, .slice none 0 0, .int .i64 0, .int .i64 0, .int .i64 0, .int .i64 0, .slice none 0 0, .bool false, .slice none 0 0, .int .i64 0, .int .i64 0, .int .i64 0, .bool false, .bool false] 99) = z := ⟨_, rfl⟩
 have hbx : Blk wx E4 99 zCn := by rw [← hw_, ← hE_]; exact Blk.made w3 99 zCn
 have fx : Fr [] w3 wx := by rw [← hw_]; exact (Fr.refl [] w3).alloc _
 rw [hw_]
 simp only [hE_]
 have HE4 := Lib.hid (show w.heap.size ≤ E4 ∧ B < E4 ∧ B + 1 < E4 from by rw [← hE_]; exact ⟨(HF2.out.step f3).size, (HB02.out.keep f3 (by simp)).lt, (HB12.out.keep f3 (by simp)).lt⟩)
 have HX := Lib.hid hbx
 have HF3 := Lib.hid ((HF2.out.step f3).step fx)
 have HB03 := Lib.hid ((HB02.out.keep f3 (by simp)).keep fx (by simp))
 have HB13 := Lib.hid ((HB12.out.keep f3 (by simp)).keep fx (by simp))
 clear f3 fx hbx hw_ hE_ HB02 HB12 HF2 c1
 obtain ⟨w4, hst, hb_, hf_⟩ := store_all (t := 99) (cnC (y.c.close false).1 (y.c.closeq q0 false)) size94 rfl (cnC_one _ _) HX.out rfl
 refine stZ hst ?_
 clear hst
 refine wpList_plain rfl (fun K hK => ?_); go_simp; refine hK _ _ ?_; clear hK K
 refine wpList_nil ?_
 try simp only [Act.put, nrZ]
 have HX4 := Lib.hid hb_
 have HB04 := Lib.hid (HB03.out.keep hf_ (fun hm => by rw [List.mem_singleton] at hm; have := HE4.out; omega))
 have HB14 := Lib.hid (HB13.out.keep hf_ (fun hm => by rw [List.mem_singleton] at hm; have := HE4.out; omega))
 have HF4 := Lib.hid (HF3.out.own1 (S := []) (B := 0) hf_ HE4.out.1)
 clear hb_ hf_ HX HB03 HB13 HF3
 rw [HCL.out]
 go_upto_region 11 with fail
 refine wp_region_lit ?_
 refine ldZ (load_all agg34 size34 (xs := two (.slice aL n cL) (.slice (some ⟨g, off, none⟩) m cC)) rfl HB04.out.at) ?_
 refine wpList_plain rfl (fun K hK => ?_)
 go_simp
 refine (nCopy_any (.slice aL n cL) (.slice (some ⟨g, off, none⟩) m cC) D C _ (LRow.next HL.out HF4.out) (CRow.next HC.out HF4.out) HFIT.out).mono ?_
 rintro e w5 ⟨sL, sC, rfl, oL, oC, f5⟩
 refine hK _ _ ?_
 clear hK K
 try simp only [Act.put, nrZ]
 refine wpList_plain rfl (fun K hK => ?_); go_simp; refine hK _ _ ?_; clear hK K
 try simp only [Act.put, nrZ]
 have HOL5 := Lib.hid (oL.base (B' := B) (by rw [← HBS.out]; exact HF4.out.size))
 have HOC5 := Lib.hid (oC.base (B' := B) (by rw [← HBS.out]; exact HF4.out.size))
 have HX5 := Lib.hid (HX4.out.keep f5 (by simp))
 have HB15 := Lib.hid (HB14.out.keep f5 (by simp))
 have HF5 := Lib.hid (HF4.out.step f5)
 clear oL oC f5 HX4 HB04 HB14 HF4
 obtain ⟨E6, hE_⟩ : ∃ E, w5.heap.size = E := ⟨_, rfl⟩
 obtain ⟨wy, hw_⟩ : ∃ z, w5.alloc (.cells #[.slice none 0 0, .slice none 0 0] 31) = z := ⟨_, rfl⟩
 have hbx : Blk wy E6 31 zNt := by rw [← hw_, ← hE_]; exact Blk.made w5 31 zNt
 have fx : Fr [] w5 wy := by rw [← hw_]; exact (Fr.refl [] w5).alloc _
 rw [hw_]
 simp only [hE_]
 have HE6 := Lib.hid (show w.heap.size ≤ E6 ∧ B + 1 < E6 ∧ E4 < E6 from by rw [← hE_]; exact ⟨HF5.out.size, HB15.out.lt, HX5.out.lt⟩)
 have HY6 := Lib.hid hbx
 have HX6 := Lib.hid (HX5.out.keep fx (by simp))
 have HB16 := Lib.hid (HB15.out.keep fx (by simp))
 have HF6 := Lib.hid (HF5.out.step fx)
 have HOL6 := Lib.hid (HOL5.out.next fx)
 have HOC6 := Lib.hid (HOC5.out.next fx)
 clear fx hbx hw_ hE_ HX5 HB15 HF5 HOL5 HOC5
 obtain ⟨w7, hst, hb_, hf_⟩ := store_all (t := 31) (two (slv sL) (slv sC)) size34 rfl (two_one _ _) HY6.out rfl
 refine stZ hst ?_
 clear hst
 refine wpList_nil ?_
 try simp only [Act.put, nrZ]
 have HY7 := Lib.hid hb_
 have HX7 := Lib.hid (HX6.out.keep hf_ (fun hm => by rw [List.mem_singleton] at hm; have := HE6.out; omega))
 have HB17 := Lib.hid (HB16.out.keep hf_ (fun hm => by rw [List.mem_singleton] at hm; have := HE6.out; omega))
 have HF7 := Lib.hid (HF6.out.own1 (S := []) (B := 0) hf_ HE6.out.1)
 have HOL7 := Lib.hid (HOL6.out.far HY6.out hf_ (by decide) (by decide))
 obtain ⟨Xs, hrec, hown⟩ := HOC6.out.far HY6.out hf_ (by decide) (by decide)
 rw [HM.out] at hown
 have HREC7 := Lib.hid hrec
 have HOWN7 := Lib.hid hown
 clear hb_ hf_ HY6 HX6 HB16 HF6 HOL6 HOC6
 have hXi := List.getElem?_eq_getElem (l := Xs) (i := i) (by rw [hrec.len, HM.out]; exact hin)
 obtain ⟨X, hXX⟩ : ∃ X, Xs[i]'(by rw [hrec.len, HM.out]; exact hin) = X := ⟨_, rfl⟩
 rw [hXX] at hXi
 obtain ⟨q, rfl, hqo⟩ := hrec.el i X y hXi HY.out
 have HXI := Lib.hid hXi
 obtain ⟨sC1, sC2, sC3⟩ := sC
 obtain ⟨gC, hgC, hsn⟩ : ∃ gC, sC1 = some ⟨gC, 0, none⟩ ∧ sC2 = m := by
  rcases hown.2 with ⟨he, h0⟩ | ⟨gC, cap, cur, he, _⟩
  ·omega
  ·simp only [slv, Value.slice.injEq] at he
   exact ⟨gC, he.1, he.2.1⟩
 subst hgC
 subst hsn
 have c7 : w7.cell? ⟨E6, 1, none⟩ = some (.slice (some ⟨gC, 0, none⟩) sC2 sC3) := HY7.out.at 1 _ rfl
 clear hrec hown hqo hXi hXX
 go_upto_region 12 with fail
 refine wp_region_lit ?_
 iterate 3 (refine wpList_plain rfl (fun K hK => ?_); go_simp; refine hK _ _ ?_; clear hK K)
 try simp only [Act.put, nrZ]
 refine ldZ (load_all agg94 size94 (xs := cnC (y.c.close false).1 (y.c.closeq q0 false)) rfl HX7.out.at) ?_
 iterate 2 (refine wpList_plain rfl (fun K hK => ?_); go_simp; refine hK _ _ ?_; clear hK K)
 try simp only [Act.put, nrZ]
 obtain ⟨w8, hst, hrow8, hf_⟩ := own_store (t := 99) (k := i * 17 + 1) (cnC (y.c.close false).1 (y.c.closeq q0 false)) (.agg (cnC (y.c.close false).1 (y.c.closeq q0 false)).toArray) size94 rfl rfl (cnC_one _ _) HOWN7.out (by show i * 17 + 1 + 16 ≤ sC2 * 17; omega)
 refine stZ hst ?_
 clear hst c7
 try simp only [Act.put, nrZ]
 refine wpList_nil ?_
 try simp only [Act.put, nrZ]
 have hfo : Fr (Value.ownBlock (slv (some ⟨gC, 0, none⟩, sC2, sC3))).toList w7 w8 := hf_
 have HY8 := Lib.hid (HY7.out.farRow HOWN7.out hfo (by decide))
 have HX8 := Lib.hid (HX7.out.farRow HOWN7.out hfo (by decide))
 have HB18 := Lib.hid (HB17.out.farRow HOWN7.out hfo (by decide))
 have HF8 := Lib.hid (HF7.out.ownRow HOWN7.out hfo (by rw [HBS.out]; exact Nat.le_refl _))
 have HOL8 := Lib.hid (HOL7.out.farRow HOWN7.out hfo (by decide) (by decide))
 have HREC8 := Lib.hid (HREC7.out.mono (fun X z ⟨s, e1, e2⟩ => (⟨s, e1, ⟨rowFar e2.b0 HOWN7.out hfo (by decide), rowFar e2.r0 HOWN7.out hfo (by decide), rowFar e2.b1 HOWN7.out hfo (by decide), rowFar e2.r1 HOWN7.out hfo (by decide)⟩⟩ : ElCO B w8 X z)))
 have HOWN8 := Lib.hid (show w8.ownsRow B 138 17 (slv (some ⟨gC, 0, none⟩, sC2, sC3)) sC2 (Xs.set i (pgC ⟨y.ref, (y.c.close false).1⟩ (y.c.closeq q0 false))).flatten from by
  have hfl := flat_set (vs := cnC (y.c.close false).1 (y.c.closeq q0 false)) (a := 1) HREC7.out.sz HXI.out (by show 1 + 16 ≤ 17; omega)
  have hX' : (pgC y q).take 1 ++ cnC (y.c.close false).1 (y.c.closeq q0 false) ++ (pgC y q).drop (1 + (cnC (y.c.close false).1 (y.c.closeq q0 false)).length) = pgC ⟨y.ref, (y.c.close false).1⟩ (y.c.closeq q0 false) := rfl
  rw [hX'] at hfl
  rw [hfl]
  exact hrow8)
 clear hfo hf_ hrow8 HY7 HX7 HB17 HF7 HOL7 HREC7 HOWN7
 have k0 : w8.cell? ⟨E4, 14, none⟩ = some (.bool (y.c.close false).1.a0) := HX8.out.at 14 _ rfl
 have k1 : w8.cell? ⟨E4, 15, none⟩ = some (.bool (y.c.close false).1.a1) := HX8.out.at 15 _ rfl
 obtain ⟨b0, hb0⟩ : ∃ z, (y.c.close false).1.a0 = z := ⟨_, rfl⟩
 obtain ⟨b1, hb1⟩ : ∃ z, (y.c.close false).1.a1 = z := ⟨_, rfl⟩
 have HB01 := Lib.hid HBO.out
 rw [hb0, hb1] at HB01
 rw [hb0] at k0
 rw [hb1] at k1
 clear hb0 hb1
 obtain ⟨rfl, rfl⟩ : b0 = true ∧ b1 = true := by
  have := HB01.out
  cases b0 <;> cases b1 <;> simp_all
 obtain ⟨a0, ht0, hr0⟩ := own_slice_to elemConn HOWN8.out i (by omega)
 obtain ⟨vr, hvr, hrr⟩ := own_slice_from elemConn HOWN8.out (i + 1) (by omega)
 have hty0 : TyR w8 B (.slice a0 i i) 138 := by
  obtain ⟨_, htt, hss⟩ := elemConn.el
  intro gg hgg
  have hrun := ht0 w8
  rw [show slv (some ⟨gC, 0, none⟩, sC2, sC3) = .slice (some ⟨gC, 0, none⟩) sC2 sC3 from rfl, run_slice_hm w8 _ _ _ _ htt .i64 .i64 i i (by omega) (by omega) (by
   rcases HOWN8.out.2 with ⟨he, _⟩ | ⟨g1, cap, cur, he, _, _, hnc, _⟩
   ·cases he
   ·simp only [slv, Value.slice.injEq] at he
    omega), hss] at hrun
  simp only [Result.andThen_ok, Result.ok.injEq, sliced, Value.slice.injEq, and_true] at hrun
  have ha : a0 = some ⟨gC, 0, none⟩ := by
   rw [← hrun.1]
   split
   ·rfl
   ·simp [Addr.add_lit]
  rw [ha] at hgg
  simp only [Value.ownBlock, Option.some.injEq] at hgg
  subst hgg
  exact TyR.of_own HOWN8.out gC rfl
 have hlen8 : (Xs.set i (pgC ⟨y.ref, (y.c.close false).1⟩ (y.c.closeq q0 false))).length = sC2 := by rw [List.length_set, HREC8.out.len, HM.out]
 have hsz8 : ∀ X ∈ Xs.set i (pgC ⟨y.ref, (y.c.close false).1⟩ (y.c.closeq q0 false)), X.length = 17 := fun X hX => by
  rcases List.mem_or_eq_of_mem_set hX with hX | rfl
  ·exact HREC8.out.sz X hX
  ·rfl
 have HR0 := Lib.hid (show RowV w8 (.slice a0 i i) i 17 (Xs.take i).flatten from by
  rw [flat_take i hsz8, List.take_set_of_le (Nat.le_refl i)] at hr0
  exact hr0)
 have HRR := Lib.hid (show RowV w8 vr (sC2 - (i + 1)) 17 (Xs.drop (i + 1)).flatten from by
  rw [flat_drop (i + 1) hsz8, List.drop_set_of_lt (Nat.lt_succ_self i)] at hrr
  exact hrr)
 have HTY := Lib.hid hty0
 clear hr0 hrr hty0 hlen8 hsz8
 obtain ⟨w9, hw9⟩ : ∃ z, w8.drew = z := ⟨_, rfl⟩
 have f9 : Fr [] w8 w9 := by rw [← hw9]; exact (Fr.refl [] w8).drew
 have HY9 := Lib.hid (HY8.out.keep f9 (by simp))
 have HF89 := Lib.hid f9
 have HW9 := Lib.hid hw9
 clear hw9 f9
 go_upto_region 14 with fail
 clear k0 k1
 refine wp_region_held_drew (S := fun _ => True) (by kernel_rfl) (trivial) (fun hHeld => ?_)
 clear hHeld
 rw [HW9.out]
 have hi9 : (i : Int) < 1000 := by have := HFIT.out.nc; rw [HM.out] at this; omega
 refine tkZ 0 ?_
 refine tkZ 2 ?_
 refine tkZ 3 ?_
 refine tkZ 5 ?_
 refine tkZ 7 ?_
 refine tvZ 8 (.int .i64 ((i + 1 : Nat) : Int)) rfl ?_ ?_
 ·intro w hSw
  try dsimp only at hSw
  go_simp
  exact IntWalk.i64_in _ (by omega)
 try simp only [Act.put, nrZ]
 refine wpAnyH_ready (rs := [1, 6]) (by kernel_rfl) (by simp) ?_
 refine AllReadyH.cons (o := _) rfl (fun K hK => ?_) (AllReadyH.cons (o := _) rfl (fun K hK => ?_) AllReadyH.nil)
 ·skip
  have c6 : w9.cell? ⟨E6, 1, none⟩ = some (.slice (some ⟨gC, 0, none⟩) sC2 sC3) := HY9.out.at 1 _ rfl
  go_simp
  refine hK.out _ _ (trivial) (fun hHeld => ?_)
  clear hK K
  clear hHeld
  try simp only [Act.put, nrZ]
  clear c6
  refine tvZ 4 (.slice a0 i i) rfl ?_ ?_
  ·intro w hSw
   try dsimp only at hSw
   exact exec_slice_to (V := slv (some ⟨gC, 0, none⟩, sC2, sC3)) (H := .int .i64 i) (M := .int .i64 i) rfl rfl rfl rfl elemConn.el.2.1 (ht0 w)
  try simp only [Act.put, nrZ]
  refine rdZ 6 (fun K hK => ?_)
  have c6 : w9.cell? ⟨E6, 1, none⟩ = some (.slice (some ⟨gC, 0, none⟩) sC2 sC3) := HY9.out.at 1 _ rfl
  go_simp
  refine hK.out _ _ (trivial) (fun hHeld => ?_)
  clear hK K
  clear hHeld
  try simp only [Act.put, nrZ]
  clear c6
  refine tvZ 9 vr rfl ?_ ?_
  ·intro w hSw
   try dsimp only at hSw
   exact exec_slice_from (V := slv (some ⟨gC, 0, none⟩, sC2, sC3)) (L := .int .i64 ((i + 1 : Nat) : Int)) rfl rfl rfl elemConn.el.2.1 (hvr w)
  try simp only [Act.put, nrZ]
  refine rdZ 10 (fun K hK => ?_)
  split
  rotate_left
  ·rename_i hno
   exact absurd rfl hno
  refine wp_append_rd elemConn _ _ rfl (a0 := a0) (n := i) (xs := (Xs.take i).flatten) rfl (HR0.out.new HF89.out) (by rw [← HBS.out]; exact (HF8.out.step HF89.out).size) (HTY.out.keep HF89.out (fun g _ hm => by cases hm)) (X := vr) (m := sC2 - (i + 1)) (news := (Xs.drop (i + 1)).flatten) rfl (HRR.out.new HF89.out) (by have := HFIT.out.nc; rw [HM.out] at this; omega) (by decide) ?_
  intro sC' w10 hr10 ht10 f10
  have HY10 := Lib.hid (HY9.out.keep f10 (by simp))
  have HB110 := Lib.hid ((HB18.out.keep HF89.out (by simp)).keep f10 (by simp))
  have HF10 := Lib.hid ((HF8.out.step HF89.out).step f10)
  have HOL10 := Lib.hid ((HOL8.out.next HF89.out).next f10)
  have HREC10 := Lib.hid (HREC8.out.mono (fun X z ⟨s, e1, e2⟩ => (⟨s, e1, (e2.new HF89.out).new f10⟩ : ElCO B w10 X z)))
  have HR10 := Lib.hid hr10
  have HT10 := Lib.hid ht10
  clear hr10 ht10 f10
  refine hK.out _ _ (trivial) (fun hHeld => ?_)
  clear hK K
  clear hHeld
  try simp only [Act.put, nrZ]
  refine tkZ 11 ?_
  refine rdZ 12 (fun K hK => ?_)
  obtain ⟨w11, hst, hb_, hf_⟩ := store_cell (t := 29) (o := 1) (slv sC') size32 rfl rfl HY10.out (by show 1 + 1 ≤ 2; omega)
  split
  rotate_left
  ·rename_i hno
   exact absurd rfl hno
  refine stY hst ?_
  clear hst
  have HY11 := Lib.hid (show Blk w11 E6 31 (two (slv sL) (slv sC')) from hb_)
  have HB111 := Lib.hid (HB110.out.keep hf_ (fun hm => by rw [List.mem_singleton] at hm; have := HE6.out; omega))
  have HF11 := Lib.hid (HF10.out.own1 (S := []) (B := 0) hf_ HE6.out.1)
  have HOL11 := Lib.hid (HOL10.out.far HY10.out hf_ (by decide) (by decide))
  have HREC11 := Lib.hid (HREC10.out.mono (fun X z ⟨s, e1, e2⟩ => (⟨s, e1, e2.store HY10.out hf_ (by decide)⟩ : ElCO B w11 X z)))
  have hnn : ∀ g, (slv sC').ownBlock = some g → g ∉ [E6] := fun g hg hm => by
   rw [List.mem_singleton] at hm
   subst hm
   exact HT10.out.ne HY10.out (by decide) hg
  have HR11 := Lib.hid (HR10.out.not hf_ hnn)
  have HT11 := Lib.hid (HT10.out.keep hf_ hnn)
  clear hb_ hf_ hnn
  refine hK.out _ _ (trivial) (fun hHeld => ?_)
  clear hK K
  clear hHeld
  try simp only [Act.put, nrZ]
  refine wpAnyH_done (by kernel_rfl) ?_ _
  clear HY8 HB18 HF8 HOL8 HREC8 HOWN8 HR0 HRR HTY HY9 HF89 HW9 HY10 HB110 HF10 HOL10 HREC10 HR10 HT10
  go_upto_region 15 with fail
  refine wp_region_lit ?_
  refine ldZ (load_all agg34 size34 (xs := two (slv sL) (slv sC')) rfl HY11.out.at) ?_
  obtain ⟨w15, hst, hb_, hf_⟩ := store_all (t := 31) (two (slv sL) (slv sC')) size34 rfl (two_one _ _) HB111.out rfl
  refine stZ hst ?_
  clear hst
  refine wpList_plain rfl (fun K hK => ?_); go_simp; refine hK _ _ ?_; clear hK K
  refine wpList_nil ?_
  try simp only [Act.put, nrZ]
  have HR15 := Lib.hid hb_
  have HF15 := Lib.hid (HF11.out.own1 (S := []) (B := 0) hf_ (by have := HBS.out; omega))
  have HOL15 := Lib.hid (HOL11.out.far HB111.out hf_ (by decide) (by decide))
  have HCR15 := Lib.hid (show CRd w15 B (slv sC') (C.take i ++ C.drop (i + 1)) from by
   refine ⟨?_, fun g hg => (HT11.out g hg).1⟩
   refine ⟨Xs.take i ++ Xs.drop (i + 1), ?_, ?_⟩
   ·have h0 := HREC11.out.mono (fun X z ⟨s, e1, e2⟩ => (⟨s, e1, (e2.store HB111.out hf_ (by decide)).b⟩ : ElC w15 X z))
    exact (h0.take i).app (h0.drop (i + 1))
   ·have hlen : (C.take i ++ C.drop (i + 1)).length = i + (sC2 - (i + 1)) := by
     rw [List.length_append, List.length_take, List.length_drop, HM.out]
     omega
    rw [hlen, List.flatten_append]
    exact HR11.out.not hf_ (fun g hg hm => by rw [List.mem_singleton] at hm; subst hm; exact HT11.out.ne HB111.out (by decide) hg))
  clear hb_ hf_
  go_wp2
  have hl := load_var agg34 size34 (xs := two (slv sL) (slv sC')) rfl HR15.out.at
  refine bodyPost_ret (v := .tuple #[.agg (two (slv sL) (slv sC')).toArray, .int .i64 0]) (by simp [results, Tryz.results21, as_addr, hl]) rfl ?_
  exact ⟨sL, sC', rfl, by rw [HBS.out]; exact HOL15.out.ro, by rw [HBS.out]; exact HCR15.out, HF15.out⟩
 ·skip
  have c6 : w9.cell? ⟨E6, 1, none⟩ = some (.slice (some ⟨gC, 0, none⟩) sC2 sC3) := HY9.out.at 1 _ rfl
  go_simp
  refine hK.out _ _ (trivial) (fun hHeld => ?_)
  clear hK K
  clear hHeld
  try simp only [Act.put, nrZ]
  clear c6
  refine tvZ 9 vr rfl ?_ ?_
  ·intro w hSw
   try dsimp only at hSw
   exact exec_slice_from (V := slv (some ⟨gC, 0, none⟩, sC2, sC3)) (L := .int .i64 ((i + 1 : Nat) : Int)) rfl rfl rfl elemConn.el.2.1 (hvr w)
  try simp only [Act.put, nrZ]
  refine rdZ 1 (fun K hK => ?_)
  have c6 : w9.cell? ⟨E6, 1, none⟩ = some (.slice (some ⟨gC, 0, none⟩) sC2 sC3) := HY9.out.at 1 _ rfl
  go_simp
  refine hK.out _ _ (trivial) (fun hHeld => ?_)
  clear hK K
  clear hHeld
  try simp only [Act.put, nrZ]
  clear c6
  refine tvZ 4 (.slice a0 i i) rfl ?_ ?_
  ·intro w hSw
   try dsimp only at hSw
   exact exec_slice_to (V := slv (some ⟨gC, 0, none⟩, sC2, sC3)) (H := .int .i64 i) (M := .int .i64 i) rfl rfl rfl rfl elemConn.el.2.1 (ht0 w)
  try simp only [Act.put, nrZ]
  refine rdZ 10 (fun K hK => ?_)
  split
  rotate_left
  ·rename_i hno
   exact absurd rfl hno
  refine wp_append_rd elemConn _ _ rfl (a0 := a0) (n := i) (xs := (Xs.take i).flatten) rfl (HR0.out.new HF89.out) (by rw [← HBS.out]; exact (HF8.out.step HF89.out).size) (HTY.out.keep HF89.out (fun g _ hm => by cases hm)) (X := vr) (m := sC2 - (i + 1)) (news := (Xs.drop (i + 1)).flatten) rfl (HRR.out.new HF89.out) (by have := HFIT.out.nc; rw [HM.out] at this; omega) (by decide) ?_
  intro sC' w10 hr10 ht10 f10
  have HY10 := Lib.hid (HY9.out.keep f10 (by simp))
  have HB110 := Lib.hid ((HB18.out.keep HF89.out (by simp)).keep f10 (by simp))
  have HF10 := Lib.hid ((HF8.out.step HF89.out).step f10)
  have HOL10 := Lib.hid ((HOL8.out.next HF89.out).next f10)
  have HREC10 := Lib.hid (HREC8.out.mono (fun X z ⟨s, e1, e2⟩ => (⟨s, e1, (e2.new HF89.out).new f10⟩ : ElCO B w10 X z)))
  have HR10 := Lib.hid hr10
  have HT10 := Lib.hid ht10
  clear hr10 ht10 f10
  refine hK.out _ _ (trivial) (fun hHeld => ?_)
  clear hK K
  clear hHeld
  try simp only [Act.put, nrZ]
  refine tkZ 11 ?_
  refine rdZ 12 (fun K hK => ?_)
  obtain ⟨w11, hst, hb_, hf_⟩ := store_cell (t := 29) (o := 1) (slv sC') size32 rfl rfl HY10.out (by show 1 + 1 ≤ 2; omega)
  split
  rotate_left
  ·rename_i hno
   exact absurd rfl hno
  refine stY hst ?_
  clear hst
  have HY11 := Lib.hid (show Blk w11 E6 31 (two (slv sL) (slv sC')) from hb_)
  have HB111 := Lib.hid (HB110.out.keep hf_ (fun hm => by rw [List.mem_singleton] at hm; have := HE6.out; omega))
  have HF11 := Lib.hid (HF10.out.own1 (S := []) (B := 0) hf_ HE6.out.1)
  have HOL11 := Lib.hid (HOL10.out.far HY10.out hf_ (by decide) (by decide))
  have HREC11 := Lib.hid (HREC10.out.mono (fun X z ⟨s, e1, e2⟩ => (⟨s, e1, e2.store HY10.out hf_ (by decide)⟩ : ElCO B w11 X z)))
  have hnn : ∀ g, (slv sC').ownBlock = some g → g ∉ [E6] := fun g hg hm => by
   rw [List.mem_singleton] at hm
   subst hm
   exact HT10.out.ne HY10.out (by decide) hg
  have HR11 := Lib.hid (HR10.out.not hf_ hnn)
  have HT11 := Lib.hid (HT10.out.keep hf_ hnn)
  clear hb_ hf_ hnn
  refine hK.out _ _ (trivial) (fun hHeld => ?_)
  clear hK K
  clear hHeld
  try simp only [Act.put, nrZ]
  refine wpAnyH_done (by kernel_rfl) ?_ _
  clear HY8 HB18 HF8 HOL8 HREC8 HOWN8 HR0 HRR HTY HY9 HF89 HW9 HY10 HB110 HF10 HOL10 HREC10 HR10 HT10
  go_upto_region 15 with fail
  refine wp_region_lit ?_
  refine ldZ (load_all agg34 size34 (xs := two (slv sL) (slv sC')) rfl HY11.out.at) ?_
  obtain ⟨w15, hst, hb_, hf_⟩ := store_all (t := 31) (two (slv sL) (slv sC')) size34 rfl (two_one _ _) HB111.out rfl
  refine stZ hst ?_
  clear hst
  refine wpList_plain rfl (fun K hK => ?_); go_simp; refine hK _ _ ?_; clear hK K
  refine wpList_nil ?_
  try simp only [Act.put, nrZ]
  have HR15 := Lib.hid hb_
  have HF15 := Lib.hid (HF11.out.own1 (S := []) (B := 0) hf_ (by have := HBS.out; omega))
  have HOL15 := Lib.hid (HOL11.out.far HB111.out hf_ (by decide) (by decide))
  have HCR15 := Lib.hid (show CRd w15 B (slv sC') (C.take i ++ C.drop (i + 1)) from by
   refine ⟨?_, fun g hg => (HT11.out g hg).1⟩
   refine ⟨Xs.take i ++ Xs.drop (i + 1), ?_, ?_⟩
   ·have h0 := HREC11.out.mono (fun X z ⟨s, e1, e2⟩ => (⟨s, e1, (e2.store HB111.out hf_ (by decide)).b⟩ : ElC w15 X z))
    exact (h0.take i).app (h0.drop (i + 1))
   ·have hlen : (C.take i ++ C.drop (i + 1)).length = i + (sC2 - (i + 1)) := by
     rw [List.length_append, List.length_take, List.length_drop, HM.out]
     omega
    rw [hlen, List.flatten_append]
    exact HR11.out.not hf_ (fun g hg hm => by rw [List.mem_singleton] at hm; subst hm; exact HT11.out.ne HB111.out (by decide) hg))
  clear hb_ hf_
  go_wp2
  have hl := load_var agg34 size34 (xs := two (slv sL) (slv sC')) rfl HR15.out.at
  refine bodyPost_ret (v := .tuple #[.agg (two (slv sL) (slv sC')).toArray, .int .i64 0]) (by simp [results, Tryz.results21, as_addr, hl]) rfl ?_
  exact ⟨sL, sC', rfl, by rw [HBS.out]; exact HOL15.out.ro, by rw [HBS.out]; exact HCR15.out, HF15.out⟩
theorem nHang_closed_1 (vL vC : Value) (D : List PN.PL) (C : List PG) (k : Int) (w : World) (hL : LRow w vL D) (hC : CRow w vC C) (hn : NetFit D C) (i : Nat) (y : PG) (hi : PN.pick (refG k) C 0 = some (i, y)) (hw : k ∉ PN.waitsOf D) (ha : y.c.a1 = true) :
  Calls Tryz.prog 21 #[.agg #[vL, vC], .int .i64 k, .int .i64 1] w fun e w' => e = .returned (.tuple #[.agg #[vL, vC], .int .i64 14]) ∧ Fr [] w w' := by
 obtain ⟨n, hnl⟩ : ∃ n, D.length = n := ⟨_, rfl⟩
 obtain ⟨m, hml⟩ : ∃ m, C.length = m := ⟨_, rfl⟩
 obtain ⟨aL, cL, rfl⟩ := hL.val
 obtain ⟨aC, cC, rfl⟩ := hC.val
 rw [hnl] at hL ⊢
 rw [hml] at hC ⊢
 have HN := Lib.hid hnl
 have HM := Lib.hid hml
 obtain ⟨B, hB⟩ : ∃ B, w.heap.size = B := ⟨_, rfl⟩
 obtain ⟨wA, hwA⟩ : ∃ z, (w.alloc (.cells #[.slice aL n cL, .slice aC m cC] 31)).alloc (.cells #[.slice none 0 0, .slice none 0 0] 31) = z := ⟨_, rfl⟩
 have f2 := (Fr.refl [] (w.alloc (.cells #[.slice aL n cL, .slice aC m cC] 31))).alloc (.cells #[.slice none 0 0, .slice none 0 0] 31)
 have hb0 : Blk wA B 31 (two (.slice aL n cL) (.slice aC m cC)) := by
  rw [← hwA, ← hB]
  exact (Blk.made w 31 (two (.slice aL n cL) (.slice aC m cC))).keep f2 (by simp)
 have hb1 : Blk wA (B + 1) 31 zNt := by
  have h := Blk.made (w.alloc (.cells #[.slice aL n cL, .slice aC m cC] 31)) 31 zNt
  rw [show (w.alloc (.cells #[.slice aL n cL, .slice aC m cC] 31)).heap.size = B + 1 from by rw [← hB]; simp] at h
  rw [← hwA]
  exact h
 have hf : Fr [] w wA := by rw [← hwA]; exact ((Fr.refl [] w).alloc _).step f2
 have HB0 := Lib.hid hb0
 have HB1 := Lib.hid hb1
 have HF := Lib.hid hf
 have HBS := Lib.hid hB
 have HWA := Lib.hid hwA
 have HL := Lib.hid hL
 have HC := Lib.hid hC
 clear hb0 hb1 hf hB hwA f2 hL hC hnl hml
 have HFIT := Lib.hid hn
 clear hn
 have hY := place_some hi
 have hin : i < m := by rw [← HM.out]; exact (List.getElem?_eq_some_iff.1 hY).1
 have HI := Lib.hid hi
 have HY := Lib.hid hY
 have hi0 : (0 : Int) ≤ (i : Int) := by omega
 have hin' : (i : Int) < (m : Int) := by omega
 have dlt : decide ((i : Int) < 0) = false := decide_eq_false (by omega)
 clear hi hY
 have HWT := Lib.hid (decide_eq_false hw)
 clear hw
 have hcl : (y.c.close true).2 = 14 := by
  unfold CC.close CC.isShut
  simp [ha]
 have HCL := Lib.hid hcl
 clear hcl ha
 go_enter Tryz.func21, Tryz.ntmps21
 go_wp2_with fail
 rw [HWA.out]
 simp only [HBS.out]
 refine (refEndG 1 (by omega) _).mono ?_
 rintro e w' ⟨rfl, rfl⟩
 go_upto_region 3 with fail
 refine wp_region_lit ?_
 refine ldZ (load_all agg34 size34 (xs := two (.slice aL n cL) (.slice aC m cC)) rfl HB0.out.at) ?_
 refine wpList_plain rfl (fun K hK => ?_); go_simp; refine hK _ _ ?_; clear hK K
 try simp only [Act.put, nrZ]
 refine wpList_plain rfl (fun K hK => ?_)
 go_simp
 refine (connAtG (.slice aL n cL) (.slice aC m cC) C k _ (CRow.next HC.out HF.out) (by have := HFIT.out.nc; rw [HM.out] at this ⊢; omega)).mono ?_
 rintro e w1 ⟨rfl, f1⟩
 refine hK _ _ ?_
 clear hK K
 rw [HI.out]
 simp only [place]
 try simp only [Act.put, nrZ]
 refine wpList_plain rfl (fun K hK => ?_); go_simp; refine hK _ _ ?_; clear hK K
 refine wpList_nil ?_
 try simp only [Act.put, nrZ]
 have HB01 := Lib.hid (HB0.out.keep f1 (by simp))
 have HB11 := Lib.hid (HB1.out.keep f1 (by simp))
 have HF1 := Lib.hid (HF.out.step f1)
 clear f1 HB0 HB1 HF HWA
 have c0 : w1.cell? ⟨B, 0, none⟩ = some (.slice aL n cL) := HB01.out.at 0 _ rfl
 have c1 : w1.cell? ⟨B, 1, none⟩ = some (.slice aC m cC) := HB01.out.at 1 _ rfl
 go_wp2_with fail
 refine (waitsG (.slice aL n cL) (.slice aC m cC) D k _ (LRow.next HL.out HF1.out) (by have := HFIT.out.nl; rw [HN.out] at this ⊢; omega) HFIT.out.q).mono ?_
 rintro e w2 ⟨rfl, f2⟩
 rw [HWT.out]
 have HB02 := Lib.hid (HB01.out.keep f2 (by simp))
 have HB12 := Lib.hid (HB11.out.keep f2 (by simp))
 have HF2 := Lib.hid (HF1.out.step f2)
 clear f2 HB01 HB11 HF1 c0 c1
 go_upto_region 8 with fail
 obtain ⟨g, off, cap, X, hvv, hg, hX, hl, q0, rfl, hrow⟩ := HC.out.lies HY.out
 rw [HM.out] at hvv
 simp only [Value.slice.injEq] at hvv
 obtain ⟨rfl, _, rfl⟩ := hvv
 have HLY := Lib.hid (show LiesAt w g (off + i * 17 + 1) (cnC y.c q0) from fun j u hj => by
  have := hl (j + 1) u (by simpa [pgC] using hj)
  rwa [show off + i * 17 + (j + 1) = off + i * 17 + 1 + j from by omega] at this)
 have HROW := Lib.hid hrow
 clear hl hrow hg hX
 have c1 : w2.cell? ⟨B, 1, none⟩ = some (.slice (some ⟨g, off, none⟩) m cC) := HB02.out.at 1 _ rfl
 refine wp_region_lit ?_
 iterate 5 (refine wpList_plain rfl (fun K hK => ?_); go_simp; refine hK _ _ ?_; clear hK K)
 try simp only [Act.put, nrZ]
 refine ldZ (load_all agg94 size94 (xs := cnC y.c q0) rfl (HLY.out.keep HF2.out (by simp))) ?_
 refine wpList_plain rfl (fun K hK => ?_); go_simp; refine hK _ _ ?_; clear hK K
 try simp only [Act.put, nrZ]
 refine wpList_plain rfl (fun K hK => ?_)
 go_simp
 refine (dClose_1 y.c q0 _).mono ?_
 rintro e w3 ⟨rfl, f3⟩
 refine hK _ _ ?_
 clear hK K
 try simp only [Act.put, nrZ]
 iterate 4 (refine wpList_plain rfl (fun K hK => ?_); go_simp; refine hK _ _ ?_; clear hK K)
 try simp only [Act.put, nrZ]
 obtain ⟨E4, hE_⟩ : ∃ E, w3.heap.size = E := ⟨_, rfl⟩
 obtain ⟨wx, hw_⟩ : ∃ z, w3.alloc (.cells #[.int .i64 0, .slice none 0 0, .bool false, .slice none 0 0, .int .i64 0, .int .i64 0, .int .i64 0, .int .i64 0, .slice none 0 0, .bool false, .slice none 0 0, .int .i64 0, .int .i64 0, .int .i64 0, .bool false, .bool false] 99) = z := ⟨_, rfl⟩
 have hbx : Blk wx E4 99 zCn := by rw [← hw_, ← hE_]; exact Blk.made w3 99 zCn
 have fx : Fr [] w3 wx := by rw [← hw_]; exact (Fr.refl [] w3).alloc _
 rw [hw_]
 simp only [hE_]
 have HE4 := Lib.hid (show w.heap.size ≤ E4 ∧ B < E4 ∧ B + 1 < E4 from by rw [← hE_]; exact ⟨(HF2.out.step f3).size, (HB02.out.keep f3 (by simp)).lt, (HB12.out.keep f3 (by simp)).lt⟩)
 have HX := Lib.hid hbx
 have HF3 := Lib.hid ((HF2.out.step f3).step fx)
 have HB03 := Lib.hid ((HB02.out.keep f3 (by simp)).keep fx (by simp))
 have HB13 := Lib.hid ((HB12.out.keep f3 (by simp)).keep fx (by simp))
 clear f3 fx hbx hw_ hE_ HB02 HB12 HF2 c1
 obtain ⟨w4, hst, hb_, hf_⟩ := store_all (t := 99) (cnC (y.c.close true).1 (y.c.closeq q0 true)) size94 rfl (cnC_one _ _) HX.out rfl
 refine stZ hst ?_
 clear hst
 refine wpList_plain rfl (fun K hK => ?_); go_simp; refine hK _ _ ?_; clear hK K
 refine wpList_nil ?_
 try simp only [Act.put, nrZ]
 have HX4 := Lib.hid hb_
 have HB04 := Lib.hid (HB03.out.keep hf_ (fun hm => by rw [List.mem_singleton] at hm; have := HE4.out; omega))
 have HB14 := Lib.hid (HB13.out.keep hf_ (fun hm => by rw [List.mem_singleton] at hm; have := HE4.out; omega))
 have HF4 := Lib.hid (HF3.out.own1 (S := []) (B := 0) hf_ HE4.out.1)
 clear hb_ hf_ HX HB03 HB13 HF3
 rw [HCL.out]
 go_upto_region 10 with fail
 refine wp_region_lit ?_
 refine ldZ (load_all agg34 size34 (xs := two (.slice aL n cL) (.slice (some ⟨g, off, none⟩) m cC)) rfl HB04.out.at) ?_
 refine wpList_plain rfl (fun K hK => ?_); go_simp; refine hK _ _ ?_; clear hK K
 try simp only [Act.put, nrZ]
 obtain ⟨w9, hst, hb_, hf_⟩ := store_all (t := 31) (two (.slice aL n cL) (.slice (some ⟨g, off, none⟩) m cC)) size34 rfl (two_oneS _ _ _ _ _ _) HB14.out rfl
 refine stZ hst ?_
 clear hst
 refine wpList_plain rfl (fun K hK => ?_); go_simp; refine hK _ _ ?_; clear hK K
 refine wpList_nil ?_
 try simp only [Act.put, nrZ]
 have HR9 := Lib.hid hb_
 have HF9 := Lib.hid (HF4.out.own1 (S := []) (B := 0) hf_ (by have := HBS.out; omega))
 clear hb_ hf_
 go_wp2
 have hl := load_var agg34 size34 (xs := two (.slice aL n cL) (.slice (some ⟨g, off, none⟩) m cC)) rfl HR9.out.at
 refine bodyPost_ret (v := .tuple #[.agg (two (.slice aL n cL) (.slice (some ⟨g, off, none⟩) m cC)).toArray, .int .i64 14]) (by simp [results, Tryz.results21, as_addr, hl]) rfl ?_
 exact ⟨rfl, HF9.out⟩
theorem nHang_ok_1_0 (vL vC : Value) (D : List PN.PL) (C : List PG) (k : Int) (w : World) (hL : LRow w vL D) (hC : CRow w vC C) (hn : NetFit D C) (i : Nat) (y : PG) (hi : PN.pick (refG k) C 0 = some (i, y)) (hw : k ∉ PN.waitsOf D) (ha : y.c.a1 = false) (hbo : ((y.c.close true).1.a0 && (y.c.close true).1.a1) = false) :
  Calls Tryz.prog 21 #[.agg #[vL, vC], .int .i64 k, .int .i64 1] w (NetRd w D (C.set i ⟨y.ref, (y.c.close true).1⟩) [.int .i64 0]) := by
 obtain ⟨n, hnl⟩ : ∃ n, D.length = n := ⟨_, rfl⟩
 obtain ⟨m, hml⟩ : ∃ m, C.length = m := ⟨_, rfl⟩
 obtain ⟨aL, cL, rfl⟩ := hL.val
 obtain ⟨aC, cC, rfl⟩ := hC.val
 rw [hnl] at hL ⊢
 rw [hml] at hC ⊢
 have HN := Lib.hid hnl
 have HM := Lib.hid hml
 obtain ⟨B, hB⟩ : ∃ B, w.heap.size = B := ⟨_, rfl⟩
 obtain ⟨wA, hwA⟩ : ∃ z, (w.alloc (.cells #[.slice aL n cL, .slice aC m cC] 31)).alloc (.cells #[.slice none 0 0, .slice none 0 0] 31) = z := ⟨_, rfl⟩
 have f2 := (Fr.refl [] (w.alloc (.cells #[.slice aL n cL, .slice aC m cC] 31))).alloc (.cells #[.slice none 0 0, .slice none 0 0] 31)
 have hb0 : Blk wA B 31 (two (.slice aL n cL) (.slice aC m cC)) := by
  rw [← hwA, ← hB]
  exact (Blk.made w 31 (two (.slice aL n cL) (.slice aC m cC))).keep f2 (by simp)
 have hb1 : Blk wA (B + 1) 31 zNt := by
  have h := Blk.made (w.alloc (.cells #[.slice aL n cL, .slice aC m cC] 31)) 31 zNt
  rw [show (w.alloc (.cells #[.slice aL n cL, .slice aC m cC] 31)).heap.size = B + 1 from by rw [← hB]; simp] at h
  rw [← hwA]
  exact h
 have hf : Fr [] w wA := by rw [← hwA]; exact ((Fr.refl [] w).alloc _).step f2
 have HB0 := Lib.hid hb0
 have HB1 := Lib.hid hb1
 have HF := Lib.hid hf
 have HBS := Lib.hid hB
 have HWA := Lib.hid hwA
 have HL := Lib.hid hL
 have HC := Lib.hid hC
 clear hb0 hb1 hf hB hwA f2 hL hC hnl hml
 have HFIT := Lib.hid hn
 clear hn
 have hY := place_some hi
 have hin : i < m := by rw [← HM.out]; exact (List.getElem?_eq_some_iff.1 hY).1
 have HI := Lib.hid hi
 have HY := Lib.hid hY
 have hi0 : (0 : Int) ≤ (i : Int) := by omega
 have hin' : (i : Int) < (m : Int) := by omega
 have dlt : decide ((i : Int) < 0) = false := decide_eq_false (by omega)
 clear hi hY
 have HWT := Lib.hid (decide_eq_false hw)
 clear hw
 have hcl : (y.c.close true).2 = 0 := by
  unfold CC.close CC.isShut
  simp [ha]
 have HCL := Lib.hid hcl
 have HBO := Lib.hid hbo
 clear hcl ha hbo
 go_enter Tryz.func21, Tryz.ntmps21
 go_wp2_with fail
 rw [HWA.out]
 simp only [HBS.out]
 refine (refEndG 1 (by omega) _).mono ?_
 rintro e w' ⟨rfl, rfl⟩
 go_upto_region 3 with fail
 refine wp_region_lit ?_
 refine ldZ (load_all agg34 size34 (xs := two (.slice aL n cL) (.slice aC m cC)) rfl HB0.out.at) ?_
 refine wpList_plain rfl (fun K hK => ?_); go_simp; refine hK _ _ ?_; clear hK K
 try simp only [Act.put, nrZ]
 refine wpList_plain rfl (fun K hK => ?_)
 go_simp
 refine (connAtG (.slice aL n cL) (.slice aC m cC) C k _ (CRow.next HC.out HF.out) (by have := HFIT.out.nc; rw [HM.out] at this ⊢; omega)).mono ?_
 rintro e w1 ⟨rfl, f1⟩
 refine hK _ _ ?_
 clear hK K
 rw [HI.out]
 simp only [place]
 try simp only [Act.put, nrZ]
 refine wpList_plain rfl (fun K hK => ?_); go_simp; refine hK _ _ ?_; clear hK K
 refine wpList_nil ?_
 try simp only [Act.put, nrZ]
 have HB01 := Lib.hid (HB0.out.keep f1 (by simp))
 have HB11 := Lib.hid (HB1.out.keep f1 (by simp))
 have HF1 := Lib.hid (HF.out.step f1)
 clear f1 HB0 HB1 HF HWA
 have c0 : w1.cell? ⟨B, 0, none⟩ = some (.slice aL n cL) := HB01.out.at 0 _ rfl
 have c1 : w1.cell? ⟨B, 1, none⟩ = some (.slice aC m cC) := HB01.out.at 1 _ rfl
 go_wp2_with fail
 refine (waitsG (.slice aL n cL) (.slice aC m cC) D k _ (LRow.next HL.out HF1.out) (by have := HFIT.out.nl; rw [HN.out] at this ⊢; omega) HFIT.out.q).mono ?_
 rintro e w2 ⟨rfl, f2⟩
 rw [HWT.out]
 have HB02 := Lib.hid (HB01.out.keep f2 (by simp))
 have HB12 := Lib.hid (HB11.out.keep f2 (by simp))
 have HF2 := Lib.hid (HF1.out.step f2)
 clear f2 HB01 HB11 HF1 c0 c1
 go_upto_region 8 with fail
 obtain ⟨g, off, cap, X, hvv, hg, hX, hl, q0, rfl, hrow⟩ := HC.out.lies HY.out
 rw [HM.out] at hvv
 simp only [Value.slice.injEq] at hvv
 obtain ⟨rfl, _, rfl⟩ := hvv
 have HLY := Lib.hid (show LiesAt w g (off + i * 17 + 1) (cnC y.c q0) from fun j u hj => by
  have := hl (j + 1) u (by simpa [pgC] using hj)
  rwa [show off + i * 17 + (j + 1) = off + i * 17 + 1 + j from by omega] at this)
 have HROW := Lib.hid hrow
 clear hl hrow hg hX
 have c1 : w2.cell? ⟨B, 1, none⟩ = some (.slice (some ⟨g, off, none⟩) m cC) := HB02.out.at 1 _ rfl
 refine wp_region_lit ?_
 iterate 5 (refine wpList_plain rfl (fun K hK => ?_); go_simp; refine hK _ _ ?_; clear hK K)
 try simp only [Act.put, nrZ]
 refine ldZ (load_all agg94 size94 (xs := cnC y.c q0) rfl (HLY.out.keep HF2.out (by simp))) ?_
 refine wpList_plain rfl (fun K hK => ?_); go_simp; refine hK _ _ ?_; clear hK K
 try simp only [Act.put, nrZ]
 refine wpList_plain rfl (fun K hK => ?_)
 go_simp
 refine (dClose_1 y.c q0 _).mono ?_
 rintro e w3 ⟨rfl, f3⟩
 refine hK _ _ ?_
 clear hK K
 try simp only [Act.put, nrZ]
 iterate 4 (refine wpList_plain rfl (fun K hK => ?_); go_simp; refine hK _ _ ?_; clear hK K)
 try simp only [Act.put, nrZ]
 obtain ⟨E4, hE_⟩ : ∃ E, w3.heap.size = E := ⟨_, rfl⟩
 obtain ⟨wx, hw_⟩ : ∃ z, w3.alloc (.cells #[.int .i64 0, .slice none 0 0, .bool false, .slice none 0 0, .int .i64 0, .int .i64 0, .int .i64 0, .int .i64 0, .slice none 0 0, .bool false, .slice none 0 0, .int .i64 0, .int .i64 0, .int .i64 0, .bool false, .bool false] 99) = z := ⟨_, rfl⟩
 have hbx : Blk wx E4 99 zCn := by rw [← hw_, ← hE_]; exact Blk.made w3 99 zCn
 have fx : Fr [] w3 wx := by rw [← hw_]; exact (Fr.refl [] w3).alloc _
 rw [hw_]
 simp only [hE_]
 have HE4 := Lib.hid (show w.heap.size ≤ E4 ∧ B < E4 ∧ B + 1 < E4 from by rw [← hE_]; exact ⟨(HF2.out.step f3).size, (HB02.out.keep f3 (by simp)).lt, (HB12.out.keep f3 (by simp)).lt⟩)
 have HX := Lib.hid hbx
 have HF3 := Lib.hid ((HF2.out.step f3).step fx)
 have HB03 := Lib.hid ((HB02.out.keep f3 (by simp)).keep fx (by simp))
 have HB13 := Lib.hid ((HB12.out.keep f3 (by simp)).keep fx (by simp))
 clear f3 fx hbx hw_ hE_ HB02 HB12 HF2 c1
 obtain ⟨w4, hst, hb_, hf_⟩ := store_all (t := 99) (cnC (y.c.close true).1 (y.c.closeq q0 true)) size94 rfl (cnC_one _ _) HX.out rfl
 refine stZ hst ?_
 clear hst
 refine wpList_plain rfl (fun K hK => ?_); go_simp; refine hK _ _ ?_; clear hK K
 refine wpList_nil ?_
 try simp only [Act.put, nrZ]
 have HX4 := Lib.hid hb_
 have HB04 := Lib.hid (HB03.out.keep hf_ (fun hm => by rw [List.mem_singleton] at hm; have := HE4.out; omega))
 have HB14 := Lib.hid (HB13.out.keep hf_ (fun hm => by rw [List.mem_singleton] at hm; have := HE4.out; omega))
 have HF4 := Lib.hid (HF3.out.own1 (S := []) (B := 0) hf_ HE4.out.1)
 clear hb_ hf_ HX HB03 HB13 HF3
 rw [HCL.out]
 go_upto_region 11 with fail
 refine wp_region_lit ?_
 refine ldZ (load_all agg34 size34 (xs := two (.slice aL n cL) (.slice (some ⟨g, off, none⟩) m cC)) rfl HB04.out.at) ?_
 refine wpList_plain rfl (fun K hK => ?_)
 go_simp
 refine (nCopy_any (.slice aL n cL) (.slice (some ⟨g, off, none⟩) m cC) D C _ (LRow.next HL.out HF4.out) (CRow.next HC.out HF4.out) HFIT.out).mono ?_
 rintro e w5 ⟨sL, sC, rfl, oL, oC, f5⟩
 refine hK _ _ ?_
 clear hK K
 try simp only [Act.put, nrZ]
 refine wpList_plain rfl (fun K hK => ?_); go_simp; refine hK _ _ ?_; clear hK K
 try simp only [Act.put, nrZ]
 have HOL5 := Lib.hid (oL.base (B' := B) (by rw [← HBS.out]; exact HF4.out.size))
 have HOC5 := Lib.hid (oC.base (B' := B) (by rw [← HBS.out]; exact HF4.out.size))
 have HX5 := Lib.hid (HX4.out.keep f5 (by simp))
 have HB15 := Lib.hid (HB14.out.keep f5 (by simp))
 have HF5 := Lib.hid (HF4.out.step f5)
 clear oL oC f5 HX4 HB04 HB14 HF4
 obtain ⟨E6, hE_⟩ : ∃ E, w5.heap.size = E := ⟨_, rfl⟩
 obtain ⟨wy, hw_⟩ : ∃ z, w5.alloc (.cells #[.slice none 0 0, .slice none 0 0] 31) = z := ⟨_, rfl⟩
 have hbx : Blk wy E6 31 zNt := by rw [← hw_, ← hE_]; exact Blk.made w5 31 zNt
 have fx : Fr [] w5 wy := by rw [← hw_]; exact (Fr.refl [] w5).alloc _
 rw [hw_]
 simp only [hE_]
 have HE6 := Lib.hid (show w.heap.size ≤ E6 ∧ B + 1 < E6 ∧ E4 < E6 from by rw [← hE_]; exact ⟨HF5.out.size, HB15.out.lt, HX5.out.lt⟩)
 have HY6 := Lib.hid hbx
 have HX6 := Lib.hid (HX5.out.keep fx (by simp))
 have HB16 := Lib.hid (HB15.out.keep fx (by simp))
 have HF6 := Lib.hid (HF5.out.step fx)
 have HOL6 := Lib.hid (HOL5.out.next fx)
 have HOC6 := Lib.hid (HOC5.out.next fx)
 clear fx hbx hw_ hE_ HX5 HB15 HF5 HOL5 HOC5
 obtain ⟨w7, hst, hb_, hf_⟩ := store_all (t := 31) (two (slv sL) (slv sC)) size34 rfl (two_one _ _) HY6.out rfl
 refine stZ hst ?_
 clear hst
 refine wpList_nil ?_
 try simp only [Act.put, nrZ]
 have HY7 := Lib.hid hb_
 have HX7 := Lib.hid (HX6.out.keep hf_ (fun hm => by rw [List.mem_singleton] at hm; have := HE6.out; omega))
 have HB17 := Lib.hid (HB16.out.keep hf_ (fun hm => by rw [List.mem_singleton] at hm; have := HE6.out; omega))
 have HF7 := Lib.hid (HF6.out.own1 (S := []) (B := 0) hf_ HE6.out.1)
 have HOL7 := Lib.hid (HOL6.out.far HY6.out hf_ (by decide) (by decide))
 obtain ⟨Xs, hrec, hown⟩ := HOC6.out.far HY6.out hf_ (by decide) (by decide)
 rw [HM.out] at hown
 have HREC7 := Lib.hid hrec
 have HOWN7 := Lib.hid hown
 clear hb_ hf_ HY6 HX6 HB16 HF6 HOL6 HOC6
 have hXi := List.getElem?_eq_getElem (l := Xs) (i := i) (by rw [hrec.len, HM.out]; exact hin)
 obtain ⟨X, hXX⟩ : ∃ X, Xs[i]'(by rw [hrec.len, HM.out]; exact hin) = X := ⟨_, rfl⟩
 rw [hXX] at hXi
 obtain ⟨q, rfl, hqo⟩ := hrec.el i X y hXi HY.out
 have HXI := Lib.hid hXi
 obtain ⟨sC1, sC2, sC3⟩ := sC
 obtain ⟨gC, hgC, hsn⟩ : ∃ gC, sC1 = some ⟨gC, 0, none⟩ ∧ sC2 = m := by
  rcases hown.2 with ⟨he, h0⟩ | ⟨gC, cap, cur, he, _⟩
  ·omega
  ·simp only [slv, Value.slice.injEq] at he
   exact ⟨gC, he.1, he.2.1⟩
 subst hgC
 subst hsn
 have c7 : w7.cell? ⟨E6, 1, none⟩ = some (.slice (some ⟨gC, 0, none⟩) sC2 sC3) := HY7.out.at 1 _ rfl
 clear hrec hown hqo hXi hXX
 go_upto_region 12 with fail
 refine wp_region_lit ?_
 iterate 3 (refine wpList_plain rfl (fun K hK => ?_); go_simp; refine hK _ _ ?_; clear hK K)
 try simp only [Act.put, nrZ]
 refine ldZ (load_all agg94 size94 (xs := cnC (y.c.close true).1 (y.c.closeq q0 true)) rfl HX7.out.at) ?_
 iterate 2 (refine wpList_plain rfl (fun K hK => ?_); go_simp; refine hK _ _ ?_; clear hK K)
 try simp only [Act.put, nrZ]
 obtain ⟨w8, hst, hrow8, hf_⟩ := own_store (t := 99) (k := i * 17 + 1) (cnC (y.c.close true).1 (y.c.closeq q0 true)) (.agg (cnC (y.c.close true).1 (y.c.closeq q0 true)).toArray) size94 rfl rfl (cnC_one _ _) HOWN7.out (by show i * 17 + 1 + 16 ≤ sC2 * 17; omega)
 refine stZ hst ?_
 clear hst c7
 try simp only [Act.put, nrZ]
 refine wpList_nil ?_
 try simp only [Act.put, nrZ]
 have hfo : Fr (Value.ownBlock (slv (some ⟨gC, 0, none⟩, sC2, sC3))).toList w7 w8 := hf_
 have HY8 := Lib.hid (HY7.out.farRow HOWN7.out hfo (by decide))
 have HX8 := Lib.hid (HX7.out.farRow HOWN7.out hfo (by decide))
 have HB18 := Lib.hid (HB17.out.farRow HOWN7.out hfo (by decide))
 have HF8 := Lib.hid (HF7.out.ownRow HOWN7.out hfo (by rw [HBS.out]; exact Nat.le_refl _))
 have HOL8 := Lib.hid (HOL7.out.farRow HOWN7.out hfo (by decide) (by decide))
 have HREC8 := Lib.hid (HREC7.out.mono (fun X z ⟨s, e1, e2⟩ => (⟨s, e1, ⟨rowFar e2.b0 HOWN7.out hfo (by decide), rowFar e2.r0 HOWN7.out hfo (by decide), rowFar e2.b1 HOWN7.out hfo (by decide), rowFar e2.r1 HOWN7.out hfo (by decide)⟩⟩ : ElCO B w8 X z)))
 have HOWN8 := Lib.hid (show w8.ownsRow B 138 17 (slv (some ⟨gC, 0, none⟩, sC2, sC3)) sC2 (Xs.set i (pgC ⟨y.ref, (y.c.close true).1⟩ (y.c.closeq q0 true))).flatten from by
  have hfl := flat_set (vs := cnC (y.c.close true).1 (y.c.closeq q0 true)) (a := 1) HREC7.out.sz HXI.out (by show 1 + 16 ≤ 17; omega)
  have hX' : (pgC y q).take 1 ++ cnC (y.c.close true).1 (y.c.closeq q0 true) ++ (pgC y q).drop (1 + (cnC (y.c.close true).1 (y.c.closeq q0 true)).length) = pgC ⟨y.ref, (y.c.close true).1⟩ (y.c.closeq q0 true) := rfl
  rw [hX'] at hfl
  rw [hfl]
  exact hrow8)
 clear hfo hf_ hrow8 HY7 HX7 HB17 HF7 HOL7 HREC7 HOWN7
 have k0 : w8.cell? ⟨E4, 14, none⟩ = some (.bool (y.c.close true).1.a0) := HX8.out.at 14 _ rfl
 have k1 : w8.cell? ⟨E4, 15, none⟩ = some (.bool (y.c.close true).1.a1) := HX8.out.at 15 _ rfl
 obtain ⟨b0, hb0⟩ : ∃ z, (y.c.close true).1.a0 = z := ⟨_, rfl⟩
 obtain ⟨b1, hb1⟩ : ∃ z, (y.c.close true).1.a1 = z := ⟨_, rfl⟩
 have HB01 := Lib.hid HBO.out
 rw [hb0, hb1] at HB01
 rw [hb0] at k0
 rw [hb1] at k1
 clear hb0 hb1
 cases b0 with
 | true =>
  cases b1 with
  | true => exact absurd HB01.out (by decide)
  | false =>
   go_upto_region 15 with fail
   refine wp_region_lit ?_
   refine ldZ (load_all agg34 size34 (xs := two (slv sL) (slv (some ⟨gC, 0, none⟩, sC2, sC3))) rfl HY8.out.at) ?_
   obtain ⟨w15, hst, hb_, hf_⟩ := store_all (t := 31) (two (slv sL) (slv (some ⟨gC, 0, none⟩, sC2, sC3))) size34 rfl (two_one _ _) HB18.out rfl
   refine stZ hst ?_
   clear hst
   refine wpList_plain rfl (fun K hK => ?_); go_simp; refine hK _ _ ?_; clear hK K
   refine wpList_nil ?_
   try simp only [Act.put, nrZ]
   have HR15 := Lib.hid hb_
   have HF15 := Lib.hid (HF8.out.own1 (S := []) (B := 0) hf_ (by have := HBS.out; omega))
   have HOL15 := Lib.hid (HOL8.out.far HB18.out hf_ (by decide) (by decide))
   have HCR15 := Lib.hid (show CRd w15 B (slv (some ⟨gC, 0, none⟩, sC2, sC3)) (C.set i ⟨y.ref, (y.c.close true).1⟩) from by
    refine ⟨?_, fun g hg => (HOWN8.out.lt g hg).1⟩
    refine ⟨Xs.set i (pgC ⟨y.ref, (y.c.close true).1⟩ (y.c.closeq q0 true)), ?_, ?_⟩
    ·refine (HREC8.out.mono (fun X z ⟨s, e1, e2⟩ => (⟨s, e1, (e2.store HB18.out hf_ (by decide)).b⟩ : ElC w15 X z))).set i rfl (pgC_one _ _) ⟨_, rfl, ?_⟩
     exact ((HROW.out.new HF15.out).close true)
    ·rw [List.length_set, HM.out]
     exact RowV.of_own (rowFr' HOWN8.out hf_ (fun g hg hm => by rw [List.mem_singleton] at hm; subst hm; exact blkNe HB18.out HOWN8.out (by decide) hg)))
   clear hb_ hf_
   go_wp2
   have hl := load_var agg34 size34 (xs := two (slv sL) (slv (some ⟨gC, 0, none⟩, sC2, sC3))) rfl HR15.out.at
   refine bodyPost_ret (v := .tuple #[.agg (two (slv sL) (slv (some ⟨gC, 0, none⟩, sC2, sC3))).toArray, .int .i64 0]) (by simp [results, Tryz.results21, as_addr, hl]) rfl ?_
   exact ⟨sL, (some ⟨gC, 0, none⟩, sC2, sC3), rfl, by rw [HBS.out]; exact HOL15.out.ro, by rw [HBS.out]; exact HCR15.out, HF15.out⟩
 | false =>
  go_upto_region 15 with fail
  refine wp_region_lit ?_
  refine ldZ (load_all agg34 size34 (xs := two (slv sL) (slv (some ⟨gC, 0, none⟩, sC2, sC3))) rfl HY8.out.at) ?_
  obtain ⟨w15, hst, hb_, hf_⟩ := store_all (t := 31) (two (slv sL) (slv (some ⟨gC, 0, none⟩, sC2, sC3))) size34 rfl (two_one _ _) HB18.out rfl
  refine stZ hst ?_
  clear hst
  refine wpList_plain rfl (fun K hK => ?_); go_simp; refine hK _ _ ?_; clear hK K
  refine wpList_nil ?_
  try simp only [Act.put, nrZ]
  have HR15 := Lib.hid hb_
  have HF15 := Lib.hid (HF8.out.own1 (S := []) (B := 0) hf_ (by have := HBS.out; omega))
  have HOL15 := Lib.hid (HOL8.out.far HB18.out hf_ (by decide) (by decide))
  have HCR15 := Lib.hid (show CRd w15 B (slv (some ⟨gC, 0, none⟩, sC2, sC3)) (C.set i ⟨y.ref, (y.c.close true).1⟩) from by
   refine ⟨?_, fun g hg => (HOWN8.out.lt g hg).1⟩
   refine ⟨Xs.set i (pgC ⟨y.ref, (y.c.close true).1⟩ (y.c.closeq q0 true)), ?_, ?_⟩
   ·refine (HREC8.out.mono (fun X z ⟨s, e1, e2⟩ => (⟨s, e1, (e2.store HB18.out hf_ (by decide)).b⟩ : ElC w15 X z))).set i rfl (pgC_one _ _) ⟨_, rfl, ?_⟩
    exact ((HROW.out.new HF15.out).close true)
   ·rw [List.length_set, HM.out]
    exact RowV.of_own (rowFr' HOWN8.out hf_ (fun g hg hm => by rw [List.mem_singleton] at hm; subst hm; exact blkNe HB18.out HOWN8.out (by decide) hg)))
  clear hb_ hf_
  go_wp2
  have hl := load_var agg34 size34 (xs := two (slv sL) (slv (some ⟨gC, 0, none⟩, sC2, sC3))) rfl HR15.out.at
  refine bodyPost_ret (v := .tuple #[.agg (two (slv sL) (slv (some ⟨gC, 0, none⟩, sC2, sC3))).toArray, .int .i64 0]) (by simp [results, Tryz.results21, as_addr, hl]) rfl ?_
  exact ⟨sL, (some ⟨gC, 0, none⟩, sC2, sC3), rfl, by rw [HBS.out]; exact HOL15.out.ro, by rw [HBS.out]; exact HCR15.out, HF15.out⟩
theorem nHang_ok_1_1 (vL vC : Value) (D : List PN.PL) (C : List PG) (k : Int) (w : World) (hL : LRow w vL D) (hC : CRow w vC C) (hn : NetFit D C) (i : Nat) (y : PG) (hi : PN.pick (refG k) C 0 = some (i, y)) (hw : k ∉ PN.waitsOf D) (ha : y.c.a1 = false) (hbo : ((y.c.close true).1.a0 && (y.c.close true).1.a1) = true) :
  Calls Tryz.prog 21 #[.agg #[vL, vC], .int .i64 k, .int .i64 1] w (NetRd w D (C.take i ++ C.drop (i + 1)) [.int .i64 0]) := by
 obtain ⟨n, hnl⟩ : ∃ n, D.length = n := ⟨_, rfl⟩
 obtain ⟨m, hml⟩ : ∃ m, C.length = m := ⟨_, rfl⟩
 obtain ⟨aL, cL, rfl⟩ := hL.val
 obtain ⟨aC, cC, rfl⟩ := hC.val
 rw [hnl] at hL ⊢
 rw [hml] at hC ⊢
 have HN := Lib.hid hnl
 have HM := Lib.hid hml
 obtain ⟨B, hB⟩ : ∃ B, w.heap.size = B := ⟨_, rfl⟩
 obtain ⟨wA, hwA⟩ : ∃ z, (w.alloc (.cells #[.slice aL n cL, .slice aC m cC] 31)).alloc (.cells #[.slice none 0 0, .slice none 0 0] 31) = z := ⟨_, rfl⟩
 have f2 := (Fr.refl [] (w.alloc (.cells #[.slice aL n cL, .slice aC m cC] 31))).alloc (.cells #[.slice none 0 0, .slice none 0 0] 31)
 have hb0 : Blk wA B 31 (two (.slice aL n cL) (.slice aC m cC)) := by
  rw [← hwA, ← hB]
  exact (Blk.made w 31 (two (.slice aL n cL) (.slice aC m cC))).keep f2 (by simp)
 have hb1 : Blk wA (B + 1) 31 zNt := by
  have h := Blk.made (w.alloc (.cells #[.slice aL n cL, .slice aC m cC] 31)) 31 zNt
  rw [show (w.alloc (.cells #[.slice aL n cL, .slice aC m cC] 31)).heap.size = B + 1 from by rw [← hB]; simp] at h
  rw [← hwA]
  exact h
 have hf : Fr [] w wA := by rw [← hwA]; exact ((Fr.refl [] w).alloc _).step f2
 have HB0 := Lib.hid hb0
 have HB1 := Lib.hid hb1
 have HF := Lib.hid hf
 have HBS := Lib.hid hB
 have HWA := Lib.hid hwA
 have HL := Lib.hid hL
 have HC := Lib.hid hC
 clear hb0 hb1 hf hB hwA f2 hL hC hnl hml
 have HFIT := Lib.hid hn
 clear hn
 have hY := place_some hi
 have hin : i < m := by rw [← HM.out]; exact (List.getElem?_eq_some_iff.1 hY).1
 have HI := Lib.hid hi
 have HY := Lib.hid hY
 have hi0 : (0 : Int) ≤ (i : Int) := by omega
 have hin' : (i : Int) < (m : Int) := by omega
 have dlt : decide ((i : Int) < 0) = false := decide_eq_false (by omega)
 clear hi hY
 have HWT := Lib.hid (decide_eq_false hw)
 clear hw
 have hcl : (y.c.close true).2 = 0 := by
  unfold CC.close CC.isShut
  simp [ha]
 have HCL := Lib.hid hcl
 have HBO := Lib.hid hbo
 clear hcl ha hbo
 go_enter Tryz.func21, Tryz.ntmps21
 go_wp2_with fail
 rw [HWA.out]
 simp only [HBS.out]
 refine (refEndG 1 (by omega) _).mono ?_
 rintro e w' ⟨rfl, rfl⟩
 go_upto_region 3 with fail
 refine wp_region_lit ?_
 refine ldZ (load_all agg34 size34 (xs := two (.slice aL n cL) (.slice aC m cC)) rfl HB0.out.at) ?_
 refine wpList_plain rfl (fun K hK => ?_); go_simp; refine hK _ _ ?_; clear hK K
 try simp only [Act.put, nrZ]
 refine wpList_plain rfl (fun K hK => ?_)
 go_simp
 refine (connAtG (.slice aL n cL) (.slice aC m cC) C k _ (CRow.next HC.out HF.out) (by have := HFIT.out.nc; rw [HM.out] at this ⊢; omega)).mono ?_
 rintro e w1 ⟨rfl, f1⟩
 refine hK _ _ ?_
 clear hK K
 rw [HI.out]
 simp only [place]
 try simp only [Act.put, nrZ]
 refine wpList_plain rfl (fun K hK => ?_); go_simp; refine hK _ _ ?_; clear hK K
 refine wpList_nil ?_
 try simp only [Act.put, nrZ]
 have HB01 := Lib.hid (HB0.out.keep f1 (by simp))
 have HB11 := Lib.hid (HB1.out.keep f1 (by simp))
 have HF1 := Lib.hid (HF.out.step f1)
 clear f1 HB0 HB1 HF HWA
 have c0 : w1.cell? ⟨B, 0, none⟩ = some (.slice aL n cL) := HB01.out.at 0 _ rfl
 have c1 : w1.cell? ⟨B, 1, none⟩ = some (.slice aC m cC) := HB01.out.at 1 _ rfl
 go_wp2_with fail
 refine (waitsG (.slice aL n cL) (.slice aC m cC) D k _ (LRow.next HL.out HF1.out) (by have := HFIT.out.nl; rw [HN.out] at this ⊢; omega) HFIT.out.q).mono ?_
 rintro e w2 ⟨rfl, f2⟩
 rw [HWT.out]
 have HB02 := Lib.hid (HB01.out.keep f2 (by simp))
 have HB12 := Lib.hid (HB11.out.keep f2 (by simp))
 have HF2 := Lib.hid (HF1.out.step f2)
 clear f2 HB01 HB11 HF1 c0 c1
 go_upto_region 8 with fail
 obtain ⟨g, off, cap, X, hvv, hg, hX, hl, q0, rfl, hrow⟩ := HC.out.lies HY.out
 rw [HM.out] at hvv
 simp only [Value.slice.injEq] at hvv
 obtain ⟨rfl, _, rfl⟩ := hvv
 have HLY := Lib.hid (show LiesAt w g (off + i * 17 + 1) (cnC y.c q0) from fun j u hj => by
  have := hl (j + 1) u (by simpa [pgC] using hj)
  rwa [show off + i * 17 + (j + 1) = off + i * 17 + 1 + j from by omega] at this)
 have HROW := Lib.hid hrow
 clear hl hrow hg hX
 have c1 : w2.cell? ⟨B, 1, none⟩ = some (.slice (some ⟨g, off, none⟩) m cC) := HB02.out.at 1 _ rfl
 refine wp_region_lit ?_
 iterate 5 (refine wpList_plain rfl (fun K hK => ?_); go_simp; refine hK _ _ ?_; clear hK K)
 try simp only [Act.put, nrZ]
 refine ldZ (load_all agg94 size94 (xs := cnC y.c q0) rfl (HLY.out.keep HF2.out (by simp))) ?_
 refine wpList_plain rfl (fun K hK => ?_); go_simp; refine hK _ _ ?_; clear hK K
 try simp only [Act.put, nrZ]
 refine wpList_plain rfl (fun K hK => ?_)
 go_simp
 refine (dClose_1 y.c q0 _).mono ?_
 rintro e w3 ⟨rfl, f3⟩
 refine hK _ _ ?_
 clear hK K
 try simp only [Act.put, nrZ]
 iterate 4 (refine wpList_plain rfl (fun K hK => ?_); go_simp; refine hK _ _ ?_; clear hK K)
 try simp only [Act.put, nrZ]
 obtain ⟨E4, hE_⟩ : ∃ E, w3.heap.size = E := ⟨_, rfl⟩
 obtain ⟨wx, hw_⟩ : ∃ z, w3.alloc (.cells #[.int .i64 0, .slice none 0 0, .bool false, .slice none 0 0, .int .i64 0, .int .i64 0, .int .i64 0, .int .i64 0, .slice none 0 0, .bool false, .slice none 0 0, .int .i64 0, .int .i64 0, .int .i64 0, .bool false, .bool false] 99) = z := ⟨_, rfl⟩
 have hbx : Blk wx E4 99 zCn := by rw [← hw_, ← hE_]; exact Blk.made w3 99 zCn
 have fx : Fr [] w3 wx := by rw [← hw_]; exact (Fr.refl [] w3).alloc _
 rw [hw_]
 simp only [hE_]
 have HE4 := Lib.hid (show w.heap.size ≤ E4 ∧ B < E4 ∧ B + 1 < E4 from by rw [← hE_]; exact ⟨(HF2.out.step f3).size, (HB02.out.keep f3 (by simp)).lt, (HB12.out.keep f3 (by simp)).lt⟩)
 have HX := Lib.hid hbx
 have HF3 := Lib.hid ((HF2.out.step f3).step fx)
 have HB03 := Lib.hid ((HB02.out.keep f3 (by simp)).keep fx (by simp))
 have HB13 := Lib.hid ((HB12.out.keep f3 (by simp)).keep fx (by simp))
 clear f3 fx hbx hw_ hE_ HB02 HB12 HF2 c1
 obtain ⟨w4, hst, hb_, hf_⟩ := store_all (t := 99) (cnC (y.c.close true).1 (y.c.closeq q0 true)) size94 rfl (cnC_one _ _) HX.out rfl
 refine stZ hst ?_
 clear hst
 refine wpList_plain rfl (fun K hK => ?_); go_simp; refine hK _ _ ?_; clear hK K
 refine wpList_nil ?_
 try simp only [Act.put, nrZ]
 have HX4 := Lib.hid hb_
 have HB04 := Lib.hid (HB03.out.keep hf_ (fun hm => by rw [List.mem_singleton] at hm; have := HE4.out; omega))
 have HB14 := Lib.hid (HB13.out.keep hf_ (fun hm => by rw [List.mem_singleton] at hm; have := HE4.out; omega))
 have HF4 := Lib.hid (HF3.out.own1 (S := []) (B := 0) hf_ HE4.out.1)
 clear hb_ hf_ HX HB03 HB13 HF3
 rw [HCL.out]
 go_upto_region 11 with fail
 refine wp_region_lit ?_
 refine ldZ (load_all agg34 size34 (xs := two (.slice aL n cL) (.slice (some ⟨g, off, none⟩) m cC)) rfl HB04.out.at) ?_
 refine wpList_plain rfl (fun K hK => ?_)
 go_simp
 refine (nCopy_any (.slice aL n cL) (.slice (some ⟨g, off, none⟩) m cC) D C _ (LRow.next HL.out HF4.out) (CRow.next HC.out HF4.out) HFIT.out).mono ?_
 rintro e w5 ⟨sL, sC, rfl, oL, oC, f5⟩
 refine hK _ _ ?_
 clear hK K
 try simp only [Act.put, nrZ]
 refine wpList_plain rfl (fun K hK => ?_); go_simp; refine hK _ _ ?_; clear hK K
 try simp only [Act.put, nrZ]
 have HOL5 := Lib.hid (oL.base (B' := B) (by rw [← HBS.out]; exact HF4.out.size))
 have HOC5 := Lib.hid (oC.base (B' := B) (by rw [← HBS.out]; exact HF4.out.size))
 have HX5 := Lib.hid (HX4.out.keep f5 (by simp))
 have HB15 := Lib.hid (HB14.out.keep f5 (by simp))
 have HF5 := Lib.hid (HF4.out.step f5)
 clear oL oC f5 HX4 HB04 HB14 HF4
 obtain ⟨E6, hE_⟩ : ∃ E, w5.heap.size = E := ⟨_, rfl⟩
 obtain ⟨wy, hw_⟩ : ∃ z, w5.alloc (.cells #[.slice none 0 0, .slice none 0 0] 31) = z := ⟨_, rfl⟩
 have hbx : Blk wy E6 31 zNt := by rw [← hw_, ← hE_]; exact Blk.made w5 31 zNt
 have fx : Fr [] w5 wy := by rw [← hw_]; exact (Fr.refl [] w5).alloc _
 rw [hw_]
 simp only [hE_]
 have HE6 := Lib.hid (show w.heap.size ≤ E6 ∧ B + 1 < E6 ∧ E4 < E6 from by rw [← hE_]; exact ⟨HF5.out.size, HB15.out.lt, HX5.out.lt⟩)
 have HY6 := Lib.hid hbx
 have HX6 := Lib.hid (HX5.out.keep fx (by simp))
 have HB16 := Lib.hid (HB15.out.keep fx (by simp))
 have HF6 := Lib.hid (HF5.out.step fx)
 have HOL6 := Lib.hid (HOL5.out.next fx)
 have HOC6 := Lib.hid (HOC5.out.next fx)
 clear fx hbx hw_ hE_ HX5 HB15 HF5 HOL5 HOC5
 obtain ⟨w7, hst, hb_, hf_⟩ := store_all (t := 31) (two (slv sL) (slv sC)) size34 rfl (two_one _ _) HY6.out rfl
 refine stZ hst ?_
 clear hst
 refine wpList_nil ?_
 try simp only [Act.put, nrZ]
 have HY7 := Lib.hid hb_
 have HX7 := Lib.hid (HX6.out.keep hf_ (fun hm => by rw [List.mem_singleton] at hm; have := HE6.out; omega))
 have HB17 := Lib.hid (HB16.out.keep hf_ (fun hm => by rw [List.mem_singleton] at hm; have := HE6.out; omega))
 have HF7 := Lib.hid (HF6.out.own1 (S := []) (B := 0) hf_ HE6.out.1)
 have HOL7 := Lib.hid (HOL6.out.far HY6.out hf_ (by decide) (by decide))
 obtain ⟨Xs, hrec, hown⟩ := HOC6.out.far HY6.out hf_ (by decide) (by decide)
 rw [HM.out] at hown
 have HREC7 := Lib.hid hrec
 have HOWN7 := Lib.hid hown
 clear hb_ hf_ HY6 HX6 HB16 HF6 HOL6 HOC6
 have hXi := List.getElem?_eq_getElem (l := Xs) (i := i) (by rw [hrec.len, HM.out]; exact hin)
 obtain ⟨X, hXX⟩ : ∃ X, Xs[i]'(by rw [hrec.len, HM.out]; exact hin) = X := ⟨_, rfl⟩
 rw [hXX] at hXi
 obtain ⟨q, rfl, hqo⟩ := hrec.el i X y hXi HY.out
 have HXI := Lib.hid hXi
 obtain ⟨sC1, sC2, sC3⟩ := sC
 obtain ⟨gC, hgC, hsn⟩ : ∃ gC, sC1 = some ⟨gC, 0, none⟩ ∧ sC2 = m := by
  rcases hown.2 with ⟨he, h0⟩ | ⟨gC, cap, cur, he, _⟩
  ·omega
  ·simp only [slv, Value.slice.injEq] at he
   exact ⟨gC, he.1, he.2.1⟩
 subst hgC
 subst hsn
 have c7 : w7.cell? ⟨E6, 1, none⟩ = some (.slice (some ⟨gC, 0, none⟩) sC2 sC3) := HY7.out.at 1 _ rfl
 clear hrec hown hqo hXi hXX
 go_upto_region 12 with fail
 refine wp_region_lit ?_
 iterate 3 (refine wpList_plain rfl (fun K hK => ?_); go_simp; refine hK _ _ ?_; clear hK K)
 try simp only [Act.put, nrZ]
 refine ldZ (load_all agg94 size94 (xs := cnC (y.c.close true).1 (y.c.closeq q0 true)) rfl HX7.out.at) ?_
 iterate 2 (refine wpList_plain rfl (fun K hK => ?_); go_simp; refine hK _ _ ?_; clear hK K)
 try simp only [Act.put, nrZ]
 obtain ⟨w8, hst, hrow8, hf_⟩ := own_store (t := 99) (k := i * 17 + 1) (cnC (y.c.close true).1 (y.c.closeq q0 true)) (.agg (cnC (y.c.close true).1 (y.c.closeq q0 true)).toArray) size94 rfl rfl (cnC_one _ _) HOWN7.out (by show i * 17 + 1 + 16 ≤ sC2 * 17; omega)
 refine stZ hst ?_
 clear hst c7
 try simp only [Act.put, nrZ]
 refine wpList_nil ?_
 try simp only [Act.put, nrZ]
 have hfo : Fr (Value.ownBlock (slv (some ⟨gC, 0, none⟩, sC2, sC3))).toList w7 w8 := hf_
 have HY8 := Lib.hid (HY7.out.farRow HOWN7.out hfo (by decide))
 have HX8 := Lib.hid (HX7.out.farRow HOWN7.out hfo (by decide))
 have HB18 := Lib.hid (HB17.out.farRow HOWN7.out hfo (by decide))
 have HF8 := Lib.hid (HF7.out.ownRow HOWN7.out hfo (by rw [HBS.out]; exact Nat.le_refl _))
 have HOL8 := Lib.hid (HOL7.out.farRow HOWN7.out hfo (by decide) (by decide))
 have HREC8 := Lib.hid (HREC7.out.mono (fun X z ⟨s, e1, e2⟩ => (⟨s, e1, ⟨rowFar e2.b0 HOWN7.out hfo (by decide), rowFar e2.r0 HOWN7.out hfo (by decide), rowFar e2.b1 HOWN7.out hfo (by decide), rowFar e2.r1 HOWN7.out hfo (by decide)⟩⟩ : ElCO B w8 X z)))
 have HOWN8 := Lib.hid (show w8.ownsRow B 138 17 (slv (some ⟨gC, 0, none⟩, sC2, sC3)) sC2 (Xs.set i (pgC ⟨y.ref, (y.c.close true).1⟩ (y.c.closeq q0 true))).flatten from by
  have hfl := flat_set (vs := cnC (y.c.close true).1 (y.c.closeq q0 true)) (a := 1) HREC7.out.sz HXI.out (by show 1 + 16 ≤ 17; omega)
  have hX' : (pgC y q).take 1 ++ cnC (y.c.close true).1 (y.c.closeq q0 true) ++ (pgC y q).drop (1 + (cnC (y.c.close true).1 (y.c.closeq q0 true)).length) = pgC ⟨y.ref, (y.c.close true).1⟩ (y.c.closeq q0 true) := rfl
  rw [hX'] at hfl
  rw [hfl]
  exact hrow8)
 clear hfo hf_ hrow8 HY7 HX7 HB17 HF7 HOL7 HREC7 HOWN7
 have k0 : w8.cell? ⟨E4, 14, none⟩ = some (.bool (y.c.close true).1.a0) := HX8.out.at 14 _ rfl
 have k1 : w8.cell? ⟨E4, 15, none⟩ = some (.bool (y.c.close true).1.a1) := HX8.out.at 15 _ rfl
 obtain ⟨b0, hb0⟩ : ∃ z, (y.c.close true).1.a0 = z := ⟨_, rfl⟩
 obtain ⟨b1, hb1⟩ : ∃ z, (y.c.close true).1.a1 = z := ⟨_, rfl⟩
 have HB01 := Lib.hid HBO.out
 rw [hb0, hb1] at HB01
 rw [hb0] at k0
 rw [hb1] at k1
 clear hb0 hb1
 obtain ⟨rfl, rfl⟩ : b0 = true ∧ b1 = true := by
  have := HB01.out
  cases b0 <;> cases b1 <;> simp_all
 obtain ⟨a0, ht0, hr0⟩ := own_slice_to elemConn HOWN8.out i (by omega)
 obtain ⟨vr, hvr, hrr⟩ := own_slice_from elemConn HOWN8.out (i + 1) (by omega)
 have hty0 : TyR w8 B (.slice a0 i i) 138 := by
  obtain ⟨_, htt, hss⟩ := elemConn.el
  intro gg hgg
  have hrun := ht0 w8
  rw [show slv (some ⟨gC, 0, none⟩, sC2, sC3) = .slice (some ⟨gC, 0, none⟩) sC2 sC3 from rfl, run_slice_hm w8 _ _ _ _ htt .i64 .i64 i i (by omega) (by omega) (by
   rcases HOWN8.out.2 with ⟨he, _⟩ | ⟨g1, cap, cur, he, _, _, hnc, _⟩
   ·cases he
   ·simp only [slv, Value.slice.injEq] at he
    omega), hss] at hrun
  simp only [Result.andThen_ok, Result.ok.injEq, sliced, Value.slice.injEq, and_true] at hrun
  have ha : a0 = some ⟨gC, 0, none⟩ := by
   rw [← hrun.1]
   split
   ·rfl
   ·simp [Addr.add_lit]
  rw [ha] at hgg
  simp only [Value.ownBlock, Option.some.injEq] at hgg
  subst hgg
  exact TyR.of_own HOWN8.out gC rfl
 have hlen8 : (Xs.set i (pgC ⟨y.ref, (y.c.close true).1⟩ (y.c.closeq q0 true))).length = sC2 := by rw [List.length_set, HREC8.out.len, HM.out]
 have hsz8 : ∀ X ∈ Xs.set i (pgC ⟨y.ref, (y.c.close true).1⟩ (y.c.closeq q0 true)), X.length = 17 := fun X hX => by
  rcases List.mem_or_eq_of_mem_set hX with hX | rfl
  ·exact HREC8.out.sz X hX
  ·rfl
 have HR0 := Lib.hid (show RowV w8 (.slice a0 i i) i 17 (Xs.take i).flatten from by
  rw [flat_take i hsz8, List.take_set_of_le (Nat.le_refl i)] at hr0
  exact hr0)
 have HRR := Lib.hid (show RowV w8 vr (sC2 - (i + 1)) 17 (Xs.drop (i + 1)).flatten from by
  rw [flat_drop (i + 1) hsz8, List.drop_set_of_lt (Nat.lt_succ_self i)] at hrr
  exact hrr)
 have HTY := Lib.hid hty0
 clear hr0 hrr hty0 hlen8 hsz8
 obtain ⟨w9, hw9⟩ : ∃ z, w8.drew = z := ⟨_, rfl⟩
 have f9 : Fr [] w8 w9 := by rw [← hw9]; exact (Fr.refl [] w8).drew
 have HY9 := Lib.hid (HY8.out.keep f9 (by simp))
 have HF89 := Lib.hid f9
 have HW9 := Lib.hid hw9
 clear hw9 f9
 go_upto_region 14 with fail
 clear k0 k1
 refine wp_region_held_drew (S := fun _ => True) (by kernel_rfl) (trivial) (fun hHeld => ?_)
 clear hHeld
 rw [HW9.out]
 have hi9 : (i : Int) < 1000 := by have := HFIT.out.nc; rw [HM.out] at this; omega
 refine tkZ 0 ?_
 refine tkZ 2 ?_
 refine tkZ 3 ?_
 refine tkZ 5 ?_
 refine tkZ 7 ?_
 refine tvZ 8 (.int .i64 ((i + 1 : Nat) : Int)) rfl ?_ ?_
 ·intro w hSw
  try dsimp only at hSw
  go_simp
  exact IntWalk.i64_in _ (by omega)
 try simp only [Act.put, nrZ]
 refine wpAnyH_ready (rs := [1, 6]) (by kernel_rfl) (by simp) ?_
 refine AllReadyH.cons (o := _) rfl (fun K hK => ?_) (AllReadyH.cons (o := _) rfl (fun K hK => ?_) AllReadyH.nil)
 ·skip
  have c6 : w9.cell? ⟨E6, 1, none⟩ = some (.slice (some ⟨gC, 0, none⟩) sC2 sC3) := HY9.out.at 1 _ rfl
  go_simp
  refine hK.out _ _ (trivial) (fun hHeld => ?_)
  clear hK K
  clear hHeld
  try simp only [Act.put, nrZ]
  clear c6
  refine tvZ 4 (.slice a0 i i) rfl ?_ ?_
  ·intro w hSw
   try dsimp only at hSw
   exact exec_slice_to (V := slv (some ⟨gC, 0, none⟩, sC2, sC3)) (H := .int .i64 i) (M := .int .i64 i) rfl rfl rfl rfl elemConn.el.2.1 (ht0 w)
  try simp only [Act.put, nrZ]
  refine rdZ 6 (fun K hK => ?_)
  have c6 : w9.cell? ⟨E6, 1, none⟩ = some (.slice (some ⟨gC, 0, none⟩) sC2 sC3) := HY9.out.at 1 _ rfl
  go_simp
  refine hK.out _ _ (trivial) (fun hHeld => ?_)
  clear hK K
  clear hHeld
  try simp only [Act.put, nrZ]
  clear c6
  refine tvZ 9 vr rfl ?_ ?_
  ·intro w hSw
   try dsimp only at hSw
   exact exec_slice_from (V := slv (some ⟨gC, 0, none⟩, sC2, sC3)) (L := .int .i64 ((i + 1 : Nat) : Int)) rfl rfl rfl elemConn.el.2.1 (hvr w)
  try simp only [Act.put, nrZ]
  refine rdZ 10 (fun K hK => ?_)
  split
  rotate_left
  ·rename_i hno
   exact absurd rfl hno
  refine wp_append_rd elemConn _ _ rfl (a0 := a0) (n := i) (xs := (Xs.take i).flatten) rfl (HR0.out.new HF89.out) (by rw [← HBS.out]; exact (HF8.out.step HF89.out).size) (HTY.out.keep HF89.out (fun g _ hm => by cases hm)) (X := vr) (m := sC2 - (i + 1)) (news := (Xs.drop (i + 1)).flatten) rfl (HRR.out.new HF89.out) (by have := HFIT.out.nc; rw [HM.out] at this; omega) (by decide) ?_
  intro sC' w10 hr10 ht10 f10
  have HY10 := Lib.hid (HY9.out.keep f10 (by simp))
  have HB110 := Lib.hid ((HB18.out.keep HF89.out (by simp)).keep f10 (by simp))
  have HF10 := Lib.hid ((HF8.out.step HF89.out).step f10)
  have HOL10 := Lib.hid ((HOL8.out.next HF89.out).next f10)
  have HREC10 := Lib.hid (HREC8.out.mono (fun X z ⟨s, e1, e2⟩ => (⟨s, e1, (e2.new HF89.out).new f10⟩ : ElCO B w10 X z)))
  have HR10 := Lib.hid hr10
  have HT10 := Lib.hid ht10
  clear hr10 ht10 f10
  refine hK.out _ _ (trivial) (fun hHeld => ?_)
  clear hK K
  clear hHeld
  try simp only [Act.put, nrZ]
  refine tkZ 11 ?_
  refine rdZ 12 (fun K hK => ?_)
  obtain ⟨w11, hst, hb_, hf_⟩ := store_cell (t := 29) (o := 1) (slv sC') size32 rfl rfl HY10.out (by show 1 + 1 ≤ 2; omega)
  split
  rotate_left
  ·rename_i hno
   exact absurd rfl hno
  refine stY hst ?_
  clear hst
  have HY11 := Lib.hid (show Blk w11 E6 31 (two (slv sL) (slv sC')) from hb_)
  have HB111 := Lib.hid (HB110.out.keep hf_ (fun hm => by rw [List.mem_singleton] at hm; have := HE6.out; omega))
  have HF11 := Lib.hid (HF10.out.own1 (S := []) (B := 0) hf_ HE6.out.1)
  have HOL11 := Lib.hid (HOL10.out.far HY10.out hf_ (by decide) (by decide))
  have HREC11 := Lib.hid (HREC10.out.mono (fun X z ⟨s, e1, e2⟩ => (⟨s, e1, e2.store HY10.out hf_ (by decide)⟩ : ElCO B w11 X z)))
  have hnn : ∀ g, (slv sC').ownBlock = some g → g ∉ [E6] := fun g hg hm => by
   rw [List.mem_singleton] at hm
   subst hm
   exact HT10.out.ne HY10.out (by decide) hg
  have HR11 := Lib.hid (HR10.out.not hf_ hnn)
  have HT11 := Lib.hid (HT10.out.keep hf_ hnn)
  clear hb_ hf_ hnn
  refine hK.out _ _ (trivial) (fun hHeld => ?_)
  clear hK K
  clear hHeld
  try simp only [Act.put, nrZ]
  refine wpAnyH_done (by kernel_rfl) ?_ _
  clear HY8 HB18 HF8 HOL8 HREC8 HOWN8 HR0 HRR HTY HY9 HF89 HW9 HY10 HB110 HF10 HOL10 HREC10 HR10 HT10
  go_upto_region 15 with fail
  refine wp_region_lit ?_
  refine ldZ (load_all agg34 size34 (xs := two (slv sL) (slv sC')) rfl HY11.out.at) ?_
  obtain ⟨w15, hst, hb_, hf_⟩ := store_all (t := 31) (two (slv sL) (slv sC')) size34 rfl (two_one _ _) HB111.out rfl
  refine stZ hst ?_
  clear hst
  refine wpList_plain rfl (fun K hK => ?_); go_simp; refine hK _ _ ?_; clear hK K
  refine wpList_nil ?_
  try simp only [Act.put, nrZ]
  have HR15 := Lib.hid hb_
  have HF15 := Lib.hid (HF11.out.own1 (S := []) (B := 0) hf_ (by have := HBS.out; omega))
  have HOL15 := Lib.hid (HOL11.out.far HB111.out hf_ (by decide) (by decide))
  have HCR15 := Lib.hid (show CRd w15 B (slv sC') (C.take i ++ C.drop (i + 1)) from by
   refine ⟨?_, fun g hg => (HT11.out g hg).1⟩
   refine ⟨Xs.take i ++ Xs.drop (i + 1), ?_, ?_⟩
   ·have h0 := HREC11.out.mono (fun X z ⟨s, e1, e2⟩ => (⟨s, e1, (e2.store HB111.out hf_ (by decide)).b⟩ : ElC w15 X z))
    exact (h0.take i).app (h0.drop (i + 1))
   ·have hlen : (C.take i ++ C.drop (i + 1)).length = i + (sC2 - (i + 1)) := by
     rw [List.length_append, List.length_take, List.length_drop, HM.out]
     omega
    rw [hlen, List.flatten_append]
    exact HR11.out.not hf_ (fun g hg hm => by rw [List.mem_singleton] at hm; subst hm; exact HT11.out.ne HB111.out (by decide) hg))
  clear hb_ hf_
  go_wp2
  have hl := load_var agg34 size34 (xs := two (slv sL) (slv sC')) rfl HR15.out.at
  refine bodyPost_ret (v := .tuple #[.agg (two (slv sL) (slv sC')).toArray, .int .i64 0]) (by simp [results, Tryz.results21, as_addr, hl]) rfl ?_
  exact ⟨sL, sC', rfl, by rw [HBS.out]; exact HOL15.out.ro, by rw [HBS.out]; exact HCR15.out, HF15.out⟩
 ·skip
  have c6 : w9.cell? ⟨E6, 1, none⟩ = some (.slice (some ⟨gC, 0, none⟩) sC2 sC3) := HY9.out.at 1 _ rfl
  go_simp
  refine hK.out _ _ (trivial) (fun hHeld => ?_)
  clear hK K
  clear hHeld
  try simp only [Act.put, nrZ]
  clear c6
  refine tvZ 9 vr rfl ?_ ?_
  ·intro w hSw
   try dsimp only at hSw
   exact exec_slice_from (V := slv (some ⟨gC, 0, none⟩, sC2, sC3)) (L := .int .i64 ((i + 1 : Nat) : Int)) rfl rfl rfl elemConn.el.2.1 (hvr w)
  try simp only [Act.put, nrZ]
  refine rdZ 1 (fun K hK => ?_)
  have c6 : w9.cell? ⟨E6, 1, none⟩ = some (.slice (some ⟨gC, 0, none⟩) sC2 sC3) := HY9.out.at 1 _ rfl
  go_simp
  refine hK.out _ _ (trivial) (fun hHeld => ?_)
  clear hK K
  clear hHeld
  try simp only [Act.put, nrZ]
  clear c6
  refine tvZ 4 (.slice a0 i i) rfl ?_ ?_
  ·intro w hSw
   try dsimp only at hSw
   exact exec_slice_to (V := slv (some ⟨gC, 0, none⟩, sC2, sC3)) (H := .int .i64 i) (M := .int .i64 i) rfl rfl rfl rfl elemConn.el.2.1 (ht0 w)
  try simp only [Act.put, nrZ]
  refine rdZ 10 (fun K hK => ?_)
  split
  rotate_left
  ·rename_i hno
   exact absurd rfl hno
  refine wp_append_rd elemConn _ _ rfl (a0 := a0) (n := i) (xs := (Xs.take i).flatten) rfl (HR0.out.new HF89.out) (by rw [← HBS.out]; exact (HF8.out.step HF89.out).size) (HTY.out.keep HF89.out (fun g _ hm => by cases hm)) (X := vr) (m := sC2 - (i + 1)) (news := (Xs.drop (i + 1)).flatten) rfl (HRR.out.new HF89.out) (by have := HFIT.out.nc; rw [HM.out] at this; omega) (by decide) ?_
  intro sC' w10 hr10 ht10 f10
  have HY10 := Lib.hid (HY9.out.keep f10 (by simp))
  have HB110 := Lib.hid ((HB18.out.keep HF89.out (by simp)).keep f10 (by simp))
  have HF10 := Lib.hid ((HF8.out.step HF89.out).step f10)
  have HOL10 := Lib.hid ((HOL8.out.next HF89.out).next f10)
  have HREC10 := Lib.hid (HREC8.out.mono (fun X z ⟨s, e1, e2⟩ => (⟨s, e1, (e2.new HF89.out).new f10⟩ : ElCO B w10 X z)))
  have HR10 := Lib.hid hr10
  have HT10 := Lib.hid ht10
  clear hr10 ht10 f10
  refine hK.out _ _ (trivial) (fun hHeld => ?_)
  clear hK K
  clear hHeld
  try simp only [Act.put, nrZ]
  refine tkZ 11 ?_
  refine rdZ 12 (fun K hK => ?_)
  obtain ⟨w11, hst, hb_, hf_⟩ := store_cell (t := 29) (o := 1) (slv sC') size32 rfl rfl HY10.out (by show 1 + 1 ≤ 2; omega)
  split
  rotate_left
  ·rename_i hno
   exact absurd rfl hno
  refine stY hst ?_
  clear hst
  have HY11 := Lib.hid (show Blk w11 E6 31 (two (slv sL) (slv sC')) from hb_)
  have HB111 := Lib.hid (HB110.out.keep hf_ (fun hm => by rw [List.mem_singleton] at hm; have := HE6.out; omega))
  have HF11 := Lib.hid (HF10.out.own1 (S := []) (B := 0) hf_ HE6.out.1)
  have HOL11 := Lib.hid (HOL10.out.far HY10.out hf_ (by decide) (by decide))
  have HREC11 := Lib.hid (HREC10.out.mono (fun X z ⟨s, e1, e2⟩ => (⟨s, e1, e2.store HY10.out hf_ (by decide)⟩ : ElCO B w11 X z)))
  have hnn : ∀ g, (slv sC').ownBlock = some g → g ∉ [E6] := fun g hg hm => by
   rw [List.mem_singleton] at hm
   subst hm
   exact HT10.out.ne HY10.out (by decide) hg
  have HR11 := Lib.hid (HR10.out.not hf_ hnn)
  have HT11 := Lib.hid (HT10.out.keep hf_ hnn)
  clear hb_ hf_ hnn
  refine hK.out _ _ (trivial) (fun hHeld => ?_)
  clear hK K
  clear hHeld
  try simp only [Act.put, nrZ]
  refine wpAnyH_done (by kernel_rfl) ?_ _
  clear HY8 HB18 HF8 HOL8 HREC8 HOWN8 HR0 HRR HTY HY9 HF89 HW9 HY10 HB110 HF10 HOL10 HREC10 HR10 HT10
  go_upto_region 15 with fail
  refine wp_region_lit ?_
  refine ldZ (load_all agg34 size34 (xs := two (slv sL) (slv sC')) rfl HY11.out.at) ?_
  obtain ⟨w15, hst, hb_, hf_⟩ := store_all (t := 31) (two (slv sL) (slv sC')) size34 rfl (two_one _ _) HB111.out rfl
  refine stZ hst ?_
  clear hst
  refine wpList_plain rfl (fun K hK => ?_); go_simp; refine hK _ _ ?_; clear hK K
  refine wpList_nil ?_
  try simp only [Act.put, nrZ]
  have HR15 := Lib.hid hb_
  have HF15 := Lib.hid (HF11.out.own1 (S := []) (B := 0) hf_ (by have := HBS.out; omega))
  have HOL15 := Lib.hid (HOL11.out.far HB111.out hf_ (by decide) (by decide))
  have HCR15 := Lib.hid (show CRd w15 B (slv sC') (C.take i ++ C.drop (i + 1)) from by
   refine ⟨?_, fun g hg => (HT11.out g hg).1⟩
   refine ⟨Xs.take i ++ Xs.drop (i + 1), ?_, ?_⟩
   ·have h0 := HREC11.out.mono (fun X z ⟨s, e1, e2⟩ => (⟨s, e1, (e2.store HB111.out hf_ (by decide)).b⟩ : ElC w15 X z))
    exact (h0.take i).app (h0.drop (i + 1))
   ·have hlen : (C.take i ++ C.drop (i + 1)).length = i + (sC2 - (i + 1)) := by
     rw [List.length_append, List.length_take, List.length_drop, HM.out]
     omega
    rw [hlen, List.flatten_append]
    exact HR11.out.not hf_ (fun g hg hm => by rw [List.mem_singleton] at hm; subst hm; exact HT11.out.ne HB111.out (by decide) hg))
  clear hb_ hf_
  go_wp2
  have hl := load_var agg34 size34 (xs := two (slv sL) (slv sC')) rfl HR15.out.at
  refine bodyPost_ret (v := .tuple #[.agg (two (slv sL) (slv sC')).toArray, .int .i64 0]) (by simp [results, Tryz.results21, as_addr, hl]) rfl ?_
  exact ⟨sL, sC', rfl, by rw [HBS.out]; exact HOL15.out.ro, by rw [HBS.out]; exact HCR15.out, HF15.out⟩
theorem elemBd : Elem Tryz.prog 113 172 3 32 := Elem.mk' Tryz.underlying113 (z := .agg #[.string ⟨#[]⟩, .int .i64 0, .int .i64 0]) (by kernel_rfl) rfl (by decide)
theorem bldBd (s : ByteArray) (p v : Int) : ∀ w, (Instr.build 172 #[(0, .agg #[.string s, .int .i64 p]), (1, .int .i64 v)]).run Tryz.prog w = .ok (.agg #[.string s, .int .i64 p, .int .i64 v]) w := fun w => by kernel_rfl
theorem bslBd (s : ByteArray) (p v : Int) : ∀ w : World, (Instr.buildSlice 113 1 #[(0, .agg #[.string s, .int .i64 p, .int .i64 v])]).run Tryz.prog w = .ok (.slice (some ⟨w.heap.size, 0, none⟩) 1 1) (w.alloc (.cells #[.string s, .int .i64 p, .int .i64 v] 172)) := fun w => by kernel_rfl
end Go.Proofs.YtgbmenfmaphciaaGreat
