/- The reference's nets in memory: Connect. -/
import Derived.Test.YtmdhlodafjpnmaaGreatG9
import Derived.Test.YtmdhlodafjpnmaaGreatAddr2
namespace Go.Proofs.YtmdhlodafjpnmaaGreat
open Go.RowKit
set_option linter.unusedVariables false
set_option linter.unusedSimpArgs false
set_option maxRecDepth 100000
set_option maxHeartbeats 8000000

/-- Cells of a row of one's own, stored. -/
theorem own_store {w : World} {base n sz g c k m : Nat} {e t : TypeId} {xs : List Value} (vs : List Value) (val : Value) (hS : ∀ w, (sizeOf t).run Tryz.prog w = .ok m w) (hc : val.cells = vs.toArray) (hm : vs.length = m) (h1 : ∀ u ∈ vs, u.oneCell' = true)
    (h : w.ownsRow base e sz (.slice (some ⟨g, 0, none⟩) n c) n xs) (hk : k + m ≤ n * sz) :
    ∃ w', (Instr.storeAt t (.pointer (some ⟨g, k, none⟩)) val).run Tryz.prog w = .ok () w' ∧ w'.ownsRow base e sz (.slice (some ⟨g, 0, none⟩) n c) n (xs.take k ++ vs ++ xs.drop (k + m)) ∧ Fr [g] w w' := by
  rcases h.2 with ⟨he, _⟩ | ⟨g', cap, cur, he, hb, hg, hn, hcm, hcs, htake⟩
  · cases he
  simp only [Value.slice.injEq, Option.some.injEq, Addr.mk.injEq, and_true, true_and] at he
  obtain ⟨rfl, rfl⟩ := he
  have hfit : k + m ≤ cur.size := by
    rw [hcs]
    exact Nat.le_trans hk (Nat.mul_le_mul_right _ hn)
  have hst := run_storeCells_at Tryz.prog g k e vs 0 cur w hg (by omega) h1
  have hs : (Instr.sureAddr (.pointer (some ⟨g, k, none⟩))).run Tryz.prog w = .ok ⟨g, k, none⟩ w := by simp [Instr.sureAddr]
  simp only [Nat.add_zero] at hst
  rw [hm] at hst
  have hxl := h.1
  refine ⟨w.setRow g (List.take k cur.toList ++ vs ++ List.drop (k + m) cur.toList).toArray, ?_, ⟨?_, .inr ⟨g, c, (List.take k cur.toList ++ vs ++ List.drop (k + m) cur.toList).toArray, rfl, hb, setRow_heap w g cur _ _ _ hg, hn, hcm, ?_, ?_⟩⟩, ?_⟩
  · unfold Instr.storeAt
    rw [Sem.run_bind, hs]
    simp only [Result.andThen_ok]
    unfold storeVar
    rw [Sem.run_bind, hS]
    simp only [Result.andThen_ok]
    rw [if_neg (by rw [hc]; simp [hm]), hc]
    exact hst
  · simp only [List.length_append, List.length_take, List.length_drop]
    omega
  · simp only [List.size_toArray, List.length_append, List.length_take, List.length_drop, Array.length_toList]
    rw [← hcs]
    omega
  · have hl1 : (List.take k cur.toList ++ vs).length = k + m := by
      simp only [List.length_append, List.length_take, Array.length_toList]
      omega
    have hx1 : xs.take k = cur.toList.take k := by rw [← htake, List.take_take, Nat.min_eq_left (by omega)]
    have hx2 : xs.drop (k + m) = (cur.toList.drop (k + m)).take (n * sz - (k + m)) := by rw [← htake, List.drop_take]
    rw [hx1, hx2, List.take_append, hl1, List.take_of_length_le (by omega)]
  · exact ⟨rfl, rfl, rfl, by simp [World.setRow], fun j hj hn => setRow_other w g j _ (by simpa using hn)⟩
theorem cut3 {α : Type} (A X R vs : List α) (n a : Nat) (hA : A.length = n) (ha : a + vs.length ≤ X.length) :
    A ++ ((X.take a ++ vs ++ X.drop (a + vs.length)) ++ R) = (A ++ (X ++ R)).take (n + a) ++ vs ++ (A ++ (X ++ R)).drop (n + a + vs.length) := by
  subst hA
  rw [List.take_append (l₁ := A), List.take_of_length_le (l := A) (by omega), Nat.add_sub_cancel_left, List.take_append_of_le_length (l₁ := X) (by omega)]
  rw [show A.length + a + vs.length = A.length + (a + vs.length) from by omega, List.drop_append, List.drop_of_length_le (l := A) (by omega), List.nil_append, Nat.add_sub_cancel_left, List.drop_append_of_le_length (l₁ := X) (by omega)]
  simp [List.append_assoc]
/-- A record of a row changed in some of its cells. -/
theorem flat_set {sz : Nat} {Xs : List (List Value)} {i a : Nat} {X vs : List Value} (hl : ∀ X ∈ Xs, X.length = sz) (hX : Xs[i]? = some X) (ha : a + vs.length ≤ sz) :
    (Xs.set i (X.take a ++ vs ++ X.drop (a + vs.length))).flatten = Xs.flatten.take (i * sz + a) ++ vs ++ Xs.flatten.drop (i * sz + a + vs.length) := by
  obtain ⟨hi, rfl⟩ := List.getElem?_eq_some_iff.1 hX
  have hlX := hl _ (List.getElem_mem hi)
  have hcut : Xs.flatten = (Xs.take i).flatten ++ (Xs[i] ++ (Xs.drop (i + 1)).flatten) := by
    have h := congrArg List.flatten (List.take_append_drop i Xs)
    rw [List.drop_eq_getElem_cons hi, List.flatten_append, List.flatten_cons] at h
    exact h.symm
  have ht : ((Xs.take i).flatten).length = i * sz := by
    rw [flat_len (fun X hX => hl X (List.mem_of_mem_take hX)), List.length_take, Nat.min_eq_left (by omega)]
  rw [PN.set_cut hi, List.flatten_append, List.flatten_cons, hcut]
  exact cut3 _ _ _ _ _ _ ht (by omega)
theorem exec_bslInt (k : Int) (w : World) : (Instr.buildSlice 75 1 #[(0, .int .i64 k)]).run Tryz.prog w = .ok (.slice (some ⟨w.heap.size, 0, none⟩) 1 1) (w.alloc (.cells #[.int .i64 k] 3)) := by kernel_rfl
/-- A list of connections that can be read, its block from B on. -/
def CRd (w : World) (B : Nat) (v : Value) (C : List PG) : Prop := CRow w v C ∧ ∀ g, v.ownBlock = some g → B ≤ g
/-- A net handed back that can be read. -/
def NetRd (w : World) (D : List PN.PL) (C : List PG) (rs : List Value) (e : Ending) (w' : World) : Prop :=
  ∃ sL sC : Sli, e = .returned (.tuple (.agg #[slv sL, slv sC] :: rs).toArray) ∧ RowO 100 5 (ElLO w.heap.size) w' w.heap.size (slv sL) D ∧ CRd w' w.heap.size (slv sC) C ∧ Fr [] w w'
theorem COwn.rd {w : World} {B : Nat} {v : Value} {C : List PG} (h : COwn w B v C) : CRd w B v C := by
  refine ⟨h.row, ?_⟩
  obtain ⟨Xs, _, h2⟩ := h
  exact fun g hg => (h2.lt g hg).1
theorem LOwn.ro {w : World} {B : Nat} {v : Value} {D : List PN.PL} (h : LOwn w B v D) : RowO 100 5 (ElLO B) w B v D := by
  obtain ⟨Xs, h1, h2, _⟩ := h
  exact ⟨Xs, h1, h2⟩
theorem NetOut.rd {w w' : World} {D : List PN.PL} {C : List PG} {rs : List Value} {e : Ending} (h : NetOut w D C rs e w') : NetRd w D C rs e w' := by
  obtain ⟨sL, sC, h1, h2, h3, h4⟩ := h
  exact ⟨sL, sC, h1, h2.ro, h3.rd, h4⟩
theorem RowO.row {w : World} {B : Nat} {v : Value} {D : List PN.PL} (h : RowO 100 5 (ElLO B) w B v D) : LRow w v D := by
  obtain ⟨Xs, h1, h2⟩ := h
  exact ⟨Xs, h1.mono (fun X y h => h.el), RowV.of_own h2⟩
theorem RowO.far {w w' : World} {B b : Nat} {v : Value} {D : List PN.PL} {t : TypeId} {ys : List Value} (h : RowO 100 5 (ElLO B) w B v D) (hb : Blk w b t ys) (f : Fr [b] w w') (h1 : t ≠ 100) (h2 : t ≠ 3) : RowO 100 5 (ElLO B) w' B v D := by
  obtain ⟨Xs, r1, r2⟩ := h
  exact ⟨Xs, r1.mono (fun X y ⟨q, e1, e2⟩ => ⟨q, e1, rowFr' e2 f (fun g hg hm => by rw [List.mem_singleton] at hm; subst hm; exact blkNe hb e2 h2 hg)⟩), rowFr' r2 f (fun g hg hm => by rw [List.mem_singleton] at hm; subst hm; exact blkNe hb r2 h1 hg)⟩
theorem place_some {α : Type} {p : α → Bool} {D : List α} {i : Nat} {y : α} (h : PN.pick p D 0 = some (i, y)) : D[i]? = some y := by
  obtain ⟨j, h1, h2, _⟩ := PN.pick_some h
  obtain rfl : i = j := by omega
  exact h2
theorem nConnect_ok (vL vC : Value) (D : List PN.PL) (C : List PG) (s : ByteArray) (p c : Int) (w : World) (hL : LRow w vL D) (hC : CRow w vC C) (hs : s.size ≤ 1000000) (hv : addrB s.data.toList p = true) (hc : 0 ≤ c ∧ c ≤ 4096) (hn : NetFit D C) (hm : C.length < 128) (hso : C.Pairwise (fun a b => a.ref < b.ref)) (i : Nat) (y : PN.PL) (hi : PN.pick (PN.atP s p) D 0 = some (i, y)) (hq : (y.l.length : Int) ≠ y.most) :
    Calls Tryz.prog 15 #[.agg #[vL, vC], .agg #[.string s, .int .i64 p], .int .i64 c] w (NetRd w (D.set i { y with l := y.l ++ [(frG C : Int)] }) (insG C c) [.int .i64 (frG C), .int .i64 0]) := by
  obtain ⟨n, hnl⟩ : ∃ n, D.length = n := ⟨_, rfl⟩
  obtain ⟨m, hml⟩ : ∃ m, C.length = m := ⟨_, rfl⟩
  obtain ⟨aL, cL, rfl⟩ := hL.val
  obtain ⟨aC, cC, rfl⟩ := hC.val
  rw [hnl] at hL ⊢
  rw [hml] at hC ⊢
  have HN := Lib.hid hnl
  have HM := Lib.hid hml
  obtain ⟨B, hB⟩ : ∃ B, w.heap.size = B := ⟨_, rfl⟩
  obtain ⟨u1, hu1⟩ : ∃ z, w.alloc (.cells #[.slice aL n cL, .slice aC m cC] 34) = z := ⟨_, rfl⟩
  obtain ⟨u2, hu2⟩ : ∃ z, u1.alloc (.cells #[.string s, .int .i64 p] 28) = z := ⟨_, rfl⟩
  obtain ⟨wA, hwA⟩ : ∃ z, u2.alloc (.cells #[.slice none 0 0, .slice none 0 0] 34) = z := ⟨_, rfl⟩
  have s1 : u1.heap.size = B + 1 := by rw [← hu1, ← hB]; simp
  have s2 : u2.heap.size = B + 2 := by rw [← hu2]; simp [s1]
  have f1 : Fr [] w u1 := by rw [← hu1]; exact (Fr.refl [] w).alloc _
  have f2 : Fr [] u1 u2 := by rw [← hu2]; exact (Fr.refl [] u1).alloc _
  have f3 : Fr [] u2 wA := by rw [← hwA]; exact (Fr.refl [] u2).alloc _
  have hb0 : Blk wA B 34 (two (.slice aL n cL) (.slice aC m cC)) := by
    have h := Blk.made w 34 (two (.slice aL n cL) (.slice aC m cC))
    rw [hB] at h
    exact ((show Blk u1 B 34 _ from by rw [← hu1]; exact h).keep f2 (by simp)).keep f3 (by simp)
  have hb1 : Blk wA (B + 1) 28 (two (.string s) (.int .i64 p)) := by
    have h := Blk.made u1 28 (two (.string s) (.int .i64 p))
    rw [s1] at h
    exact (show Blk u2 (B + 1) 28 _ from by rw [← hu2]; exact h).keep f3 (by simp)
  have hb2 : Blk wA (B + 2) 34 zNt := by
    have h := Blk.made u2 34 zNt
    rw [s2] at h
    rw [← hwA]
    exact h
  have hf : Fr [] w wA := (f1.step f2).step f3
  have HB0 := Lib.hid hb0
  have HB1 := Lib.hid hb1
  have HB2 := Lib.hid hb2
  have HF := Lib.hid hf
  have HBS := Lib.hid hB
  have HU1 := Lib.hid hu1
  have HU2 := Lib.hid hu2
  have HWA := Lib.hid hwA
  have HL := Lib.hid hL
  have HC := Lib.hid hC
  have HS1 := Lib.hid s1
  have HS2 := Lib.hid s2
  clear hb0 hb1 hb2 hf hB hu1 hu2 hwA f1 f2 f3 s1 s2 hL hC hnl hml
  
  have HFIT := Lib.hid hn
  have HSO := Lib.hid hso
  have HV := Lib.hid hv
  have hY := place_some hi
  have HI := Lib.hid hi
  have hin : i < n := by rw [← HN.out]; exact (List.getElem?_eq_some_iff.1 hY).1
  have HY := Lib.hid hY
  rw [HM.out] at hm
  have hm' : (m : Int) < 128 := by omega
  clear hn hso hv hY hi
  go_enter Tryz.func15, Tryz.ntmps15
  go_upto_region 1 with fail
  simp only [HU1.out, HU2.out, HWA.out, HBS.out, HS1.out, HS2.out]
  refine wp_region_lit ?_
  refine wpList_plain rfl (fun K hK => ?_); go_simp; refine hK _ _ ?_; clear hK K
  refine wpList_plain rfl (fun K hK => ?_); go_simp; refine hK _ _ ?_; clear hK K
  try simp only [Act.put, List.getElem_toArray, List.getElem_cons_succ, List.getElem_cons_zero, List.setIfInBounds_toArray, List.set_cons_zero, List.set_cons_succ]
  refine wpList_plain rfl (fun K hK => ?_)
  go_simp
  refine (dnNew_ok c hc _).mono ?_
  rintro e w1 ⟨rfl, f1⟩
  refine hK _ _ ?_
  clear hK K
  try simp only [Act.put, List.getElem_toArray, List.getElem_cons_succ, List.getElem_cons_zero, List.setIfInBounds_toArray, List.set_cons_zero, List.set_cons_succ]
  refine wpList_plain rfl (fun K hK => ?_); go_simp; refine hK _ _ ?_; clear hK K
  refine wpList_plain rfl (fun K hK => ?_); go_simp; refine hK _ _ ?_; clear hK K
  refine wpList_plain rfl (fun K hK => ?_); go_simp; refine hK _ _ ?_; clear hK K
  refine wpList_plain rfl (fun K hK => ?_); go_simp; refine hK _ _ ?_; clear hK K
  try simp only [Act.put, List.getElem_toArray, List.getElem_cons_succ, List.getElem_cons_zero, List.setIfInBounds_toArray, List.set_cons_zero, List.set_cons_succ]
  obtain ⟨E1, hE_⟩ : ∃ E, w1.heap.size = E := ⟨_, rfl⟩
  obtain ⟨wx, hw_⟩ : ∃ z, w1.alloc (.cells #[.int .i64 0, .slice none 0 0, .bool false, .slice none 0 0, .int .i64 0, .int .i64 0, .int .i64 0, .int .i64 0, .slice none 0 0, .bool false, .slice none 0 0, .int .i64 0, .int .i64 0, .int .i64 0, .bool false, .bool false] 94) = z := ⟨_, rfl⟩
  have hbx : Blk wx E1 94 zCn := by rw [← hw_, ← hE_]; exact Blk.made w1 94 zCn
  have fx : Fr [] w1 wx := by rw [← hw_]; exact (Fr.refl [] w1).alloc _
  rw [hw_]
  simp only [hE_]
  have HE1 := Lib.hid (show w.heap.size ≤ E1 ∧ B < E1 ∧ B + 1 < E1 ∧ B + 2 < E1 from by rw [← hE_]; exact ⟨(HF.out.step f1).size, (HB0.out.keep f1 (by simp)).lt, (HB1.out.keep f1 (by simp)).lt, (HB2.out.keep f1 (by simp)).lt⟩)
  have HX := Lib.hid hbx
  have HF1 := Lib.hid ((HF.out.step f1).step fx)
  have HA0 := Lib.hid ((HB0.out.keep f1 (by simp)).keep fx (by simp))
  have HA1 := Lib.hid ((HB1.out.keep f1 (by simp)).keep fx (by simp))
  have HA2 := Lib.hid ((HB2.out.keep f1 (by simp)).keep fx (by simp))
  clear f1 fx hbx hw_ hE_ HB0 HB1 HB2 HF
  obtain ⟨w2, hst, hb_, hf_⟩ := store_all (t := 94) (cnL c 0 0 0 0 false false) size94 rfl (cnL_one _ _ _ _ _ _ _) HX.out rfl
  refine wpList_skp rfl (w' := w2) ?_ ?_
  · show Sem.run Tryz.prog ((Instr.storeAt 94 (.pointer (some ⟨E1, 0, none⟩)) (.agg (cnL c 0 0 0 0 false false).toArray)) >>= fun _ => pure Next.skip) _ = _
    rw [Sem.run_bind, hst]
    rfl
  clear hst
  try simp only [Act.put, List.getElem_toArray, List.getElem_cons_succ, List.getElem_cons_zero, List.setIfInBounds_toArray, List.set_cons_zero, List.set_cons_succ]
  refine wpList_plain rfl (fun K hK => ?_); go_simp; refine hK _ _ ?_; clear hK K
  refine wpList_nil ?_
  try simp only [Act.put, List.getElem_toArray, List.getElem_cons_succ, List.getElem_cons_zero, List.setIfInBounds_toArray, List.set_cons_zero, List.set_cons_succ]
  have HF2 := Lib.hid (HF1.out.own1 (S := []) (B := 0) hf_ HE1.out.1)
  have HB02 := Lib.hid (HA0.out.keep hf_ (fun hm => by rw [List.mem_singleton] at hm; have := HE1.out; omega))
  have HB12 := Lib.hid (HA1.out.keep hf_ (fun hm => by rw [List.mem_singleton] at hm; have := HE1.out; omega))
  have HB22 := Lib.hid (HA2.out.keep hf_ (fun hm => by rw [List.mem_singleton] at hm; have := HE1.out; omega))
  clear hb_ hf_ HX HF1 HA0 HA1 HA2
  have e0 : w2.cell? ⟨B + 1, 0, none⟩ = some (.string s) := HB12.out.at 0 _ rfl
  have e1 : w2.cell? ⟨B + 1, 1, none⟩ = some (.int .i64 p) := HB12.out.at 1 _ rfl
  have HAV := Lib.hid (fun W : World => by
    have h := refValid_any s p hs W
    rw [HV.out] at h
    exact h)
  go_wp2_with fail
  refine (HAV.out _).mono ?_
  rintro e w3 ⟨rfl, f3⟩
  have HF3 := Lib.hid (HF2.out.step f3)
  have HB03 := Lib.hid (HB02.out.keep f3 (by simp))
  have HB13 := Lib.hid (HB12.out.keep f3 (by simp))
  have HB23 := Lib.hid (HB22.out.keep f3 (by simp))
  clear f3 HF2 HB02 HB12 HB22 HAV e0 e1
  have e0 : w3.cell? ⟨B + 1, 0, none⟩ = some (.string s) := HB13.out.at 0 _ rfl
  have e1 : w3.cell? ⟨B + 1, 1, none⟩ = some (.int .i64 p) := HB13.out.at 1 _ rfl
  go_upto_region 4 with fail
  refine wp_region_lit ?_
  refine wpList_val rfl (v := .agg (two (.slice aL n cL) (.slice aC m cC)).toArray) (w' := w3) ?_ ?_
  · show Sem.run Tryz.prog ((Instr.loadAt 34 (.pointer (some ⟨B, 0, none⟩))) >>= fun x => pure (Next.value x)) w3 = _
    rw [Sem.run_bind, load_all agg34 size34 (xs := two (.slice aL n cL) (.slice aC m cC)) rfl HB03.out.at]
    rfl
  try simp only [Act.put, List.getElem_toArray, List.getElem_cons_succ, List.getElem_cons_zero, List.setIfInBounds_toArray, List.set_cons_zero, List.set_cons_succ]
  refine wpList_plain rfl (fun K hK => ?_); go_simp; refine hK _ _ ?_; clear hK K
  try simp only [Act.put, List.getElem_toArray, List.getElem_cons_succ, List.getElem_cons_zero, List.setIfInBounds_toArray, List.set_cons_zero, List.set_cons_succ]
  refine wpList_plain rfl (fun K hK => ?_)
  go_simp
  refine (atG (.slice aL n cL) (.slice aC m cC) D s p _ (LRow.next HL.out HF3.out) (by rw [HN.out]; have := HFIT.out.nl; rw [HN.out] at this; omega)).mono ?_
  rintro e w4 ⟨rfl, f4⟩
  refine hK _ _ ?_
  clear hK K
  rw [HI.out]
  simp only [place]
  try simp only [Act.put, List.getElem_toArray, List.getElem_cons_succ, List.getElem_cons_zero, List.setIfInBounds_toArray, List.set_cons_zero, List.set_cons_succ]
  refine wpList_plain rfl (fun K hK => ?_); go_simp; refine hK _ _ ?_; clear hK K
  refine wpList_nil ?_
  try simp only [Act.put, List.getElem_toArray, List.getElem_cons_succ, List.getElem_cons_zero, List.setIfInBounds_toArray, List.set_cons_zero, List.set_cons_succ]
  have HF4 := Lib.hid (HF3.out.step f4)
  have HB04 := Lib.hid (HB03.out.keep f4 (by simp))
  have HB24 := Lib.hid (HB23.out.keep f4 (by simp))
  clear f4 HF3 HB03 HB13 HB23 e0 e1
  have hi0 : (0 : Int) ≤ (i : Int) := by omega
  have hin' : (i : Int) < (n : Int) := by omega
  have dlt : decide ((i : Int) < 0) = false := decide_eq_false (by omega)
  go_upto_region 7 with fail
  obtain ⟨g, off, cap, X, hvv, hg, hX, hl, q0, rfl, hrow⟩ := HL.out.lies HY.out
  rw [HN.out] at hvv
  simp only [Value.slice.injEq] at hvv
  obtain ⟨rfl, _, rfl⟩ := hvv
  have HLY := Lib.hid hl
  have HROW := Lib.hid hrow
  have hql : q0.2.1 = y.l.length := by
    obtain ⟨a, c', he⟩ := hrow.val
    simp only [slv, Value.slice.injEq] at he
    exact he.2.1
  obtain ⟨Q1, Q2, Q3⟩ := q0
  simp only at hql
  subst hql
  clear hl hrow hg hX
  obtain ⟨w5, hw5⟩ : ∃ z, w4.drew = z := ⟨_, rfl⟩
  have f5 : Fr [] w4 w5 := by rw [← hw5]; exact (Fr.refl [] w4).drew
  have HF5 := Lib.hid (HF4.out.step f5)
  have HB05 := Lib.hid (HB04.out.keep f5 (by simp))
  have HB25 := Lib.hid (HB24.out.keep f5 (by simp))
  have HW5 := Lib.hid hw5
  clear f5 hw5 HF4 HB04 HB24
  refine wp_region_held_drew (S := fun w' => w'.cell? ⟨B, 0, none⟩ = some (.slice (some ⟨g, off, none⟩) n cL) ∧ w'.cell? ⟨g, off + i * 5 + 3, none⟩ = some (.int .i64 y.most) ∧ w'.cell? ⟨g, off + i * 5 + 4, none⟩ = some (.slice Q1 y.l.length Q3)) (by kernel_rfl) (by rw [HW5.out]; exact ⟨HB05.out.at 0 _ rfl, HF5.out.keep (HLY.out 3 _ rfl) (by simp), HF5.out.keep (HLY.out 4 _ rfl) (by simp)⟩) (fun hHeld => ?_)
  rw [HW5.out] at hHeld ⊢
  refine wpAnyH_take (i := 0) (oi := _) (v := ?_) rfl (by kernel_rfl) (by kernel_rfl) (by kernel_rfl) (fun _ _ _ h => h) (Or.inl ⟨by rfl, ?_⟩) (by first | assumption | trivial) ?_
  rotate_left
  · intro w hSw; (try dsimp only at hSw); go_simp; try with_reducible rfl
  try simp only [Act.put, List.getElem_toArray, List.getElem_cons_succ, List.getElem_cons_zero, List.setIfInBounds_toArray, List.set_cons_zero, List.set_cons_succ]
  refine wpAnyH_take (i := 1) (oi := _) (v := ?_) rfl (by kernel_rfl) (by kernel_rfl) (by kernel_rfl) (fun _ _ _ h => h) (Or.inl ⟨by rfl, ?_⟩) (by first | assumption | trivial) ?_
  rotate_left
  · intro w hSw; (try dsimp only at hSw); go_simp; try with_reducible rfl
  try simp only [Act.put, List.getElem_toArray, List.getElem_cons_succ, List.getElem_cons_zero, List.setIfInBounds_toArray, List.set_cons_zero, List.set_cons_succ]
  refine wpAnyH_take (i := 2) (oi := _) (v := ?_) rfl (by kernel_rfl) (by kernel_rfl) (by kernel_rfl) (fun _ _ _ h => h) (Or.inl ⟨by rfl, ?_⟩) (by first | assumption | trivial) ?_
  rotate_left
  · intro w hSw; (try dsimp only at hSw); go_simp; try with_reducible rfl
  try simp only [Act.put, List.getElem_toArray, List.getElem_cons_succ, List.getElem_cons_zero, List.setIfInBounds_toArray, List.set_cons_zero, List.set_cons_succ]
  refine wpAnyH_take (i := 3) (oi := _) (v := ?_) rfl (by kernel_rfl) (by kernel_rfl) (by kernel_rfl) (fun _ _ _ h => h) (Or.inl ⟨by rfl, ?_⟩) (by first | assumption | trivial) ?_
  rotate_left
  · intro w hSw; (try dsimp only at hSw); go_simp; try with_reducible rfl
  try simp only [Act.put, List.getElem_toArray, List.getElem_cons_succ, List.getElem_cons_zero, List.setIfInBounds_toArray, List.set_cons_zero, List.set_cons_succ]
  refine wpAnyH_take (i := 4) (oi := _) (v := ?_) rfl (by kernel_rfl) (by kernel_rfl) (by kernel_rfl) (fun _ _ _ h => h) (Or.inl ⟨by rfl, ?_⟩) (by first | assumption | trivial) ?_
  rotate_left
  · intro w hSw; (try dsimp only at hSw); go_simp; try with_reducible rfl
  try simp only [Act.put, List.getElem_toArray, List.getElem_cons_succ, List.getElem_cons_zero, List.setIfInBounds_toArray, List.set_cons_zero, List.set_cons_succ]
  refine wpAnyH_take (i := 5) (oi := _) (v := ?_) rfl (by kernel_rfl) (by kernel_rfl) (by kernel_rfl) (fun _ _ _ h => h) (Or.inl ⟨by rfl, ?_⟩) (by first | assumption | trivial) ?_
  rotate_left
  · intro w hSw; (try dsimp only at hSw); go_simp; try with_reducible rfl
  try simp only [Act.put, List.getElem_toArray, List.getElem_cons_succ, List.getElem_cons_zero, List.setIfInBounds_toArray, List.set_cons_zero, List.set_cons_succ]
  refine wpAnyH_take (i := 6) (oi := _) (v := ?_) rfl (by kernel_rfl) (by kernel_rfl) (by kernel_rfl) (fun _ _ _ h => h) (Or.inl ⟨by rfl, ?_⟩) (by first | assumption | trivial) ?_
  rotate_left
  · intro w hSw; (try dsimp only at hSw); go_simp; try with_reducible rfl
  try simp only [Act.put, List.getElem_toArray, List.getElem_cons_succ, List.getElem_cons_zero, List.setIfInBounds_toArray, List.set_cons_zero, List.set_cons_succ]
  refine wpAnyH_take (i := 7) (oi := _) (v := ?_) rfl (by kernel_rfl) (by kernel_rfl) (by kernel_rfl) (fun _ _ _ h => h) (Or.inl ⟨by rfl, ?_⟩) (by first | assumption | trivial) ?_
  rotate_left
  · intro w hSw; (try dsimp only at hSw); go_simp; try with_reducible rfl
  try simp only [Act.put, List.getElem_toArray, List.getElem_cons_succ, List.getElem_cons_zero, List.setIfInBounds_toArray, List.set_cons_zero, List.set_cons_succ]
  refine wpAnyH_take (i := 8) (oi := _) (v := ?_) rfl (by kernel_rfl) (by kernel_rfl) (by kernel_rfl) (fun _ _ _ h => h) (Or.inl ⟨by rfl, ?_⟩) (by first | assumption | trivial) ?_
  rotate_left
  · intro w hSw; (try dsimp only at hSw); go_simp; try with_reducible rfl
  try simp only [Act.put, List.getElem_toArray, List.getElem_cons_succ, List.getElem_cons_zero, List.setIfInBounds_toArray, List.set_cons_zero, List.set_cons_succ]
  refine wpAnyH_take (i := 9) (oi := _) (v := ?_) rfl (by kernel_rfl) (by kernel_rfl) (by kernel_rfl) (fun _ _ _ h => h) (Or.inl ⟨by rfl, ?_⟩) (by first | assumption | trivial) ?_
  rotate_left
  · intro w hSw; (try dsimp only at hSw); go_simp; try with_reducible rfl
  try simp only [Act.put, List.getElem_toArray, List.getElem_cons_succ, List.getElem_cons_zero, List.setIfInBounds_toArray, List.set_cons_zero, List.set_cons_succ]
  refine wpAnyH_take (i := 10) (oi := _) (v := ?_) rfl (by kernel_rfl) (by kernel_rfl) (by kernel_rfl) (fun _ _ _ h => h) (Or.inl ⟨by rfl, ?_⟩) (by first | assumption | trivial) ?_
  rotate_left
  · intro w hSw; (try dsimp only at hSw); go_simp; try with_reducible rfl
  try simp only [Act.put, List.getElem_toArray, List.getElem_cons_succ, List.getElem_cons_zero, List.setIfInBounds_toArray, List.set_cons_zero, List.set_cons_succ]
  refine wpAnyH_take (i := 11) (oi := _) (v := ?_) rfl (by kernel_rfl) (by kernel_rfl) (by kernel_rfl) (fun _ _ _ h => h) (Or.inl ⟨by rfl, ?_⟩) (by first | assumption | trivial) ?_
  rotate_left
  · intro w hSw; (try dsimp only at hSw); go_simp; try with_reducible rfl
  try simp only [Act.put, List.getElem_toArray, List.getElem_cons_succ, List.getElem_cons_zero, List.setIfInBounds_toArray, List.set_cons_zero, List.set_cons_succ]
  refine wpAnyH_take (i := 12) (oi := _) (v := ?_) rfl (by kernel_rfl) (by kernel_rfl) (by kernel_rfl) (fun _ _ _ h => h) (Or.inl ⟨by rfl, ?_⟩) (by first | assumption | trivial) ?_
  rotate_left
  · intro w hSw; (try dsimp only at hSw); go_simp; try with_reducible rfl
  try simp only [Act.put, List.getElem_toArray, List.getElem_cons_succ, List.getElem_cons_zero, List.setIfInBounds_toArray, List.set_cons_zero, List.set_cons_succ]
  refine wpAnyH_take (i := 13) (oi := _) (v := ?_) rfl (by kernel_rfl) (by kernel_rfl) (by kernel_rfl) (fun _ _ _ h => h) (Or.inl ⟨by rfl, ?_⟩) (by first | assumption | trivial) ?_
  rotate_left
  · intro w hSw; (try dsimp only at hSw); go_simp; try with_reducible rfl
  try simp only [Act.put, List.getElem_toArray, List.getElem_cons_succ, List.getElem_cons_zero, List.setIfInBounds_toArray, List.set_cons_zero, List.set_cons_succ]
  refine wpAnyH_take (i := 14) (oi := _) (v := ?_) rfl (by kernel_rfl) (by kernel_rfl) (by kernel_rfl) (fun _ _ _ h => h) (Or.inl ⟨by rfl, ?_⟩) (by first | assumption | trivial) ?_
  rotate_left
  · intro w hSw; (try dsimp only at hSw); go_simp; try with_reducible rfl
  try simp only [Act.put, List.getElem_toArray, List.getElem_cons_succ, List.getElem_cons_zero, List.setIfInBounds_toArray, List.set_cons_zero, List.set_cons_succ]
  refine wpAnyH_take (i := 15) (oi := _) (v := ?_) rfl (by kernel_rfl) (by kernel_rfl) (by kernel_rfl) (fun _ _ _ h => h) (Or.inl ⟨by rfl, ?_⟩) (by first | assumption | trivial) ?_
  rotate_left
  · intro w hSw; (try dsimp only at hSw); go_simp; try with_reducible rfl
  try simp only [Act.put, List.getElem_toArray, List.getElem_cons_succ, List.getElem_cons_zero, List.setIfInBounds_toArray, List.set_cons_zero, List.set_cons_succ]
  refine wpAnyH_done (by kernel_rfl) ?_ _
  clear hHeld
  have deq : ((y.l.length : Int) == y.most) = false := beq_eq_false_iff_ne.2 hq
  have deq2 : decide ((y.l.length : Int) = y.most) = false := decide_eq_false hq
  go_upto_region 9 with fail
  refine wp_region_lit ?_
  refine wpList_val rfl (v := .agg (two (.slice (some ⟨g, off, none⟩) n cL) (.slice aC m cC)).toArray) (w' := w5) ?_ ?_
  · show Sem.run Tryz.prog ((Instr.loadAt 34 (.pointer (some ⟨B, 0, none⟩))) >>= fun x => pure (Next.value x)) w5 = _
    rw [Sem.run_bind, load_all agg34 size34 (xs := two (.slice (some ⟨g, off, none⟩) n cL) (.slice aC m cC)) rfl HB05.out.at]
    rfl
  try simp only [Act.put, List.getElem_toArray, List.getElem_cons_succ, List.getElem_cons_zero, List.setIfInBounds_toArray, List.set_cons_zero, List.set_cons_succ]
  refine wpList_plain rfl (fun K hK => ?_); go_simp; refine hK _ _ ?_; clear hK K
  try simp only [Act.put, List.getElem_toArray, List.getElem_cons_succ, List.getElem_cons_zero, List.setIfInBounds_toArray, List.set_cons_zero, List.set_cons_succ]
  refine wpList_plain rfl (fun K hK => ?_)
  go_simp
  refine (nPair_ok (.slice (some ⟨g, off, none⟩) n cL) (.slice aC m cC) D C c _ (LRow.next HL.out HF5.out) (CRow.next HC.out HF5.out) hc HFIT.out (by rw [HM.out]; exact hm) HSO.out).mono ?_
  rintro e w6 ⟨sL, sC, rfl, oL, oC, f6⟩
  refine hK _ _ ?_
  clear hK K
  try simp only [Act.put, List.getElem_toArray, List.getElem_cons_succ, List.getElem_cons_zero, List.setIfInBounds_toArray, List.set_cons_zero, List.set_cons_succ]
  refine wpList_plain rfl (fun K hK => ?_); go_simp; refine hK _ _ ?_; clear hK K
  refine wpList_plain rfl (fun K hK => ?_); go_simp; refine hK _ _ ?_; clear hK K
  refine wpList_plain rfl (fun K hK => ?_); go_simp; refine hK _ _ ?_; clear hK K
  refine wpList_plain rfl (fun K hK => ?_); go_simp; refine hK _ _ ?_; clear hK K
  refine wpList_plain rfl (fun K hK => ?_); go_simp; refine hK _ _ ?_; clear hK K
  try simp only [Act.put, List.getElem_toArray, List.getElem_cons_succ, List.getElem_cons_zero, List.setIfInBounds_toArray, List.set_cons_zero, List.set_cons_succ]
  have HF6 := Lib.hid (HF5.out.step f6)
  have HB26 := Lib.hid (HB25.out.keep f6 (by simp))
  have HOL6 := Lib.hid (oL.base (B' := B) (by rw [← HBS.out]; exact HF5.out.size))
  have HOC6 := Lib.hid (oC.base (B' := B) (by rw [← HBS.out]; exact HF5.out.size))
  clear oL oC f6 HF5 HB05 HB25 HLY HROW
  obtain ⟨E7, hE_⟩ : ∃ E, w6.heap.size = E := ⟨_, rfl⟩
  obtain ⟨wy, hw_⟩ : ∃ z, w6.alloc (.cells #[.slice none 0 0, .slice none 0 0] 34) = z := ⟨_, rfl⟩
  have hbx : Blk wy E7 34 zNt := by rw [← hw_, ← hE_]; exact Blk.made w6 34 zNt
  have fx : Fr [] w6 wy := by rw [← hw_]; exact (Fr.refl [] w6).alloc _
  rw [hw_]
  simp only [hE_]
  have HE7 := Lib.hid (show w.heap.size ≤ E7 ∧ B + 2 < E7 from by rw [← hE_]; exact ⟨HF6.out.size, HB26.out.lt⟩)
  have HY7 := Lib.hid hbx
  have HF7 := Lib.hid (HF6.out.step fx)
  have HB27 := Lib.hid (HB26.out.keep fx (by simp))
  have HOL7 := Lib.hid (HOL6.out.next fx)
  have HOC7 := Lib.hid (HOC6.out.next fx)
  clear fx hbx hw_ hE_ HF6 HB26 HOL6 HOC6
  obtain ⟨w8, hst, hb_, hf_⟩ := store_all (t := 34) (two (slv sL) (slv sC)) size34 rfl (two_one _ _) HY7.out rfl
  refine wpList_skp rfl (w' := w8) ?_ ?_
  · show Sem.run Tryz.prog ((Instr.storeAt 34 (.pointer (some ⟨E7, 0, none⟩)) (.agg (two (slv sL) (slv sC)).toArray)) >>= fun _ => pure Next.skip) _ = _
    rw [Sem.run_bind, hst]
    rfl
  clear hst
  try simp only [Act.put, List.getElem_toArray, List.getElem_cons_succ, List.getElem_cons_zero, List.setIfInBounds_toArray, List.set_cons_zero, List.set_cons_succ]
  refine wpList_plain rfl (fun K hK => ?_); go_simp; refine hK _ _ ?_; clear hK K
  refine wpList_plain rfl (fun K hK => ?_); go_simp; refine hK _ _ ?_; clear hK K
  refine wpList_nil ?_
  try simp only [Act.put, List.getElem_toArray, List.getElem_cons_succ, List.getElem_cons_zero, List.setIfInBounds_toArray, List.set_cons_zero, List.set_cons_succ]
  have HY8 := Lib.hid hb_
  have HB28 := Lib.hid (HB27.out.keep hf_ (fun hm => by rw [List.mem_singleton] at hm; have := HE7.out; omega))
  have HF8 := Lib.hid (HF7.out.own1 (S := []) (B := 0) hf_ HE7.out.1)
  have HOL8 := Lib.hid (HOL7.out.far HY7.out hf_ (by decide) (by decide))
  have HOC8 := Lib.hid (HOC7.out.far HY7.out hf_ (by decide) (by decide))
  clear hb_ hf_ HY7 HB27 HF7 HOL7 HOC7
  obtain ⟨w9, hw9⟩ : ∃ z, w8.drew = z := ⟨_, rfl⟩
  have f9 : Fr [] w8 w9 := by rw [← hw9]; exact (Fr.refl [] w8).drew
  have HY9 := Lib.hid (HY8.out.keep f9 (by simp))
  have HB29 := Lib.hid (HB28.out.keep f9 (by simp))
  have HF9 := Lib.hid (HF8.out.step f9)
  have HOC9 := Lib.hid (HOC8.out.next f9)
  obtain ⟨Xs, hrec, hown, hsep⟩ := HOL8.out.next f9
  rw [HN.out] at hown
  have HW9 := Lib.hid hw9
  clear f9 hw9 HY8 HB28 HF8 HOL8 HOC8
  have hXi := List.getElem?_eq_getElem (l := Xs) (i := i) (by rw [hrec.len, HN.out]; exact hin)
  obtain ⟨X, hXX⟩ : ∃ X, Xs[i]'(by rw [hrec.len, HN.out]; exact hin) = X := ⟨_, rfl⟩
  rw [hXX] at hXi
  obtain ⟨q, rfl, hqo⟩ := hrec.el i X y hXi HY.out
  have HXI := Lib.hid hXi
  have HREC9 := Lib.hid hrec
  have HSEP := Lib.hid hsep
  have HOWN9 := Lib.hid hown
  have HQO9 := Lib.hid hqo
  obtain ⟨sL1, sL2, sL3⟩ := sL
  obtain ⟨gL, hgL, hsn⟩ : ∃ gL, sL1 = some ⟨gL, 0, none⟩ ∧ sL2 = n := by
    rcases hown.2 with ⟨he, h0⟩ | ⟨gL, cap, cur, he, _⟩
    · omega
    · simp only [slv, Value.slice.injEq] at he
      exact ⟨gL, he.1, he.2.1⟩
  subst hgL
  subst hsn
  have HCQ := Lib.hid (show LiesAt w9 gL (i * 5) (lsC y q) from by
    obtain ⟨g', off', c', he, hg', hl'⟩ := (RowV.of_own hown).at hin
    simp only [slv, Value.slice.injEq, Option.some.injEq, Addr.mk.injEq, and_true] at he
    obtain ⟨⟨rfl, rfl⟩, _, rfl⟩ := he
    rw [flat_at hrec.sz hXi, Nat.zero_add] at hl'
    exact hl')
  clear hrec hown hqo hXi hXX hsep
  go_upto_region 12 with fail
  refine wp_region_held_drew (S := fun w' => w'.cell? ⟨E7, 0, none⟩ = some (.slice (some ⟨gL, 0, none⟩) sL2 sL3)) (by kernel_rfl) (by rw [HW9.out]; exact HY9.out.at 0 _ rfl) (fun hHeld => ?_)
  rw [HW9.out] at hHeld ⊢
  refine wpAnyH_take (i := 0) (oi := _) (v := ?_) rfl (by kernel_rfl) (by kernel_rfl) (by kernel_rfl) (fun _ _ _ h => h) (Or.inl ⟨by rfl, ?_⟩) (by first | assumption | trivial) ?_
  rotate_left
  · intro w hSw; (try dsimp only at hSw); go_simp; try with_reducible rfl
  try simp only [Act.put, List.getElem_toArray, List.getElem_cons_succ, List.getElem_cons_zero, List.setIfInBounds_toArray, List.set_cons_zero, List.set_cons_succ]
  refine wpAnyH_take (i := 1) (oi := _) (v := ?_) rfl (by kernel_rfl) (by kernel_rfl) (by kernel_rfl) (fun _ _ _ h => h) (Or.inl ⟨by rfl, ?_⟩) (by first | assumption | trivial) ?_
  rotate_left
  · intro w hSw; (try dsimp only at hSw); go_simp; try with_reducible rfl
  try simp only [Act.put, List.getElem_toArray, List.getElem_cons_succ, List.getElem_cons_zero, List.setIfInBounds_toArray, List.set_cons_zero, List.set_cons_succ]
  refine wpAnyH_take (i := 2) (oi := _) (v := ?_) rfl (by kernel_rfl) (by kernel_rfl) (by kernel_rfl) (fun _ _ _ h => h) (Or.inl ⟨by rfl, ?_⟩) (by first | assumption | trivial) ?_
  rotate_left
  · intro w hSw; (try dsimp only at hSw); go_simp; try with_reducible rfl
  try simp only [Act.put, List.getElem_toArray, List.getElem_cons_succ, List.getElem_cons_zero, List.setIfInBounds_toArray, List.set_cons_zero, List.set_cons_succ]
  refine wpAnyH_take (i := 3) (oi := _) (v := ?_) rfl (by kernel_rfl) (by kernel_rfl) (by kernel_rfl) (fun _ _ _ h => h) (Or.inl ⟨by rfl, ?_⟩) (by first | assumption | trivial) ?_
  rotate_left
  · intro w hSw; (try dsimp only at hSw); go_simp; try with_reducible rfl
  try simp only [Act.put, List.getElem_toArray, List.getElem_cons_succ, List.getElem_cons_zero, List.setIfInBounds_toArray, List.set_cons_zero, List.set_cons_succ]
  refine wpAnyH_take (i := 4) (oi := _) (v := ?_) rfl (by kernel_rfl) (by kernel_rfl) (by kernel_rfl) (fun _ _ _ h => h) (Or.inl ⟨by rfl, ?_⟩) (by first | assumption | trivial) ?_
  rotate_left
  · intro w hSw; (try dsimp only at hSw); go_simp; try with_reducible rfl
  try simp only [Act.put, List.getElem_toArray, List.getElem_cons_succ, List.getElem_cons_zero, List.setIfInBounds_toArray, List.set_cons_zero, List.set_cons_succ]
  refine wpAnyH_take (i := 5) (oi := _) (v := ?_) rfl (by kernel_rfl) (by kernel_rfl) (by kernel_rfl) (fun _ _ _ h => h) (Or.inl ⟨by rfl, ?_⟩) (by first | assumption | trivial) ?_
  rotate_left
  · intro w hSw; (try dsimp only at hSw); go_simp; try with_reducible rfl
  try simp only [Act.put, List.getElem_toArray, List.getElem_cons_succ, List.getElem_cons_zero, List.setIfInBounds_toArray, List.set_cons_zero, List.set_cons_succ]
  refine wpAnyH_take (i := 6) (oi := _) (v := ?_) rfl (by kernel_rfl) (by kernel_rfl) (by kernel_rfl) (fun _ _ _ h => h) (Or.inl ⟨by rfl, ?_⟩) (by first | assumption | trivial) ?_
  rotate_left
  · intro w hSw; (try dsimp only at hSw); go_simp; try with_reducible rfl
  try simp only [Act.put, List.getElem_toArray, List.getElem_cons_succ, List.getElem_cons_zero, List.setIfInBounds_toArray, List.set_cons_zero, List.set_cons_succ]
  refine wpAnyH_take (i := 7) (oi := _) (v := ?_) rfl (by kernel_rfl) (by kernel_rfl) (by kernel_rfl) (fun _ _ _ h => h) (Or.inl ⟨by rfl, ?_⟩) (by first | assumption | trivial) ?_
  rotate_left
  · intro w hSw; (try dsimp only at hSw); go_simp; try with_reducible rfl
  try simp only [Act.put, List.getElem_toArray, List.getElem_cons_succ, List.getElem_cons_zero, List.setIfInBounds_toArray, List.set_cons_zero, List.set_cons_succ]
  refine wpAnyH_take (i := 8) (oi := _) (v := ?_) rfl (by kernel_rfl) (by kernel_rfl) (by kernel_rfl) (fun _ _ _ h => h) (Or.inl ⟨by rfl, ?_⟩) (by first | assumption | trivial) ?_
  rotate_left
  · intro w hSw; (try dsimp only at hSw); go_simp; try with_reducible rfl
  try simp only [Act.put, List.getElem_toArray, List.getElem_cons_succ, List.getElem_cons_zero, List.setIfInBounds_toArray, List.set_cons_zero, List.set_cons_succ]
  refine wpAnyH_take (i := 10) (oi := _) (v := ?_) rfl (by kernel_rfl) (by kernel_rfl) (by kernel_rfl) (fun _ _ _ h => h) (Or.inl ⟨by rfl, ?_⟩) (by first | assumption | trivial) ?_
  rotate_left
  · intro w hSw; (try dsimp only at hSw); go_simp; try with_reducible rfl
  try simp only [Act.put, List.getElem_toArray, List.getElem_cons_succ, List.getElem_cons_zero, List.setIfInBounds_toArray, List.set_cons_zero, List.set_cons_succ]
  refine wpAnyH_ready (rs := [9, 11]) (by kernel_rfl) (by simp) ?_
  refine AllReadyH.cons (o := _) rfl (fun K hK => ?_) (AllReadyH.cons (o := _) rfl (fun K hK => ?_) AllReadyH.nil)
  · skip
    have c4 : w9.cell? ⟨gL, i * 5 + 4, none⟩ = some (.slice q.1 q.2.1 q.2.2) := HCQ.out 4 _ rfl
    go_simp
    refine hK.out _ _ (hHeld) (fun hHeld => ?_)
    clear hK K
    try simp only [Act.put, List.getElem_toArray, List.getElem_cons_succ, List.getElem_cons_zero, List.setIfInBounds_toArray, List.set_cons_zero, List.set_cons_succ]
    clear c4
    refine wpAnyH_ready (rs := [11]) (by kernel_rfl) (by simp) ?_
    refine AllReadyH.cons (o := _) rfl (fun K hK => ?_) AllReadyH.nil
    obtain ⟨w10, hw10⟩ : ∃ z, w9.alloc (.cells #[.int .i64 (frG C)] 3) = z := ⟨_, rfl⟩
    obtain ⟨E10, hE10⟩ : ∃ z, w9.heap.size = z := ⟨_, rfl⟩
    have f10 : Fr [] w9 w10 := by rw [← hw10]; exact (Fr.refl [] w9).alloc _
    have hb10 : Blk w10 E10 3 (intsV [(frG C : Int)]) := by rw [← hw10, ← hE10]; exact Blk.made w9 3 (intsV [(frG C : Int)])
    have HR10 := Lib.hid (show RowV w10 (.slice (some ⟨E10, 0, none⟩) 1 1) 1 1 (intsV [(frG C : Int)]) from ⟨rfl, .inr ⟨E10, 0, 1, rfl, hb10.lt, hb10.at⟩⟩)
    split
    rotate_left
    · rename_i hno
      exact absurd rfl hno
    refine wp_vl (v := .slice (some ⟨E10, 0, none⟩) 1 1) (w' := w10) ?_ ?_
    · refine exec_bsl (V := .int .i64 (frG C)) rfl rfl ?_
      rw [exec_bslInt, hw10, hE10]
    have HF10 := Lib.hid f10
    clear hw10 hE10 hb10 f10
    refine hK.out _ _ (HF10.out.keep hHeld (by simp)) (fun hHeld => ?_)
    clear hK K
    try simp only [Act.put, List.getElem_toArray, List.getElem_cons_succ, List.getElem_cons_zero, List.setIfInBounds_toArray, List.set_cons_zero, List.set_cons_succ]
    refine wpAnyH_ready (rs := [12]) (by kernel_rfl) (by simp) ?_
    refine AllReadyH.cons (o := _) rfl (fun K hK => ?_) AllReadyH.nil
    split
    rotate_left
    · rename_i hno
      exact absurd rfl hno
    refine wp_append_any elemInt _ _ rfl B (v := slv q) (n := y.l.length) (xs := intsV y.l) rfl (rowNew HQO9.out HF10.out) (X := .slice (some ⟨E10, 0, none⟩) 1 1) (m := 1) (news := intsV [(frG C : Int)]) rfl HR10.out (intsV_one _) (by have := HFIT.out.q y (List.mem_of_getElem? HY.out); omega) (by decide) (by have := HBS.out; have := (HF9.out.step HF10.out).size; omega) ?_
    intro q' w11 ho11 f11
    have hq10 := rowNew HQO9.out HF10.out
    have HY11 := Lib.hid ((HY9.out.keep HF10.out (by simp)).farRow hq10 f11 (by decide))
    have HB211 := Lib.hid ((HB29.out.keep HF10.out (by simp)).farRow hq10 f11 (by decide))
    have HF11 := Lib.hid ((HF9.out.step HF10.out).ownRow hq10 f11 (by rw [HBS.out]; exact Nat.le_refl _))
    have HOC11 := Lib.hid ((HOC9.out.next HF10.out).farRow hq10 f11 (by decide) (by decide))
    have HOWN11 := Lib.hid (rowFar (rowNew HOWN9.out HF10.out) hq10 f11 (by decide))
    have HQ11 := Lib.hid ho11
    have HFQ := Lib.hid f11
    clear ho11 f11 hq10
    refine hK.out _ _ (HY11.out.at 0 _ rfl) (fun hHeld => ?_)
    clear hK K
    try simp only [Act.put, List.getElem_toArray, List.getElem_cons_succ, List.getElem_cons_zero, List.setIfInBounds_toArray, List.set_cons_zero, List.set_cons_succ]
    refine wpAnyH_take (i := 13) (oi := _) (v := ?_) rfl (by kernel_rfl) (by kernel_rfl) (by kernel_rfl) (fun _ _ _ h => h) (Or.inl ⟨by rfl, ?_⟩) (by first | assumption | trivial) ?_
    rotate_left
    · intro w hSw; (try dsimp only at hSw); go_simp; try with_reducible rfl
    try simp only [Act.put, List.getElem_toArray, List.getElem_cons_succ, List.getElem_cons_zero, List.setIfInBounds_toArray, List.set_cons_zero, List.set_cons_succ]
    refine wpAnyH_take (i := 14) (oi := _) (v := ?_) rfl (by kernel_rfl) (by kernel_rfl) (by kernel_rfl) (fun _ _ _ h => h) (Or.inl ⟨by rfl, ?_⟩) (by first | assumption | trivial) ?_
    rotate_left
    · intro w hSw; (try dsimp only at hSw); go_simp; try with_reducible rfl
    try simp only [Act.put, List.getElem_toArray, List.getElem_cons_succ, List.getElem_cons_zero, List.setIfInBounds_toArray, List.set_cons_zero, List.set_cons_succ]
    refine wpAnyH_take (i := 15) (oi := _) (v := ?_) rfl (by kernel_rfl) (by kernel_rfl) (by kernel_rfl) (fun _ _ _ h => h) (Or.inl ⟨by rfl, ?_⟩) (by first | assumption | trivial) ?_
    rotate_left
    · intro w hSw; (try dsimp only at hSw); go_simp; try with_reducible rfl
    try simp only [Act.put, List.getElem_toArray, List.getElem_cons_succ, List.getElem_cons_zero, List.setIfInBounds_toArray, List.set_cons_zero, List.set_cons_succ]
    refine wpAnyH_ready (rs := [16]) (by kernel_rfl) (by simp) ?_
    refine AllReadyH.cons (o := _) rfl (fun K hK => ?_) AllReadyH.nil
    obtain ⟨w12, hst, hrow12, hf_⟩ := own_store (t := 75) (k := i * 5 + 4) [slv q'] (slv q') size75 rfl rfl (by intro u hu; rw [List.mem_singleton] at hu; rw [hu]; rfl) HOWN11.out (by show i * 5 + 4 + 1 ≤ sL2 * 5; omega)
    split
    rotate_left
    · rename_i hno
      exact absurd rfl hno
    refine wp_skp (w' := w12) ?_ ?_
    · show Sem.run Tryz.prog ((Instr.storeAt 75 (.pointer (some ⟨gL, i * 5 + 4, none⟩)) (slv q')) >>= fun _ => pure Next.skip) _ = _
      rw [Sem.run_bind, hst]
      rfl
    clear hst
    have HY12 := Lib.hid (HY11.out.keep hf_ (fun hm => by rw [List.mem_singleton] at hm; exact blkNe HY11.out HOWN11.out (by decide) (by simp [slv, Value.ownBlock, hm])))
    have HB212 := Lib.hid (HB211.out.keep hf_ (fun hm => by rw [List.mem_singleton] at hm; exact blkNe HB211.out HOWN11.out (by decide) (by simp [slv, Value.ownBlock, hm])))
    have HF12 := Lib.hid (HF11.out.own1 (S := []) (B := 0) hf_ (by rw [HBS.out]; exact (HOWN11.out.lt gL rfl).1))
    have hfo : Fr (Value.ownBlock (slv (some ⟨gL, 0, none⟩, sL2, sL3))).toList w11 w12 := hf_
    have HOC12 := Lib.hid (HOC11.out.farRow HOWN11.out hfo (by decide) (by decide))
    have HROW12 := Lib.hid hrow12
    have HFO := Lib.hid hfo
    clear hrow12 hfo hf_
    refine hK.out _ _ (HY12.out.at 0 _ rfl) (fun hHeld => ?_)
    clear hK K
    try simp only [Act.put, List.getElem_toArray, List.getElem_cons_succ, List.getElem_cons_zero, List.setIfInBounds_toArray, List.set_cons_zero, List.set_cons_succ]
    refine wpAnyH_done (by kernel_rfl) ?_ _
    clear hHeld
    have HLL := Lib.hid (show RowO 100 5 (ElLO B) w12 B (slv (some ⟨gL, 0, none⟩, sL2, sL3)) (D.set i { y with l := y.l ++ [(frG C : Int)] }) from by
      refine ⟨Xs.set i (lsC { y with l := y.l ++ [(frG C : Int)] } q'), ?_, ?_⟩
      · have hq9 := rowNew HQO9.out HF10.out
        refine ⟨by rw [List.length_set, List.length_set, HREC9.out.len], fun X hX => ?_, fun X hX => ?_, fun j X z hXj hzj => ?_⟩
        · rcases List.mem_or_eq_of_mem_set hX with hX | rfl
          · exact HREC9.out.sz X hX
          · rfl
        · rcases List.mem_or_eq_of_mem_set hX with hX | rfl
          · exact HREC9.out.one X hX
          · exact lsC_one _ _
        · by_cases hij : i = j
          · subst hij
            rw [List.getElem?_set_self (List.getElem?_eq_some_iff.1 HXI.out).1] at hXj
            rw [List.getElem?_set_self (List.getElem?_eq_some_iff.1 HY.out).1] at hzj
            cases hXj
            cases hzj
            refine ⟨q', rfl, ?_⟩
            have h9 := rowFar HQ11.out HOWN11.out HFO.out (by decide)
            simpa [intsV] using h9
          · rw [List.getElem?_set_ne hij] at hXj hzj
            obtain ⟨t, rfl, ht⟩ := HREC9.out.el j X z hXj hzj
            have hne := HSEP.out.ne hij HXI.out hXj
            have ht2 := rowFr' (rowNew ht HF10.out) HFQ.out (fun g hg hm => by
              have hm' : (slv q).ownBlock = some g := by simpa using hm
              exact hne g hm' hg)
            have h9 := rowFar ht2 HOWN11.out HFO.out (by decide)
            exact ⟨t, rfl, h9⟩
      · have hfl := flat_set (vs := [slv q']) (a := 4) HREC9.out.sz HXI.out (by simp)
        have hX' : (lsC y q).take 4 ++ [slv q'] ++ (lsC y q).drop (4 + [slv q'].length) = lsC { y with l := y.l ++ [(frG C : Int)] } q' := rfl
        rw [hX'] at hfl
        rw [hfl, List.length_set, HN.out]
        exact HROW12.out)
    clear HREC9 HSEP HOWN9 HQO9 HCQ HXI HROW12 HFO HFQ HQ11 HOWN11 HR10 HF10 HY9 HB29 HF9 HOC9 HY11 HB211 HF11 HOC11
    go_upto_region 13 with fail
    refine wp_region_lit ?_
    refine wpList_val rfl (v := .agg (two (slv (some ⟨gL, 0, none⟩, sL2, sL3)) (slv sC)).toArray) (w' := w12) ?_ ?_
    · show Sem.run Tryz.prog ((Instr.loadAt 34 (.pointer (some ⟨E7, 0, none⟩))) >>= fun x => pure (Next.value x)) w12 = _
      rw [Sem.run_bind, load_all agg34 size34 (xs := two (slv (some ⟨gL, 0, none⟩, sL2, sL3)) (slv sC)) rfl HY12.out.at]
      rfl
    try simp only [Act.put, List.getElem_toArray, List.getElem_cons_succ, List.getElem_cons_zero, List.setIfInBounds_toArray, List.set_cons_zero, List.set_cons_succ]
    refine wpList_plain rfl (fun K hK => ?_); go_simp; refine hK _ _ ?_; clear hK K
    try simp only [Act.put, List.getElem_toArray, List.getElem_cons_succ, List.getElem_cons_zero, List.setIfInBounds_toArray, List.set_cons_zero, List.set_cons_succ]
    obtain ⟨w13, hst, hb_, hf_⟩ := store_all (t := 34) (two (slv (some ⟨gL, 0, none⟩, sL2, sL3)) (slv sC)) size34 rfl (two_one _ _) HB212.out rfl
    refine wpList_skp rfl (w' := w13) ?_ ?_
    · show Sem.run Tryz.prog ((Instr.storeAt 34 (.pointer (some ⟨B + 2, 0, none⟩)) (.agg (two (slv (some ⟨gL, 0, none⟩, sL2, sL3)) (slv sC)).toArray)) >>= fun _ => pure Next.skip) _ = _
      rw [Sem.run_bind, hst]
      rfl
    clear hst
    try simp only [Act.put, List.getElem_toArray, List.getElem_cons_succ, List.getElem_cons_zero, List.setIfInBounds_toArray, List.set_cons_zero, List.set_cons_succ]
    refine wpList_plain rfl (fun K hK => ?_); go_simp; refine hK _ _ ?_; clear hK K
    refine wpList_plain rfl (fun K hK => ?_); go_simp; refine hK _ _ ?_; clear hK K
    refine wpList_nil ?_
    try simp only [Act.put, List.getElem_toArray, List.getElem_cons_succ, List.getElem_cons_zero, List.setIfInBounds_toArray, List.set_cons_zero, List.set_cons_succ]
    have HR13 := Lib.hid hb_
    have HF13 := Lib.hid (HF12.out.own1 (S := []) (B := 0) hf_ (by have := HBS.out; omega))
    have HLL13 := Lib.hid (RowO.far HLL.out HB212.out hf_ (by decide) (by decide))
    have HCC13 := Lib.hid (HOC12.out.far HB212.out hf_ (by decide) (by decide))
    clear hb_ hf_
    go_wp2
    have hl := load_var agg34 size34 (xs := two (slv (some ⟨gL, 0, none⟩, sL2, sL3)) (slv sC)) rfl HR13.out.at
    refine bodyPost_ret (v := .tuple #[.agg (two (slv (some ⟨gL, 0, none⟩, sL2, sL3)) (slv sC)).toArray, .int .i64 (frG C), .int .i64 0]) (by simp [results, Tryz.results15, as_addr, hl]) rfl ?_
    exact ⟨_, sC, rfl, by rw [HBS.out]; exact HLL13.out, by rw [HBS.out]; exact HCC13.out.rd, HF13.out⟩
  · skip
    obtain ⟨w10, hw10⟩ : ∃ z, w9.alloc (.cells #[.int .i64 (frG C)] 3) = z := ⟨_, rfl⟩
    obtain ⟨E10, hE10⟩ : ∃ z, w9.heap.size = z := ⟨_, rfl⟩
    have f10 : Fr [] w9 w10 := by rw [← hw10]; exact (Fr.refl [] w9).alloc _
    have hb10 : Blk w10 E10 3 (intsV [(frG C : Int)]) := by rw [← hw10, ← hE10]; exact Blk.made w9 3 (intsV [(frG C : Int)])
    have HR10 := Lib.hid (show RowV w10 (.slice (some ⟨E10, 0, none⟩) 1 1) 1 1 (intsV [(frG C : Int)]) from ⟨rfl, .inr ⟨E10, 0, 1, rfl, hb10.lt, hb10.at⟩⟩)
    split
    rotate_left
    · rename_i hno
      exact absurd rfl hno
    refine wp_vl (v := .slice (some ⟨E10, 0, none⟩) 1 1) (w' := w10) ?_ ?_
    · refine exec_bsl (V := .int .i64 (frG C)) rfl rfl ?_
      rw [exec_bslInt, hw10, hE10]
    have HF10 := Lib.hid f10
    clear hw10 hE10 hb10 f10
    refine hK.out _ _ (HF10.out.keep hHeld (by simp)) (fun hHeld => ?_)
    clear hK K
    try simp only [Act.put, List.getElem_toArray, List.getElem_cons_succ, List.getElem_cons_zero, List.setIfInBounds_toArray, List.set_cons_zero, List.set_cons_succ]
    refine wpAnyH_ready (rs := [9]) (by kernel_rfl) (by simp) ?_
    refine AllReadyH.cons (o := _) rfl (fun K hK => ?_) AllReadyH.nil
    have c4 : w10.cell? ⟨gL, i * 5 + 4, none⟩ = some (.slice q.1 q.2.1 q.2.2) := HF10.out.keep (HCQ.out 4 _ rfl) (by simp)
    go_simp
    refine hK.out _ _ (hHeld) (fun hHeld => ?_)
    clear hK K
    try simp only [Act.put, List.getElem_toArray, List.getElem_cons_succ, List.getElem_cons_zero, List.setIfInBounds_toArray, List.set_cons_zero, List.set_cons_succ]
    clear c4
    refine wpAnyH_ready (rs := [12]) (by kernel_rfl) (by simp) ?_
    refine AllReadyH.cons (o := _) rfl (fun K hK => ?_) AllReadyH.nil
    split
    rotate_left
    · rename_i hno
      exact absurd rfl hno
    refine wp_append_any elemInt _ _ rfl B (v := slv q) (n := y.l.length) (xs := intsV y.l) rfl (rowNew HQO9.out HF10.out) (X := .slice (some ⟨E10, 0, none⟩) 1 1) (m := 1) (news := intsV [(frG C : Int)]) rfl HR10.out (intsV_one _) (by have := HFIT.out.q y (List.mem_of_getElem? HY.out); omega) (by decide) (by have := HBS.out; have := (HF9.out.step HF10.out).size; omega) ?_
    intro q' w11 ho11 f11
    have hq10 := rowNew HQO9.out HF10.out
    have HY11 := Lib.hid ((HY9.out.keep HF10.out (by simp)).farRow hq10 f11 (by decide))
    have HB211 := Lib.hid ((HB29.out.keep HF10.out (by simp)).farRow hq10 f11 (by decide))
    have HF11 := Lib.hid ((HF9.out.step HF10.out).ownRow hq10 f11 (by rw [HBS.out]; exact Nat.le_refl _))
    have HOC11 := Lib.hid ((HOC9.out.next HF10.out).farRow hq10 f11 (by decide) (by decide))
    have HOWN11 := Lib.hid (rowFar (rowNew HOWN9.out HF10.out) hq10 f11 (by decide))
    have HQ11 := Lib.hid ho11
    have HFQ := Lib.hid f11
    clear ho11 f11 hq10
    refine hK.out _ _ (HY11.out.at 0 _ rfl) (fun hHeld => ?_)
    clear hK K
    try simp only [Act.put, List.getElem_toArray, List.getElem_cons_succ, List.getElem_cons_zero, List.setIfInBounds_toArray, List.set_cons_zero, List.set_cons_succ]
    refine wpAnyH_take (i := 13) (oi := _) (v := ?_) rfl (by kernel_rfl) (by kernel_rfl) (by kernel_rfl) (fun _ _ _ h => h) (Or.inl ⟨by rfl, ?_⟩) (by first | assumption | trivial) ?_
    rotate_left
    · intro w hSw; (try dsimp only at hSw); go_simp; try with_reducible rfl
    try simp only [Act.put, List.getElem_toArray, List.getElem_cons_succ, List.getElem_cons_zero, List.setIfInBounds_toArray, List.set_cons_zero, List.set_cons_succ]
    refine wpAnyH_take (i := 14) (oi := _) (v := ?_) rfl (by kernel_rfl) (by kernel_rfl) (by kernel_rfl) (fun _ _ _ h => h) (Or.inl ⟨by rfl, ?_⟩) (by first | assumption | trivial) ?_
    rotate_left
    · intro w hSw; (try dsimp only at hSw); go_simp; try with_reducible rfl
    try simp only [Act.put, List.getElem_toArray, List.getElem_cons_succ, List.getElem_cons_zero, List.setIfInBounds_toArray, List.set_cons_zero, List.set_cons_succ]
    refine wpAnyH_take (i := 15) (oi := _) (v := ?_) rfl (by kernel_rfl) (by kernel_rfl) (by kernel_rfl) (fun _ _ _ h => h) (Or.inl ⟨by rfl, ?_⟩) (by first | assumption | trivial) ?_
    rotate_left
    · intro w hSw; (try dsimp only at hSw); go_simp; try with_reducible rfl
    try simp only [Act.put, List.getElem_toArray, List.getElem_cons_succ, List.getElem_cons_zero, List.setIfInBounds_toArray, List.set_cons_zero, List.set_cons_succ]
    refine wpAnyH_ready (rs := [16]) (by kernel_rfl) (by simp) ?_
    refine AllReadyH.cons (o := _) rfl (fun K hK => ?_) AllReadyH.nil
    obtain ⟨w12, hst, hrow12, hf_⟩ := own_store (t := 75) (k := i * 5 + 4) [slv q'] (slv q') size75 rfl rfl (by intro u hu; rw [List.mem_singleton] at hu; rw [hu]; rfl) HOWN11.out (by show i * 5 + 4 + 1 ≤ sL2 * 5; omega)
    split
    rotate_left
    · rename_i hno
      exact absurd rfl hno
    refine wp_skp (w' := w12) ?_ ?_
    · show Sem.run Tryz.prog ((Instr.storeAt 75 (.pointer (some ⟨gL, i * 5 + 4, none⟩)) (slv q')) >>= fun _ => pure Next.skip) _ = _
      rw [Sem.run_bind, hst]
      rfl
    clear hst
    have HY12 := Lib.hid (HY11.out.keep hf_ (fun hm => by rw [List.mem_singleton] at hm; exact blkNe HY11.out HOWN11.out (by decide) (by simp [slv, Value.ownBlock, hm])))
    have HB212 := Lib.hid (HB211.out.keep hf_ (fun hm => by rw [List.mem_singleton] at hm; exact blkNe HB211.out HOWN11.out (by decide) (by simp [slv, Value.ownBlock, hm])))
    have HF12 := Lib.hid (HF11.out.own1 (S := []) (B := 0) hf_ (by rw [HBS.out]; exact (HOWN11.out.lt gL rfl).1))
    have hfo : Fr (Value.ownBlock (slv (some ⟨gL, 0, none⟩, sL2, sL3))).toList w11 w12 := hf_
    have HOC12 := Lib.hid (HOC11.out.farRow HOWN11.out hfo (by decide) (by decide))
    have HROW12 := Lib.hid hrow12
    have HFO := Lib.hid hfo
    clear hrow12 hfo hf_
    refine hK.out _ _ (HY12.out.at 0 _ rfl) (fun hHeld => ?_)
    clear hK K
    try simp only [Act.put, List.getElem_toArray, List.getElem_cons_succ, List.getElem_cons_zero, List.setIfInBounds_toArray, List.set_cons_zero, List.set_cons_succ]
    refine wpAnyH_done (by kernel_rfl) ?_ _
    clear hHeld
    have HLL := Lib.hid (show RowO 100 5 (ElLO B) w12 B (slv (some ⟨gL, 0, none⟩, sL2, sL3)) (D.set i { y with l := y.l ++ [(frG C : Int)] }) from by
      refine ⟨Xs.set i (lsC { y with l := y.l ++ [(frG C : Int)] } q'), ?_, ?_⟩
      · have hq9 := rowNew HQO9.out HF10.out
        refine ⟨by rw [List.length_set, List.length_set, HREC9.out.len], fun X hX => ?_, fun X hX => ?_, fun j X z hXj hzj => ?_⟩
        · rcases List.mem_or_eq_of_mem_set hX with hX | rfl
          · exact HREC9.out.sz X hX
          · rfl
        · rcases List.mem_or_eq_of_mem_set hX with hX | rfl
          · exact HREC9.out.one X hX
          · exact lsC_one _ _
        · by_cases hij : i = j
          · subst hij
            rw [List.getElem?_set_self (List.getElem?_eq_some_iff.1 HXI.out).1] at hXj
            rw [List.getElem?_set_self (List.getElem?_eq_some_iff.1 HY.out).1] at hzj
            cases hXj
            cases hzj
            refine ⟨q', rfl, ?_⟩
            have h9 := rowFar HQ11.out HOWN11.out HFO.out (by decide)
            simpa [intsV] using h9
          · rw [List.getElem?_set_ne hij] at hXj hzj
            obtain ⟨t, rfl, ht⟩ := HREC9.out.el j X z hXj hzj
            have hne := HSEP.out.ne hij HXI.out hXj
            have ht2 := rowFr' (rowNew ht HF10.out) HFQ.out (fun g hg hm => by
              have hm' : (slv q).ownBlock = some g := by simpa using hm
              exact hne g hm' hg)
            have h9 := rowFar ht2 HOWN11.out HFO.out (by decide)
            exact ⟨t, rfl, h9⟩
      · have hfl := flat_set (vs := [slv q']) (a := 4) HREC9.out.sz HXI.out (by simp)
        have hX' : (lsC y q).take 4 ++ [slv q'] ++ (lsC y q).drop (4 + [slv q'].length) = lsC { y with l := y.l ++ [(frG C : Int)] } q' := rfl
        rw [hX'] at hfl
        rw [hfl, List.length_set, HN.out]
        exact HROW12.out)
    clear HREC9 HSEP HOWN9 HQO9 HCQ HXI HROW12 HFO HFQ HQ11 HOWN11 HR10 HF10 HY9 HB29 HF9 HOC9 HY11 HB211 HF11 HOC11
    go_upto_region 13 with fail
    refine wp_region_lit ?_
    refine wpList_val rfl (v := .agg (two (slv (some ⟨gL, 0, none⟩, sL2, sL3)) (slv sC)).toArray) (w' := w12) ?_ ?_
    · show Sem.run Tryz.prog ((Instr.loadAt 34 (.pointer (some ⟨E7, 0, none⟩))) >>= fun x => pure (Next.value x)) w12 = _
      rw [Sem.run_bind, load_all agg34 size34 (xs := two (slv (some ⟨gL, 0, none⟩, sL2, sL3)) (slv sC)) rfl HY12.out.at]
      rfl
    try simp only [Act.put, List.getElem_toArray, List.getElem_cons_succ, List.getElem_cons_zero, List.setIfInBounds_toArray, List.set_cons_zero, List.set_cons_succ]
    refine wpList_plain rfl (fun K hK => ?_); go_simp; refine hK _ _ ?_; clear hK K
    try simp only [Act.put, List.getElem_toArray, List.getElem_cons_succ, List.getElem_cons_zero, List.setIfInBounds_toArray, List.set_cons_zero, List.set_cons_succ]
    obtain ⟨w13, hst, hb_, hf_⟩ := store_all (t := 34) (two (slv (some ⟨gL, 0, none⟩, sL2, sL3)) (slv sC)) size34 rfl (two_one _ _) HB212.out rfl
    refine wpList_skp rfl (w' := w13) ?_ ?_
    · show Sem.run Tryz.prog ((Instr.storeAt 34 (.pointer (some ⟨B + 2, 0, none⟩)) (.agg (two (slv (some ⟨gL, 0, none⟩, sL2, sL3)) (slv sC)).toArray)) >>= fun _ => pure Next.skip) _ = _
      rw [Sem.run_bind, hst]
      rfl
    clear hst
    try simp only [Act.put, List.getElem_toArray, List.getElem_cons_succ, List.getElem_cons_zero, List.setIfInBounds_toArray, List.set_cons_zero, List.set_cons_succ]
    refine wpList_plain rfl (fun K hK => ?_); go_simp; refine hK _ _ ?_; clear hK K
    refine wpList_plain rfl (fun K hK => ?_); go_simp; refine hK _ _ ?_; clear hK K
    refine wpList_nil ?_
    try simp only [Act.put, List.getElem_toArray, List.getElem_cons_succ, List.getElem_cons_zero, List.setIfInBounds_toArray, List.set_cons_zero, List.set_cons_succ]
    have HR13 := Lib.hid hb_
    have HF13 := Lib.hid (HF12.out.own1 (S := []) (B := 0) hf_ (by have := HBS.out; omega))
    have HLL13 := Lib.hid (RowO.far HLL.out HB212.out hf_ (by decide) (by decide))
    have HCC13 := Lib.hid (HOC12.out.far HB212.out hf_ (by decide) (by decide))
    clear hb_ hf_
    go_wp2
    have hl := load_var agg34 size34 (xs := two (slv (some ⟨gL, 0, none⟩, sL2, sL3)) (slv sC)) rfl HR13.out.at
    refine bodyPost_ret (v := .tuple #[.agg (two (slv (some ⟨gL, 0, none⟩, sL2, sL3)) (slv sC)).toArray, .int .i64 (frG C), .int .i64 0]) (by simp [results, Tryz.results15, as_addr, hl]) rfl ?_
    exact ⟨_, sC, rfl, by rw [HBS.out]; exact HLL13.out, by rw [HBS.out]; exact HCC13.out.rd, HF13.out⟩
end Go.Proofs.YtmdhlodafjpnmaaGreat
