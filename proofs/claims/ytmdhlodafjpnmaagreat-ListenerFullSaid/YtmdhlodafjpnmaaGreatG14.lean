/- The reference's nets in memory: Listen, over what its Bind answers. -/
import Derived.Test.YtmdhlodafjpnmaaGreatG13
namespace Go.Proofs.YtmdhlodafjpnmaaGreat
open Go.RowKit
set_option linter.unusedVariables false
set_option linter.unusedSimpArgs false
set_option maxRecDepth 100000
set_option maxHeartbeats 8000000

theorem bldLg (s : ByteArray) (p most : Int) : ∀ w, (Instr.build 98 #[(0, .agg #[.string s, .int .i64 p]), (1, .int .i64 most)]).run Tryz.prog w = .ok (.agg #[.string s, .int .i64 p, .int .i64 most, .slice none 0 0]) w := fun w => by kernel_rfl
theorem bldLs (k : Nat) (s : ByteArray) (p most : Int) : ∀ w, (Instr.build 100 #[(0, .int .i64 k), (1, .agg #[.string s, .int .i64 p, .int .i64 most, .slice none 0 0])]).run Tryz.prog w = .ok (.agg (lsC ⟨k, s, p, most, []⟩ (none, 0, 0)).toArray) w := fun w => by kernel_rfl
def frL (D : List PN.PL) : Nat := PN.free (D.map (·.ref))
def insL (D : List PN.PL) (s : ByteArray) (p most : Int) : List PN.PL := D.take (frL D) ++ ⟨frL D, s, p, most, []⟩ :: D.drop (frL D)
theorem refP_mem {D : List PN.PL} {r : Nat} : (∃ i y, PN.pick (PN.refP r) D 0 = some (i, y)) ↔ r ∈ D.map (·.ref) := by
  constructor
  · rintro ⟨i, y, h⟩
    obtain ⟨j, _, h2, h3⟩ := PN.pick_some h
    have h3 := of_decide_eq_true h3
    exact List.mem_map.2 ⟨y, List.mem_of_getElem? h2, by omega⟩
  · intro h
    obtain ⟨y, hy, hr⟩ := List.mem_map.1 h
    cases e : PN.pick (PN.refP r) D 0 with
    | none =>
      have := PN.pick_none e y hy
      simp [PN.refP] at this
      omega
    | some a => exact ⟨a.1, a.2, rfl⟩
def sp (s : ByteArray) (p : Int) : List Value := [.string s, .int .i64 p]
theorem sp_one (s : ByteArray) (p : Int) : ∀ u ∈ sp s p, u.oneCell' = true := by
  intro u hu
  simp only [sp, List.mem_cons, List.not_mem_nil, or_false] at hu
  rcases hu with rfl | rfl <;> rfl
/-- What the reference's table of the addresses that are bound answers. -/
def BindOk (w : World) (vL vC : Value) (s : ByteArray) (p p' : Int) : Prop :=
  ∀ W, Fr [] w W → Calls Tryz.prog 47 #[.agg #[vL, vC]] W fun e w' => ∃ vb, e = .returned vb ∧ Fr [] W w' ∧
    ∀ W', Fr [] w' W' → Calls Tryz.prog 46 #[vb, .agg (sp s p).toArray, .int .i64 0] W' fun e w'' => (∃ l, e = .returned (.tuple #[l, .agg (sp s p').toArray, .int .i64 0])) ∧ Fr [] W' w''
theorem nListen_ok (vL vC : Value) (D : List PN.PL) (C : List PG) (s : ByteArray) (p p' most : Int) (w : World) (hL : LRow w vL D) (hC : CRow w vC C) (hs : s.size ≤ 1000000) (hv : addrB s.data.toList p = true) (hmo : 1 ≤ most ∧ most ≤ 128) (hn : NetFit D C) (hbd : BindOk w vL vC s p p') :
    Calls Tryz.prog 12 #[.agg #[vL, vC], .agg #[.string s, .int .i64 p], .int .i64 most] w (NetRd w (insL D s p' most) C [.int .i64 (frL D), .agg #[.string s, .int .i64 p'], .int .i64 0]) := by
  obtain ⟨n, hnl⟩ : ∃ n, D.length = n := ⟨_, rfl⟩
  obtain ⟨m, hml⟩ : ∃ m, C.length = m := ⟨_, rfl⟩
  obtain ⟨aL, cL, rfl⟩ := hL.val
  obtain ⟨aC, cC, rfl⟩ := hC.val
  rw [hnl] at hL hbd ⊢
  rw [hml] at hC hbd ⊢
  have HN := Lib.hid hnl
  have HM := Lib.hid hml
  have HFIT := Lib.hid hn
  have HBD := Lib.hid hbd
  have HK := Lib.hid (PN.free_spec (D.map (·.ref)))
  obtain ⟨k, hk⟩ : ∃ k, frL D = k := ⟨_, rfl⟩
  have hkm : k ≤ n := by rw [← hk, ← hnl]; exact PN.free_le
  have hk' : PN.free (D.map (·.ref)) = k := hk
  rw [hk'] at HK
  rw [hk]
  have HKK := Lib.hid hk
  clear hk hk' hn hbd
  have hn1 : n ≤ 1000 := by have := HFIT.out.nl; omega
  obtain ⟨B, hB⟩ : ∃ B, w.heap.size = B := ⟨_, rfl⟩
  obtain ⟨u1, hu1⟩ : ∃ z, w.alloc (.cells #[.slice aL n cL, .slice aC m cC] 34) = z := ⟨_, rfl⟩
  obtain ⟨u2, hu2⟩ : ∃ z, u1.alloc (.cells #[.string s, .int .i64 p] 28) = z := ⟨_, rfl⟩
  obtain ⟨u3, hu3⟩ : ∃ z, u2.alloc (.cells #[.slice none 0 0, .slice none 0 0] 34) = z := ⟨_, rfl⟩
  obtain ⟨wA, hwA⟩ : ∃ z, u3.alloc (.cells #[.string ⟨#[]⟩, .int .i64 0] 28) = z := ⟨_, rfl⟩
  have s1 : u1.heap.size = B + 1 := by rw [← hu1, ← hB]; simp
  have s2 : u2.heap.size = B + 2 := by rw [← hu2]; simp [s1]
  have s3 : u3.heap.size = B + 3 := by rw [← hu3]; simp [s2]
  have f1 : Fr [] w u1 := by rw [← hu1]; exact (Fr.refl [] w).alloc _
  have f2 : Fr [] u1 u2 := by rw [← hu2]; exact (Fr.refl [] u1).alloc _
  have f3 : Fr [] u2 u3 := by rw [← hu3]; exact (Fr.refl [] u2).alloc _
  have f4 : Fr [] u3 wA := by rw [← hwA]; exact (Fr.refl [] u3).alloc _
  have hb0 : Blk wA B 34 (two (.slice aL n cL) (.slice aC m cC)) := by
    have h := Blk.made w 34 (two (.slice aL n cL) (.slice aC m cC))
    rw [hB] at h
    exact (((show Blk u1 B 34 _ from by rw [← hu1]; exact h).keep f2 (by simp)).keep f3 (by simp)).keep f4 (by simp)
  have hb1 : Blk wA (B + 1) 28 (sp s p) := by
    have h := Blk.made u1 28 (sp s p)
    rw [s1] at h
    exact ((show Blk u2 (B + 1) 28 _ from by rw [← hu2]; exact h).keep f3 (by simp)).keep f4 (by simp)
  have hb2 : Blk wA (B + 2) 34 zNt := by
    have h := Blk.made u2 34 zNt
    rw [s2] at h
    exact (show Blk u3 (B + 2) 34 _ from by rw [← hu3]; exact h).keep f4 (by simp)
  have hb3 : Blk wA (B + 3) 28 (sp ⟨#[]⟩ 0) := by
    have h := Blk.made u3 28 (sp ⟨#[]⟩ 0)
    rw [s3] at h
    rw [← hwA]
    exact h
  have hf : Fr [] w wA := ((f1.step f2).step f3).step f4
  have HB0 := Lib.hid hb0
  have HB1 := Lib.hid hb1
  have HB2 := Lib.hid hb2
  have HB3 := Lib.hid hb3
  have HF := Lib.hid hf
  have HBS := Lib.hid hB
  have HU1 := Lib.hid hu1
  have HU2 := Lib.hid hu2
  have HU3 := Lib.hid hu3
  have HWA := Lib.hid hwA
  have HL := Lib.hid hL
  have HC := Lib.hid hC
  have HS1 := Lib.hid s1
  have HS2 := Lib.hid s2
  have HS3 := Lib.hid s3
  clear hb0 hb1 hb2 hb3 hf hB hu1 hu2 hu3 hwA f1 f2 f3 f4 s1 s2 s3 hL hC hnl hml
  have HAV := Lib.hid (fun W : World => by
    have h := refValid_any s p hs W
    rw [hv] at h
    exact h)
  have dm1 : decide (most < 1) = false := decide_eq_false (by omega)
  have dm2 : decide (128 < most) = false := decide_eq_false (by omega)
  clear hv
  have e0 : wA.cell? ⟨B + 1, 0, none⟩ = some (.string s) := HB1.out.at 0 _ rfl
  have e1 : wA.cell? ⟨B + 1, 1, none⟩ = some (.int .i64 p) := HB1.out.at 1 _ rfl
  go_enter Tryz.func12, Tryz.ntmps12
  go_upto_region 1 with fail
  simp only [HU1.out, HU2.out, HU3.out, HWA.out, HBS.out, HS1.out, HS2.out, HS3.out]
  go_wp2_with fail
  refine (HAV.out _).mono ?_
  rintro e w1 ⟨rfl, f1⟩
  have HF1 := Lib.hid (HF.out.step f1)
  have HB01 := Lib.hid (HB0.out.keep f1 (by simp))
  have HB11 := Lib.hid (HB1.out.keep f1 (by simp))
  have HB21 := Lib.hid (HB2.out.keep f1 (by simp))
  have HB31 := Lib.hid (HB3.out.keep f1 (by simp))
  clear f1 HF HB0 HB1 HB2 HB3 HAV HU1 HU2 HU3 HWA HS1 HS2 HS3 e0 e1
  obtain ⟨w2, hw2⟩ : ∃ z, w1.drew = z := ⟨_, rfl⟩
  have f2 : Fr [] w1 w2 := by rw [← hw2]; exact (Fr.refl [] w1).drew
  have HF2 := Lib.hid (HF1.out.step f2)
  have HB02 := Lib.hid (HB01.out.keep f2 (by simp))
  have HB12 := Lib.hid (HB11.out.keep f2 (by simp))
  have HB22 := Lib.hid (HB21.out.keep f2 (by simp))
  have HB32 := Lib.hid (HB31.out.keep f2 (by simp))
  have HW2 := Lib.hid hw2
  clear f2 hw2 HF1 HB01 HB11 HB21 HB31
  go_upto_region 3 with fail
  refine wp_region_held_drew (S := fun _ => True) (by kernel_rfl) (trivial) (fun hHeld => ?_)
  clear hHeld
  rw [HW2.out]
  refine wpAnyH_ready (rs := [0, 2]) (by kernel_rfl) (by simp) ?_
  refine AllReadyH.cons (o := _) rfl (fun K hK => ?_) (AllReadyH.cons (o := _) rfl (fun K hK => ?_) AllReadyH.nil)
  · skip
    split
    rotate_left
    · rename_i hno
      exact absurd rfl hno
    refine wp_vl (v := .agg (two (.slice aL n cL) (.slice aC m cC)).toArray) (w' := w2) ?_ ?_
    · show Sem.run Tryz.prog ((Instr.loadAt 34 (.pointer (some ⟨B, 0, none⟩))) >>= fun x => pure (Next.value x)) w2 = _
      rw [Sem.run_bind, load_all agg34 size34 (xs := two (.slice aL n cL) (.slice aC m cC)) rfl HB02.out.at]
      rfl
    refine hK.out _ _ (trivial) (fun hHeld => ?_)
    clear hK K
    clear hHeld
    try simp only [Act.put, List.getElem_toArray, List.getElem_cons_succ, List.getElem_cons_zero, List.setIfInBounds_toArray, List.set_cons_zero, List.set_cons_succ]
    refine wpAnyH_ready (rs := [1, 2]) (by kernel_rfl) (by simp) ?_
    refine AllReadyH.cons (o := _) rfl (fun K hK => ?_) (AllReadyH.cons (o := _) rfl (fun K hK => ?_) AllReadyH.nil)
    · skip
      go_simp
      refine (HBD.out _ HF2.out).mono ?_
      rintro e w3 ⟨vb, rfl, f3, hbi⟩
      have HBI := Lib.hid hbi
      have HF3 := Lib.hid (HF2.out.step f3)
      have HB03 := Lib.hid (HB02.out.keep f3 (by simp))
      have HB13 := Lib.hid (HB12.out.keep f3 (by simp))
      have HB23 := Lib.hid (HB22.out.keep f3 (by simp))
      have HB33 := Lib.hid (HB32.out.keep f3 (by simp))
      clear hbi f3
      refine hK.out _ _ (trivial) (fun hHeld => ?_)
      clear hK K
      clear hHeld
      try simp only [Act.put, List.getElem_toArray, List.getElem_cons_succ, List.getElem_cons_zero, List.setIfInBounds_toArray, List.set_cons_zero, List.set_cons_succ]
      refine wpAnyH_ready (rs := [2]) (by kernel_rfl) (by simp) ?_
      refine AllReadyH.cons (o := _) rfl (fun K hK => ?_) AllReadyH.nil
      split
      rotate_left
      · rename_i hno
        exact absurd rfl hno
      refine wp_vl (v := .agg (sp s p).toArray) (w' := w3) ?_ ?_
      · show Sem.run Tryz.prog ((Instr.loadAt 28 (.pointer (some ⟨B + 1, 0, none⟩))) >>= fun x => pure (Next.value x)) w3 = _
        rw [Sem.run_bind, load_all agg28 size28 (xs := sp s p) rfl HB13.out.at]
        rfl
      refine hK.out _ _ (trivial) (fun hHeld => ?_)
      clear hK K
      clear hHeld
      try simp only [Act.put, List.getElem_toArray, List.getElem_cons_succ, List.getElem_cons_zero, List.setIfInBounds_toArray, List.set_cons_zero, List.set_cons_succ]
      refine wpAnyH_ready (rs := [3]) (by kernel_rfl) (by simp) ?_
      refine AllReadyH.cons (o := _) rfl (fun K hK => ?_) AllReadyH.nil
      go_simp
      refine (HBI.out _ (Fr.refl _ _)).mono ?_
      rintro e w4 ⟨⟨l, rfl⟩, f4⟩
      have HF4 := Lib.hid (HF3.out.step f4)
      have HB04 := Lib.hid (HB03.out.keep f4 (by simp))
      have HB14 := Lib.hid (HB13.out.keep f4 (by simp))
      have HB24 := Lib.hid (HB23.out.keep f4 (by simp))
      have HB34 := Lib.hid (HB33.out.keep f4 (by simp))
      clear f4
      refine hK.out _ _ (trivial) (fun hHeld => ?_)
      clear hK K
      clear hHeld
      try simp only [Act.put, List.getElem_toArray, List.getElem_cons_succ, List.getElem_cons_zero, List.setIfInBounds_toArray, List.set_cons_zero, List.set_cons_succ]
      refine wpAnyH_take (i := 4) (oi := _) (v := ?_) rfl (by kernel_rfl) (by kernel_rfl) (by kernel_rfl) (fun _ _ _ h => h) (Or.inl ⟨by rfl, ?_⟩) (by first | assumption | trivial) ?_
      rotate_left
      · intro w hSw; (try dsimp only at hSw); go_simp; try with_reducible rfl
      try simp only [Act.put, List.getElem_toArray, List.getElem_cons_succ, List.getElem_cons_zero, List.setIfInBounds_toArray, List.set_cons_zero, List.set_cons_succ]
      refine wpAnyH_take (i := 5) (oi := _) (v := ?_) rfl (by kernel_rfl) (by kernel_rfl) (by kernel_rfl) (fun _ _ _ h => h) (Or.inl ⟨by rfl, ?_⟩) (by first | assumption | trivial) ?_
      rotate_left
      · intro w hSw; (try dsimp only at hSw); go_simp; try with_reducible rfl
      try simp only [Act.put, List.getElem_toArray, List.getElem_cons_succ, List.getElem_cons_zero, List.setIfInBounds_toArray, List.set_cons_zero, List.set_cons_succ]
      refine wpAnyH_take (i := 6) (oi := _) (v := ?_) rfl (by kernel_rfl) (by kernel_rfl) (by kernel_rfl) (fun _ _ _ h => h) (Or.inl ⟨by rfl, ?_⟩) (by first | assumption | trivial) ?_
      rotate_left
      · intro w hSw; (try dsimp only at hSw); go_simp; try with_reducible rfl
      try simp only [Act.put, List.getElem_toArray, List.getElem_cons_succ, List.getElem_cons_zero, List.setIfInBounds_toArray, List.set_cons_zero, List.set_cons_succ]
      refine wpAnyH_take (i := 7) (oi := _) (v := ?_) rfl (by kernel_rfl) (by kernel_rfl) (by kernel_rfl) (fun _ _ _ h => h) (Or.inl ⟨by rfl, ?_⟩) (by first | assumption | trivial) ?_
      rotate_left
      · intro w hSw; (try dsimp only at hSw); go_simp; try with_reducible rfl
      try simp only [Act.put, List.getElem_toArray, List.getElem_cons_succ, List.getElem_cons_zero, List.setIfInBounds_toArray, List.set_cons_zero, List.set_cons_succ]
      refine wpAnyH_take (i := 8) (oi := _) (v := ?_) rfl (by kernel_rfl) (by kernel_rfl) (by kernel_rfl) (fun _ _ _ h => h) (Or.inl ⟨by rfl, ?_⟩) (by first | assumption | trivial) ?_
      rotate_left
      · intro w hSw; (try dsimp only at hSw); go_simp; try with_reducible rfl
      try simp only [Act.put, List.getElem_toArray, List.getElem_cons_succ, List.getElem_cons_zero, List.setIfInBounds_toArray, List.set_cons_zero, List.set_cons_succ]
      refine wpAnyH_ready (rs := [9]) (by kernel_rfl) (by simp) ?_
      refine AllReadyH.cons (o := _) rfl (fun K hK => ?_) AllReadyH.nil
      obtain ⟨w5, hst, hb_, hf_⟩ := store_all (t := 28) (sp s p') size28 rfl (sp_one _ _) HB14.out rfl
      split
      rotate_left
      · rename_i hno
        exact absurd rfl hno
      refine wp_skp (w' := w5) ?_ ?_
      · show Sem.run Tryz.prog ((Instr.storeAt 28 (.pointer (some ⟨B + 1, 0, none⟩)) (.agg (sp s p').toArray)) >>= fun _ => pure Next.skip) _ = _
        rw [Sem.run_bind, hst]
        rfl
      clear hst
      have HB15 := Lib.hid hb_
      have HF5 := Lib.hid (HF4.out.own1 (S := []) (B := 0) hf_ (by have := HBS.out; omega))
      have HB05 := Lib.hid (HB04.out.keep hf_ (by simp))
      have HB25 := Lib.hid (HB24.out.keep hf_ (by simp))
      have HB35 := Lib.hid (HB34.out.keep hf_ (by simp))
      clear hb_ hf_
      refine hK.out _ _ (trivial) (fun hHeld => ?_)
      clear hK K
      clear hHeld
      try simp only [Act.put, List.getElem_toArray, List.getElem_cons_succ, List.getElem_cons_zero, List.setIfInBounds_toArray, List.set_cons_zero, List.set_cons_succ]
      refine wpAnyH_take (i := 10) (oi := _) (v := ?_) rfl (by kernel_rfl) (by kernel_rfl) (by kernel_rfl) (fun _ _ _ h => h) (Or.inl ⟨by rfl, ?_⟩) (by first | assumption | trivial) ?_
      rotate_left
      · intro w hSw; (try dsimp only at hSw); go_simp; try with_reducible rfl
      try simp only [Act.put, List.getElem_toArray, List.getElem_cons_succ, List.getElem_cons_zero, List.setIfInBounds_toArray, List.set_cons_zero, List.set_cons_succ]
      refine wpAnyH_done (by kernel_rfl) ?_ _
      clear HBI HF2 HF3 HF4 HB02 HB12 HB22 HB32 HB03 HB13 HB23 HB33 HB04 HB14 HB24 HB34 HW2
      go_wp2_with fail
      go_loopw [12] (fun i wr => ∃ (wz : World) (q : Nat), wz = wr ∧ i = .int .i64 q ∧ q ≤ k ∧ Fr [] w5 wr) (fun i _ => k - (intOf i).toNat)
      case atStart => exact ⟨_, 0, rfl, rfl, by omega, Fr.refl _ _⟩
      case round =>
        obtain ⟨wr, q, hwz, rfl, hq, fr⟩ := hrel
        subst hwz
        have HB06 := Lib.hid (HB05.out.keep fr (by simp))
        have HB16 := Lib.hid (HB15.out.keep fr (by simp))
        have HB26 := Lib.hid (HB25.out.keep fr (by simp))
        have HB36 := Lib.hid (HB35.out.keep fr (by simp))
        have HF6 := Lib.hid (HF5.out.step fr)
        have HFR := Lib.hid fr
        clear fr
        go_upto_region 7 with fail
        refine wp_region_lit ?_
        refine wpList_val rfl (v := .agg (two (.slice aL n cL) (.slice aC m cC)).toArray) (w' := wr) ?_ ?_
        · show Sem.run Tryz.prog ((Instr.loadAt 34 (.pointer (some ⟨B, 0, none⟩))) >>= fun x => pure (Next.value x)) wr = _
          rw [Sem.run_bind, load_all agg34 size34 (xs := two (.slice aL n cL) (.slice aC m cC)) rfl HB06.out.at]
          rfl
        try simp only [Act.put, List.getElem_toArray, List.getElem_cons_succ, List.getElem_cons_zero, List.setIfInBounds_toArray, List.set_cons_zero, List.set_cons_succ]
        refine wpList_plain rfl (fun K hK => ?_); go_simp; refine hK _ _ ?_; clear hK K
        try simp only [Act.put, List.getElem_toArray, List.getElem_cons_succ, List.getElem_cons_zero, List.setIfInBounds_toArray, List.set_cons_zero, List.set_cons_succ]
        refine wpList_plain rfl (fun K hK => ?_)
        go_simp
        refine (lisAtG (.slice aL n cL) (.slice aC m cC) D (q : Int) _ (LRow.next HL.out HF6.out) (by rw [HN.out]; omega)).mono ?_
        rintro e w7 ⟨rfl, f7⟩
        refine hK _ _ ?_
        clear hK K
        try simp only [Act.put, List.getElem_toArray, List.getElem_cons_succ, List.getElem_cons_zero, List.setIfInBounds_toArray, List.set_cons_zero, List.set_cons_succ]
        have HB07 := Lib.hid (HB06.out.keep f7 (by simp))
        have HB17 := Lib.hid (HB16.out.keep f7 (by simp))
        have HB27 := Lib.hid (HB26.out.keep f7 (by simp))
        have HB37 := Lib.hid (HB36.out.keep f7 (by simp))
        have HF7 := Lib.hid (HF6.out.step f7)
        have HFR7 := Lib.hid (HFR.out.step f7)
        clear f7 HB06 HB16 HB26 HB36 HF6 HFR
        obtain ⟨P, hP⟩ : ∃ P, place (PN.pick (PN.refP (q : Int)) D 0) = P := ⟨_, rfl⟩
        rw [hP]
        by_cases hqk : q < k
        · skip
          have hP0 : 0 ≤ P := by
            obtain ⟨i, y, he⟩ := refP_mem.2 (HK.out.2.1 q hqk)
            rw [← hP, he]
            simp [place]
          have d0 : decide (0 ≤ P) = true := decide_eq_true hP0
          clear hP
          go_wp2
          go_roundw
          case rel => exact ⟨_, q + 1, rfl, by go_num, by omega, HFR7.out⟩
          case measure => simp [intOf]; omega
        · skip
          obtain rfl : q = k := by omega
          have hP0 : P < 0 := by
            rw [← hP]
            cases he : PN.pick (PN.refP (q : Int)) D 0 with
            | none => simp [place]
            | some a => exact absurd (refP_mem.1 ⟨a.1, a.2, he⟩) HK.out.1
          have d0 : decide (0 ≤ P) = false := decide_eq_false (by omega)
          clear hP
          go_upto_region 9 with fail
          refine wp_region_lit ?_
          refine wpList_val rfl (v := .agg (two (.slice aL n cL) (.slice aC m cC)).toArray) (w' := w7) ?_ ?_
          · show Sem.run Tryz.prog ((Instr.loadAt 34 (.pointer (some ⟨B, 0, none⟩))) >>= fun x => pure (Next.value x)) w7 = _
            rw [Sem.run_bind, load_all agg34 size34 (xs := two (.slice aL n cL) (.slice aC m cC)) rfl HB07.out.at]
            rfl
          try simp only [Act.put, List.getElem_toArray, List.getElem_cons_succ, List.getElem_cons_zero, List.setIfInBounds_toArray, List.set_cons_zero, List.set_cons_succ]
          refine wpList_plain rfl (fun K hK => ?_)
          go_simp
          refine (nCopy_any (.slice aL n cL) (.slice aC m cC) D C _ (LRow.next HL.out HF7.out) (CRow.next HC.out HF7.out) HFIT.out).mono ?_
          rintro e w8 ⟨sL, sC, rfl, oL, oC, f8⟩
          refine hK _ _ ?_
          clear hK K
          try simp only [Act.put, List.getElem_toArray, List.getElem_cons_succ, List.getElem_cons_zero, List.setIfInBounds_toArray, List.set_cons_zero, List.set_cons_succ]
          have HB18 := Lib.hid (HB17.out.keep f8 (by simp))
          have HB28 := Lib.hid (HB27.out.keep f8 (by simp))
          have HB38 := Lib.hid (HB37.out.keep f8 (by simp))
          have HF8 := Lib.hid (HF7.out.step f8)
          have HOL8 := Lib.hid (oL.base (B' := B) (by rw [← HBS.out]; exact HF7.out.size))
          have HOC8 := Lib.hid (oC.base (B' := B) (by rw [← HBS.out]; exact HF7.out.size))
          clear f8 oL oC HB07 HB17 HB27 HB37 HF7 HFR7
          refine wpList_plain rfl (fun K hK => ?_); go_simp; refine hK _ _ ?_; clear hK K
          try simp only [Act.put, List.getElem_toArray, List.getElem_cons_succ, List.getElem_cons_zero, List.setIfInBounds_toArray, List.set_cons_zero, List.set_cons_succ]
          obtain ⟨E9, hE_⟩ : ∃ E, w8.heap.size = E := ⟨_, rfl⟩
          obtain ⟨wy, hw_⟩ : ∃ z, w8.alloc (.cells #[.slice none 0 0, .slice none 0 0] 34) = z := ⟨_, rfl⟩
          have hby : Blk wy E9 34 zNt := by rw [← hw_, ← hE_]; exact Blk.made w8 34 zNt
          have fy : Fr [] w8 wy := by rw [← hw_]; exact (Fr.refl [] w8).alloc _
          rw [hw_]
          simp only [hE_]
          have HE9 := Lib.hid (show w.heap.size ≤ E9 ∧ B + 3 < E9 from by rw [← hE_]; exact ⟨HF8.out.size, HB38.out.lt⟩)
          have HY9 := Lib.hid hby
          have HB19 := Lib.hid (HB18.out.keep fy (by simp))
          have HB29 := Lib.hid (HB28.out.keep fy (by simp))
          have HB39 := Lib.hid (HB38.out.keep fy (by simp))
          have HF9 := Lib.hid (HF8.out.step fy)
          have HOL9 := Lib.hid (HOL8.out.next fy)
          have HOC9 := Lib.hid (HOC8.out.next fy)
          clear fy hby hw_ hE_ HB18 HB28 HB38 HF8 HOL8 HOC8
          obtain ⟨w10, hst, hb_, hf_⟩ := store_all (t := 34) (two (slv sL) (slv sC)) size34 rfl (two_one _ _) HY9.out rfl
          refine wpList_skp rfl (w' := w10) ?_ ?_
          · show Sem.run Tryz.prog ((Instr.storeAt 34 (.pointer (some ⟨E9, 0, none⟩)) (.agg (two (slv sL) (slv sC)).toArray)) >>= fun _ => pure Next.skip) _ = _
            rw [Sem.run_bind, hst]
            rfl
          clear hst
          try simp only [Act.put, List.getElem_toArray, List.getElem_cons_succ, List.getElem_cons_zero, List.setIfInBounds_toArray, List.set_cons_zero, List.set_cons_succ]
          refine wpList_nil ?_
          try simp only [Act.put, List.getElem_toArray, List.getElem_cons_succ, List.getElem_cons_zero, List.setIfInBounds_toArray, List.set_cons_zero, List.set_cons_succ]
          have HY10 := Lib.hid hb_
          have HB110 := Lib.hid (HB19.out.keep hf_ (fun hm => by rw [List.mem_singleton] at hm; have := HE9.out; omega))
          have HB210 := Lib.hid (HB29.out.keep hf_ (fun hm => by rw [List.mem_singleton] at hm; have := HE9.out; omega))
          have HB310 := Lib.hid (HB39.out.keep hf_ (fun hm => by rw [List.mem_singleton] at hm; have := HE9.out; omega))
          have HF10 := Lib.hid (HF9.out.own1 (S := []) (B := 0) hf_ HE9.out.1)
          have HOL10 := Lib.hid (HOL9.out.far HY9.out hf_ (by decide) (by decide))
          have HOC10 := Lib.hid (HOC9.out.far HY9.out hf_ (by decide) (by decide))
          clear hb_ hf_ HY9 HB19 HB29 HB39 HF9 HOL9 HOC9
          obtain ⟨w11, hw11⟩ : ∃ z, w10.drew = z := ⟨_, rfl⟩
          have f11 : Fr [] w10 w11 := by rw [← hw11]; exact (Fr.refl [] w10).drew
          have HY11 := Lib.hid (HY10.out.keep f11 (by simp))
          have HB111 := Lib.hid (HB110.out.keep f11 (by simp))
          have HB211 := Lib.hid (HB210.out.keep f11 (by simp))
          have HB311 := Lib.hid (HB310.out.keep f11 (by simp))
          have HF11 := Lib.hid (HF10.out.step f11)
          have HOC11 := Lib.hid (HOC10.out.next f11)
          obtain ⟨Xs, hrec, hown, _⟩ := HOL10.out.next f11
          rw [HN.out] at hown
          obtain ⟨vr, hvr, hrr⟩ := own_slice_from elemLis hown q hkm
          have HW11 := Lib.hid hw11
          have HREC11 := Lib.hid hrec
          have HOWN11 := Lib.hid hown
          have HRR11 := Lib.hid hrr
          clear f11 hw11 hrec hown hrr HY10 HB110 HB210 HB310 HF10 HOL10 HOC10
          go_upto_region 10 with fail
          obtain ⟨sL1, sL2, sL3⟩ := sL
          refine wp_region_held_drew (S := fun w' => w'.cell? ⟨E9, 0, none⟩ = some (.slice sL1 sL2 sL3) ∧ LiesAt w' (B + 1) 0 (sp s p')) (by kernel_rfl) (by rw [HW11.out]; exact ⟨HY11.out.at 0 _ rfl, HB111.out.at⟩) (fun hHeld => ?_)
          rw [HW11.out] at hHeld ⊢
          refine wpAnyH_take (i := 0) (oi := _) (v := ?_) rfl (by kernel_rfl) (by kernel_rfl) (by kernel_rfl) (fun _ _ _ h => h) (Or.inl ⟨by rfl, ?_⟩) (by first | assumption | trivial) ?_
          rotate_left
          · intro w hSw; (try dsimp only at hSw); go_simp; try with_reducible rfl
          try simp only [Act.put, List.getElem_toArray, List.getElem_cons_succ, List.getElem_cons_zero, List.setIfInBounds_toArray, List.set_cons_zero, List.set_cons_succ]
          refine wpAnyH_take (i := 1) (oi := _) (v := .agg (sp s p').toArray) rfl (by kernel_rfl) (by kernel_rfl) (by kernel_rfl) (fun _ _ _ h => h) (Or.inl ⟨by rfl, ?_⟩) (by first | assumption | trivial) ?_
          · intro w hSw
            try dsimp only at hSw
            show Sem.run Tryz.prog ((Instr.loadAt 28 (.pointer (some ⟨B + 1, 0, none⟩))) >>= fun x => pure (Next.value x)) w = _
            rw [Sem.run_bind, load_all agg28 size28 (xs := sp s p') rfl hSw.2]
            rfl
          try simp only [Act.put, List.getElem_toArray, List.getElem_cons_succ, List.getElem_cons_zero, List.setIfInBounds_toArray, List.set_cons_zero, List.set_cons_succ]
          refine wpAnyH_take (i := 2) (oi := _) (v := ?_) rfl (by kernel_rfl) (by kernel_rfl) (by kernel_rfl) (fun _ _ _ h => h) (Or.inl ⟨by rfl, ?_⟩) (by first | assumption | trivial) ?_
          rotate_left
          · intro w hSw; (try dsimp only at hSw); go_simp; try with_reducible rfl
          try simp only [Act.put, List.getElem_toArray, List.getElem_cons_succ, List.getElem_cons_zero, List.setIfInBounds_toArray, List.set_cons_zero, List.set_cons_succ]
          refine wpAnyH_take (i := 3) (oi := _) (v := .agg #[.string s, .int .i64 p', .int .i64 most, .slice none 0 0]) rfl (by kernel_rfl) (by kernel_rfl) (by kernel_rfl) (fun _ _ _ h => h) (Or.inl ⟨by rfl, ?_⟩) (by first | assumption | trivial) ?_
          · intro w hSw
            try dsimp only at hSw
            exact exec_bld2 (V := .agg #[.string s, .int .i64 p']) (U := .int .i64 most) rfl rfl rfl (bldLg s p' most w)
          try simp only [Act.put, List.getElem_toArray, List.getElem_cons_succ, List.getElem_cons_zero, List.setIfInBounds_toArray, List.set_cons_zero, List.set_cons_succ]
          refine wpAnyH_take (i := 4) (oi := _) (v := .agg (lsC ⟨q, s, p', most, []⟩ (none, 0, 0)).toArray) rfl (by kernel_rfl) (by kernel_rfl) (by kernel_rfl) (fun _ _ _ h => h) (Or.inl ⟨by rfl, ?_⟩) (by first | assumption | trivial) ?_
          · intro w hSw
            try dsimp only at hSw
            exact exec_bld2 (V := .int .i64 q) (U := .agg #[.string s, .int .i64 p', .int .i64 most, .slice none 0 0]) rfl rfl rfl (bldLs q s p' most w)
          try simp only [Act.put, List.getElem_toArray, List.getElem_cons_succ, List.getElem_cons_zero, List.setIfInBounds_toArray, List.set_cons_zero, List.set_cons_succ]
          refine wpAnyH_take (i := 6) (oi := _) (v := ?_) rfl (by kernel_rfl) (by kernel_rfl) (by kernel_rfl) (fun _ _ _ h => h) (Or.inl ⟨by rfl, ?_⟩) (by first | assumption | trivial) ?_
          rotate_left
          · intro w hSw; (try dsimp only at hSw); go_simp; try with_reducible rfl
          try simp only [Act.put, List.getElem_toArray, List.getElem_cons_succ, List.getElem_cons_zero, List.setIfInBounds_toArray, List.set_cons_zero, List.set_cons_succ]
          refine wpAnyH_take (i := 7) (oi := _) (v := ?_) rfl (by kernel_rfl) (by kernel_rfl) (by kernel_rfl) (fun _ _ _ h => h) (Or.inl ⟨by rfl, ?_⟩) (by first | assumption | trivial) ?_
          rotate_left
          · intro w hSw; (try dsimp only at hSw); go_simp; try with_reducible rfl
          try simp only [Act.put, List.getElem_toArray, List.getElem_cons_succ, List.getElem_cons_zero, List.setIfInBounds_toArray, List.set_cons_zero, List.set_cons_succ]
          refine wpAnyH_take (i := 8) (oi := _) (v := ?_) rfl (by kernel_rfl) (by kernel_rfl) (by kernel_rfl) (fun _ _ _ h => h) (Or.inl ⟨by rfl, ?_⟩) (by first | assumption | trivial) ?_
          rotate_left
          · intro w hSw; (try dsimp only at hSw); go_simp; try with_reducible rfl
          try simp only [Act.put, List.getElem_toArray, List.getElem_cons_succ, List.getElem_cons_zero, List.setIfInBounds_toArray, List.set_cons_zero, List.set_cons_succ]
          refine wpAnyH_take (i := 9) (oi := _) (v := vr) rfl (by kernel_rfl) (by kernel_rfl) (by kernel_rfl) (fun _ _ _ h => h) (Or.inl ⟨by rfl, ?_⟩) (by first | assumption | trivial) ?_
          · intro w hSw
            try dsimp only at hSw
            exact exec_slice_from (V := slv (sL1, sL2, sL3)) (L := .int .i64 q) rfl rfl rfl elemLis.el.2.1 (hvr w)
          try simp only [Act.put, List.getElem_toArray, List.getElem_cons_succ, List.getElem_cons_zero, List.setIfInBounds_toArray, List.set_cons_zero, List.set_cons_succ]
          refine wpAnyH_ready (rs := [5]) (by kernel_rfl) (by simp) ?_
          refine AllReadyH.cons (o := _) rfl (fun K hK => ?_) AllReadyH.nil
          obtain ⟨w12, hw12⟩ : ∃ z, w11.alloc (.cells (lsC ⟨q, s, p', most, []⟩ (none, 0, 0)).toArray 100) = z := ⟨_, rfl⟩
          obtain ⟨E12, hE12⟩ : ∃ z, w11.heap.size = z := ⟨_, rfl⟩
          have hb12 : w12.ownsRow B 100 5 (.slice (some ⟨E12, 0, none⟩) 1 1) 1 (lsC ⟨q, s, p', most, []⟩ (none, 0, 0)) := by
            rw [← hw12, ← hE12]
            exact World.ownsRow_lit w11 (lsC ⟨q, s, p', most, []⟩ (none, 0, 0)).toArray 1 (by rw [← HBS.out]; exact HF11.out.size) (by unfold maxLen; omega) rfl
          have f12 : Fr [] w11 w12 := by rw [← hw12]; exact (Fr.refl [] w11).alloc _
          have HE12 := Lib.hid (show w.heap.size ≤ E12 ∧ w11.heap.size = E12 from ⟨by rw [← hE12]; exact HF11.out.size, hE12⟩)
          split
          rotate_left
          · rename_i hno
            exact absurd rfl hno
          refine wp_vl (v := .slice (some ⟨E12, 0, none⟩) 1 1) (w' := w12) ?_ ?_
          · refine exec_bsl (V := .agg (lsC ⟨q, s, p', most, []⟩ (none, 0, 0)).toArray) rfl rfl ?_
            rw [bslLis, hw12, hE12]
          have HB12' := Lib.hid hb12
          have HF12 := Lib.hid f12
          clear hw12 hE12 hb12 f12
          refine hK.out _ _ (⟨(HY11.out.keep HF12.out (by simp)).at 0 _ rfl, (HB111.out.keep HF12.out (by simp)).at⟩) (fun hHeld => ?_)
          clear hK K
          try simp only [Act.put, List.getElem_toArray, List.getElem_cons_succ, List.getElem_cons_zero, List.setIfInBounds_toArray, List.set_cons_zero, List.set_cons_succ]
          refine wpAnyH_ready (rs := [10]) (by kernel_rfl) (by simp) ?_
          refine AllReadyH.cons (o := _) rfl (fun K hK => ?_) AllReadyH.nil
          split
          rotate_left
          · rename_i hno
            exact absurd rfl hno
          refine wp_append_any elemLis _ _ rfl B (v := .slice (some ⟨E12, 0, none⟩) 1 1) (n := 1) (xs := lsC ⟨q, s, p', most, []⟩ (none, 0, 0)) rfl HB12'.out (X := vr) (m := n - q) (news := (Xs.drop q).flatten) rfl (by rw [← flat_drop q HREC11.out.sz]; exact HRR11.out.new HF12.out) (flat_one (HREC11.out.drop q).one) (by omega) (by decide) (by have := HBS.out; have := (HF11.out.step HF12.out).size; omega) ?_
          intro sR w13 ho13 f13
          have HF13 := Lib.hid (show Fr [] w11 w13 from HF12.out.trans f13 (fun x hx hl => by
            simp only [Value.ownBlock, Option.toList_some, List.mem_singleton] at hx
            have := HE12.out.2
            omega))
          have HO13 := Lib.hid ho13
          clear ho13 f13
          refine hK.out _ _ (⟨(HY11.out.keep HF13.out (by simp)).at 0 _ rfl, (HB111.out.keep HF13.out (by simp)).at⟩) (fun hHeld => ?_)
          clear hK K
          try simp only [Act.put, List.getElem_toArray, List.getElem_cons_succ, List.getElem_cons_zero, List.setIfInBounds_toArray, List.set_cons_zero, List.set_cons_succ]
          refine wpAnyH_take (i := 11) (oi := _) (v := ?_) rfl (by kernel_rfl) (by kernel_rfl) (by kernel_rfl) (fun _ _ _ h => h) (Or.inl ⟨by rfl, ?_⟩) (by first | assumption | trivial) ?_
          rotate_left
          · intro w hSw; (try dsimp only at hSw); go_simp; try with_reducible rfl
          try simp only [Act.put, List.getElem_toArray, List.getElem_cons_succ, List.getElem_cons_zero, List.setIfInBounds_toArray, List.set_cons_zero, List.set_cons_succ]
          refine wpAnyH_done (by kernel_rfl) ?_ _
          clear hHeld
          have HY13 := Lib.hid (HY11.out.keep HF13.out (by simp))
          have HB113 := Lib.hid (HB111.out.keep HF13.out (by simp))
          have HB213 := Lib.hid (HB211.out.keep HF13.out (by simp))
          have HB313 := Lib.hid (HB311.out.keep HF13.out (by simp))
          have HFT := Lib.hid (HF11.out.step HF13.out)
          have HOC13 := Lib.hid (HOC11.out.next HF13.out)
          have HREC13 := Lib.hid (HREC11.out.mono (fun X y ⟨t, e1, e2⟩ => (⟨t, e1, rowNew e2 HF13.out⟩ : ElLO B w13 X y)))
          obtain ⟨a0, ht0, hr0⟩ := own_slice_to elemLis (rowNew HOWN11.out HF13.out) q hkm
          have HR0 := Lib.hid (show RowV w13 (.slice a0 q q) q 5 (Xs.take q).flatten from by rw [← flat_take q HREC13.out.sz]; exact hr0)
          clear hr0 HB12' HF12 HF13 HY11 HB111 HB211 HB311 HF11 HOC11 HREC11 HOWN11 HRR11 HW11 HE12
          go_upto_region 11 with fail
          have c1 : w13.cell? ⟨E9, 0, none⟩ = some (.slice sL1 sL2 sL3) := HY13.out.at 0 _ rfl
          refine wp_region_lit ?_
          refine wpList_plain rfl (fun K hK => ?_); go_simp; refine hK _ _ ?_; clear hK K
          refine wpList_plain rfl (fun K hK => ?_); go_simp; refine hK _ _ ?_; clear hK K
          refine wpList_plain rfl (fun K hK => ?_); go_simp; refine hK _ _ ?_; clear hK K
          refine wpList_plain rfl (fun K hK => ?_); go_simp; refine hK _ _ ?_; clear hK K
          try simp only [Act.put, List.getElem_toArray, List.getElem_cons_succ, List.getElem_cons_zero, List.setIfInBounds_toArray, List.set_cons_zero, List.set_cons_succ]
          refine wpList_val rfl (v := .slice a0 q q) (w' := w13) (exec_slice_to (V := slv (sL1, sL2, sL3)) (H := .int .i64 q) (M := .int .i64 q) rfl rfl rfl rfl elemLis.el.2.1 (ht0 w13)) ?_
          try simp only [Act.put, List.getElem_toArray, List.getElem_cons_succ, List.getElem_cons_zero, List.setIfInBounds_toArray, List.set_cons_zero, List.set_cons_succ]
          refine wpList_plain rfl (fun K hK => ?_); go_simp; refine hK _ _ ?_; clear hK K
          try simp only [Act.put, List.getElem_toArray, List.getElem_cons_succ, List.getElem_cons_zero, List.setIfInBounds_toArray, List.set_cons_zero, List.set_cons_succ]
          refine wpList_append_cap elemLis rfl _ _ rfl (a0 := a0) (n := q) (xs := (Xs.take q).flatten) rfl HR0.out (X := slv sR) (m := 1 + (n - q)) (news := lsC ⟨q, s, p', most, []⟩ (none, 0, 0) ++ (Xs.drop q).flatten) rfl (RowV.of_own HO13.out) (by omega) (by omega) (by decide) ?_
          intro sL' w14 ho14 f14
          try simp only [Act.put, List.getElem_toArray, List.getElem_cons_succ, List.getElem_cons_zero, List.setIfInBounds_toArray, List.set_cons_zero, List.set_cons_succ]
          refine wpList_plain rfl (fun K hK => ?_); go_simp; refine hK _ _ ?_; clear hK K
          try simp only [Act.put, List.getElem_toArray, List.getElem_cons_succ, List.getElem_cons_zero, List.setIfInBounds_toArray, List.set_cons_zero, List.set_cons_succ]
          have HY14 := Lib.hid (HY13.out.keep f14 (by simp))
          have HB114 := Lib.hid (HB113.out.keep f14 (by simp))
          have HB214 := Lib.hid (HB213.out.keep f14 (by simp))
          have HB314 := Lib.hid (HB313.out.keep f14 (by simp))
          have HF14 := Lib.hid (HFT.out.step f14)
          have HOC14 := Lib.hid (HOC13.out.next f14)
          have HOL14 := Lib.hid (show RowO 100 5 (ElLO B) w14 B (slv sL') (insL D s p' most) from by
            refine ⟨Xs.take q ++ ([lsC ⟨q, s, p', most, []⟩ (none, 0, 0)] ++ Xs.drop q), ?_, ?_⟩
            · have h0 := HREC13.out.mono (fun X y ⟨t, e1, e2⟩ => (⟨t, e1, rowNew e2 f14⟩ : ElLO B w14 X y))
              have h1 : Recs 5 (ElLO B w14) [lsC ⟨q, s, p', most, []⟩ (none, 0, 0)] [(⟨q, s, p', most, []⟩ : PN.PL)] := Recs.push Recs.nil rfl (lsC_one _ _) ⟨(none, 0, 0), rfl, World.ownsRow_nil _ _ _ _⟩
              have h2 := (h0.take q).app (h1.app (h0.drop q))
              unfold insL
              rw [HKK.out]
              exact h2
            · have hlen : (insL D s p' most).length = q + (1 + (n - q)) := by
                unfold insL
                rw [HKK.out, List.length_append, List.length_cons, List.length_take, List.length_drop, HN.out]
                omega
              rw [hlen]
              have := rowBase ho14 (base' := B) (by rw [← HBS.out]; exact HFT.out.size)
              rw [List.flatten_append, List.flatten_append, List.flatten_singleton]
              exact this)
          clear ho14 f14 c1 HY13 HB113 HB213 HB313 HFT HOC13 HREC13 HO13 HR0
          obtain ⟨w15, hst, hb_, hf_⟩ := store_cell (t := 31) (o := 0) (slv sL') size31 rfl rfl HY14.out (by show 0 + 1 ≤ 2; omega)
          refine wpList_skp rfl (w' := w15) ?_ ?_
          · show Sem.run Tryz.prog ((Instr.storeAt 31 (.pointer (some ⟨E9, 0, none⟩)) (slv sL')) >>= fun _ => pure Next.skip) _ = _
            rw [Sem.run_bind, hst]
            rfl
          clear hst
          try simp only [Act.put, List.getElem_toArray, List.getElem_cons_succ, List.getElem_cons_zero, List.setIfInBounds_toArray, List.set_cons_zero, List.set_cons_succ]
          refine wpList_nil ?_
          try simp only [Act.put, List.getElem_toArray, List.getElem_cons_succ, List.getElem_cons_zero, List.setIfInBounds_toArray, List.set_cons_zero, List.set_cons_succ]
          have HY15 := Lib.hid (show Blk w15 E9 34 (two (slv sL') (slv sC)) from hb_)
          have HB115 := Lib.hid (HB114.out.keep hf_ (fun hm => by rw [List.mem_singleton] at hm; have := HE9.out; omega))
          have HB215 := Lib.hid (HB214.out.keep hf_ (fun hm => by rw [List.mem_singleton] at hm; have := HE9.out; omega))
          have HB315 := Lib.hid (HB314.out.keep hf_ (fun hm => by rw [List.mem_singleton] at hm; have := HE9.out; omega))
          have HF15 := Lib.hid (HF14.out.own1 (S := []) (B := 0) hf_ HE9.out.1)
          have HOL15 := Lib.hid (RowO.far HOL14.out HY14.out hf_ (by decide) (by decide))
          have HOC15 := Lib.hid (HOC14.out.far HY14.out hf_ (by decide) (by decide))
          clear hb_ hf_ HY14 HB114 HB214 HB314 HF14 HOL14 HOC14
          obtain ⟨w16, hw16⟩ : ∃ z, w15.drew = z := ⟨_, rfl⟩
          have f16 : Fr [] w15 w16 := by rw [← hw16]; exact (Fr.refl [] w15).drew
          have HY16 := Lib.hid (HY15.out.keep f16 (by simp))
          have HB116 := Lib.hid (HB115.out.keep f16 (by simp))
          have HB216 := Lib.hid (HB215.out.keep f16 (by simp))
          have HB316 := Lib.hid (HB315.out.keep f16 (by simp))
          have HF16 := Lib.hid (HF15.out.step f16)
          obtain ⟨Ys, hy1, hy2⟩ := HOL15.out
          have HOL16 := Lib.hid (show RowO 100 5 (ElLO B) w16 B (slv sL') (insL D s p' most) from ⟨Ys, hy1.mono (fun X y ⟨t, e1, e2⟩ => ⟨t, e1, rowNew e2 f16⟩), rowNew hy2 f16⟩)
          have HOC16 := Lib.hid (HOC15.out.next f16)
          have HW16 := Lib.hid hw16
          clear f16 hw16 HY15 HB115 HB215 HB315 HF15 HOL15 HOC15 hy1 hy2
          go_upto_region 12 with fail
          refine wp_region_held_drew (S := fun w' => LiesAt w' E9 0 (two (slv sL') (slv sC)) ∧ LiesAt w' (B + 1) 0 (sp s p')) (by kernel_rfl) (by rw [HW16.out]; exact ⟨HY16.out.at, HB116.out.at⟩) (fun hHeld => ?_)
          rw [HW16.out] at hHeld ⊢
          refine wpAnyH_take (i := 0) (oi := _) (v := .agg (two (slv sL') (slv sC)).toArray) rfl (by kernel_rfl) (by kernel_rfl) (by kernel_rfl) (fun _ _ _ h => h) (Or.inl ⟨by rfl, ?_⟩) (by first | assumption | trivial) ?_
          · intro w hSw
            try dsimp only at hSw
            show Sem.run Tryz.prog ((Instr.loadAt 34 (.pointer (some ⟨E9, 0, none⟩))) >>= fun x => pure (Next.value x)) w = _
            rw [Sem.run_bind, load_all agg34 size34 (xs := two (slv sL') (slv sC)) rfl hSw.1]
            rfl
          try simp only [Act.put, List.getElem_toArray, List.getElem_cons_succ, List.getElem_cons_zero, List.setIfInBounds_toArray, List.set_cons_zero, List.set_cons_succ]
          refine wpAnyH_take (i := 1) (oi := _) (v := ?_) rfl (by kernel_rfl) (by kernel_rfl) (by kernel_rfl) (fun _ _ _ h => h) (Or.inl ⟨by rfl, ?_⟩) (by first | assumption | trivial) ?_
          rotate_left
          · intro w hSw; (try dsimp only at hSw); go_simp; try with_reducible rfl
          try simp only [Act.put, List.getElem_toArray, List.getElem_cons_succ, List.getElem_cons_zero, List.setIfInBounds_toArray, List.set_cons_zero, List.set_cons_succ]
          refine wpAnyH_take (i := 2) (oi := _) (v := .agg (sp s p').toArray) rfl (by kernel_rfl) (by kernel_rfl) (by kernel_rfl) (fun _ _ _ h => h) (Or.inl ⟨by rfl, ?_⟩) (by first | assumption | trivial) ?_
          · intro w hSw
            try dsimp only at hSw
            show Sem.run Tryz.prog ((Instr.loadAt 28 (.pointer (some ⟨B + 1, 0, none⟩))) >>= fun x => pure (Next.value x)) w = _
            rw [Sem.run_bind, load_all agg28 size28 (xs := sp s p') rfl hSw.2]
            rfl
          try simp only [Act.put, List.getElem_toArray, List.getElem_cons_succ, List.getElem_cons_zero, List.setIfInBounds_toArray, List.set_cons_zero, List.set_cons_succ]
          refine wpAnyH_ready (rs := [3]) (by kernel_rfl) (by simp) ?_
          refine AllReadyH.cons (o := _) rfl (fun K hK => ?_) AllReadyH.nil
          obtain ⟨w17, hst, hb_, hf_⟩ := store_all (t := 34) (two (slv sL') (slv sC)) size34 rfl (two_one _ _) HB216.out rfl
          split
          rotate_left
          · rename_i hno
            exact absurd rfl hno
          refine wp_skp (w' := w17) ?_ ?_
          · show Sem.run Tryz.prog ((Instr.storeAt 34 (.pointer (some ⟨B + 2, 0, none⟩)) (.agg (two (slv sL') (slv sC)).toArray)) >>= fun _ => pure Next.skip) _ = _
            rw [Sem.run_bind, hst]
            rfl
          clear hst
          have HB217 := Lib.hid hb_
          have HB317 := Lib.hid (HB316.out.keep hf_ (by simp))
          have HF17 := Lib.hid (HF16.out.own1 (S := []) (B := 0) hf_ (by have := HBS.out; omega))
          have HOL17 := Lib.hid (RowO.far HOL16.out HB216.out hf_ (by decide) (by decide))
          have HOC17 := Lib.hid (HOC16.out.far HB216.out hf_ (by decide) (by decide))
          have HS17 := Lib.hid (show _ ∧ _ from ⟨hHeld.1.keep hf_ (fun hm => by rw [List.mem_singleton] at hm; have := HE9.out; omega), hHeld.2.keep hf_ (by simp)⟩)
          clear hb_ hf_
          refine hK.out _ _ (HS17.out) (fun hHeld => ?_)
          clear hK K
          try simp only [Act.put, List.getElem_toArray, List.getElem_cons_succ, List.getElem_cons_zero, List.setIfInBounds_toArray, List.set_cons_zero, List.set_cons_succ]
          refine wpAnyH_take (i := 4) (oi := _) (v := ?_) rfl (by kernel_rfl) (by kernel_rfl) (by kernel_rfl) (fun _ _ _ h => h) (Or.inl ⟨by rfl, ?_⟩) (by first | assumption | trivial) ?_
          rotate_left
          · intro w hSw; (try dsimp only at hSw); go_simp; try with_reducible rfl
          try simp only [Act.put, List.getElem_toArray, List.getElem_cons_succ, List.getElem_cons_zero, List.setIfInBounds_toArray, List.set_cons_zero, List.set_cons_succ]
          refine wpAnyH_ready (rs := [5]) (by kernel_rfl) (by simp) ?_
          refine AllReadyH.cons (o := _) rfl (fun K hK => ?_) AllReadyH.nil
          obtain ⟨w18, hst, hb_, hf_⟩ := store_all (t := 28) (sp s p') size28 rfl (sp_one _ _) HB317.out rfl
          split
          rotate_left
          · rename_i hno
            exact absurd rfl hno
          refine wp_skp (w' := w18) ?_ ?_
          · show Sem.run Tryz.prog ((Instr.storeAt 28 (.pointer (some ⟨B + 3, 0, none⟩)) (.agg (sp s p').toArray)) >>= fun _ => pure Next.skip) _ = _
            rw [Sem.run_bind, hst]
            rfl
          clear hst
          have HB318 := Lib.hid hb_
          have HB218 := Lib.hid (HB217.out.keep hf_ (by simp))
          have HF18 := Lib.hid (HF17.out.own1 (S := []) (B := 0) hf_ (by have := HBS.out; omega))
          have HOL18 := Lib.hid (RowO.far HOL17.out HB317.out hf_ (by decide) (by decide))
          have HOC18 := Lib.hid (HOC17.out.far HB317.out hf_ (by decide) (by decide))
          have HS18 := Lib.hid (show _ ∧ _ from ⟨hHeld.1.keep hf_ (fun hm => by rw [List.mem_singleton] at hm; have := HE9.out; omega), hHeld.2.keep hf_ (by simp)⟩)
          clear hb_ hf_
          refine hK.out _ _ (HS18.out) (fun hHeld => ?_)
          clear hK K
          try simp only [Act.put, List.getElem_toArray, List.getElem_cons_succ, List.getElem_cons_zero, List.setIfInBounds_toArray, List.set_cons_zero, List.set_cons_succ]
          refine wpAnyH_take (i := 6) (oi := _) (v := ?_) rfl (by kernel_rfl) (by kernel_rfl) (by kernel_rfl) (fun _ _ _ h => h) (Or.inl ⟨by rfl, ?_⟩) (by first | assumption | trivial) ?_
          rotate_left
          · intro w hSw; (try dsimp only at hSw); go_simp; try with_reducible rfl
          try simp only [Act.put, List.getElem_toArray, List.getElem_cons_succ, List.getElem_cons_zero, List.setIfInBounds_toArray, List.set_cons_zero, List.set_cons_succ]
          refine wpAnyH_done (by kernel_rfl) ?_ _
          go_wp2
          have hl := load_var agg34 size34 (xs := two (slv sL') (slv sC)) rfl HB218.out.at
          have hl2 := load_var agg28 size28 (xs := sp s p') rfl HB318.out.at
          refine bodyPost_ret (v := .tuple #[.agg (two (slv sL') (slv sC)).toArray, .int .i64 q, .agg (sp s p').toArray, .int .i64 0]) (by simp [results, Tryz.results12, as_addr, hl, hl2]) rfl ?_
          exact ⟨sL', sC, rfl, by rw [HBS.out]; exact HOL18.out, by rw [HBS.out]; exact HOC18.out.rd, HF18.out⟩
    · skip
      split
      rotate_left
      · rename_i hno
        exact absurd rfl hno
      refine wp_vl (v := .agg (sp s p).toArray) (w' := w2) ?_ ?_
      · show Sem.run Tryz.prog ((Instr.loadAt 28 (.pointer (some ⟨B + 1, 0, none⟩))) >>= fun x => pure (Next.value x)) w2 = _
        rw [Sem.run_bind, load_all agg28 size28 (xs := sp s p) rfl HB12.out.at]
        rfl
      refine hK.out _ _ (trivial) (fun hHeld => ?_)
      clear hK K
      clear hHeld
      try simp only [Act.put, List.getElem_toArray, List.getElem_cons_succ, List.getElem_cons_zero, List.setIfInBounds_toArray, List.set_cons_zero, List.set_cons_succ]
      refine wpAnyH_ready (rs := [1]) (by kernel_rfl) (by simp) ?_
      refine AllReadyH.cons (o := _) rfl (fun K hK => ?_) AllReadyH.nil
      go_simp
      refine (HBD.out _ HF2.out).mono ?_
      rintro e w3 ⟨vb, rfl, f3, hbi⟩
      have HBI := Lib.hid hbi
      have HF3 := Lib.hid (HF2.out.step f3)
      have HB03 := Lib.hid (HB02.out.keep f3 (by simp))
      have HB13 := Lib.hid (HB12.out.keep f3 (by simp))
      have HB23 := Lib.hid (HB22.out.keep f3 (by simp))
      have HB33 := Lib.hid (HB32.out.keep f3 (by simp))
      clear hbi f3
      refine hK.out _ _ (trivial) (fun hHeld => ?_)
      clear hK K
      clear hHeld
      try simp only [Act.put, List.getElem_toArray, List.getElem_cons_succ, List.getElem_cons_zero, List.setIfInBounds_toArray, List.set_cons_zero, List.set_cons_succ]
      refine wpAnyH_ready (rs := [3]) (by kernel_rfl) (by simp) ?_
      refine AllReadyH.cons (o := _) rfl (fun K hK => ?_) AllReadyH.nil
      go_simp
      refine (HBI.out _ (Fr.refl _ _)).mono ?_
      rintro e w4 ⟨⟨l, rfl⟩, f4⟩
      have HF4 := Lib.hid (HF3.out.step f4)
      have HB04 := Lib.hid (HB03.out.keep f4 (by simp))
      have HB14 := Lib.hid (HB13.out.keep f4 (by simp))
      have HB24 := Lib.hid (HB23.out.keep f4 (by simp))
      have HB34 := Lib.hid (HB33.out.keep f4 (by simp))
      clear f4
      refine hK.out _ _ (trivial) (fun hHeld => ?_)
      clear hK K
      clear hHeld
      try simp only [Act.put, List.getElem_toArray, List.getElem_cons_succ, List.getElem_cons_zero, List.setIfInBounds_toArray, List.set_cons_zero, List.set_cons_succ]
      refine wpAnyH_take (i := 4) (oi := _) (v := ?_) rfl (by kernel_rfl) (by kernel_rfl) (by kernel_rfl) (fun _ _ _ h => h) (Or.inl ⟨by rfl, ?_⟩) (by first | assumption | trivial) ?_
      rotate_left
      · intro w hSw; (try dsimp only at hSw); go_simp; try with_reducible rfl
      try simp only [Act.put, List.getElem_toArray, List.getElem_cons_succ, List.getElem_cons_zero, List.setIfInBounds_toArray, List.set_cons_zero, List.set_cons_succ]
      refine wpAnyH_take (i := 5) (oi := _) (v := ?_) rfl (by kernel_rfl) (by kernel_rfl) (by kernel_rfl) (fun _ _ _ h => h) (Or.inl ⟨by rfl, ?_⟩) (by first | assumption | trivial) ?_
      rotate_left
      · intro w hSw; (try dsimp only at hSw); go_simp; try with_reducible rfl
      try simp only [Act.put, List.getElem_toArray, List.getElem_cons_succ, List.getElem_cons_zero, List.setIfInBounds_toArray, List.set_cons_zero, List.set_cons_succ]
      refine wpAnyH_take (i := 6) (oi := _) (v := ?_) rfl (by kernel_rfl) (by kernel_rfl) (by kernel_rfl) (fun _ _ _ h => h) (Or.inl ⟨by rfl, ?_⟩) (by first | assumption | trivial) ?_
      rotate_left
      · intro w hSw; (try dsimp only at hSw); go_simp; try with_reducible rfl
      try simp only [Act.put, List.getElem_toArray, List.getElem_cons_succ, List.getElem_cons_zero, List.setIfInBounds_toArray, List.set_cons_zero, List.set_cons_succ]
      refine wpAnyH_take (i := 7) (oi := _) (v := ?_) rfl (by kernel_rfl) (by kernel_rfl) (by kernel_rfl) (fun _ _ _ h => h) (Or.inl ⟨by rfl, ?_⟩) (by first | assumption | trivial) ?_
      rotate_left
      · intro w hSw; (try dsimp only at hSw); go_simp; try with_reducible rfl
      try simp only [Act.put, List.getElem_toArray, List.getElem_cons_succ, List.getElem_cons_zero, List.setIfInBounds_toArray, List.set_cons_zero, List.set_cons_succ]
      refine wpAnyH_take (i := 8) (oi := _) (v := ?_) rfl (by kernel_rfl) (by kernel_rfl) (by kernel_rfl) (fun _ _ _ h => h) (Or.inl ⟨by rfl, ?_⟩) (by first | assumption | trivial) ?_
      rotate_left
      · intro w hSw; (try dsimp only at hSw); go_simp; try with_reducible rfl
      try simp only [Act.put, List.getElem_toArray, List.getElem_cons_succ, List.getElem_cons_zero, List.setIfInBounds_toArray, List.set_cons_zero, List.set_cons_succ]
      refine wpAnyH_ready (rs := [9]) (by kernel_rfl) (by simp) ?_
      refine AllReadyH.cons (o := _) rfl (fun K hK => ?_) AllReadyH.nil
      obtain ⟨w5, hst, hb_, hf_⟩ := store_all (t := 28) (sp s p') size28 rfl (sp_one _ _) HB14.out rfl
      split
      rotate_left
      · rename_i hno
        exact absurd rfl hno
      refine wp_skp (w' := w5) ?_ ?_
      · show Sem.run Tryz.prog ((Instr.storeAt 28 (.pointer (some ⟨B + 1, 0, none⟩)) (.agg (sp s p').toArray)) >>= fun _ => pure Next.skip) _ = _
        rw [Sem.run_bind, hst]
        rfl
      clear hst
      have HB15 := Lib.hid hb_
      have HF5 := Lib.hid (HF4.out.own1 (S := []) (B := 0) hf_ (by have := HBS.out; omega))
      have HB05 := Lib.hid (HB04.out.keep hf_ (by simp))
      have HB25 := Lib.hid (HB24.out.keep hf_ (by simp))
      have HB35 := Lib.hid (HB34.out.keep hf_ (by simp))
      clear hb_ hf_
      refine hK.out _ _ (trivial) (fun hHeld => ?_)
      clear hK K
      clear hHeld
      try simp only [Act.put, List.getElem_toArray, List.getElem_cons_succ, List.getElem_cons_zero, List.setIfInBounds_toArray, List.set_cons_zero, List.set_cons_succ]
      refine wpAnyH_take (i := 10) (oi := _) (v := ?_) rfl (by kernel_rfl) (by kernel_rfl) (by kernel_rfl) (fun _ _ _ h => h) (Or.inl ⟨by rfl, ?_⟩) (by first | assumption | trivial) ?_
      rotate_left
      · intro w hSw; (try dsimp only at hSw); go_simp; try with_reducible rfl
      try simp only [Act.put, List.getElem_toArray, List.getElem_cons_succ, List.getElem_cons_zero, List.setIfInBounds_toArray, List.set_cons_zero, List.set_cons_succ]
      refine wpAnyH_done (by kernel_rfl) ?_ _
      clear HBI HF2 HF3 HF4 HB02 HB12 HB22 HB32 HB03 HB13 HB23 HB33 HB04 HB14 HB24 HB34 HW2
      go_wp2_with fail
      go_loopw [12] (fun i wr => ∃ (wz : World) (q : Nat), wz = wr ∧ i = .int .i64 q ∧ q ≤ k ∧ Fr [] w5 wr) (fun i _ => k - (intOf i).toNat)
      case atStart => exact ⟨_, 0, rfl, rfl, by omega, Fr.refl _ _⟩
      case round =>
        obtain ⟨wr, q, hwz, rfl, hq, fr⟩ := hrel
        subst hwz
        have HB06 := Lib.hid (HB05.out.keep fr (by simp))
        have HB16 := Lib.hid (HB15.out.keep fr (by simp))
        have HB26 := Lib.hid (HB25.out.keep fr (by simp))
        have HB36 := Lib.hid (HB35.out.keep fr (by simp))
        have HF6 := Lib.hid (HF5.out.step fr)
        have HFR := Lib.hid fr
        clear fr
        go_upto_region 7 with fail
        refine wp_region_lit ?_
        refine wpList_val rfl (v := .agg (two (.slice aL n cL) (.slice aC m cC)).toArray) (w' := wr) ?_ ?_
        · show Sem.run Tryz.prog ((Instr.loadAt 34 (.pointer (some ⟨B, 0, none⟩))) >>= fun x => pure (Next.value x)) wr = _
          rw [Sem.run_bind, load_all agg34 size34 (xs := two (.slice aL n cL) (.slice aC m cC)) rfl HB06.out.at]
          rfl
        try simp only [Act.put, List.getElem_toArray, List.getElem_cons_succ, List.getElem_cons_zero, List.setIfInBounds_toArray, List.set_cons_zero, List.set_cons_succ]
        refine wpList_plain rfl (fun K hK => ?_); go_simp; refine hK _ _ ?_; clear hK K
        try simp only [Act.put, List.getElem_toArray, List.getElem_cons_succ, List.getElem_cons_zero, List.setIfInBounds_toArray, List.set_cons_zero, List.set_cons_succ]
        refine wpList_plain rfl (fun K hK => ?_)
        go_simp
        refine (lisAtG (.slice aL n cL) (.slice aC m cC) D (q : Int) _ (LRow.next HL.out HF6.out) (by rw [HN.out]; omega)).mono ?_
        rintro e w7 ⟨rfl, f7⟩
        refine hK _ _ ?_
        clear hK K
        try simp only [Act.put, List.getElem_toArray, List.getElem_cons_succ, List.getElem_cons_zero, List.setIfInBounds_toArray, List.set_cons_zero, List.set_cons_succ]
        have HB07 := Lib.hid (HB06.out.keep f7 (by simp))
        have HB17 := Lib.hid (HB16.out.keep f7 (by simp))
        have HB27 := Lib.hid (HB26.out.keep f7 (by simp))
        have HB37 := Lib.hid (HB36.out.keep f7 (by simp))
        have HF7 := Lib.hid (HF6.out.step f7)
        have HFR7 := Lib.hid (HFR.out.step f7)
        clear f7 HB06 HB16 HB26 HB36 HF6 HFR
        obtain ⟨P, hP⟩ : ∃ P, place (PN.pick (PN.refP (q : Int)) D 0) = P := ⟨_, rfl⟩
        rw [hP]
        by_cases hqk : q < k
        · skip
          have hP0 : 0 ≤ P := by
            obtain ⟨i, y, he⟩ := refP_mem.2 (HK.out.2.1 q hqk)
            rw [← hP, he]
            simp [place]
          have d0 : decide (0 ≤ P) = true := decide_eq_true hP0
          clear hP
          go_wp2
          go_roundw
          case rel => exact ⟨_, q + 1, rfl, by go_num, by omega, HFR7.out⟩
          case measure => simp [intOf]; omega
        · skip
          obtain rfl : q = k := by omega
          have hP0 : P < 0 := by
            rw [← hP]
            cases he : PN.pick (PN.refP (q : Int)) D 0 with
            | none => simp [place]
            | some a => exact absurd (refP_mem.1 ⟨a.1, a.2, he⟩) HK.out.1
          have d0 : decide (0 ≤ P) = false := decide_eq_false (by omega)
          clear hP
          go_upto_region 9 with fail
          refine wp_region_lit ?_
          refine wpList_val rfl (v := .agg (two (.slice aL n cL) (.slice aC m cC)).toArray) (w' := w7) ?_ ?_
          · show Sem.run Tryz.prog ((Instr.loadAt 34 (.pointer (some ⟨B, 0, none⟩))) >>= fun x => pure (Next.value x)) w7 = _
            rw [Sem.run_bind, load_all agg34 size34 (xs := two (.slice aL n cL) (.slice aC m cC)) rfl HB07.out.at]
            rfl
          try simp only [Act.put, List.getElem_toArray, List.getElem_cons_succ, List.getElem_cons_zero, List.setIfInBounds_toArray, List.set_cons_zero, List.set_cons_succ]
          refine wpList_plain rfl (fun K hK => ?_)
          go_simp
          refine (nCopy_any (.slice aL n cL) (.slice aC m cC) D C _ (LRow.next HL.out HF7.out) (CRow.next HC.out HF7.out) HFIT.out).mono ?_
          rintro e w8 ⟨sL, sC, rfl, oL, oC, f8⟩
          refine hK _ _ ?_
          clear hK K
          try simp only [Act.put, List.getElem_toArray, List.getElem_cons_succ, List.getElem_cons_zero, List.setIfInBounds_toArray, List.set_cons_zero, List.set_cons_succ]
          have HB18 := Lib.hid (HB17.out.keep f8 (by simp))
          have HB28 := Lib.hid (HB27.out.keep f8 (by simp))
          have HB38 := Lib.hid (HB37.out.keep f8 (by simp))
          have HF8 := Lib.hid (HF7.out.step f8)
          have HOL8 := Lib.hid (oL.base (B' := B) (by rw [← HBS.out]; exact HF7.out.size))
          have HOC8 := Lib.hid (oC.base (B' := B) (by rw [← HBS.out]; exact HF7.out.size))
          clear f8 oL oC HB07 HB17 HB27 HB37 HF7 HFR7
          refine wpList_plain rfl (fun K hK => ?_); go_simp; refine hK _ _ ?_; clear hK K
          try simp only [Act.put, List.getElem_toArray, List.getElem_cons_succ, List.getElem_cons_zero, List.setIfInBounds_toArray, List.set_cons_zero, List.set_cons_succ]
          obtain ⟨E9, hE_⟩ : ∃ E, w8.heap.size = E := ⟨_, rfl⟩
          obtain ⟨wy, hw_⟩ : ∃ z, w8.alloc (.cells #[.slice none 0 0, .slice none 0 0] 34) = z := ⟨_, rfl⟩
          have hby : Blk wy E9 34 zNt := by rw [← hw_, ← hE_]; exact Blk.made w8 34 zNt
          have fy : Fr [] w8 wy := by rw [← hw_]; exact (Fr.refl [] w8).alloc _
          rw [hw_]
          simp only [hE_]
          have HE9 := Lib.hid (show w.heap.size ≤ E9 ∧ B + 3 < E9 from by rw [← hE_]; exact ⟨HF8.out.size, HB38.out.lt⟩)
          have HY9 := Lib.hid hby
          have HB19 := Lib.hid (HB18.out.keep fy (by simp))
          have HB29 := Lib.hid (HB28.out.keep fy (by simp))
          have HB39 := Lib.hid (HB38.out.keep fy (by simp))
          have HF9 := Lib.hid (HF8.out.step fy)
          have HOL9 := Lib.hid (HOL8.out.next fy)
          have HOC9 := Lib.hid (HOC8.out.next fy)
          clear fy hby hw_ hE_ HB18 HB28 HB38 HF8 HOL8 HOC8
          obtain ⟨w10, hst, hb_, hf_⟩ := store_all (t := 34) (two (slv sL) (slv sC)) size34 rfl (two_one _ _) HY9.out rfl
          refine wpList_skp rfl (w' := w10) ?_ ?_
          · show Sem.run Tryz.prog ((Instr.storeAt 34 (.pointer (some ⟨E9, 0, none⟩)) (.agg (two (slv sL) (slv sC)).toArray)) >>= fun _ => pure Next.skip) _ = _
            rw [Sem.run_bind, hst]
            rfl
          clear hst
          try simp only [Act.put, List.getElem_toArray, List.getElem_cons_succ, List.getElem_cons_zero, List.setIfInBounds_toArray, List.set_cons_zero, List.set_cons_succ]
          refine wpList_nil ?_
          try simp only [Act.put, List.getElem_toArray, List.getElem_cons_succ, List.getElem_cons_zero, List.setIfInBounds_toArray, List.set_cons_zero, List.set_cons_succ]
          have HY10 := Lib.hid hb_
          have HB110 := Lib.hid (HB19.out.keep hf_ (fun hm => by rw [List.mem_singleton] at hm; have := HE9.out; omega))
          have HB210 := Lib.hid (HB29.out.keep hf_ (fun hm => by rw [List.mem_singleton] at hm; have := HE9.out; omega))
          have HB310 := Lib.hid (HB39.out.keep hf_ (fun hm => by rw [List.mem_singleton] at hm; have := HE9.out; omega))
          have HF10 := Lib.hid (HF9.out.own1 (S := []) (B := 0) hf_ HE9.out.1)
          have HOL10 := Lib.hid (HOL9.out.far HY9.out hf_ (by decide) (by decide))
          have HOC10 := Lib.hid (HOC9.out.far HY9.out hf_ (by decide) (by decide))
          clear hb_ hf_ HY9 HB19 HB29 HB39 HF9 HOL9 HOC9
          obtain ⟨w11, hw11⟩ : ∃ z, w10.drew = z := ⟨_, rfl⟩
          have f11 : Fr [] w10 w11 := by rw [← hw11]; exact (Fr.refl [] w10).drew
          have HY11 := Lib.hid (HY10.out.keep f11 (by simp))
          have HB111 := Lib.hid (HB110.out.keep f11 (by simp))
          have HB211 := Lib.hid (HB210.out.keep f11 (by simp))
          have HB311 := Lib.hid (HB310.out.keep f11 (by simp))
          have HF11 := Lib.hid (HF10.out.step f11)
          have HOC11 := Lib.hid (HOC10.out.next f11)
          obtain ⟨Xs, hrec, hown, _⟩ := HOL10.out.next f11
          rw [HN.out] at hown
          obtain ⟨vr, hvr, hrr⟩ := own_slice_from elemLis hown q hkm
          have HW11 := Lib.hid hw11
          have HREC11 := Lib.hid hrec
          have HOWN11 := Lib.hid hown
          have HRR11 := Lib.hid hrr
          clear f11 hw11 hrec hown hrr HY10 HB110 HB210 HB310 HF10 HOL10 HOC10
          go_upto_region 10 with fail
          obtain ⟨sL1, sL2, sL3⟩ := sL
          refine wp_region_held_drew (S := fun w' => w'.cell? ⟨E9, 0, none⟩ = some (.slice sL1 sL2 sL3) ∧ LiesAt w' (B + 1) 0 (sp s p')) (by kernel_rfl) (by rw [HW11.out]; exact ⟨HY11.out.at 0 _ rfl, HB111.out.at⟩) (fun hHeld => ?_)
          rw [HW11.out] at hHeld ⊢
          refine wpAnyH_take (i := 0) (oi := _) (v := ?_) rfl (by kernel_rfl) (by kernel_rfl) (by kernel_rfl) (fun _ _ _ h => h) (Or.inl ⟨by rfl, ?_⟩) (by first | assumption | trivial) ?_
          rotate_left
          · intro w hSw; (try dsimp only at hSw); go_simp; try with_reducible rfl
          try simp only [Act.put, List.getElem_toArray, List.getElem_cons_succ, List.getElem_cons_zero, List.setIfInBounds_toArray, List.set_cons_zero, List.set_cons_succ]
          refine wpAnyH_take (i := 1) (oi := _) (v := .agg (sp s p').toArray) rfl (by kernel_rfl) (by kernel_rfl) (by kernel_rfl) (fun _ _ _ h => h) (Or.inl ⟨by rfl, ?_⟩) (by first | assumption | trivial) ?_
          · intro w hSw
            try dsimp only at hSw
            show Sem.run Tryz.prog ((Instr.loadAt 28 (.pointer (some ⟨B + 1, 0, none⟩))) >>= fun x => pure (Next.value x)) w = _
            rw [Sem.run_bind, load_all agg28 size28 (xs := sp s p') rfl hSw.2]
            rfl
          try simp only [Act.put, List.getElem_toArray, List.getElem_cons_succ, List.getElem_cons_zero, List.setIfInBounds_toArray, List.set_cons_zero, List.set_cons_succ]
          refine wpAnyH_take (i := 2) (oi := _) (v := ?_) rfl (by kernel_rfl) (by kernel_rfl) (by kernel_rfl) (fun _ _ _ h => h) (Or.inl ⟨by rfl, ?_⟩) (by first | assumption | trivial) ?_
          rotate_left
          · intro w hSw; (try dsimp only at hSw); go_simp; try with_reducible rfl
          try simp only [Act.put, List.getElem_toArray, List.getElem_cons_succ, List.getElem_cons_zero, List.setIfInBounds_toArray, List.set_cons_zero, List.set_cons_succ]
          refine wpAnyH_take (i := 3) (oi := _) (v := .agg #[.string s, .int .i64 p', .int .i64 most, .slice none 0 0]) rfl (by kernel_rfl) (by kernel_rfl) (by kernel_rfl) (fun _ _ _ h => h) (Or.inl ⟨by rfl, ?_⟩) (by first | assumption | trivial) ?_
          · intro w hSw
            try dsimp only at hSw
            exact exec_bld2 (V := .agg #[.string s, .int .i64 p']) (U := .int .i64 most) rfl rfl rfl (bldLg s p' most w)
          try simp only [Act.put, List.getElem_toArray, List.getElem_cons_succ, List.getElem_cons_zero, List.setIfInBounds_toArray, List.set_cons_zero, List.set_cons_succ]
          refine wpAnyH_take (i := 4) (oi := _) (v := .agg (lsC ⟨q, s, p', most, []⟩ (none, 0, 0)).toArray) rfl (by kernel_rfl) (by kernel_rfl) (by kernel_rfl) (fun _ _ _ h => h) (Or.inl ⟨by rfl, ?_⟩) (by first | assumption | trivial) ?_
          · intro w hSw
            try dsimp only at hSw
            exact exec_bld2 (V := .int .i64 q) (U := .agg #[.string s, .int .i64 p', .int .i64 most, .slice none 0 0]) rfl rfl rfl (bldLs q s p' most w)
          try simp only [Act.put, List.getElem_toArray, List.getElem_cons_succ, List.getElem_cons_zero, List.setIfInBounds_toArray, List.set_cons_zero, List.set_cons_succ]
          refine wpAnyH_take (i := 6) (oi := _) (v := ?_) rfl (by kernel_rfl) (by kernel_rfl) (by kernel_rfl) (fun _ _ _ h => h) (Or.inl ⟨by rfl, ?_⟩) (by first | assumption | trivial) ?_
          rotate_left
          · intro w hSw; (try dsimp only at hSw); go_simp; try with_reducible rfl
          try simp only [Act.put, List.getElem_toArray, List.getElem_cons_succ, List.getElem_cons_zero, List.setIfInBounds_toArray, List.set_cons_zero, List.set_cons_succ]
          refine wpAnyH_take (i := 7) (oi := _) (v := ?_) rfl (by kernel_rfl) (by kernel_rfl) (by kernel_rfl) (fun _ _ _ h => h) (Or.inl ⟨by rfl, ?_⟩) (by first | assumption | trivial) ?_
          rotate_left
          · intro w hSw; (try dsimp only at hSw); go_simp; try with_reducible rfl
          try simp only [Act.put, List.getElem_toArray, List.getElem_cons_succ, List.getElem_cons_zero, List.setIfInBounds_toArray, List.set_cons_zero, List.set_cons_succ]
          refine wpAnyH_take (i := 8) (oi := _) (v := ?_) rfl (by kernel_rfl) (by kernel_rfl) (by kernel_rfl) (fun _ _ _ h => h) (Or.inl ⟨by rfl, ?_⟩) (by first | assumption | trivial) ?_
          rotate_left
          · intro w hSw; (try dsimp only at hSw); go_simp; try with_reducible rfl
          try simp only [Act.put, List.getElem_toArray, List.getElem_cons_succ, List.getElem_cons_zero, List.setIfInBounds_toArray, List.set_cons_zero, List.set_cons_succ]
          refine wpAnyH_take (i := 9) (oi := _) (v := vr) rfl (by kernel_rfl) (by kernel_rfl) (by kernel_rfl) (fun _ _ _ h => h) (Or.inl ⟨by rfl, ?_⟩) (by first | assumption | trivial) ?_
          · intro w hSw
            try dsimp only at hSw
            exact exec_slice_from (V := slv (sL1, sL2, sL3)) (L := .int .i64 q) rfl rfl rfl elemLis.el.2.1 (hvr w)
          try simp only [Act.put, List.getElem_toArray, List.getElem_cons_succ, List.getElem_cons_zero, List.setIfInBounds_toArray, List.set_cons_zero, List.set_cons_succ]
          refine wpAnyH_ready (rs := [5]) (by kernel_rfl) (by simp) ?_
          refine AllReadyH.cons (o := _) rfl (fun K hK => ?_) AllReadyH.nil
          obtain ⟨w12, hw12⟩ : ∃ z, w11.alloc (.cells (lsC ⟨q, s, p', most, []⟩ (none, 0, 0)).toArray 100) = z := ⟨_, rfl⟩
          obtain ⟨E12, hE12⟩ : ∃ z, w11.heap.size = z := ⟨_, rfl⟩
          have hb12 : w12.ownsRow B 100 5 (.slice (some ⟨E12, 0, none⟩) 1 1) 1 (lsC ⟨q, s, p', most, []⟩ (none, 0, 0)) := by
            rw [← hw12, ← hE12]
            exact World.ownsRow_lit w11 (lsC ⟨q, s, p', most, []⟩ (none, 0, 0)).toArray 1 (by rw [← HBS.out]; exact HF11.out.size) (by unfold maxLen; omega) rfl
          have f12 : Fr [] w11 w12 := by rw [← hw12]; exact (Fr.refl [] w11).alloc _
          have HE12 := Lib.hid (show w.heap.size ≤ E12 ∧ w11.heap.size = E12 from ⟨by rw [← hE12]; exact HF11.out.size, hE12⟩)
          split
          rotate_left
          · rename_i hno
            exact absurd rfl hno
          refine wp_vl (v := .slice (some ⟨E12, 0, none⟩) 1 1) (w' := w12) ?_ ?_
          · refine exec_bsl (V := .agg (lsC ⟨q, s, p', most, []⟩ (none, 0, 0)).toArray) rfl rfl ?_
            rw [bslLis, hw12, hE12]
          have HB12' := Lib.hid hb12
          have HF12 := Lib.hid f12
          clear hw12 hE12 hb12 f12
          refine hK.out _ _ (⟨(HY11.out.keep HF12.out (by simp)).at 0 _ rfl, (HB111.out.keep HF12.out (by simp)).at⟩) (fun hHeld => ?_)
          clear hK K
          try simp only [Act.put, List.getElem_toArray, List.getElem_cons_succ, List.getElem_cons_zero, List.setIfInBounds_toArray, List.set_cons_zero, List.set_cons_succ]
          refine wpAnyH_ready (rs := [10]) (by kernel_rfl) (by simp) ?_
          refine AllReadyH.cons (o := _) rfl (fun K hK => ?_) AllReadyH.nil
          split
          rotate_left
          · rename_i hno
            exact absurd rfl hno
          refine wp_append_any elemLis _ _ rfl B (v := .slice (some ⟨E12, 0, none⟩) 1 1) (n := 1) (xs := lsC ⟨q, s, p', most, []⟩ (none, 0, 0)) rfl HB12'.out (X := vr) (m := n - q) (news := (Xs.drop q).flatten) rfl (by rw [← flat_drop q HREC11.out.sz]; exact HRR11.out.new HF12.out) (flat_one (HREC11.out.drop q).one) (by omega) (by decide) (by have := HBS.out; have := (HF11.out.step HF12.out).size; omega) ?_
          intro sR w13 ho13 f13
          have HF13 := Lib.hid (show Fr [] w11 w13 from HF12.out.trans f13 (fun x hx hl => by
            simp only [Value.ownBlock, Option.toList_some, List.mem_singleton] at hx
            have := HE12.out.2
            omega))
          have HO13 := Lib.hid ho13
          clear ho13 f13
          refine hK.out _ _ (⟨(HY11.out.keep HF13.out (by simp)).at 0 _ rfl, (HB111.out.keep HF13.out (by simp)).at⟩) (fun hHeld => ?_)
          clear hK K
          try simp only [Act.put, List.getElem_toArray, List.getElem_cons_succ, List.getElem_cons_zero, List.setIfInBounds_toArray, List.set_cons_zero, List.set_cons_succ]
          refine wpAnyH_take (i := 11) (oi := _) (v := ?_) rfl (by kernel_rfl) (by kernel_rfl) (by kernel_rfl) (fun _ _ _ h => h) (Or.inl ⟨by rfl, ?_⟩) (by first | assumption | trivial) ?_
          rotate_left
          · intro w hSw; (try dsimp only at hSw); go_simp; try with_reducible rfl
          try simp only [Act.put, List.getElem_toArray, List.getElem_cons_succ, List.getElem_cons_zero, List.setIfInBounds_toArray, List.set_cons_zero, List.set_cons_succ]
          refine wpAnyH_done (by kernel_rfl) ?_ _
          clear hHeld
          have HY13 := Lib.hid (HY11.out.keep HF13.out (by simp))
          have HB113 := Lib.hid (HB111.out.keep HF13.out (by simp))
          have HB213 := Lib.hid (HB211.out.keep HF13.out (by simp))
          have HB313 := Lib.hid (HB311.out.keep HF13.out (by simp))
          have HFT := Lib.hid (HF11.out.step HF13.out)
          have HOC13 := Lib.hid (HOC11.out.next HF13.out)
          have HREC13 := Lib.hid (HREC11.out.mono (fun X y ⟨t, e1, e2⟩ => (⟨t, e1, rowNew e2 HF13.out⟩ : ElLO B w13 X y)))
          obtain ⟨a0, ht0, hr0⟩ := own_slice_to elemLis (rowNew HOWN11.out HF13.out) q hkm
          have HR0 := Lib.hid (show RowV w13 (.slice a0 q q) q 5 (Xs.take q).flatten from by rw [← flat_take q HREC13.out.sz]; exact hr0)
          clear hr0 HB12' HF12 HF13 HY11 HB111 HB211 HB311 HF11 HOC11 HREC11 HOWN11 HRR11 HW11 HE12
          go_upto_region 11 with fail
          have c1 : w13.cell? ⟨E9, 0, none⟩ = some (.slice sL1 sL2 sL3) := HY13.out.at 0 _ rfl
          refine wp_region_lit ?_
          refine wpList_plain rfl (fun K hK => ?_); go_simp; refine hK _ _ ?_; clear hK K
          refine wpList_plain rfl (fun K hK => ?_); go_simp; refine hK _ _ ?_; clear hK K
          refine wpList_plain rfl (fun K hK => ?_); go_simp; refine hK _ _ ?_; clear hK K
          refine wpList_plain rfl (fun K hK => ?_); go_simp; refine hK _ _ ?_; clear hK K
          try simp only [Act.put, List.getElem_toArray, List.getElem_cons_succ, List.getElem_cons_zero, List.setIfInBounds_toArray, List.set_cons_zero, List.set_cons_succ]
          refine wpList_val rfl (v := .slice a0 q q) (w' := w13) (exec_slice_to (V := slv (sL1, sL2, sL3)) (H := .int .i64 q) (M := .int .i64 q) rfl rfl rfl rfl elemLis.el.2.1 (ht0 w13)) ?_
          try simp only [Act.put, List.getElem_toArray, List.getElem_cons_succ, List.getElem_cons_zero, List.setIfInBounds_toArray, List.set_cons_zero, List.set_cons_succ]
          refine wpList_plain rfl (fun K hK => ?_); go_simp; refine hK _ _ ?_; clear hK K
          try simp only [Act.put, List.getElem_toArray, List.getElem_cons_succ, List.getElem_cons_zero, List.setIfInBounds_toArray, List.set_cons_zero, List.set_cons_succ]
          refine wpList_append_cap elemLis rfl _ _ rfl (a0 := a0) (n := q) (xs := (Xs.take q).flatten) rfl HR0.out (X := slv sR) (m := 1 + (n - q)) (news := lsC ⟨q, s, p', most, []⟩ (none, 0, 0) ++ (Xs.drop q).flatten) rfl (RowV.of_own HO13.out) (by omega) (by omega) (by decide) ?_
          intro sL' w14 ho14 f14
          try simp only [Act.put, List.getElem_toArray, List.getElem_cons_succ, List.getElem_cons_zero, List.setIfInBounds_toArray, List.set_cons_zero, List.set_cons_succ]
          refine wpList_plain rfl (fun K hK => ?_); go_simp; refine hK _ _ ?_; clear hK K
          try simp only [Act.put, List.getElem_toArray, List.getElem_cons_succ, List.getElem_cons_zero, List.setIfInBounds_toArray, List.set_cons_zero, List.set_cons_succ]
          have HY14 := Lib.hid (HY13.out.keep f14 (by simp))
          have HB114 := Lib.hid (HB113.out.keep f14 (by simp))
          have HB214 := Lib.hid (HB213.out.keep f14 (by simp))
          have HB314 := Lib.hid (HB313.out.keep f14 (by simp))
          have HF14 := Lib.hid (HFT.out.step f14)
          have HOC14 := Lib.hid (HOC13.out.next f14)
          have HOL14 := Lib.hid (show RowO 100 5 (ElLO B) w14 B (slv sL') (insL D s p' most) from by
            refine ⟨Xs.take q ++ ([lsC ⟨q, s, p', most, []⟩ (none, 0, 0)] ++ Xs.drop q), ?_, ?_⟩
            · have h0 := HREC13.out.mono (fun X y ⟨t, e1, e2⟩ => (⟨t, e1, rowNew e2 f14⟩ : ElLO B w14 X y))
              have h1 : Recs 5 (ElLO B w14) [lsC ⟨q, s, p', most, []⟩ (none, 0, 0)] [(⟨q, s, p', most, []⟩ : PN.PL)] := Recs.push Recs.nil rfl (lsC_one _ _) ⟨(none, 0, 0), rfl, World.ownsRow_nil _ _ _ _⟩
              have h2 := (h0.take q).app (h1.app (h0.drop q))
              unfold insL
              rw [HKK.out]
              exact h2
            · have hlen : (insL D s p' most).length = q + (1 + (n - q)) := by
                unfold insL
                rw [HKK.out, List.length_append, List.length_cons, List.length_take, List.length_drop, HN.out]
                omega
              rw [hlen]
              have := rowBase ho14 (base' := B) (by rw [← HBS.out]; exact HFT.out.size)
              rw [List.flatten_append, List.flatten_append, List.flatten_singleton]
              exact this)
          clear ho14 f14 c1 HY13 HB113 HB213 HB313 HFT HOC13 HREC13 HO13 HR0
          obtain ⟨w15, hst, hb_, hf_⟩ := store_cell (t := 31) (o := 0) (slv sL') size31 rfl rfl HY14.out (by show 0 + 1 ≤ 2; omega)
          refine wpList_skp rfl (w' := w15) ?_ ?_
          · show Sem.run Tryz.prog ((Instr.storeAt 31 (.pointer (some ⟨E9, 0, none⟩)) (slv sL')) >>= fun _ => pure Next.skip) _ = _
            rw [Sem.run_bind, hst]
            rfl
          clear hst
          try simp only [Act.put, List.getElem_toArray, List.getElem_cons_succ, List.getElem_cons_zero, List.setIfInBounds_toArray, List.set_cons_zero, List.set_cons_succ]
          refine wpList_nil ?_
          try simp only [Act.put, List.getElem_toArray, List.getElem_cons_succ, List.getElem_cons_zero, List.setIfInBounds_toArray, List.set_cons_zero, List.set_cons_succ]
          have HY15 := Lib.hid (show Blk w15 E9 34 (two (slv sL') (slv sC)) from hb_)
          have HB115 := Lib.hid (HB114.out.keep hf_ (fun hm => by rw [List.mem_singleton] at hm; have := HE9.out; omega))
          have HB215 := Lib.hid (HB214.out.keep hf_ (fun hm => by rw [List.mem_singleton] at hm; have := HE9.out; omega))
          have HB315 := Lib.hid (HB314.out.keep hf_ (fun hm => by rw [List.mem_singleton] at hm; have := HE9.out; omega))
          have HF15 := Lib.hid (HF14.out.own1 (S := []) (B := 0) hf_ HE9.out.1)
          have HOL15 := Lib.hid (RowO.far HOL14.out HY14.out hf_ (by decide) (by decide))
          have HOC15 := Lib.hid (HOC14.out.far HY14.out hf_ (by decide) (by decide))
          clear hb_ hf_ HY14 HB114 HB214 HB314 HF14 HOL14 HOC14
          obtain ⟨w16, hw16⟩ : ∃ z, w15.drew = z := ⟨_, rfl⟩
          have f16 : Fr [] w15 w16 := by rw [← hw16]; exact (Fr.refl [] w15).drew
          have HY16 := Lib.hid (HY15.out.keep f16 (by simp))
          have HB116 := Lib.hid (HB115.out.keep f16 (by simp))
          have HB216 := Lib.hid (HB215.out.keep f16 (by simp))
          have HB316 := Lib.hid (HB315.out.keep f16 (by simp))
          have HF16 := Lib.hid (HF15.out.step f16)
          obtain ⟨Ys, hy1, hy2⟩ := HOL15.out
          have HOL16 := Lib.hid (show RowO 100 5 (ElLO B) w16 B (slv sL') (insL D s p' most) from ⟨Ys, hy1.mono (fun X y ⟨t, e1, e2⟩ => ⟨t, e1, rowNew e2 f16⟩), rowNew hy2 f16⟩)
          have HOC16 := Lib.hid (HOC15.out.next f16)
          have HW16 := Lib.hid hw16
          clear f16 hw16 HY15 HB115 HB215 HB315 HF15 HOL15 HOC15 hy1 hy2
          go_upto_region 12 with fail
          refine wp_region_held_drew (S := fun w' => LiesAt w' E9 0 (two (slv sL') (slv sC)) ∧ LiesAt w' (B + 1) 0 (sp s p')) (by kernel_rfl) (by rw [HW16.out]; exact ⟨HY16.out.at, HB116.out.at⟩) (fun hHeld => ?_)
          rw [HW16.out] at hHeld ⊢
          refine wpAnyH_take (i := 0) (oi := _) (v := .agg (two (slv sL') (slv sC)).toArray) rfl (by kernel_rfl) (by kernel_rfl) (by kernel_rfl) (fun _ _ _ h => h) (Or.inl ⟨by rfl, ?_⟩) (by first | assumption | trivial) ?_
          · intro w hSw
            try dsimp only at hSw
            show Sem.run Tryz.prog ((Instr.loadAt 34 (.pointer (some ⟨E9, 0, none⟩))) >>= fun x => pure (Next.value x)) w = _
            rw [Sem.run_bind, load_all agg34 size34 (xs := two (slv sL') (slv sC)) rfl hSw.1]
            rfl
          try simp only [Act.put, List.getElem_toArray, List.getElem_cons_succ, List.getElem_cons_zero, List.setIfInBounds_toArray, List.set_cons_zero, List.set_cons_succ]
          refine wpAnyH_take (i := 1) (oi := _) (v := ?_) rfl (by kernel_rfl) (by kernel_rfl) (by kernel_rfl) (fun _ _ _ h => h) (Or.inl ⟨by rfl, ?_⟩) (by first | assumption | trivial) ?_
          rotate_left
          · intro w hSw; (try dsimp only at hSw); go_simp; try with_reducible rfl
          try simp only [Act.put, List.getElem_toArray, List.getElem_cons_succ, List.getElem_cons_zero, List.setIfInBounds_toArray, List.set_cons_zero, List.set_cons_succ]
          refine wpAnyH_take (i := 2) (oi := _) (v := .agg (sp s p').toArray) rfl (by kernel_rfl) (by kernel_rfl) (by kernel_rfl) (fun _ _ _ h => h) (Or.inl ⟨by rfl, ?_⟩) (by first | assumption | trivial) ?_
          · intro w hSw
            try dsimp only at hSw
            show Sem.run Tryz.prog ((Instr.loadAt 28 (.pointer (some ⟨B + 1, 0, none⟩))) >>= fun x => pure (Next.value x)) w = _
            rw [Sem.run_bind, load_all agg28 size28 (xs := sp s p') rfl hSw.2]
            rfl
          try simp only [Act.put, List.getElem_toArray, List.getElem_cons_succ, List.getElem_cons_zero, List.setIfInBounds_toArray, List.set_cons_zero, List.set_cons_succ]
          refine wpAnyH_ready (rs := [3]) (by kernel_rfl) (by simp) ?_
          refine AllReadyH.cons (o := _) rfl (fun K hK => ?_) AllReadyH.nil
          obtain ⟨w17, hst, hb_, hf_⟩ := store_all (t := 34) (two (slv sL') (slv sC)) size34 rfl (two_one _ _) HB216.out rfl
          split
          rotate_left
          · rename_i hno
            exact absurd rfl hno
          refine wp_skp (w' := w17) ?_ ?_
          · show Sem.run Tryz.prog ((Instr.storeAt 34 (.pointer (some ⟨B + 2, 0, none⟩)) (.agg (two (slv sL') (slv sC)).toArray)) >>= fun _ => pure Next.skip) _ = _
            rw [Sem.run_bind, hst]
            rfl
          clear hst
          have HB217 := Lib.hid hb_
          have HB317 := Lib.hid (HB316.out.keep hf_ (by simp))
          have HF17 := Lib.hid (HF16.out.own1 (S := []) (B := 0) hf_ (by have := HBS.out; omega))
          have HOL17 := Lib.hid (RowO.far HOL16.out HB216.out hf_ (by decide) (by decide))
          have HOC17 := Lib.hid (HOC16.out.far HB216.out hf_ (by decide) (by decide))
          have HS17 := Lib.hid (show _ ∧ _ from ⟨hHeld.1.keep hf_ (fun hm => by rw [List.mem_singleton] at hm; have := HE9.out; omega), hHeld.2.keep hf_ (by simp)⟩)
          clear hb_ hf_
          refine hK.out _ _ (HS17.out) (fun hHeld => ?_)
          clear hK K
          try simp only [Act.put, List.getElem_toArray, List.getElem_cons_succ, List.getElem_cons_zero, List.setIfInBounds_toArray, List.set_cons_zero, List.set_cons_succ]
          refine wpAnyH_take (i := 4) (oi := _) (v := ?_) rfl (by kernel_rfl) (by kernel_rfl) (by kernel_rfl) (fun _ _ _ h => h) (Or.inl ⟨by rfl, ?_⟩) (by first | assumption | trivial) ?_
          rotate_left
          · intro w hSw; (try dsimp only at hSw); go_simp; try with_reducible rfl
          try simp only [Act.put, List.getElem_toArray, List.getElem_cons_succ, List.getElem_cons_zero, List.setIfInBounds_toArray, List.set_cons_zero, List.set_cons_succ]
          refine wpAnyH_ready (rs := [5]) (by kernel_rfl) (by simp) ?_
          refine AllReadyH.cons (o := _) rfl (fun K hK => ?_) AllReadyH.nil
          obtain ⟨w18, hst, hb_, hf_⟩ := store_all (t := 28) (sp s p') size28 rfl (sp_one _ _) HB317.out rfl
          split
          rotate_left
          · rename_i hno
            exact absurd rfl hno
          refine wp_skp (w' := w18) ?_ ?_
          · show Sem.run Tryz.prog ((Instr.storeAt 28 (.pointer (some ⟨B + 3, 0, none⟩)) (.agg (sp s p').toArray)) >>= fun _ => pure Next.skip) _ = _
            rw [Sem.run_bind, hst]
            rfl
          clear hst
          have HB318 := Lib.hid hb_
          have HB218 := Lib.hid (HB217.out.keep hf_ (by simp))
          have HF18 := Lib.hid (HF17.out.own1 (S := []) (B := 0) hf_ (by have := HBS.out; omega))
          have HOL18 := Lib.hid (RowO.far HOL17.out HB317.out hf_ (by decide) (by decide))
          have HOC18 := Lib.hid (HOC17.out.far HB317.out hf_ (by decide) (by decide))
          have HS18 := Lib.hid (show _ ∧ _ from ⟨hHeld.1.keep hf_ (fun hm => by rw [List.mem_singleton] at hm; have := HE9.out; omega), hHeld.2.keep hf_ (by simp)⟩)
          clear hb_ hf_
          refine hK.out _ _ (HS18.out) (fun hHeld => ?_)
          clear hK K
          try simp only [Act.put, List.getElem_toArray, List.getElem_cons_succ, List.getElem_cons_zero, List.setIfInBounds_toArray, List.set_cons_zero, List.set_cons_succ]
          refine wpAnyH_take (i := 6) (oi := _) (v := ?_) rfl (by kernel_rfl) (by kernel_rfl) (by kernel_rfl) (fun _ _ _ h => h) (Or.inl ⟨by rfl, ?_⟩) (by first | assumption | trivial) ?_
          rotate_left
          · intro w hSw; (try dsimp only at hSw); go_simp; try with_reducible rfl
          try simp only [Act.put, List.getElem_toArray, List.getElem_cons_succ, List.getElem_cons_zero, List.setIfInBounds_toArray, List.set_cons_zero, List.set_cons_succ]
          refine wpAnyH_done (by kernel_rfl) ?_ _
          go_wp2
          have hl := load_var agg34 size34 (xs := two (slv sL') (slv sC)) rfl HB218.out.at
          have hl2 := load_var agg28 size28 (xs := sp s p') rfl HB318.out.at
          refine bodyPost_ret (v := .tuple #[.agg (two (slv sL') (slv sC)).toArray, .int .i64 q, .agg (sp s p').toArray, .int .i64 0]) (by simp [results, Tryz.results12, as_addr, hl, hl2]) rfl ?_
          exact ⟨sL', sC, rfl, by rw [HBS.out]; exact HOL18.out, by rw [HBS.out]; exact HOC18.out.rd, HF18.out⟩
  · skip
    split
    rotate_left
    · rename_i hno
      exact absurd rfl hno
    refine wp_vl (v := .agg (sp s p).toArray) (w' := w2) ?_ ?_
    · show Sem.run Tryz.prog ((Instr.loadAt 28 (.pointer (some ⟨B + 1, 0, none⟩))) >>= fun x => pure (Next.value x)) w2 = _
      rw [Sem.run_bind, load_all agg28 size28 (xs := sp s p) rfl HB12.out.at]
      rfl
    refine hK.out _ _ (trivial) (fun hHeld => ?_)
    clear hK K
    clear hHeld
    try simp only [Act.put, List.getElem_toArray, List.getElem_cons_succ, List.getElem_cons_zero, List.setIfInBounds_toArray, List.set_cons_zero, List.set_cons_succ]
    refine wpAnyH_ready (rs := [0]) (by kernel_rfl) (by simp) ?_
    refine AllReadyH.cons (o := _) rfl (fun K hK => ?_) AllReadyH.nil
    split
    rotate_left
    · rename_i hno
      exact absurd rfl hno
    refine wp_vl (v := .agg (two (.slice aL n cL) (.slice aC m cC)).toArray) (w' := w2) ?_ ?_
    · show Sem.run Tryz.prog ((Instr.loadAt 34 (.pointer (some ⟨B, 0, none⟩))) >>= fun x => pure (Next.value x)) w2 = _
      rw [Sem.run_bind, load_all agg34 size34 (xs := two (.slice aL n cL) (.slice aC m cC)) rfl HB02.out.at]
      rfl
    refine hK.out _ _ (trivial) (fun hHeld => ?_)
    clear hK K
    clear hHeld
    try simp only [Act.put, List.getElem_toArray, List.getElem_cons_succ, List.getElem_cons_zero, List.setIfInBounds_toArray, List.set_cons_zero, List.set_cons_succ]
    refine wpAnyH_ready (rs := [1]) (by kernel_rfl) (by simp) ?_
    refine AllReadyH.cons (o := _) rfl (fun K hK => ?_) AllReadyH.nil
    go_simp
    refine (HBD.out _ HF2.out).mono ?_
    rintro e w3 ⟨vb, rfl, f3, hbi⟩
    have HBI := Lib.hid hbi
    have HF3 := Lib.hid (HF2.out.step f3)
    have HB03 := Lib.hid (HB02.out.keep f3 (by simp))
    have HB13 := Lib.hid (HB12.out.keep f3 (by simp))
    have HB23 := Lib.hid (HB22.out.keep f3 (by simp))
    have HB33 := Lib.hid (HB32.out.keep f3 (by simp))
    clear hbi f3
    refine hK.out _ _ (trivial) (fun hHeld => ?_)
    clear hK K
    clear hHeld
    try simp only [Act.put, List.getElem_toArray, List.getElem_cons_succ, List.getElem_cons_zero, List.setIfInBounds_toArray, List.set_cons_zero, List.set_cons_succ]
    refine wpAnyH_ready (rs := [3]) (by kernel_rfl) (by simp) ?_
    refine AllReadyH.cons (o := _) rfl (fun K hK => ?_) AllReadyH.nil
    go_simp
    refine (HBI.out _ (Fr.refl _ _)).mono ?_
    rintro e w4 ⟨⟨l, rfl⟩, f4⟩
    have HF4 := Lib.hid (HF3.out.step f4)
    have HB04 := Lib.hid (HB03.out.keep f4 (by simp))
    have HB14 := Lib.hid (HB13.out.keep f4 (by simp))
    have HB24 := Lib.hid (HB23.out.keep f4 (by simp))
    have HB34 := Lib.hid (HB33.out.keep f4 (by simp))
    clear f4
    refine hK.out _ _ (trivial) (fun hHeld => ?_)
    clear hK K
    clear hHeld
    try simp only [Act.put, List.getElem_toArray, List.getElem_cons_succ, List.getElem_cons_zero, List.setIfInBounds_toArray, List.set_cons_zero, List.set_cons_succ]
    refine wpAnyH_take (i := 4) (oi := _) (v := ?_) rfl (by kernel_rfl) (by kernel_rfl) (by kernel_rfl) (fun _ _ _ h => h) (Or.inl ⟨by rfl, ?_⟩) (by first | assumption | trivial) ?_
    rotate_left
    · intro w hSw; (try dsimp only at hSw); go_simp; try with_reducible rfl
    try simp only [Act.put, List.getElem_toArray, List.getElem_cons_succ, List.getElem_cons_zero, List.setIfInBounds_toArray, List.set_cons_zero, List.set_cons_succ]
    refine wpAnyH_take (i := 5) (oi := _) (v := ?_) rfl (by kernel_rfl) (by kernel_rfl) (by kernel_rfl) (fun _ _ _ h => h) (Or.inl ⟨by rfl, ?_⟩) (by first | assumption | trivial) ?_
    rotate_left
    · intro w hSw; (try dsimp only at hSw); go_simp; try with_reducible rfl
    try simp only [Act.put, List.getElem_toArray, List.getElem_cons_succ, List.getElem_cons_zero, List.setIfInBounds_toArray, List.set_cons_zero, List.set_cons_succ]
    refine wpAnyH_take (i := 6) (oi := _) (v := ?_) rfl (by kernel_rfl) (by kernel_rfl) (by kernel_rfl) (fun _ _ _ h => h) (Or.inl ⟨by rfl, ?_⟩) (by first | assumption | trivial) ?_
    rotate_left
    · intro w hSw; (try dsimp only at hSw); go_simp; try with_reducible rfl
    try simp only [Act.put, List.getElem_toArray, List.getElem_cons_succ, List.getElem_cons_zero, List.setIfInBounds_toArray, List.set_cons_zero, List.set_cons_succ]
    refine wpAnyH_take (i := 7) (oi := _) (v := ?_) rfl (by kernel_rfl) (by kernel_rfl) (by kernel_rfl) (fun _ _ _ h => h) (Or.inl ⟨by rfl, ?_⟩) (by first | assumption | trivial) ?_
    rotate_left
    · intro w hSw; (try dsimp only at hSw); go_simp; try with_reducible rfl
    try simp only [Act.put, List.getElem_toArray, List.getElem_cons_succ, List.getElem_cons_zero, List.setIfInBounds_toArray, List.set_cons_zero, List.set_cons_succ]
    refine wpAnyH_take (i := 8) (oi := _) (v := ?_) rfl (by kernel_rfl) (by kernel_rfl) (by kernel_rfl) (fun _ _ _ h => h) (Or.inl ⟨by rfl, ?_⟩) (by first | assumption | trivial) ?_
    rotate_left
    · intro w hSw; (try dsimp only at hSw); go_simp; try with_reducible rfl
    try simp only [Act.put, List.getElem_toArray, List.getElem_cons_succ, List.getElem_cons_zero, List.setIfInBounds_toArray, List.set_cons_zero, List.set_cons_succ]
    refine wpAnyH_ready (rs := [9]) (by kernel_rfl) (by simp) ?_
    refine AllReadyH.cons (o := _) rfl (fun K hK => ?_) AllReadyH.nil
    obtain ⟨w5, hst, hb_, hf_⟩ := store_all (t := 28) (sp s p') size28 rfl (sp_one _ _) HB14.out rfl
    split
    rotate_left
    · rename_i hno
      exact absurd rfl hno
    refine wp_skp (w' := w5) ?_ ?_
    · show Sem.run Tryz.prog ((Instr.storeAt 28 (.pointer (some ⟨B + 1, 0, none⟩)) (.agg (sp s p').toArray)) >>= fun _ => pure Next.skip) _ = _
      rw [Sem.run_bind, hst]
      rfl
    clear hst
    have HB15 := Lib.hid hb_
    have HF5 := Lib.hid (HF4.out.own1 (S := []) (B := 0) hf_ (by have := HBS.out; omega))
    have HB05 := Lib.hid (HB04.out.keep hf_ (by simp))
    have HB25 := Lib.hid (HB24.out.keep hf_ (by simp))
    have HB35 := Lib.hid (HB34.out.keep hf_ (by simp))
    clear hb_ hf_
    refine hK.out _ _ (trivial) (fun hHeld => ?_)
    clear hK K
    clear hHeld
    try simp only [Act.put, List.getElem_toArray, List.getElem_cons_succ, List.getElem_cons_zero, List.setIfInBounds_toArray, List.set_cons_zero, List.set_cons_succ]
    refine wpAnyH_take (i := 10) (oi := _) (v := ?_) rfl (by kernel_rfl) (by kernel_rfl) (by kernel_rfl) (fun _ _ _ h => h) (Or.inl ⟨by rfl, ?_⟩) (by first | assumption | trivial) ?_
    rotate_left
    · intro w hSw; (try dsimp only at hSw); go_simp; try with_reducible rfl
    try simp only [Act.put, List.getElem_toArray, List.getElem_cons_succ, List.getElem_cons_zero, List.setIfInBounds_toArray, List.set_cons_zero, List.set_cons_succ]
    refine wpAnyH_done (by kernel_rfl) ?_ _
    clear HBI HF2 HF3 HF4 HB02 HB12 HB22 HB32 HB03 HB13 HB23 HB33 HB04 HB14 HB24 HB34 HW2
    go_wp2_with fail
    go_loopw [12] (fun i wr => ∃ (wz : World) (q : Nat), wz = wr ∧ i = .int .i64 q ∧ q ≤ k ∧ Fr [] w5 wr) (fun i _ => k - (intOf i).toNat)
    case atStart => exact ⟨_, 0, rfl, rfl, by omega, Fr.refl _ _⟩
    case round =>
      obtain ⟨wr, q, hwz, rfl, hq, fr⟩ := hrel
      subst hwz
      have HB06 := Lib.hid (HB05.out.keep fr (by simp))
      have HB16 := Lib.hid (HB15.out.keep fr (by simp))
      have HB26 := Lib.hid (HB25.out.keep fr (by simp))
      have HB36 := Lib.hid (HB35.out.keep fr (by simp))
      have HF6 := Lib.hid (HF5.out.step fr)
      have HFR := Lib.hid fr
      clear fr
      go_upto_region 7 with fail
      refine wp_region_lit ?_
      refine wpList_val rfl (v := .agg (two (.slice aL n cL) (.slice aC m cC)).toArray) (w' := wr) ?_ ?_
      · show Sem.run Tryz.prog ((Instr.loadAt 34 (.pointer (some ⟨B, 0, none⟩))) >>= fun x => pure (Next.value x)) wr = _
        rw [Sem.run_bind, load_all agg34 size34 (xs := two (.slice aL n cL) (.slice aC m cC)) rfl HB06.out.at]
        rfl
      try simp only [Act.put, List.getElem_toArray, List.getElem_cons_succ, List.getElem_cons_zero, List.setIfInBounds_toArray, List.set_cons_zero, List.set_cons_succ]
      refine wpList_plain rfl (fun K hK => ?_); go_simp; refine hK _ _ ?_; clear hK K
      try simp only [Act.put, List.getElem_toArray, List.getElem_cons_succ, List.getElem_cons_zero, List.setIfInBounds_toArray, List.set_cons_zero, List.set_cons_succ]
      refine wpList_plain rfl (fun K hK => ?_)
      go_simp
      refine (lisAtG (.slice aL n cL) (.slice aC m cC) D (q : Int) _ (LRow.next HL.out HF6.out) (by rw [HN.out]; omega)).mono ?_
      rintro e w7 ⟨rfl, f7⟩
      refine hK _ _ ?_
      clear hK K
      try simp only [Act.put, List.getElem_toArray, List.getElem_cons_succ, List.getElem_cons_zero, List.setIfInBounds_toArray, List.set_cons_zero, List.set_cons_succ]
      have HB07 := Lib.hid (HB06.out.keep f7 (by simp))
      have HB17 := Lib.hid (HB16.out.keep f7 (by simp))
      have HB27 := Lib.hid (HB26.out.keep f7 (by simp))
      have HB37 := Lib.hid (HB36.out.keep f7 (by simp))
      have HF7 := Lib.hid (HF6.out.step f7)
      have HFR7 := Lib.hid (HFR.out.step f7)
      clear f7 HB06 HB16 HB26 HB36 HF6 HFR
      obtain ⟨P, hP⟩ : ∃ P, place (PN.pick (PN.refP (q : Int)) D 0) = P := ⟨_, rfl⟩
      rw [hP]
      by_cases hqk : q < k
      · skip
        have hP0 : 0 ≤ P := by
          obtain ⟨i, y, he⟩ := refP_mem.2 (HK.out.2.1 q hqk)
          rw [← hP, he]
          simp [place]
        have d0 : decide (0 ≤ P) = true := decide_eq_true hP0
        clear hP
        go_wp2
        go_roundw
        case rel => exact ⟨_, q + 1, rfl, by go_num, by omega, HFR7.out⟩
        case measure => simp [intOf]; omega
      · skip
        obtain rfl : q = k := by omega
        have hP0 : P < 0 := by
          rw [← hP]
          cases he : PN.pick (PN.refP (q : Int)) D 0 with
          | none => simp [place]
          | some a => exact absurd (refP_mem.1 ⟨a.1, a.2, he⟩) HK.out.1
        have d0 : decide (0 ≤ P) = false := decide_eq_false (by omega)
        clear hP
        go_upto_region 9 with fail
        refine wp_region_lit ?_
        refine wpList_val rfl (v := .agg (two (.slice aL n cL) (.slice aC m cC)).toArray) (w' := w7) ?_ ?_
        · show Sem.run Tryz.prog ((Instr.loadAt 34 (.pointer (some ⟨B, 0, none⟩))) >>= fun x => pure (Next.value x)) w7 = _
          rw [Sem.run_bind, load_all agg34 size34 (xs := two (.slice aL n cL) (.slice aC m cC)) rfl HB07.out.at]
          rfl
        try simp only [Act.put, List.getElem_toArray, List.getElem_cons_succ, List.getElem_cons_zero, List.setIfInBounds_toArray, List.set_cons_zero, List.set_cons_succ]
        refine wpList_plain rfl (fun K hK => ?_)
        go_simp
        refine (nCopy_any (.slice aL n cL) (.slice aC m cC) D C _ (LRow.next HL.out HF7.out) (CRow.next HC.out HF7.out) HFIT.out).mono ?_
        rintro e w8 ⟨sL, sC, rfl, oL, oC, f8⟩
        refine hK _ _ ?_
        clear hK K
        try simp only [Act.put, List.getElem_toArray, List.getElem_cons_succ, List.getElem_cons_zero, List.setIfInBounds_toArray, List.set_cons_zero, List.set_cons_succ]
        have HB18 := Lib.hid (HB17.out.keep f8 (by simp))
        have HB28 := Lib.hid (HB27.out.keep f8 (by simp))
        have HB38 := Lib.hid (HB37.out.keep f8 (by simp))
        have HF8 := Lib.hid (HF7.out.step f8)
        have HOL8 := Lib.hid (oL.base (B' := B) (by rw [← HBS.out]; exact HF7.out.size))
        have HOC8 := Lib.hid (oC.base (B' := B) (by rw [← HBS.out]; exact HF7.out.size))
        clear f8 oL oC HB07 HB17 HB27 HB37 HF7 HFR7
        refine wpList_plain rfl (fun K hK => ?_); go_simp; refine hK _ _ ?_; clear hK K
        try simp only [Act.put, List.getElem_toArray, List.getElem_cons_succ, List.getElem_cons_zero, List.setIfInBounds_toArray, List.set_cons_zero, List.set_cons_succ]
        obtain ⟨E9, hE_⟩ : ∃ E, w8.heap.size = E := ⟨_, rfl⟩
        obtain ⟨wy, hw_⟩ : ∃ z, w8.alloc (.cells #[.slice none 0 0, .slice none 0 0] 34) = z := ⟨_, rfl⟩
        have hby : Blk wy E9 34 zNt := by rw [← hw_, ← hE_]; exact Blk.made w8 34 zNt
        have fy : Fr [] w8 wy := by rw [← hw_]; exact (Fr.refl [] w8).alloc _
        rw [hw_]
        simp only [hE_]
        have HE9 := Lib.hid (show w.heap.size ≤ E9 ∧ B + 3 < E9 from by rw [← hE_]; exact ⟨HF8.out.size, HB38.out.lt⟩)
        have HY9 := Lib.hid hby
        have HB19 := Lib.hid (HB18.out.keep fy (by simp))
        have HB29 := Lib.hid (HB28.out.keep fy (by simp))
        have HB39 := Lib.hid (HB38.out.keep fy (by simp))
        have HF9 := Lib.hid (HF8.out.step fy)
        have HOL9 := Lib.hid (HOL8.out.next fy)
        have HOC9 := Lib.hid (HOC8.out.next fy)
        clear fy hby hw_ hE_ HB18 HB28 HB38 HF8 HOL8 HOC8
        obtain ⟨w10, hst, hb_, hf_⟩ := store_all (t := 34) (two (slv sL) (slv sC)) size34 rfl (two_one _ _) HY9.out rfl
        refine wpList_skp rfl (w' := w10) ?_ ?_
        · show Sem.run Tryz.prog ((Instr.storeAt 34 (.pointer (some ⟨E9, 0, none⟩)) (.agg (two (slv sL) (slv sC)).toArray)) >>= fun _ => pure Next.skip) _ = _
          rw [Sem.run_bind, hst]
          rfl
        clear hst
        try simp only [Act.put, List.getElem_toArray, List.getElem_cons_succ, List.getElem_cons_zero, List.setIfInBounds_toArray, List.set_cons_zero, List.set_cons_succ]
        refine wpList_nil ?_
        try simp only [Act.put, List.getElem_toArray, List.getElem_cons_succ, List.getElem_cons_zero, List.setIfInBounds_toArray, List.set_cons_zero, List.set_cons_succ]
        have HY10 := Lib.hid hb_
        have HB110 := Lib.hid (HB19.out.keep hf_ (fun hm => by rw [List.mem_singleton] at hm; have := HE9.out; omega))
        have HB210 := Lib.hid (HB29.out.keep hf_ (fun hm => by rw [List.mem_singleton] at hm; have := HE9.out; omega))
        have HB310 := Lib.hid (HB39.out.keep hf_ (fun hm => by rw [List.mem_singleton] at hm; have := HE9.out; omega))
        have HF10 := Lib.hid (HF9.out.own1 (S := []) (B := 0) hf_ HE9.out.1)
        have HOL10 := Lib.hid (HOL9.out.far HY9.out hf_ (by decide) (by decide))
        have HOC10 := Lib.hid (HOC9.out.far HY9.out hf_ (by decide) (by decide))
        clear hb_ hf_ HY9 HB19 HB29 HB39 HF9 HOL9 HOC9
        obtain ⟨w11, hw11⟩ : ∃ z, w10.drew = z := ⟨_, rfl⟩
        have f11 : Fr [] w10 w11 := by rw [← hw11]; exact (Fr.refl [] w10).drew
        have HY11 := Lib.hid (HY10.out.keep f11 (by simp))
        have HB111 := Lib.hid (HB110.out.keep f11 (by simp))
        have HB211 := Lib.hid (HB210.out.keep f11 (by simp))
        have HB311 := Lib.hid (HB310.out.keep f11 (by simp))
        have HF11 := Lib.hid (HF10.out.step f11)
        have HOC11 := Lib.hid (HOC10.out.next f11)
        obtain ⟨Xs, hrec, hown, _⟩ := HOL10.out.next f11
        rw [HN.out] at hown
        obtain ⟨vr, hvr, hrr⟩ := own_slice_from elemLis hown q hkm
        have HW11 := Lib.hid hw11
        have HREC11 := Lib.hid hrec
        have HOWN11 := Lib.hid hown
        have HRR11 := Lib.hid hrr
        clear f11 hw11 hrec hown hrr HY10 HB110 HB210 HB310 HF10 HOL10 HOC10
        go_upto_region 10 with fail
        obtain ⟨sL1, sL2, sL3⟩ := sL
        refine wp_region_held_drew (S := fun w' => w'.cell? ⟨E9, 0, none⟩ = some (.slice sL1 sL2 sL3) ∧ LiesAt w' (B + 1) 0 (sp s p')) (by kernel_rfl) (by rw [HW11.out]; exact ⟨HY11.out.at 0 _ rfl, HB111.out.at⟩) (fun hHeld => ?_)
        rw [HW11.out] at hHeld ⊢
        refine wpAnyH_take (i := 0) (oi := _) (v := ?_) rfl (by kernel_rfl) (by kernel_rfl) (by kernel_rfl) (fun _ _ _ h => h) (Or.inl ⟨by rfl, ?_⟩) (by first | assumption | trivial) ?_
        rotate_left
        · intro w hSw; (try dsimp only at hSw); go_simp; try with_reducible rfl
        try simp only [Act.put, List.getElem_toArray, List.getElem_cons_succ, List.getElem_cons_zero, List.setIfInBounds_toArray, List.set_cons_zero, List.set_cons_succ]
        refine wpAnyH_take (i := 1) (oi := _) (v := .agg (sp s p').toArray) rfl (by kernel_rfl) (by kernel_rfl) (by kernel_rfl) (fun _ _ _ h => h) (Or.inl ⟨by rfl, ?_⟩) (by first | assumption | trivial) ?_
        · intro w hSw
          try dsimp only at hSw
          show Sem.run Tryz.prog ((Instr.loadAt 28 (.pointer (some ⟨B + 1, 0, none⟩))) >>= fun x => pure (Next.value x)) w = _
          rw [Sem.run_bind, load_all agg28 size28 (xs := sp s p') rfl hSw.2]
          rfl
        try simp only [Act.put, List.getElem_toArray, List.getElem_cons_succ, List.getElem_cons_zero, List.setIfInBounds_toArray, List.set_cons_zero, List.set_cons_succ]
        refine wpAnyH_take (i := 2) (oi := _) (v := ?_) rfl (by kernel_rfl) (by kernel_rfl) (by kernel_rfl) (fun _ _ _ h => h) (Or.inl ⟨by rfl, ?_⟩) (by first | assumption | trivial) ?_
        rotate_left
        · intro w hSw; (try dsimp only at hSw); go_simp; try with_reducible rfl
        try simp only [Act.put, List.getElem_toArray, List.getElem_cons_succ, List.getElem_cons_zero, List.setIfInBounds_toArray, List.set_cons_zero, List.set_cons_succ]
        refine wpAnyH_take (i := 3) (oi := _) (v := .agg #[.string s, .int .i64 p', .int .i64 most, .slice none 0 0]) rfl (by kernel_rfl) (by kernel_rfl) (by kernel_rfl) (fun _ _ _ h => h) (Or.inl ⟨by rfl, ?_⟩) (by first | assumption | trivial) ?_
        · intro w hSw
          try dsimp only at hSw
          exact exec_bld2 (V := .agg #[.string s, .int .i64 p']) (U := .int .i64 most) rfl rfl rfl (bldLg s p' most w)
        try simp only [Act.put, List.getElem_toArray, List.getElem_cons_succ, List.getElem_cons_zero, List.setIfInBounds_toArray, List.set_cons_zero, List.set_cons_succ]
        refine wpAnyH_take (i := 4) (oi := _) (v := .agg (lsC ⟨q, s, p', most, []⟩ (none, 0, 0)).toArray) rfl (by kernel_rfl) (by kernel_rfl) (by kernel_rfl) (fun _ _ _ h => h) (Or.inl ⟨by rfl, ?_⟩) (by first | assumption | trivial) ?_
        · intro w hSw
          try dsimp only at hSw
          exact exec_bld2 (V := .int .i64 q) (U := .agg #[.string s, .int .i64 p', .int .i64 most, .slice none 0 0]) rfl rfl rfl (bldLs q s p' most w)
        try simp only [Act.put, List.getElem_toArray, List.getElem_cons_succ, List.getElem_cons_zero, List.setIfInBounds_toArray, List.set_cons_zero, List.set_cons_succ]
        refine wpAnyH_take (i := 6) (oi := _) (v := ?_) rfl (by kernel_rfl) (by kernel_rfl) (by kernel_rfl) (fun _ _ _ h => h) (Or.inl ⟨by rfl, ?_⟩) (by first | assumption | trivial) ?_
        rotate_left
        · intro w hSw; (try dsimp only at hSw); go_simp; try with_reducible rfl
        try simp only [Act.put, List.getElem_toArray, List.getElem_cons_succ, List.getElem_cons_zero, List.setIfInBounds_toArray, List.set_cons_zero, List.set_cons_succ]
        refine wpAnyH_take (i := 7) (oi := _) (v := ?_) rfl (by kernel_rfl) (by kernel_rfl) (by kernel_rfl) (fun _ _ _ h => h) (Or.inl ⟨by rfl, ?_⟩) (by first | assumption | trivial) ?_
        rotate_left
        · intro w hSw; (try dsimp only at hSw); go_simp; try with_reducible rfl
        try simp only [Act.put, List.getElem_toArray, List.getElem_cons_succ, List.getElem_cons_zero, List.setIfInBounds_toArray, List.set_cons_zero, List.set_cons_succ]
        refine wpAnyH_take (i := 8) (oi := _) (v := ?_) rfl (by kernel_rfl) (by kernel_rfl) (by kernel_rfl) (fun _ _ _ h => h) (Or.inl ⟨by rfl, ?_⟩) (by first | assumption | trivial) ?_
        rotate_left
        · intro w hSw; (try dsimp only at hSw); go_simp; try with_reducible rfl
        try simp only [Act.put, List.getElem_toArray, List.getElem_cons_succ, List.getElem_cons_zero, List.setIfInBounds_toArray, List.set_cons_zero, List.set_cons_succ]
        refine wpAnyH_take (i := 9) (oi := _) (v := vr) rfl (by kernel_rfl) (by kernel_rfl) (by kernel_rfl) (fun _ _ _ h => h) (Or.inl ⟨by rfl, ?_⟩) (by first | assumption | trivial) ?_
        · intro w hSw
          try dsimp only at hSw
          exact exec_slice_from (V := slv (sL1, sL2, sL3)) (L := .int .i64 q) rfl rfl rfl elemLis.el.2.1 (hvr w)
        try simp only [Act.put, List.getElem_toArray, List.getElem_cons_succ, List.getElem_cons_zero, List.setIfInBounds_toArray, List.set_cons_zero, List.set_cons_succ]
        refine wpAnyH_ready (rs := [5]) (by kernel_rfl) (by simp) ?_
        refine AllReadyH.cons (o := _) rfl (fun K hK => ?_) AllReadyH.nil
        obtain ⟨w12, hw12⟩ : ∃ z, w11.alloc (.cells (lsC ⟨q, s, p', most, []⟩ (none, 0, 0)).toArray 100) = z := ⟨_, rfl⟩
        obtain ⟨E12, hE12⟩ : ∃ z, w11.heap.size = z := ⟨_, rfl⟩
        have hb12 : w12.ownsRow B 100 5 (.slice (some ⟨E12, 0, none⟩) 1 1) 1 (lsC ⟨q, s, p', most, []⟩ (none, 0, 0)) := by
          rw [← hw12, ← hE12]
          exact World.ownsRow_lit w11 (lsC ⟨q, s, p', most, []⟩ (none, 0, 0)).toArray 1 (by rw [← HBS.out]; exact HF11.out.size) (by unfold maxLen; omega) rfl
        have f12 : Fr [] w11 w12 := by rw [← hw12]; exact (Fr.refl [] w11).alloc _
        have HE12 := Lib.hid (show w.heap.size ≤ E12 ∧ w11.heap.size = E12 from ⟨by rw [← hE12]; exact HF11.out.size, hE12⟩)
        split
        rotate_left
        · rename_i hno
          exact absurd rfl hno
        refine wp_vl (v := .slice (some ⟨E12, 0, none⟩) 1 1) (w' := w12) ?_ ?_
        · refine exec_bsl (V := .agg (lsC ⟨q, s, p', most, []⟩ (none, 0, 0)).toArray) rfl rfl ?_
          rw [bslLis, hw12, hE12]
        have HB12' := Lib.hid hb12
        have HF12 := Lib.hid f12
        clear hw12 hE12 hb12 f12
        refine hK.out _ _ (⟨(HY11.out.keep HF12.out (by simp)).at 0 _ rfl, (HB111.out.keep HF12.out (by simp)).at⟩) (fun hHeld => ?_)
        clear hK K
        try simp only [Act.put, List.getElem_toArray, List.getElem_cons_succ, List.getElem_cons_zero, List.setIfInBounds_toArray, List.set_cons_zero, List.set_cons_succ]
        refine wpAnyH_ready (rs := [10]) (by kernel_rfl) (by simp) ?_
        refine AllReadyH.cons (o := _) rfl (fun K hK => ?_) AllReadyH.nil
        split
        rotate_left
        · rename_i hno
          exact absurd rfl hno
        refine wp_append_any elemLis _ _ rfl B (v := .slice (some ⟨E12, 0, none⟩) 1 1) (n := 1) (xs := lsC ⟨q, s, p', most, []⟩ (none, 0, 0)) rfl HB12'.out (X := vr) (m := n - q) (news := (Xs.drop q).flatten) rfl (by rw [← flat_drop q HREC11.out.sz]; exact HRR11.out.new HF12.out) (flat_one (HREC11.out.drop q).one) (by omega) (by decide) (by have := HBS.out; have := (HF11.out.step HF12.out).size; omega) ?_
        intro sR w13 ho13 f13
        have HF13 := Lib.hid (show Fr [] w11 w13 from HF12.out.trans f13 (fun x hx hl => by
          simp only [Value.ownBlock, Option.toList_some, List.mem_singleton] at hx
          have := HE12.out.2
          omega))
        have HO13 := Lib.hid ho13
        clear ho13 f13
        refine hK.out _ _ (⟨(HY11.out.keep HF13.out (by simp)).at 0 _ rfl, (HB111.out.keep HF13.out (by simp)).at⟩) (fun hHeld => ?_)
        clear hK K
        try simp only [Act.put, List.getElem_toArray, List.getElem_cons_succ, List.getElem_cons_zero, List.setIfInBounds_toArray, List.set_cons_zero, List.set_cons_succ]
        refine wpAnyH_take (i := 11) (oi := _) (v := ?_) rfl (by kernel_rfl) (by kernel_rfl) (by kernel_rfl) (fun _ _ _ h => h) (Or.inl ⟨by rfl, ?_⟩) (by first | assumption | trivial) ?_
        rotate_left
        · intro w hSw; (try dsimp only at hSw); go_simp; try with_reducible rfl
        try simp only [Act.put, List.getElem_toArray, List.getElem_cons_succ, List.getElem_cons_zero, List.setIfInBounds_toArray, List.set_cons_zero, List.set_cons_succ]
        refine wpAnyH_done (by kernel_rfl) ?_ _
        clear hHeld
        have HY13 := Lib.hid (HY11.out.keep HF13.out (by simp))
        have HB113 := Lib.hid (HB111.out.keep HF13.out (by simp))
        have HB213 := Lib.hid (HB211.out.keep HF13.out (by simp))
        have HB313 := Lib.hid (HB311.out.keep HF13.out (by simp))
        have HFT := Lib.hid (HF11.out.step HF13.out)
        have HOC13 := Lib.hid (HOC11.out.next HF13.out)
        have HREC13 := Lib.hid (HREC11.out.mono (fun X y ⟨t, e1, e2⟩ => (⟨t, e1, rowNew e2 HF13.out⟩ : ElLO B w13 X y)))
        obtain ⟨a0, ht0, hr0⟩ := own_slice_to elemLis (rowNew HOWN11.out HF13.out) q hkm
        have HR0 := Lib.hid (show RowV w13 (.slice a0 q q) q 5 (Xs.take q).flatten from by rw [← flat_take q HREC13.out.sz]; exact hr0)
        clear hr0 HB12' HF12 HF13 HY11 HB111 HB211 HB311 HF11 HOC11 HREC11 HOWN11 HRR11 HW11 HE12
        go_upto_region 11 with fail
        have c1 : w13.cell? ⟨E9, 0, none⟩ = some (.slice sL1 sL2 sL3) := HY13.out.at 0 _ rfl
        refine wp_region_lit ?_
        refine wpList_plain rfl (fun K hK => ?_); go_simp; refine hK _ _ ?_; clear hK K
        refine wpList_plain rfl (fun K hK => ?_); go_simp; refine hK _ _ ?_; clear hK K
        refine wpList_plain rfl (fun K hK => ?_); go_simp; refine hK _ _ ?_; clear hK K
        refine wpList_plain rfl (fun K hK => ?_); go_simp; refine hK _ _ ?_; clear hK K
        try simp only [Act.put, List.getElem_toArray, List.getElem_cons_succ, List.getElem_cons_zero, List.setIfInBounds_toArray, List.set_cons_zero, List.set_cons_succ]
        refine wpList_val rfl (v := .slice a0 q q) (w' := w13) (exec_slice_to (V := slv (sL1, sL2, sL3)) (H := .int .i64 q) (M := .int .i64 q) rfl rfl rfl rfl elemLis.el.2.1 (ht0 w13)) ?_
        try simp only [Act.put, List.getElem_toArray, List.getElem_cons_succ, List.getElem_cons_zero, List.setIfInBounds_toArray, List.set_cons_zero, List.set_cons_succ]
        refine wpList_plain rfl (fun K hK => ?_); go_simp; refine hK _ _ ?_; clear hK K
        try simp only [Act.put, List.getElem_toArray, List.getElem_cons_succ, List.getElem_cons_zero, List.setIfInBounds_toArray, List.set_cons_zero, List.set_cons_succ]
        refine wpList_append_cap elemLis rfl _ _ rfl (a0 := a0) (n := q) (xs := (Xs.take q).flatten) rfl HR0.out (X := slv sR) (m := 1 + (n - q)) (news := lsC ⟨q, s, p', most, []⟩ (none, 0, 0) ++ (Xs.drop q).flatten) rfl (RowV.of_own HO13.out) (by omega) (by omega) (by decide) ?_
        intro sL' w14 ho14 f14
        try simp only [Act.put, List.getElem_toArray, List.getElem_cons_succ, List.getElem_cons_zero, List.setIfInBounds_toArray, List.set_cons_zero, List.set_cons_succ]
        refine wpList_plain rfl (fun K hK => ?_); go_simp; refine hK _ _ ?_; clear hK K
        try simp only [Act.put, List.getElem_toArray, List.getElem_cons_succ, List.getElem_cons_zero, List.setIfInBounds_toArray, List.set_cons_zero, List.set_cons_succ]
        have HY14 := Lib.hid (HY13.out.keep f14 (by simp))
        have HB114 := Lib.hid (HB113.out.keep f14 (by simp))
        have HB214 := Lib.hid (HB213.out.keep f14 (by simp))
        have HB314 := Lib.hid (HB313.out.keep f14 (by simp))
        have HF14 := Lib.hid (HFT.out.step f14)
        have HOC14 := Lib.hid (HOC13.out.next f14)
        have HOL14 := Lib.hid (show RowO 100 5 (ElLO B) w14 B (slv sL') (insL D s p' most) from by
          refine ⟨Xs.take q ++ ([lsC ⟨q, s, p', most, []⟩ (none, 0, 0)] ++ Xs.drop q), ?_, ?_⟩
          · have h0 := HREC13.out.mono (fun X y ⟨t, e1, e2⟩ => (⟨t, e1, rowNew e2 f14⟩ : ElLO B w14 X y))
            have h1 : Recs 5 (ElLO B w14) [lsC ⟨q, s, p', most, []⟩ (none, 0, 0)] [(⟨q, s, p', most, []⟩ : PN.PL)] := Recs.push Recs.nil rfl (lsC_one _ _) ⟨(none, 0, 0), rfl, World.ownsRow_nil _ _ _ _⟩
            have h2 := (h0.take q).app (h1.app (h0.drop q))
            unfold insL
            rw [HKK.out]
            exact h2
          · have hlen : (insL D s p' most).length = q + (1 + (n - q)) := by
              unfold insL
              rw [HKK.out, List.length_append, List.length_cons, List.length_take, List.length_drop, HN.out]
              omega
            rw [hlen]
            have := rowBase ho14 (base' := B) (by rw [← HBS.out]; exact HFT.out.size)
            rw [List.flatten_append, List.flatten_append, List.flatten_singleton]
            exact this)
        clear ho14 f14 c1 HY13 HB113 HB213 HB313 HFT HOC13 HREC13 HO13 HR0
        obtain ⟨w15, hst, hb_, hf_⟩ := store_cell (t := 31) (o := 0) (slv sL') size31 rfl rfl HY14.out (by show 0 + 1 ≤ 2; omega)
        refine wpList_skp rfl (w' := w15) ?_ ?_
        · show Sem.run Tryz.prog ((Instr.storeAt 31 (.pointer (some ⟨E9, 0, none⟩)) (slv sL')) >>= fun _ => pure Next.skip) _ = _
          rw [Sem.run_bind, hst]
          rfl
        clear hst
        try simp only [Act.put, List.getElem_toArray, List.getElem_cons_succ, List.getElem_cons_zero, List.setIfInBounds_toArray, List.set_cons_zero, List.set_cons_succ]
        refine wpList_nil ?_
        try simp only [Act.put, List.getElem_toArray, List.getElem_cons_succ, List.getElem_cons_zero, List.setIfInBounds_toArray, List.set_cons_zero, List.set_cons_succ]
        have HY15 := Lib.hid (show Blk w15 E9 34 (two (slv sL') (slv sC)) from hb_)
        have HB115 := Lib.hid (HB114.out.keep hf_ (fun hm => by rw [List.mem_singleton] at hm; have := HE9.out; omega))
        have HB215 := Lib.hid (HB214.out.keep hf_ (fun hm => by rw [List.mem_singleton] at hm; have := HE9.out; omega))
        have HB315 := Lib.hid (HB314.out.keep hf_ (fun hm => by rw [List.mem_singleton] at hm; have := HE9.out; omega))
        have HF15 := Lib.hid (HF14.out.own1 (S := []) (B := 0) hf_ HE9.out.1)
        have HOL15 := Lib.hid (RowO.far HOL14.out HY14.out hf_ (by decide) (by decide))
        have HOC15 := Lib.hid (HOC14.out.far HY14.out hf_ (by decide) (by decide))
        clear hb_ hf_ HY14 HB114 HB214 HB314 HF14 HOL14 HOC14
        obtain ⟨w16, hw16⟩ : ∃ z, w15.drew = z := ⟨_, rfl⟩
        have f16 : Fr [] w15 w16 := by rw [← hw16]; exact (Fr.refl [] w15).drew
        have HY16 := Lib.hid (HY15.out.keep f16 (by simp))
        have HB116 := Lib.hid (HB115.out.keep f16 (by simp))
        have HB216 := Lib.hid (HB215.out.keep f16 (by simp))
        have HB316 := Lib.hid (HB315.out.keep f16 (by simp))
        have HF16 := Lib.hid (HF15.out.step f16)
        obtain ⟨Ys, hy1, hy2⟩ := HOL15.out
        have HOL16 := Lib.hid (show RowO 100 5 (ElLO B) w16 B (slv sL') (insL D s p' most) from ⟨Ys, hy1.mono (fun X y ⟨t, e1, e2⟩ => ⟨t, e1, rowNew e2 f16⟩), rowNew hy2 f16⟩)
        have HOC16 := Lib.hid (HOC15.out.next f16)
        have HW16 := Lib.hid hw16
        clear f16 hw16 HY15 HB115 HB215 HB315 HF15 HOL15 HOC15 hy1 hy2
        go_upto_region 12 with fail
        refine wp_region_held_drew (S := fun w' => LiesAt w' E9 0 (two (slv sL') (slv sC)) ∧ LiesAt w' (B + 1) 0 (sp s p')) (by kernel_rfl) (by rw [HW16.out]; exact ⟨HY16.out.at, HB116.out.at⟩) (fun hHeld => ?_)
        rw [HW16.out] at hHeld ⊢
        refine wpAnyH_take (i := 0) (oi := _) (v := .agg (two (slv sL') (slv sC)).toArray) rfl (by kernel_rfl) (by kernel_rfl) (by kernel_rfl) (fun _ _ _ h => h) (Or.inl ⟨by rfl, ?_⟩) (by first | assumption | trivial) ?_
        · intro w hSw
          try dsimp only at hSw
          show Sem.run Tryz.prog ((Instr.loadAt 34 (.pointer (some ⟨E9, 0, none⟩))) >>= fun x => pure (Next.value x)) w = _
          rw [Sem.run_bind, load_all agg34 size34 (xs := two (slv sL') (slv sC)) rfl hSw.1]
          rfl
        try simp only [Act.put, List.getElem_toArray, List.getElem_cons_succ, List.getElem_cons_zero, List.setIfInBounds_toArray, List.set_cons_zero, List.set_cons_succ]
        refine wpAnyH_take (i := 1) (oi := _) (v := ?_) rfl (by kernel_rfl) (by kernel_rfl) (by kernel_rfl) (fun _ _ _ h => h) (Or.inl ⟨by rfl, ?_⟩) (by first | assumption | trivial) ?_
        rotate_left
        · intro w hSw; (try dsimp only at hSw); go_simp; try with_reducible rfl
        try simp only [Act.put, List.getElem_toArray, List.getElem_cons_succ, List.getElem_cons_zero, List.setIfInBounds_toArray, List.set_cons_zero, List.set_cons_succ]
        refine wpAnyH_take (i := 2) (oi := _) (v := .agg (sp s p').toArray) rfl (by kernel_rfl) (by kernel_rfl) (by kernel_rfl) (fun _ _ _ h => h) (Or.inl ⟨by rfl, ?_⟩) (by first | assumption | trivial) ?_
        · intro w hSw
          try dsimp only at hSw
          show Sem.run Tryz.prog ((Instr.loadAt 28 (.pointer (some ⟨B + 1, 0, none⟩))) >>= fun x => pure (Next.value x)) w = _
          rw [Sem.run_bind, load_all agg28 size28 (xs := sp s p') rfl hSw.2]
          rfl
        try simp only [Act.put, List.getElem_toArray, List.getElem_cons_succ, List.getElem_cons_zero, List.setIfInBounds_toArray, List.set_cons_zero, List.set_cons_succ]
        refine wpAnyH_ready (rs := [3]) (by kernel_rfl) (by simp) ?_
        refine AllReadyH.cons (o := _) rfl (fun K hK => ?_) AllReadyH.nil
        obtain ⟨w17, hst, hb_, hf_⟩ := store_all (t := 34) (two (slv sL') (slv sC)) size34 rfl (two_one _ _) HB216.out rfl
        split
        rotate_left
        · rename_i hno
          exact absurd rfl hno
        refine wp_skp (w' := w17) ?_ ?_
        · show Sem.run Tryz.prog ((Instr.storeAt 34 (.pointer (some ⟨B + 2, 0, none⟩)) (.agg (two (slv sL') (slv sC)).toArray)) >>= fun _ => pure Next.skip) _ = _
          rw [Sem.run_bind, hst]
          rfl
        clear hst
        have HB217 := Lib.hid hb_
        have HB317 := Lib.hid (HB316.out.keep hf_ (by simp))
        have HF17 := Lib.hid (HF16.out.own1 (S := []) (B := 0) hf_ (by have := HBS.out; omega))
        have HOL17 := Lib.hid (RowO.far HOL16.out HB216.out hf_ (by decide) (by decide))
        have HOC17 := Lib.hid (HOC16.out.far HB216.out hf_ (by decide) (by decide))
        have HS17 := Lib.hid (show _ ∧ _ from ⟨hHeld.1.keep hf_ (fun hm => by rw [List.mem_singleton] at hm; have := HE9.out; omega), hHeld.2.keep hf_ (by simp)⟩)
        clear hb_ hf_
        refine hK.out _ _ (HS17.out) (fun hHeld => ?_)
        clear hK K
        try simp only [Act.put, List.getElem_toArray, List.getElem_cons_succ, List.getElem_cons_zero, List.setIfInBounds_toArray, List.set_cons_zero, List.set_cons_succ]
        refine wpAnyH_take (i := 4) (oi := _) (v := ?_) rfl (by kernel_rfl) (by kernel_rfl) (by kernel_rfl) (fun _ _ _ h => h) (Or.inl ⟨by rfl, ?_⟩) (by first | assumption | trivial) ?_
        rotate_left
        · intro w hSw; (try dsimp only at hSw); go_simp; try with_reducible rfl
        try simp only [Act.put, List.getElem_toArray, List.getElem_cons_succ, List.getElem_cons_zero, List.setIfInBounds_toArray, List.set_cons_zero, List.set_cons_succ]
        refine wpAnyH_ready (rs := [5]) (by kernel_rfl) (by simp) ?_
        refine AllReadyH.cons (o := _) rfl (fun K hK => ?_) AllReadyH.nil
        obtain ⟨w18, hst, hb_, hf_⟩ := store_all (t := 28) (sp s p') size28 rfl (sp_one _ _) HB317.out rfl
        split
        rotate_left
        · rename_i hno
          exact absurd rfl hno
        refine wp_skp (w' := w18) ?_ ?_
        · show Sem.run Tryz.prog ((Instr.storeAt 28 (.pointer (some ⟨B + 3, 0, none⟩)) (.agg (sp s p').toArray)) >>= fun _ => pure Next.skip) _ = _
          rw [Sem.run_bind, hst]
          rfl
        clear hst
        have HB318 := Lib.hid hb_
        have HB218 := Lib.hid (HB217.out.keep hf_ (by simp))
        have HF18 := Lib.hid (HF17.out.own1 (S := []) (B := 0) hf_ (by have := HBS.out; omega))
        have HOL18 := Lib.hid (RowO.far HOL17.out HB317.out hf_ (by decide) (by decide))
        have HOC18 := Lib.hid (HOC17.out.far HB317.out hf_ (by decide) (by decide))
        have HS18 := Lib.hid (show _ ∧ _ from ⟨hHeld.1.keep hf_ (fun hm => by rw [List.mem_singleton] at hm; have := HE9.out; omega), hHeld.2.keep hf_ (by simp)⟩)
        clear hb_ hf_
        refine hK.out _ _ (HS18.out) (fun hHeld => ?_)
        clear hK K
        try simp only [Act.put, List.getElem_toArray, List.getElem_cons_succ, List.getElem_cons_zero, List.setIfInBounds_toArray, List.set_cons_zero, List.set_cons_succ]
        refine wpAnyH_take (i := 6) (oi := _) (v := ?_) rfl (by kernel_rfl) (by kernel_rfl) (by kernel_rfl) (fun _ _ _ h => h) (Or.inl ⟨by rfl, ?_⟩) (by first | assumption | trivial) ?_
        rotate_left
        · intro w hSw; (try dsimp only at hSw); go_simp; try with_reducible rfl
        try simp only [Act.put, List.getElem_toArray, List.getElem_cons_succ, List.getElem_cons_zero, List.setIfInBounds_toArray, List.set_cons_zero, List.set_cons_succ]
        refine wpAnyH_done (by kernel_rfl) ?_ _
        go_wp2
        have hl := load_var agg34 size34 (xs := two (slv sL') (slv sC)) rfl HB218.out.at
        have hl2 := load_var agg28 size28 (xs := sp s p') rfl HB318.out.at
        refine bodyPost_ret (v := .tuple #[.agg (two (slv sL') (slv sC)).toArray, .int .i64 q, .agg (sp s p').toArray, .int .i64 0]) (by simp [results, Tryz.results12, as_addr, hl, hl2]) rfl ?_
        exact ⟨sL', sC, rfl, by rw [HBS.out]; exact HOL18.out, by rw [HBS.out]; exact HOC18.out.rd, HF18.out⟩
end Go.Proofs.YtmdhlodafjpnmaaGreat
