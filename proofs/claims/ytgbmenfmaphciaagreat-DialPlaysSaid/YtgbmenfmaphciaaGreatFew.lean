/- The reference's nets in memory: Listen, over what its Bind answers. -/
/- The reference's nets in memory: Accept. -/
/- The reference's tables of addresses that are bound: Find, Free; Compare. -/
/- What holds of a net under way, in plain form. -/
/- The reference's nets in memory: Connect, answered by an error. -/
/- Try over a net in memory. -/
/- All over a net in memory. -/
/- The walk of All over a net in memory. -/
/- The law's slices of starts and of calls in memory, and the contract of few. -/
import Derived.Test.YtgbmenfmaphciaaGreatTK
import Derived.Test.YtgbmenfmaphciaaGreatG13
import Derived.Test.YtgbmenfmaphciaaGreatG9
import Derived.Test.YtgbmenfmaphciaaGreatPD
import Derived.Test.YtgbmenfmaphciaaGreatAll2
import Derived.Deep.LoopGhost
namespace Go.Proofs.YtgbmenfmaphciaaGreat
set_option linter.unusedVariables false
set_option linter.unusedSimpArgs false
set_option linter.unusedSectionVars false
open Go.RowKit
set_option linter.unusedVariables false
set_option linter.unusedSimpArgs false
set_option maxRecDepth 100000
set_option maxHeartbeats 8000000
theorem bldLg (s : ByteArray) (p most : Int) : ∀ w, (Instr.build 120 #[(0, .agg #[.string s, .int .i64 p]), (1, .int .i64 most)]).run Tryz.prog w = .ok (.agg #[.string s, .int .i64 p, .int .i64 most, .slice none 0 0]) w := fun w => by kernel_rfl
theorem bldLs (k : Nat) (s : ByteArray) (p most : Int) : ∀ w, (Instr.build 122 #[(0, .int .i64 k), (1, .agg #[.string s, .int .i64 p, .int .i64 most, .slice none 0 0])]).run Tryz.prog w = .ok (.agg (lsC ⟨k, s, p, most, []⟩ (none, 0, 0)).toArray) w := fun w => by kernel_rfl
def frL (D : List PN.PL) : Nat := PN.free (D.map (·.ref))
def insL (D : List PN.PL) (s : ByteArray) (p most : Int) : List PN.PL := D.take (frL D) ++ ⟨frL D, s, p, most, []⟩ :: D.drop (frL D)
theorem refP_mem {D : List PN.PL} {r : Nat} : (∃ i y, PN.pick (PN.refP r) D 0 = some (i, y)) ↔ r ∈ D.map (·.ref) := by
 constructor
 ·rintro ⟨i, y, h⟩
  obtain ⟨j, _, h2, h3⟩ := PN.pick_some h
  have h3 := of_decide_eq_true h3
  exact List.mem_map.2 ⟨y, List.mem_of_getElem? h2, by omega⟩
 ·intro h
  obtain ⟨y, hy, hr⟩ := List.mem_map.1 h
  cases e : PN.pick (PN.refP r) D 0 with
  | none =>
   have := PN.pick_none e y hy
   simp [PN.refP] at this
   omega
  | some a => exact ⟨a.1, a.2, rfl⟩
def sp (s : ByteArray) (p : Int) : List Value := [.string s, .int .i64 p]
theorem sp_one (s : ByteArray) (p : Int) : ∀ u ∈ sp s p, u.oneCell' = true := by
 intro u hu
 simp only [sp, List.mem_cons, List.not_mem_nil, or_false] at hu
 rcases hu with rfl | rfl <;> rfl
def BindAns (w : World) (vL vC : Value) (s : ByteArray) (p : Int) (s' : ByteArray) (p' e0 : Int) : Prop :=
 ∀ W, Fr [] w W → Calls Tryz.prog 46 #[.agg #[vL, vC]] W fun e w' => ∃ vb, e = .returned vb ∧ Fr [] W w' ∧
  ∀ W', Fr [] w' W' → Calls Tryz.prog 45 #[vb, .agg (sp s p).toArray, .int .i64 0] W' fun e w'' => (∃ l, e = .returned (.tuple #[l, .agg (sp s' p').toArray, .int .i64 e0])) ∧ Fr [] W' w''
abbrev BindOk (w : World) (vL vC : Value) (s : ByteArray) (p p' : Int) : Prop := BindAns w vL vC s p s p' 0
theorem nListen_ans (vL vC : Value) (D : List PN.PL) (C : List PG) (s : ByteArray) (p p' most : Int) (w : World) (hL : LRow w vL D) (hC : CRow w vC C) (hs : s.size ≤ 1000000) (hv : addrB s.data.toList p = true) (hmo : 1 ≤ most ∧ most ≤ 128) (hn : NetFit D C) (s' : ByteArray) (e0 : Int) (he0 : e0 = 0 → s' = s) (hbd : BindAns w vL vC s p s' p' e0) :
  Calls Tryz.prog 14 #[.agg #[vL, vC], .agg #[.string s, .int .i64 p], .int .i64 most] w fun e w' =>
   (e0 = 0 ∧ NetRd w (insL D s p' most) C [.int .i64 (frL D), .agg #[.string s, .int .i64 p'], .int .i64 0] e w') ∨
   (e0 ≠ 0 ∧ e = .returned (.tuple #[.agg (two vL vC).toArray, .int .i64 0, .agg (sp ⟨#[]⟩ 0).toArray, .int .i64 e0]) ∧ Fr [] w w') := by
 obtain ⟨n, hnl⟩ : ∃ n, D.length = n := ⟨_, rfl⟩
 obtain ⟨m, hml⟩ : ∃ m, C.length = m := ⟨_, rfl⟩
 obtain ⟨aL, cL, rfl⟩ := hL.val
 obtain ⟨aC, cC, rfl⟩ := hC.val
 rw [hnl] at hL hbd ⊢
 rw [hml] at hC hbd ⊢
 have HN := Lib.hid hnl
 have HM := Lib.hid hml
 have HFIT := Lib.hid hn
 have HBD := Lib.hid hbd
 have HK := Lib.hid (PN.free_spec (D.map (·.ref)))
 obtain ⟨k, hk⟩ : ∃ k, frL D = k := ⟨_, rfl⟩
 have hkm : k ≤ n := by rw [← hk, ← hnl]; exact PN.free_le
 have hk' : PN.free (D.map (·.ref)) = k := hk
 rw [hk'] at HK
 rw [hk]
 have HKK := Lib.hid hk
 clear hk hk' hn hbd
 have hn1 : n ≤ 1000 := by have := HFIT.out.nl; omega
 obtain ⟨B, hB⟩ : ∃ B, w.heap.size = B := ⟨_, rfl⟩
 obtain ⟨u1, hu1⟩ : ∃ z, w.alloc (.cells #[.slice aL n cL, .slice aC m cC] 31) = z := ⟨_, rfl⟩
 obtain ⟨u2, hu2⟩ : ∃ z, u1.alloc (.cells #[.string s, .int .i64 p] 36) = z := ⟨_, rfl⟩
 obtain ⟨u3, hu3⟩ : ∃ z, u2.alloc (.cells #[.slice none 0 0, .slice none 0 0] 31) = z := ⟨_, rfl⟩
 obtain ⟨wA, hwA⟩ : ∃ z, u3.alloc (.cells #[.string ⟨#[]⟩, .int .i64 0] 36) = z := ⟨_, rfl⟩
 have s1 : u1.heap.size = B + 1 := by rw [← hu1, ← hB]; simp
 have s2 : u2.heap.size = B + 2 := by rw [← hu2]; simp [s1]
 have s3 : u3.heap.size = B + 3 := by rw [← hu3]; simp [s2]
 have f1 : Fr [] w u1 := by rw [← hu1]; exact (Fr.refl [] w).alloc _
 have f2 : Fr [] u1 u2 := by rw [← hu2]; exact (Fr.refl [] u1).alloc _
 have f3 : Fr [] u2 u3 := by rw [← hu3]; exact (Fr.refl [] u2).alloc _
 have f4 : Fr [] u3 wA := by rw [← hwA]; exact (Fr.refl [] u3).alloc _
 have hb0 : Blk wA B 31 (two (.slice aL n cL) (.slice aC m cC)) := by
  have h := Blk.made w 31 (two (.slice aL n cL) (.slice aC m cC))
  rw [hB] at h
  exact (((show Blk u1 B 31 _ from by rw [← hu1]; exact h).keep f2 (by simp)).keep f3 (by simp)).keep f4 (by simp)
 have hb1 : Blk wA (B + 1) 36 (sp s p) := by
  have h := Blk.made u1 36 (sp s p)
  rw [s1] at h
  exact ((show Blk u2 (B + 1) 36 _ from by rw [← hu2]; exact h).keep f3 (by simp)).keep f4 (by simp)
 have hb2 : Blk wA (B + 2) 31 zNt := by
  have h := Blk.made u2 31 zNt
  rw [s2] at h
  exact (show Blk u3 (B + 2) 31 _ from by rw [← hu3]; exact h).keep f4 (by simp)
 have hb3 : Blk wA (B + 3) 36 (sp ⟨#[]⟩ 0) := by
  have h := Blk.made u3 36 (sp ⟨#[]⟩ 0)
  rw [s3] at h
  rw [← hwA]
  exact h
 have hf : Fr [] w wA := ((f1.step f2).step f3).step f4
 have HB0 := Lib.hid hb0
 have HB1 := Lib.hid hb1
 have HB2 := Lib.hid hb2
 have HB3 := Lib.hid hb3
 have HF := Lib.hid hf
 have HBS := Lib.hid hB
 have HU1 := Lib.hid hu1
 have HU2 := Lib.hid hu2
 have HU3 := Lib.hid hu3
 have HWA := Lib.hid hwA
 have HL := Lib.hid hL
 have HC := Lib.hid hC
 have HS1 := Lib.hid s1
 have HS2 := Lib.hid s2
 have HS3 := Lib.hid s3
 clear hb0 hb1 hb2 hb3 hf hB hu1 hu2 hu3 hwA f1 f2 f3 f4 s1 s2 s3 hL hC hnl hml
 have HAV := Lib.hid (fun W : World => by
  have h := refValid_any s p hs W
  rw [hv] at h
  exact h)
 have dm1 : decide (most < 1) = false := decide_eq_false (by omega)
 have dm2 : decide (128 < most) = false := decide_eq_false (by omega)
 clear hv
 have e0 : wA.cell? ⟨B + 1, 0, none⟩ = some (.string s) := HB1.out.at 0 _ rfl
 have e1 : wA.cell? ⟨B + 1, 1, none⟩ = some (.int .i64 p) := HB1.out.at 1 _ rfl
 go_enter Tryz.func14, Tryz.ntmps14
 go_upto_region 1 with fail
 simp only [HU1.out, HU2.out, HU3.out, HWA.out, HBS.out, HS1.out, HS2.out, HS3.out]
 go_wp2_with fail
 refine (HAV.out _).mono ?_
 rintro e w1 ⟨rfl, f1⟩
 have HF1 := Lib.hid (HF.out.step f1)
 have HB01 := Lib.hid (HB0.out.keep f1 (by simp))
 have HB11 := Lib.hid (HB1.out.keep f1 (by simp))
 have HB21 := Lib.hid (HB2.out.keep f1 (by simp))
 have HB31 := Lib.hid (HB3.out.keep f1 (by simp))
 clear f1 HF HB0 HB1 HB2 HB3 HAV HU1 HU2 HU3 HWA HS1 HS2 HS3 e0 e1
 obtain ⟨w2, hw2⟩ : ∃ z, w1.drew = z := ⟨_, rfl⟩
 have f2 : Fr [] w1 w2 := by rw [← hw2]; exact (Fr.refl [] w1).drew
 have HF2 := Lib.hid (HF1.out.step f2)
 have HB02 := Lib.hid (HB01.out.keep f2 (by simp))
 have HB12 := Lib.hid (HB11.out.keep f2 (by simp))
 have HB22 := Lib.hid (HB21.out.keep f2 (by simp))
 have HB32 := Lib.hid (HB31.out.keep f2 (by simp))
 have HW2 := Lib.hid hw2
 clear f2 hw2 HF1 HB01 HB11 HB21 HB31
 go_upto_region 3 with fail
 go_cut [11] from 28 to 35 (fun v11 wc => v11 = .int .i64 e0 ∧ Blk wc B 31 (two (.slice aL n cL) (.slice aC m cC)) ∧ Blk wc (B + 1) 36 (sp s' p') ∧ Blk wc (B + 2) 31 zNt ∧ Blk wc (B + 3) 36 (sp ⟨#[]⟩ 0) ∧ Fr [] w wc)
 case first =>
  refine wp_region_held_drew (S := fun _ => True) (by kernel_rfl) (trivial) (fun hHeld => ?_)
  clear hHeld
  rw [HW2.out]
  refine wpAnyH_ready (rs := [0, 2]) (by kernel_rfl) (by simp) ?_
  refine AllReadyH.cons (o := _) rfl (fun K hK => ?_) (AllReadyH.cons (o := _) rfl (fun K hK => ?_) AllReadyH.nil)
  ·skip
   split
   rotate_left
   ·rename_i hno
    exact absurd rfl hno
   refine ldY (load_all agg34 size34 (xs := two (.slice aL n cL) (.slice aC m cC)) rfl HB02.out.at) ?_
   refine hK.out _ _ (trivial) (fun hHeld => ?_)
   clear hK K
   clear hHeld
   try simp only [Act.put, nrZ]
   refine wpAnyH_ready (rs := [1, 2]) (by kernel_rfl) (by simp) ?_
   refine AllReadyH.cons (o := _) rfl (fun K hK => ?_) (AllReadyH.cons (o := _) rfl (fun K hK => ?_) AllReadyH.nil)
   ·skip
    go_simp
    refine (HBD.out _ HF2.out).mono ?_
    rintro e w3 ⟨vb, rfl, f3, hbi⟩
    have HBI := Lib.hid hbi
    have HF3 := Lib.hid (HF2.out.step f3)
    have HB03 := Lib.hid (HB02.out.keep f3 (by simp))
    have HB13 := Lib.hid (HB12.out.keep f3 (by simp))
    have HB23 := Lib.hid (HB22.out.keep f3 (by simp))
    have HB33 := Lib.hid (HB32.out.keep f3 (by simp))
    clear hbi f3
    refine hK.out _ _ (trivial) (fun hHeld => ?_)
    clear hK K
    clear hHeld
    try simp only [Act.put, nrZ]
    refine rdZ 2 (fun K hK => ?_)
    split
    rotate_left
    ·rename_i hno
     exact absurd rfl hno
    refine ldY (load_all agg28 size28 (xs := sp s p) rfl HB13.out.at) ?_
    refine hK.out _ _ (trivial) (fun hHeld => ?_)
    clear hK K
    clear hHeld
    try simp only [Act.put, nrZ]
    refine rdZ 3 (fun K hK => ?_)
    go_simp
    refine (HBI.out _ (Fr.refl _ _)).mono ?_
    rintro e w4 ⟨⟨l, rfl⟩, f4⟩
    have HF4 := Lib.hid (HF3.out.step f4)
    have HB04 := Lib.hid (HB03.out.keep f4 (by simp))
    have HB14 := Lib.hid (HB13.out.keep f4 (by simp))
    have HB24 := Lib.hid (HB23.out.keep f4 (by simp))
    have HB34 := Lib.hid (HB33.out.keep f4 (by simp))
    clear f4
    refine hK.out _ _ (trivial) (fun hHeld => ?_)
    clear hK K
    clear hHeld
    try simp only [Act.put, nrZ]
    refine tkZ 4 ?_
    refine tkZ 5 ?_
    refine tkZ 6 ?_
    refine tkZ 7 ?_
    refine tkZ 8 ?_
    refine rdZ 9 (fun K hK => ?_)
    obtain ⟨w5, hst, hb_, hf_⟩ := store_all (t := 36) (sp s' p') size28 rfl (sp_one _ _) HB14.out rfl
    split
    rotate_left
    ·rename_i hno
     exact absurd rfl hno
    refine stY hst ?_
    clear hst
    have HB15 := Lib.hid hb_
    have HF5 := Lib.hid (HF4.out.own1 (S := []) (B := 0) hf_ (by have := HBS.out; omega))
    have HB05 := Lib.hid (HB04.out.keep hf_ (by simp))
    have HB25 := Lib.hid (HB24.out.keep hf_ (by simp))
    have HB35 := Lib.hid (HB34.out.keep hf_ (by simp))
    clear hb_ hf_
    refine hK.out _ _ (trivial) (fun hHeld => ?_)
    clear hK K
    clear hHeld
    try simp only [Act.put, nrZ]
    refine tkZ 10 ?_
    refine wpAnyH_done (by kernel_rfl) ?_ _
    go_wp2
    go_meet
    case rel => exact ⟨rfl, HB05.out, HB15.out, HB25.out, HB35.out, HF5.out⟩
   ·skip
    split
    rotate_left
    ·rename_i hno
     exact absurd rfl hno
    refine ldY (load_all agg28 size28 (xs := sp s p) rfl HB12.out.at) ?_
    refine hK.out _ _ (trivial) (fun hHeld => ?_)
    clear hK K
    clear hHeld
    try simp only [Act.put, nrZ]
    refine rdZ 1 (fun K hK => ?_)
    go_simp
    refine (HBD.out _ HF2.out).mono ?_
    rintro e w3 ⟨vb, rfl, f3, hbi⟩
    have HBI := Lib.hid hbi
    have HF3 := Lib.hid (HF2.out.step f3)
    have HB03 := Lib.hid (HB02.out.keep f3 (by simp))
    have HB13 := Lib.hid (HB12.out.keep f3 (by simp))
    have HB23 := Lib.hid (HB22.out.keep f3 (by simp))
    have HB33 := Lib.hid (HB32.out.keep f3 (by simp))
    clear hbi f3
    refine hK.out _ _ (trivial) (fun hHeld => ?_)
    clear hK K
    clear hHeld
    try simp only [Act.put, nrZ]
    refine rdZ 3 (fun K hK => ?_)
    go_simp
    refine (HBI.out _ (Fr.refl _ _)).mono ?_
    rintro e w4 ⟨⟨l, rfl⟩, f4⟩
    have HF4 := Lib.hid (HF3.out.step f4)
    have HB04 := Lib.hid (HB03.out.keep f4 (by simp))
    have HB14 := Lib.hid (HB13.out.keep f4 (by simp))
    have HB24 := Lib.hid (HB23.out.keep f4 (by simp))
    have HB34 := Lib.hid (HB33.out.keep f4 (by simp))
    clear f4
    refine hK.out _ _ (trivial) (fun hHeld => ?_)
    clear hK K
    clear hHeld
    try simp only [Act.put, nrZ]
    refine tkZ 4 ?_
    refine tkZ 5 ?_
    refine tkZ 6 ?_
    refine tkZ 7 ?_
    refine tkZ 8 ?_
    refine rdZ 9 (fun K hK => ?_)
    obtain ⟨w5, hst, hb_, hf_⟩ := store_all (t := 36) (sp s' p') size28 rfl (sp_one _ _) HB14.out rfl
    split
    rotate_left
    ·rename_i hno
     exact absurd rfl hno
    refine stY hst ?_
    clear hst
    have HB15 := Lib.hid hb_
    have HF5 := Lib.hid (HF4.out.own1 (S := []) (B := 0) hf_ (by have := HBS.out; omega))
    have HB05 := Lib.hid (HB04.out.keep hf_ (by simp))
    have HB25 := Lib.hid (HB24.out.keep hf_ (by simp))
    have HB35 := Lib.hid (HB34.out.keep hf_ (by simp))
    clear hb_ hf_
    refine hK.out _ _ (trivial) (fun hHeld => ?_)
    clear hK K
    clear hHeld
    try simp only [Act.put, nrZ]
    refine tkZ 10 ?_
    refine wpAnyH_done (by kernel_rfl) ?_ _
    go_wp2
    go_meet
    case rel => exact ⟨rfl, HB05.out, HB15.out, HB25.out, HB35.out, HF5.out⟩
  ·skip
   split
   rotate_left
   ·rename_i hno
    exact absurd rfl hno
   refine ldY (load_all agg28 size28 (xs := sp s p) rfl HB12.out.at) ?_
   refine hK.out _ _ (trivial) (fun hHeld => ?_)
   clear hK K
   clear hHeld
   try simp only [Act.put, nrZ]
   refine rdZ 0 (fun K hK => ?_)
   split
   rotate_left
   ·rename_i hno
    exact absurd rfl hno
   refine ldY (load_all agg34 size34 (xs := two (.slice aL n cL) (.slice aC m cC)) rfl HB02.out.at) ?_
   refine hK.out _ _ (trivial) (fun hHeld => ?_)
   clear hK K
   clear hHeld
   try simp only [Act.put, nrZ]
   refine rdZ 1 (fun K hK => ?_)
   go_simp
   refine (HBD.out _ HF2.out).mono ?_
   rintro e w3 ⟨vb, rfl, f3, hbi⟩
   have HBI := Lib.hid hbi
   have HF3 := Lib.hid (HF2.out.step f3)
   have HB03 := Lib.hid (HB02.out.keep f3 (by simp))
   have HB13 := Lib.hid (HB12.out.keep f3 (by simp))
   have HB23 := Lib.hid (HB22.out.keep f3 (by simp))
   have HB33 := Lib.hid (HB32.out.keep f3 (by simp))
   clear hbi f3
   refine hK.out _ _ (trivial) (fun hHeld => ?_)
   clear hK K
   clear hHeld
   try simp only [Act.put, nrZ]
   refine rdZ 3 (fun K hK => ?_)
   go_simp
   refine (HBI.out _ (Fr.refl _ _)).mono ?_
   rintro e w4 ⟨⟨l, rfl⟩, f4⟩
   have HF4 := Lib.hid (HF3.out.step f4)
   have HB04 := Lib.hid (HB03.out.keep f4 (by simp))
   have HB14 := Lib.hid (HB13.out.keep f4 (by simp))
   have HB24 := Lib.hid (HB23.out.keep f4 (by simp))
   have HB34 := Lib.hid (HB33.out.keep f4 (by simp))
   clear f4
   refine hK.out _ _ (trivial) (fun hHeld => ?_)
   clear hK K
   clear hHeld
   try simp only [Act.put, nrZ]
   refine tkZ 4 ?_
   refine tkZ 5 ?_
   refine tkZ 6 ?_
   refine tkZ 7 ?_
   refine tkZ 8 ?_
   refine rdZ 9 (fun K hK => ?_)
   obtain ⟨w5, hst, hb_, hf_⟩ := store_all (t := 36) (sp s' p') size28 rfl (sp_one _ _) HB14.out rfl
   split
   rotate_left
   ·rename_i hno
    exact absurd rfl hno
   refine stY hst ?_
   clear hst
   have HB15 := Lib.hid hb_
   have HF5 := Lib.hid (HF4.out.own1 (S := []) (B := 0) hf_ (by have := HBS.out; omega))
   have HB05 := Lib.hid (HB04.out.keep hf_ (by simp))
   have HB25 := Lib.hid (HB24.out.keep hf_ (by simp))
   have HB35 := Lib.hid (HB34.out.keep hf_ (by simp))
   clear hb_ hf_
   refine hK.out _ _ (trivial) (fun hHeld => ?_)
   clear hK K
   clear hHeld
   try simp only [Act.put, nrZ]
   refine tkZ 10 ?_
   refine wpAnyH_done (by kernel_rfl) ?_ _
   go_wp2
   go_meet
   case rel => exact ⟨rfl, HB05.out, HB15.out, HB25.out, HB35.out, HF5.out⟩
 case rest =>
  obtain ⟨rfl, hb0, hb1, hb2, hb3, hf5⟩ := hcut
  obtain ⟨w5, hw5⟩ : ∃ z, wc = z := ⟨_, rfl⟩
  rw [hw5] at hb0 hb1 hb2 hb3 hf5 ⊢
  clear hw5
  have HB05 := Lib.hid hb0
  have HB15 := Lib.hid hb1
  have HB25 := Lib.hid hb2
  have HB35 := Lib.hid hb3
  have HF5 := Lib.hid hf5
  clear hb0 hb1 hb2 hb3 hf5 HF2 HB02 HB12 HB22 HB32 HW2
  by_cases hz : e0 = 0
  ·obtain rfl := (he0 hz).symm
   subst hz
   go_wp2_with fail
   go_loopw [12] (fun i wr => ∃ (wz : World) (q : Nat), wz = wr ∧ i = .int .i64 q ∧ q ≤ k ∧ Fr [] w5 wr) (fun i _ => k - (intOf i).toNat)
   case atStart => exact ⟨_, 0, rfl, rfl, by omega, Fr.refl _ _⟩
   case round =>
    obtain ⟨wr, q, hwz, rfl, hq, fr⟩ := hrel
    subst hwz
    have HB06 := Lib.hid (HB05.out.keep fr (by simp))
    have HB16 := Lib.hid (HB15.out.keep fr (by simp))
    have HB26 := Lib.hid (HB25.out.keep fr (by simp))
    have HB36 := Lib.hid (HB35.out.keep fr (by simp))
    have HF6 := Lib.hid (HF5.out.step fr)
    have HFR := Lib.hid fr
    clear fr
    go_upto_region 7 with fail
    refine wp_region_lit ?_
    refine ldZ (load_all agg34 size34 (xs := two (.slice aL n cL) (.slice aC m cC)) rfl HB06.out.at) ?_
    refine wpList_plain rfl (fun K hK => ?_); go_simp; refine hK _ _ ?_; clear hK K
    try simp only [Act.put, nrZ]
    refine wpList_plain rfl (fun K hK => ?_)
    go_simp
    refine (lisAtG (.slice aL n cL) (.slice aC m cC) D (q : Int) _ (LRow.next HL.out HF6.out) (by rw [HN.out]; omega)).mono ?_
    rintro e w7 ⟨rfl, f7⟩
    refine hK _ _ ?_
    clear hK K
    try simp only [Act.put, nrZ]
    have HB07 := Lib.hid (HB06.out.keep f7 (by simp))
    have HB17 := Lib.hid (HB16.out.keep f7 (by simp))
    have HB27 := Lib.hid (HB26.out.keep f7 (by simp))
    have HB37 := Lib.hid (HB36.out.keep f7 (by simp))
    have HF7 := Lib.hid (HF6.out.step f7)
    have HFR7 := Lib.hid (HFR.out.step f7)
    clear f7 HB06 HB16 HB26 HB36 HF6 HFR
    obtain ⟨P, hP⟩ : ∃ P, place (PN.pick (PN.refP (q : Int)) D 0) = P := ⟨_, rfl⟩
    rw [hP]
    by_cases hqk : q < k
    ·skip
     have hP0 : 0 ≤ P := by
      obtain ⟨i, y, he⟩ := refP_mem.2 (HK.out.2.1 q hqk)
      rw [← hP, he]
      simp [place]
     have d0 : decide (0 ≤ P) = true := decide_eq_true hP0
     clear hP
     go_wp2
     go_roundw
     case rel => exact ⟨_, q + 1, rfl, by go_num, by omega, HFR7.out⟩
     case measure => simp [intOf]; omega
    ·skip
     obtain rfl : q = k := by omega
     have hP0 : P < 0 := by
      rw [← hP]
      cases he : PN.pick (PN.refP (q : Int)) D 0 with
      | none => simp [place]
      | some a => exact absurd (refP_mem.1 ⟨a.1, a.2, he⟩) HK.out.1
     have d0 : decide (0 ≤ P) = false := decide_eq_false (by omega)
     clear hP
     go_upto_region 9 with fail
     refine wp_region_lit ?_
     refine ldZ (load_all agg34 size34 (xs := two (.slice aL n cL) (.slice aC m cC)) rfl HB07.out.at) ?_
     refine wpList_plain rfl (fun K hK => ?_)
     go_simp
     refine (nCopy_any (.slice aL n cL) (.slice aC m cC) D C _ (LRow.next HL.out HF7.out) (CRow.next HC.out HF7.out) HFIT.out).mono ?_
     rintro e w8 ⟨sL, sC, rfl, oL, oC, f8⟩
     refine hK _ _ ?_
     clear hK K
     try simp only [Act.put, nrZ]
     have HB18 := Lib.hid (HB17.out.keep f8 (by simp))
     have HB28 := Lib.hid (HB27.out.keep f8 (by simp))
     have HB38 := Lib.hid (HB37.out.keep f8 (by simp))
     have HF8 := Lib.hid (HF7.out.step f8)
     have HOL8 := Lib.hid (oL.base (B' := B) (by rw [← HBS.out]; exact HF7.out.size))
     have HOC8 := Lib.hid (oC.base (B' := B) (by rw [← HBS.out]; exact HF7.out.size))
     clear f8 oL oC HB07 HB17 HB27 HB37 HF7 HFR7
     refine wpList_plain rfl (fun K hK => ?_); go_simp; refine hK _ _ ?_; clear hK K
     try simp only [Act.put, nrZ]
     obtain ⟨E9, hE_⟩ : ∃ E, w8.heap.size = E := ⟨_, rfl⟩
     obtain ⟨wy, hw_⟩ : ∃ z, w8.alloc (.cells #[.slice none 0 0, .slice none 0 0] 31) = z := ⟨_, rfl⟩
     have hby : Blk wy E9 31 zNt := by rw [← hw_, ← hE_]; exact Blk.made w8 31 zNt
     have fy : Fr [] w8 wy := by rw [← hw_]; exact (Fr.refl [] w8).alloc _
     rw [hw_]
     simp only [hE_]
     have HE9 := Lib.hid (show w.heap.size ≤ E9 ∧ B + 3 < E9 from by rw [← hE_]; exact ⟨HF8.out.size, HB38.out.lt⟩)
     have HY9 := Lib.hid hby
     have HB19 := Lib.hid (HB18.out.keep fy (by simp))
     have HB29 := Lib.hid (HB28.out.keep fy (by simp))
     have HB39 := Lib.hid (HB38.out.keep fy (by simp))
     have HF9 := Lib.hid (HF8.out.step fy)
     have HOL9 := Lib.hid (HOL8.out.next fy)
     have HOC9 := Lib.hid (HOC8.out.next fy)
     clear fy hby hw_ hE_ HB18 HB28 HB38 HF8 HOL8 HOC8
     obtain ⟨w10, hst, hb_, hf_⟩ := store_all (t := 31) (two (slv sL) (slv sC)) size34 rfl (two_one _ _) HY9.out rfl
     refine stZ hst ?_
     clear hst
     refine wpList_nil ?_
     try simp only [Act.put, nrZ]
     have HY10 := Lib.hid hb_
     have HB110 := Lib.hid (HB19.out.keep hf_ (fun hm => by rw [List.mem_singleton] at hm; have := HE9.out; omega))
     have HB210 := Lib.hid (HB29.out.keep hf_ (fun hm => by rw [List.mem_singleton] at hm; have := HE9.out; omega))
     have HB310 := Lib.hid (HB39.out.keep hf_ (fun hm => by rw [List.mem_singleton] at hm; have := HE9.out; omega))
     have HF10 := Lib.hid (HF9.out.own1 (S := []) (B := 0) hf_ HE9.out.1)
     have HOL10 := Lib.hid (HOL9.out.far HY9.out hf_ (by decide) (by decide))
     have HOC10 := Lib.hid (HOC9.out.far HY9.out hf_ (by decide) (by decide))
     clear hb_ hf_ HY9 HB19 HB29 HB39 HF9 HOL9 HOC9
     obtain ⟨w11, hw11⟩ : ∃ z, w10.drew = z := ⟨_, rfl⟩
     have f11 : Fr [] w10 w11 := by rw [← hw11]; exact (Fr.refl [] w10).drew
     have HY11 := Lib.hid (HY10.out.keep f11 (by simp))
     have HB111 := Lib.hid (HB110.out.keep f11 (by simp))
     have HB211 := Lib.hid (HB210.out.keep f11 (by simp))
     have HB311 := Lib.hid (HB310.out.keep f11 (by simp))
     have HF11 := Lib.hid (HF10.out.step f11)
     have HOC11 := Lib.hid (HOC10.out.next f11)
     obtain ⟨Xs, hrec, hown, _⟩ := HOL10.out.next f11
     rw [HN.out] at hown
     obtain ⟨vr, hvr, hrr⟩ := own_slice_from elemLis hown q hkm
     have HW11 := Lib.hid hw11
     have HREC11 := Lib.hid hrec
     have HOWN11 := Lib.hid hown
     have HRR11 := Lib.hid hrr
     clear f11 hw11 hrec hown hrr HY10 HB110 HB210 HB310 HF10 HOL10 HOC10
     go_upto_region 10 with fail
     obtain ⟨sL1, sL2, sL3⟩ := sL
     refine wp_region_held_drew (S := fun w' => w'.cell? ⟨E9, 0, none⟩ = some (.slice sL1 sL2 sL3) ∧ LiesAt w' (B + 1) 0 (sp s p')) (by kernel_rfl) (by rw [HW11.out]; exact ⟨HY11.out.at 0 _ rfl, HB111.out.at⟩) (fun hHeld => ?_)
     rw [HW11.out] at hHeld ⊢
     refine tkZ 0 ?_
     refine tvZ 1 _ rfl (fun w hSw => ldX (load_all agg28 size28 (xs := sp s p') rfl hSw.2)) ?_
     refine tkZ 2 ?_
     refine tvZ 3 (.agg #[.string s, .int .i64 p', .int .i64 most, .slice none 0 0]) rfl ?_ ?_
     ·intro w hSw
      try dsimp only at hSw
      exact exec_bld2 (V := .agg #[.string s, .int .i64 p']) (U := .int .i64 most) rfl rfl rfl (bldLg s p' most w)
     try simp only [Act.put, nrZ]
     refine tvZ 4 (.agg (lsC ⟨q, s, p', most, []⟩ (none, 0, 0)).toArray) rfl ?_ ?_
     ·intro w hSw
      try dsimp only at hSw
      exact exec_bld2 (V := .int .i64 q) (U := .agg #[.string s, .int .i64 p', .int .i64 most, .slice none 0 0]) rfl rfl rfl (bldLs q s p' most w)
     try simp only [Act.put, nrZ]
     refine tkZ 6 ?_
     refine tkZ 7 ?_
     refine tkZ 8 ?_
     refine tvZ 9 vr rfl ?_ ?_
     ·intro w hSw
      try dsimp only at hSw
      exact exec_slice_from (V := slv (sL1, sL2, sL3)) (L := .int .i64 q) rfl rfl rfl elemLis.el.2.1 (hvr w)
     try simp only [Act.put, nrZ]
     refine rdZ 5 (fun K hK => ?_)
     obtain ⟨w12, hw12⟩ : ∃ z, w11.alloc (.cells (lsC ⟨q, s, p', most, []⟩ (none, 0, 0)).toArray 122) = z := ⟨_, rfl⟩
     obtain ⟨E12, hE12⟩ : ∃ z, w11.heap.size = z := ⟨_, rfl⟩
     have hb12 : w12.ownsRow B 122 5 (.slice (some ⟨E12, 0, none⟩) 1 1) 1 (lsC ⟨q, s, p', most, []⟩ (none, 0, 0)) := by
      rw [← hw12, ← hE12]
      exact World.ownsRow_lit w11 (lsC ⟨q, s, p', most, []⟩ (none, 0, 0)).toArray 1 (by rw [← HBS.out]; exact HF11.out.size) (by unfold maxLen; omega) rfl
     have f12 : Fr [] w11 w12 := by rw [← hw12]; exact (Fr.refl [] w11).alloc _
     have HE12 := Lib.hid (show w.heap.size ≤ E12 ∧ w11.heap.size = E12 from ⟨by rw [← hE12]; exact HF11.out.size, hE12⟩)
     split
     rotate_left
     ·rename_i hno
      exact absurd rfl hno
     refine wp_vl (v := .slice (some ⟨E12, 0, none⟩) 1 1) (w' := w12) ?_ ?_
     ·refine exec_bsl (V := .agg (lsC ⟨q, s, p', most, []⟩ (none, 0, 0)).toArray) rfl rfl ?_
      rw [bslLis, hw12, hE12]
     have HB12' := Lib.hid hb12
     have HF12 := Lib.hid f12
     clear hw12 hE12 hb12 f12
     refine hK.out _ _ (⟨(HY11.out.keep HF12.out (by simp)).at 0 _ rfl, (HB111.out.keep HF12.out (by simp)).at⟩) (fun hHeld => ?_)
     clear hK K
     try simp only [Act.put, nrZ]
     refine rdZ 10 (fun K hK => ?_)
     split
     rotate_left
     ·rename_i hno
      exact absurd rfl hno
     refine wp_append_any elemLis _ _ rfl B (v := .slice (some ⟨E12, 0, none⟩) 1 1) (n := 1) (xs := lsC ⟨q, s, p', most, []⟩ (none, 0, 0)) rfl HB12'.out (X := vr) (m := n - q) (news := (Xs.drop q).flatten) rfl (by rw [← flat_drop q HREC11.out.sz]; exact HRR11.out.new HF12.out) (flat_one (HREC11.out.drop q).one) (by omega) (by decide) (by have := HBS.out; have := (HF11.out.step HF12.out).size; omega) ?_
     intro sR w13 ho13 f13
     have HF13 := Lib.hid (show Fr [] w11 w13 from HF12.out.trans f13 (fun x hx hl => by
      simp only [Value.ownBlock, Option.toList_some, List.mem_singleton] at hx
      have := HE12.out.2
      omega))
     have HO13 := Lib.hid ho13
     clear ho13 f13
     refine hK.out _ _ (⟨(HY11.out.keep HF13.out (by simp)).at 0 _ rfl, (HB111.out.keep HF13.out (by simp)).at⟩) (fun hHeld => ?_)
     clear hK K
     try simp only [Act.put, nrZ]
     refine tkZ 11 ?_
     refine wpAnyH_done (by kernel_rfl) ?_ _
     clear hHeld
     have HY13 := Lib.hid (HY11.out.keep HF13.out (by simp))
     have HB113 := Lib.hid (HB111.out.keep HF13.out (by simp))
     have HB213 := Lib.hid (HB211.out.keep HF13.out (by simp))
     have HB313 := Lib.hid (HB311.out.keep HF13.out (by simp))
     have HFT := Lib.hid (HF11.out.step HF13.out)
     have HOC13 := Lib.hid (HOC11.out.next HF13.out)
     have HREC13 := Lib.hid (HREC11.out.mono (fun X y ⟨t, e1, e2⟩ => (⟨t, e1, rowNew e2 HF13.out⟩ : ElLO B w13 X y)))
     obtain ⟨a0, ht0, hr0⟩ := own_slice_to elemLis (rowNew HOWN11.out HF13.out) q hkm
     have HR0 := Lib.hid (show RowV w13 (.slice a0 q q) q 5 (Xs.take q).flatten from by rw [← flat_take q HREC13.out.sz]; exact hr0)
     clear hr0 HB12' HF12 HF13 HY11 HB111 HB211 HB311 HF11 HOC11 HREC11 HOWN11 HRR11 HW11 HE12
     go_upto_region 11 with fail
     have c1 : w13.cell? ⟨E9, 0, none⟩ = some (.slice sL1 sL2 sL3) := HY13.out.at 0 _ rfl
     refine wp_region_lit ?_
     iterate 4 (refine wpList_plain rfl (fun K hK => ?_); go_simp; refine hK _ _ ?_; clear hK K)
     try simp only [Act.put, nrZ]
     refine wpList_val rfl (v := .slice a0 q q) (w' := w13) (exec_slice_to (V := slv (sL1, sL2, sL3)) (H := .int .i64 q) (M := .int .i64 q) rfl rfl rfl rfl elemLis.el.2.1 (ht0 w13)) ?_
     try simp only [Act.put, nrZ]
     refine wpList_plain rfl (fun K hK => ?_); go_simp; refine hK _ _ ?_; clear hK K
     try simp only [Act.put, nrZ]
     refine wpList_append_cap elemLis rfl _ _ rfl (a0 := a0) (n := q) (xs := (Xs.take q).flatten) rfl HR0.out (X := slv sR) (m := 1 + (n - q)) (news := lsC ⟨q, s, p', most, []⟩ (none, 0, 0) ++ (Xs.drop q).flatten) rfl (RowV.of_own HO13.out) (by omega) (by omega) (by decide) ?_
     intro sL' w14 ho14 f14
     try simp only [Act.put, nrZ]
     refine wpList_plain rfl (fun K hK => ?_); go_simp; refine hK _ _ ?_; clear hK K
     try simp only [Act.put, nrZ]
     have HY14 := Lib.hid (HY13.out.keep f14 (by simp))
     have HB114 := Lib.hid (HB113.out.keep f14 (by simp))
     have HB214 := Lib.hid (HB213.out.keep f14 (by simp))
     have HB314 := Lib.hid (HB313.out.keep f14 (by simp))
     have HF14 := Lib.hid (HFT.out.step f14)
     have HOC14 := Lib.hid (HOC13.out.next f14)
     have HOL14 := Lib.hid (show RowO 122 5 (ElLO B) w14 B (slv sL') (insL D s p' most) from by
      refine ⟨Xs.take q ++ ([lsC ⟨q, s, p', most, []⟩ (none, 0, 0)] ++ Xs.drop q), ?_, ?_⟩
      ·have h0 := HREC13.out.mono (fun X y ⟨t, e1, e2⟩ => (⟨t, e1, rowNew e2 f14⟩ : ElLO B w14 X y))
       have h1 : Recs 5 (ElLO B w14) [lsC ⟨q, s, p', most, []⟩ (none, 0, 0)] [(⟨q, s, p', most, []⟩ : PN.PL)] := Recs.push Recs.nil rfl (lsC_one _ _) ⟨(none, 0, 0), rfl, World.ownsRow_nil _ _ _ _⟩
       have h2 := (h0.take q).app (h1.app (h0.drop q))
       unfold insL
       rw [HKK.out]
       exact h2
      ·have hlen : (insL D s p' most).length = q + (1 + (n - q)) := by
        unfold insL
        rw [HKK.out, List.length_append, List.length_cons, List.length_take, List.length_drop, HN.out]
        omega
       rw [hlen]
       have := rowBase ho14 (base' := B) (by rw [← HBS.out]; exact HFT.out.size)
       rw [List.flatten_append, List.flatten_append, List.flatten_singleton]
       exact this)
     clear ho14 f14 c1 HY13 HB113 HB213 HB313 HFT HOC13 HREC13 HO13 HR0
     obtain ⟨w15, hst, hb_, hf_⟩ := store_cell (t := 28) (o := 0) (slv sL') size31 rfl rfl HY14.out (by show 0 + 1 ≤ 2; omega)
     refine stZ hst ?_
     clear hst
     refine wpList_nil ?_
     try simp only [Act.put, nrZ]
     have HY15 := Lib.hid (show Blk w15 E9 31 (two (slv sL') (slv sC)) from hb_)
     have HB115 := Lib.hid (HB114.out.keep hf_ (fun hm => by rw [List.mem_singleton] at hm; have := HE9.out; omega))
     have HB215 := Lib.hid (HB214.out.keep hf_ (fun hm => by rw [List.mem_singleton] at hm; have := HE9.out; omega))
     have HB315 := Lib.hid (HB314.out.keep hf_ (fun hm => by rw [List.mem_singleton] at hm; have := HE9.out; omega))
     have HF15 := Lib.hid (HF14.out.own1 (S := []) (B := 0) hf_ HE9.out.1)
     have HOL15 := Lib.hid (RowO.far HOL14.out HY14.out hf_ (by decide) (by decide))
     have HOC15 := Lib.hid (HOC14.out.far HY14.out hf_ (by decide) (by decide))
     clear hb_ hf_ HY14 HB114 HB214 HB314 HF14 HOL14 HOC14
     obtain ⟨w16, hw16⟩ : ∃ z, w15.drew = z := ⟨_, rfl⟩
     have f16 : Fr [] w15 w16 := by rw [← hw16]; exact (Fr.refl [] w15).drew
     have HY16 := Lib.hid (HY15.out.keep f16 (by simp))
     have HB116 := Lib.hid (HB115.out.keep f16 (by simp))
     have HB216 := Lib.hid (HB215.out.keep f16 (by simp))
     have HB316 := Lib.hid (HB315.out.keep f16 (by simp))
     have HF16 := Lib.hid (HF15.out.step f16)
     obtain ⟨Ys, hy1, hy2⟩ := HOL15.out
     have HOL16 := Lib.hid (show RowO 122 5 (ElLO B) w16 B (slv sL') (insL D s p' most) from ⟨Ys, hy1.mono (fun X y ⟨t, e1, e2⟩ => ⟨t, e1, rowNew e2 f16⟩), rowNew hy2 f16⟩)
     have HOC16 := Lib.hid (HOC15.out.next f16)
     have HW16 := Lib.hid hw16
     clear f16 hw16 HY15 HB115 HB215 HB315 HF15 HOL15 HOC15 hy1 hy2
     go_upto_region 12 with fail
     refine wp_region_held_drew (S := fun w' => LiesAt w' E9 0 (two (slv sL') (slv sC)) ∧ LiesAt w' (B + 1) 0 (sp s p')) (by kernel_rfl) (by rw [HW16.out]; exact ⟨HY16.out.at, HB116.out.at⟩) (fun hHeld => ?_)
     rw [HW16.out] at hHeld ⊢
     refine tvZ 0 _ rfl (fun w hSw => ldX (load_all agg34 size34 (xs := two (slv sL') (slv sC)) rfl hSw.1)) ?_
     refine tkZ 1 ?_
     refine tvZ 2 _ rfl (fun w hSw => ldX (load_all agg28 size28 (xs := sp s p') rfl hSw.2)) ?_
     refine rdZ 3 (fun K hK => ?_)
     obtain ⟨w17, hst, hb_, hf_⟩ := store_all (t := 31) (two (slv sL') (slv sC)) size34 rfl (two_one _ _) HB216.out rfl
     split
     rotate_left
     ·rename_i hno
      exact absurd rfl hno
     refine stY hst ?_
     clear hst
     have HB217 := Lib.hid hb_
     have HB317 := Lib.hid (HB316.out.keep hf_ (by simp))
     have HF17 := Lib.hid (HF16.out.own1 (S := []) (B := 0) hf_ (by have := HBS.out; omega))
     have HOL17 := Lib.hid (RowO.far HOL16.out HB216.out hf_ (by decide) (by decide))
     have HOC17 := Lib.hid (HOC16.out.far HB216.out hf_ (by decide) (by decide))
     have HS17 := Lib.hid (show _ ∧ _ from ⟨hHeld.1.keep hf_ (fun hm => by rw [List.mem_singleton] at hm; have := HE9.out; omega), hHeld.2.keep hf_ (by simp)⟩)
     clear hb_ hf_
     refine hK.out _ _ (HS17.out) (fun hHeld => ?_)
     clear hK K
     try simp only [Act.put, nrZ]
     refine tkZ 4 ?_
     refine rdZ 5 (fun K hK => ?_)
     obtain ⟨w18, hst, hb_, hf_⟩ := store_all (t := 36) (sp s p') size28 rfl (sp_one _ _) HB317.out rfl
     split
     rotate_left
     ·rename_i hno
      exact absurd rfl hno
     refine stY hst ?_
     clear hst
     have HB318 := Lib.hid hb_
     have HB218 := Lib.hid (HB217.out.keep hf_ (by simp))
     have HF18 := Lib.hid (HF17.out.own1 (S := []) (B := 0) hf_ (by have := HBS.out; omega))
     have HOL18 := Lib.hid (RowO.far HOL17.out HB317.out hf_ (by decide) (by decide))
     have HOC18 := Lib.hid (HOC17.out.far HB317.out hf_ (by decide) (by decide))
     have HS18 := Lib.hid (show _ ∧ _ from ⟨hHeld.1.keep hf_ (fun hm => by rw [List.mem_singleton] at hm; have := HE9.out; omega), hHeld.2.keep hf_ (by simp)⟩)
     clear hb_ hf_
     refine hK.out _ _ (HS18.out) (fun hHeld => ?_)
     clear hK K
     try simp only [Act.put, nrZ]
     refine tkZ 6 ?_
     refine wpAnyH_done (by kernel_rfl) ?_ _
     go_wp2
     have hl := load_var agg34 size34 (xs := two (slv sL') (slv sC)) rfl HB218.out.at
     have hl2 := load_var agg28 size28 (xs := sp s p') rfl HB318.out.at
     refine bodyPost_ret (v := .tuple #[.agg (two (slv sL') (slv sC)).toArray, .int .i64 q, .agg (sp s p').toArray, .int .i64 0]) (by simp [results, Tryz.results14, as_addr, hl, hl2]) rfl ?_
     exact ⟨sL', sC, rfl, by rw [HBS.out]; exact HOL18.out, by rw [HBS.out]; exact HOC18.out.rd, HF18.out⟩
  ·have HZ := Lib.hid hz
   have dz : (e0 == 0) = false := beq_eq_false_iff_ne.2 hz
   have dz2 : decide (e0 = 0) = false := decide_eq_false hz
   clear hz
   go_upto_region 5 with fail
   refine wp_region_lit ?_
   refine ldZ (load_all agg34 size34 (xs := two (.slice aL n cL) (.slice aC m cC)) rfl HB05.out.at) ?_
   iterate 2 (refine wpList_plain rfl (fun K hK => ?_); go_simp; refine hK _ _ ?_; clear hK K)
   try simp only [Act.put, nrZ]
   obtain ⟨w6, hst, hb_, hf_⟩ := store_all (t := 31) (two (.slice aL n cL) (.slice aC m cC)) size34 rfl (two_oneS _ _ _ _ _ _) HB25.out rfl
   refine stZ hst ?_
   clear hst
   refine wpList_plain rfl (fun K hK => ?_); go_simp; refine hK _ _ ?_; clear hK K
   try simp only [Act.put, nrZ]
   have HB26 := Lib.hid hb_
   have HB36 := Lib.hid (HB35.out.keep hf_ (by simp))
   have HF6 := Lib.hid (HF5.out.own1 (S := []) (B := 0) hf_ (by have := HBS.out; omega))
   clear hb_ hf_
   obtain ⟨w7, hst, hb_, hf_⟩ := store_all (t := 36) (sp ⟨#[]⟩ 0) size28 rfl (sp_one _ _) HB36.out rfl
   refine stZ hst ?_
   clear hst
   refine wpList_plain rfl (fun K hK => ?_); go_simp; refine hK _ _ ?_; clear hK K
   refine wpList_nil ?_
   try simp only [Act.put, nrZ]
   have HB37 := Lib.hid hb_
   have HB27 := Lib.hid (HB26.out.keep hf_ (by simp))
   have HF7 := Lib.hid (HF6.out.own1 (S := []) (B := 0) hf_ (by have := HBS.out; omega))
   clear hb_ hf_
   go_wp2
   have hl := load_var agg34 size34 (xs := two (.slice aL n cL) (.slice aC m cC)) rfl HB27.out.at
   have hl2 := load_var agg28 size28 (xs := sp ⟨#[]⟩ 0) rfl HB37.out.at
   refine bodyPost_ret (v := .tuple #[.agg (two (.slice aL n cL) (.slice aC m cC)).toArray, .int .i64 0, .agg (sp ⟨#[]⟩ 0).toArray, .int .i64 e0]) (by simp [results, Tryz.results14, as_addr, hl, hl2]) rfl ?_
   exact .inr ⟨HZ.out, rfl, HF7.out⟩
theorem nListen_bad (vL vC : Value) (D : List PN.PL) (C : List PG) (s : ByteArray) (p most : Int) (w : World) (hL : LRow w vL D) (hC : CRow w vC C) (hs : s.size ≤ 1000000) (hn : NetFit D C) (ok : Bool) (hv : addrB s.data.toList p = ok) (hok : ok = false ∨ most < 1 ∨ 128 < most) :
  Calls Tryz.prog 14 #[.agg #[vL, vC], .agg #[.string s, .int .i64 p], .int .i64 most] w fun e w' => e = .returned (.tuple #[.agg (two vL vC).toArray, .int .i64 0, .agg (sp ⟨#[]⟩ 0).toArray, .int .i64 2]) ∧ Fr [] w w' := by
 obtain ⟨n, hnl⟩ : ∃ n, D.length = n := ⟨_, rfl⟩
 obtain ⟨m, hml⟩ : ∃ m, C.length = m := ⟨_, rfl⟩
 obtain ⟨aL, cL, rfl⟩ := hL.val
 obtain ⟨aC, cC, rfl⟩ := hC.val
 rw [hnl] at hL ⊢
 rw [hml] at hC ⊢
 have HN := Lib.hid hnl
 have HM := Lib.hid hml
 have HFIT := Lib.hid hn
 have HK := Lib.hid (PN.free_spec (D.map (·.ref)))
 obtain ⟨k, hk⟩ : ∃ k, frL D = k := ⟨_, rfl⟩
 have hkm : k ≤ n := by rw [← hk, ← hnl]; exact PN.free_le
 have hk' : PN.free (D.map (·.ref)) = k := hk
 rw [hk'] at HK
 have HKK := Lib.hid hk
 clear hk hk' hn
 have hn1 : n ≤ 1000 := by have := HFIT.out.nl; omega
 obtain ⟨B, hB⟩ : ∃ B, w.heap.size = B := ⟨_, rfl⟩
 obtain ⟨u1, hu1⟩ : ∃ z, w.alloc (.cells #[.slice aL n cL, .slice aC m cC] 31) = z := ⟨_, rfl⟩
 obtain ⟨u2, hu2⟩ : ∃ z, u1.alloc (.cells #[.string s, .int .i64 p] 36) = z := ⟨_, rfl⟩
 obtain ⟨u3, hu3⟩ : ∃ z, u2.alloc (.cells #[.slice none 0 0, .slice none 0 0] 31) = z := ⟨_, rfl⟩
 obtain ⟨wA, hwA⟩ : ∃ z, u3.alloc (.cells #[.string ⟨#[]⟩, .int .i64 0] 36) = z := ⟨_, rfl⟩
 have s1 : u1.heap.size = B + 1 := by rw [← hu1, ← hB]; simp
 have s2 : u2.heap.size = B + 2 := by rw [← hu2]; simp [s1]
 have s3 : u3.heap.size = B + 3 := by rw [← hu3]; simp [s2]
 have f1 : Fr [] w u1 := by rw [← hu1]; exact (Fr.refl [] w).alloc _
 have f2 : Fr [] u1 u2 := by rw [← hu2]; exact (Fr.refl [] u1).alloc _
 have f3 : Fr [] u2 u3 := by rw [← hu3]; exact (Fr.refl [] u2).alloc _
 have f4 : Fr [] u3 wA := by rw [← hwA]; exact (Fr.refl [] u3).alloc _
 have hb0 : Blk wA B 31 (two (.slice aL n cL) (.slice aC m cC)) := by
  have h := Blk.made w 31 (two (.slice aL n cL) (.slice aC m cC))
  rw [hB] at h
  exact (((show Blk u1 B 31 _ from by rw [← hu1]; exact h).keep f2 (by simp)).keep f3 (by simp)).keep f4 (by simp)
 have hb1 : Blk wA (B + 1) 36 (sp s p) := by
  have h := Blk.made u1 36 (sp s p)
  rw [s1] at h
  exact ((show Blk u2 (B + 1) 36 _ from by rw [← hu2]; exact h).keep f3 (by simp)).keep f4 (by simp)
 have hb2 : Blk wA (B + 2) 31 zNt := by
  have h := Blk.made u2 31 zNt
  rw [s2] at h
  exact (show Blk u3 (B + 2) 31 _ from by rw [← hu3]; exact h).keep f4 (by simp)
 have hb3 : Blk wA (B + 3) 36 (sp ⟨#[]⟩ 0) := by
  have h := Blk.made u3 36 (sp ⟨#[]⟩ 0)
  rw [s3] at h
  rw [← hwA]
  exact h
 have hf : Fr [] w wA := ((f1.step f2).step f3).step f4
 have HB0 := Lib.hid hb0
 have HB1 := Lib.hid hb1
 have HB2 := Lib.hid hb2
 have HB3 := Lib.hid hb3
 have HF := Lib.hid hf
 have HBS := Lib.hid hB
 have HU1 := Lib.hid hu1
 have HU2 := Lib.hid hu2
 have HU3 := Lib.hid hu3
 have HWA := Lib.hid hwA
 have HL := Lib.hid hL
 have HC := Lib.hid hC
 have HS1 := Lib.hid s1
 have HS2 := Lib.hid s2
 have HS3 := Lib.hid s3
 clear hb0 hb1 hb2 hb3 hf hB hu1 hu2 hu3 hwA f1 f2 f3 f4 s1 s2 s3 hL hC hnl hml
 have HAV := Lib.hid (fun W : World => by
  have h := refValid_any s p hs W
  rw [hv] at h
  exact h)
 have HOK := Lib.hid hok
 clear hv hok
 have e0 : wA.cell? ⟨B + 1, 0, none⟩ = some (.string s) := HB1.out.at 0 _ rfl
 have e1 : wA.cell? ⟨B + 1, 1, none⟩ = some (.int .i64 p) := HB1.out.at 1 _ rfl
 go_enter Tryz.func14, Tryz.ntmps14
 go_upto_region 1 with fail
 simp only [HU1.out, HU2.out, HU3.out, HWA.out, HBS.out, HS1.out, HS2.out, HS3.out]
 clear HU1 HU2 HU3 HWA HS1 HS2 HS3
 go_cut [25] from 15 to 25 (fun v wc => v = .bool true ∧ Fr [] wA wc)
 case first =>
  go_wp2_with fail
  refine (HAV.out _).mono ?_
  rintro e w1 ⟨rfl, f1⟩
  rcases HOK.out with h0 | h0 | h0
  ·subst h0
   go_wp2
   go_meet
   case rel => exact ⟨rfl, f1⟩
  ·have d1 : decide (most < 1) = true := decide_eq_true h0
   cases ok
   all_goals
    go_wp2
    go_meet
   case' rel => skip
   all_goals exact ⟨rfl, f1⟩
  ·have d1 : decide (most < 1) = false := decide_eq_false (by omega)
   have d2 : decide (128 < most) = true := decide_eq_true h0
   cases ok
   all_goals
    go_wp2
    go_meet
   case' rel => skip
   all_goals exact ⟨rfl, f1⟩
 case rest =>
  obtain ⟨rfl, f1⟩ := hcut
  have HF5 := Lib.hid (HF.out.step f1)
  have HB05 := Lib.hid (HB0.out.keep f1 (by simp))
  have HB25 := Lib.hid (HB2.out.keep f1 (by simp))
  have HB35 := Lib.hid (HB3.out.keep f1 (by simp))
  clear f1 HF HB0 HB1 HB2 HB3 HAV e0 e1
  go_upto_region 2 with fail
  refine wp_region_lit ?_
  refine ldZ (load_all agg34 size34 (xs := two (.slice aL n cL) (.slice aC m cC)) rfl HB05.out.at) ?_
  refine wpList_plain rfl (fun K hK => ?_); go_simp; refine hK _ _ ?_; clear hK K
  try simp only [Act.put, nrZ]
  obtain ⟨w6, hst, hb_, hf_⟩ := store_all (t := 31) (two (.slice aL n cL) (.slice aC m cC)) size34 rfl (two_oneS _ _ _ _ _ _) HB25.out rfl
  refine stZ hst ?_
  clear hst
  refine wpList_plain rfl (fun K hK => ?_); go_simp; refine hK _ _ ?_; clear hK K
  try simp only [Act.put, nrZ]
  have HB26 := Lib.hid hb_
  have HB36 := Lib.hid (HB35.out.keep hf_ (by simp))
  have HF6 := Lib.hid (HF5.out.own1 (S := []) (B := 0) hf_ (by have := HBS.out; omega))
  clear hb_ hf_
  obtain ⟨w7, hst, hb_, hf_⟩ := store_all (t := 36) (sp ⟨#[]⟩ 0) size28 rfl (sp_one _ _) HB36.out rfl
  refine stZ hst ?_
  clear hst
  refine wpList_plain rfl (fun K hK => ?_); go_simp; refine hK _ _ ?_; clear hK K
  refine wpList_nil ?_
  try simp only [Act.put, nrZ]
  have HB37 := Lib.hid hb_
  have HB27 := Lib.hid (HB26.out.keep hf_ (by simp))
  have HF7 := Lib.hid (HF6.out.own1 (S := []) (B := 0) hf_ (by have := HBS.out; omega))
  clear hb_ hf_
  go_wp2
  have hl := load_var agg34 size34 (xs := two (.slice aL n cL) (.slice aC m cC)) rfl HB27.out.at
  have hl2 := load_var agg28 size28 (xs := sp ⟨#[]⟩ 0) rfl HB37.out.at
  refine bodyPost_ret (v := .tuple #[.agg (two (.slice aL n cL) (.slice aC m cC)).toArray, .int .i64 0, .agg (sp ⟨#[]⟩ 0).toArray, .int .i64 2]) (by simp [results, Tryz.results14, as_addr, hl, hl2]) rfl ?_
  exact ⟨rfl, HF7.out⟩
theorem nListen_ok (vL vC : Value) (D : List PN.PL) (C : List PG) (s : ByteArray) (p p' most : Int) (w : World) (hL : LRow w vL D) (hC : CRow w vC C) (hs : s.size ≤ 1000000) (hv : addrB s.data.toList p = true) (hmo : 1 ≤ most ∧ most ≤ 128) (hn : NetFit D C) (hbd : BindOk w vL vC s p p') :
  Calls Tryz.prog 14 #[.agg #[vL, vC], .agg #[.string s, .int .i64 p], .int .i64 most] w (NetRd w (insL D s p' most) C [.int .i64 (frL D), .agg #[.string s, .int .i64 p'], .int .i64 0]) := by
 refine (nListen_ans vL vC D C s p p' most w hL hC hs hv hmo hn s 0 (fun _ => rfl) hbd).mono ?_
 rintro e w' (⟨_, h⟩ | ⟨h, _⟩)
 ·exact h
 ·exact absurd rfl h
def ElLB (B : Nat) (w : World) (X : List Value) (y : PN.PL) : Prop := ∃ q : Sli, X = lsC y q ∧ RowV w (slv q) y.l.length 1 (intsV y.l) ∧ ∀ g, (slv q).ownBlock = some g → B ≤ g
def LRd (w : World) (B : Nat) (v : Value) (D : List PN.PL) : Prop := ∃ Xs, Recs 5 (ElLB B w) Xs D ∧ RowV w v D.length 5 Xs.flatten ∧ ∀ g, v.ownBlock = some g → B ≤ g
def NetRL (w : World) (D : List PN.PL) (C : List PG) (rs : List Value) (e : Ending) (w' : World) : Prop :=
 ∃ sL sC : Sli, e = .returned (.tuple (.agg #[slv sL, slv sC] :: rs).toArray) ∧ LRd w' w.heap.size (slv sL) D ∧ CRd w' w.heap.size (slv sC) C ∧ Fr [] w w'
theorem LRd.row {w : World} {B : Nat} {v : Value} {D : List PN.PL} (h : LRd w B v D) : LRow w v D := by
 obtain ⟨Xs, h1, h2, _⟩ := h
 exact ⟨Xs, h1.mono (fun X y ⟨q, e1, e2, _⟩ => ⟨q, e1, e2⟩), h2⟩
theorem RowO.lrd {w : World} {B : Nat} {v : Value} {D : List PN.PL} (h : RowO 122 5 (ElLO B) w B v D) : LRd w B v D := by
 obtain ⟨Xs, h1, h2⟩ := h
 exact ⟨Xs, h1.mono (fun X y ⟨q, e1, e2⟩ => ⟨q, e1, RowV.of_own e2, fun g hg => (e2.lt g hg).1⟩), RowV.of_own h2, fun g hg => (h2.lt g hg).1⟩
theorem RowV.keepB {S : List Nat} {w w' : World} {v : Value} {n sz : Nat} {xs : List Value} (h : RowV w v n sz xs) (f : Fr S w w') (hne : ∀ g, v.ownBlock = some g → g ∉ S) : RowV w' v n sz xs := by
 refine ⟨h.1, h.2.imp id ?_⟩
 rintro ⟨g, o, c, rfl, hg, hc⟩
 exact ⟨g, o, c, rfl, Nat.lt_of_lt_of_le hg f.size, fun j u hj => f.keep (hc j u hj) (hne g rfl)⟩
theorem LRd.low {S : List Nat} {w w' : World} {B : Nat} {v : Value} {D : List PN.PL} (h : LRd w B v D) (f : Fr S w w') (hS : ∀ z ∈ S, z < B) : LRd w' B v D := by
 obtain ⟨Xs, h1, h2, h3⟩ := h
 exact ⟨Xs, h1.mono (fun X y ⟨q, e1, e2, e3⟩ => ⟨q, e1, e2.keepB f (fun g hg hm => by have := hS g hm; have := e3 g hg; omega), e3⟩), h2.keepB f (fun g hg hm => by have := hS g hm; have := h3 g hg; omega), h3⟩
theorem LRd.base {w : World} {B B' : Nat} {v : Value} {D : List PN.PL} (h : LRd w B v D) (hb : B' ≤ B) : LRd w B' v D := by
 obtain ⟨Xs, h1, h2, h3⟩ := h
 exact ⟨Xs, h1.mono (fun X y ⟨q, e1, e2, e3⟩ => ⟨q, e1, e2, fun g hg => Nat.le_trans hb (e3 g hg)⟩), h2, fun g hg => Nat.le_trans hb (h3 g hg)⟩
theorem exec_sliceG {P : Program} {o : Oper} {a : Act} {w w' : World} {v : Value} {t : TypeId} {x y : Operand} {V U : Value} (ho : o.op = .slice t x (some y) none none) (hx : a.eval x = V) (hy : a.eval y = U) (ht : P.underlying t = some (.slice (P.elem t))) (hrun : (Instr.slice t V (some U) none none).run P w = .ok v w') : (execOp a.eval o).run P w = .ok (.value v) w' := by
 simp [execOp, ho, hx, hy, run_sliceAt_slice (P := P) w t V (some U) none none ht, hrun]
theorem own_tail {w : World} {B n : Nat} {v : Value} {xs : List Value} (h : w.ownsRow B 3 1 v (n + 1) xs) :
  ∃ q' : Sli, (∀ W : World, (Instr.slice 64 v (some (.int .i64 1)) none none).run Tryz.prog W = .ok (slv q') W) ∧ RowV w (slv q') n 1 (xs.drop 1) ∧ ∀ g, (slv q').ownBlock = some g → v.ownBlock = some g := by
 obtain ⟨v', h1, h2⟩ := own_slice_from elemInt h 1 (by omega)
 rw [Nat.add_sub_cancel, Nat.one_mul] at h2
 obtain ⟨_, ht, hs⟩ := elemInt.el
 obtain ⟨a, c, rfl⟩ := h2.val
 have h1 : ∀ W : World, (Instr.slice 64 v (some (.int .i64 1)) none none).run Tryz.prog W = .ok (.slice a n c) W := h1
 refine ⟨(a, n, c), h1, h2, fun g hg => ?_⟩
 rcases h.2 with ⟨rfl, h0⟩ | ⟨g0, cap, cur, rfl, hb, hg0, hnc, _⟩
 ·omega
 ·have h3 := h1 w
  rw [run_slice_l w 64 (some ⟨g0, 0, none⟩) (n + 1) cap ht .i64 1 (by omega) (by omega), hs] at h3
  simp only [Result.andThen, sliced, Result.ok.injEq, Value.slice.injEq] at h3
  obtain ⟨⟨h4, _, _⟩, _⟩ := h3
  simp only [slv, Value.ownBlock] at hg ⊢
  split at h4
  ·rw [← h4] at hg
   simpa using hg
  ·rw [← h4] at hg
   simpa [Addr.add] using hg
theorem nAccept_none (vL vC : Value) (D : List PN.PL) (C : List PG) (r : Int) (w : World) (hL : LRow w vL D) (hC : CRow w vC C) (hn : NetFit D C) (hi : PN.pick (PN.refP r) D 0 = none) :
  Calls Tryz.prog 16 #[.agg #[vL, vC], .int .i64 r] w fun e w' => e = .returned (.tuple #[.agg #[vL, vC], .int .i64 0, .int .i64 9]) ∧ Fr [] w w' := by
 obtain ⟨n, hnl⟩ : ∃ n, D.length = n := ⟨_, rfl⟩
 obtain ⟨m, hml⟩ : ∃ m, C.length = m := ⟨_, rfl⟩
 obtain ⟨aL, cL, rfl⟩ := hL.val
 obtain ⟨aC, cC, rfl⟩ := hC.val
 rw [hnl] at hL ⊢
 rw [hml] at hC ⊢
 have HN := Lib.hid hnl
 have HM := Lib.hid hml
 obtain ⟨B, hB⟩ : ∃ B, w.heap.size = B := ⟨_, rfl⟩
 obtain ⟨wA, hwA⟩ : ∃ z, (w.alloc (.cells #[.slice aL n cL, .slice aC m cC] 31)).alloc (.cells #[.slice none 0 0, .slice none 0 0] 31) = z := ⟨_, rfl⟩
 have f2 := (Fr.refl [] (w.alloc (.cells #[.slice aL n cL, .slice aC m cC] 31))).alloc (.cells #[.slice none 0 0, .slice none 0 0] 31)
 have hb0 : Blk wA B 31 (two (.slice aL n cL) (.slice aC m cC)) := by
  rw [← hwA, ← hB]
  exact (Blk.made w 31 (two (.slice aL n cL) (.slice aC m cC))).keep f2 (by simp)
 have hb1 : Blk wA (B + 1) 31 zNt := by
  have h := Blk.made (w.alloc (.cells #[.slice aL n cL, .slice aC m cC] 31)) 31 zNt
  rw [show (w.alloc (.cells #[.slice aL n cL, .slice aC m cC] 31)).heap.size = B + 1 from by rw [← hB]; simp] at h
  rw [← hwA]
  exact h
 have hf : Fr [] w wA := by rw [← hwA]; exact ((Fr.refl [] w).alloc _).step f2
 have HB0 := Lib.hid hb0
 have HB1 := Lib.hid hb1
 have HF := Lib.hid hf
 have HBS := Lib.hid hB
 have HWA := Lib.hid hwA
 have HL := Lib.hid hL
 have HC := Lib.hid hC
 clear hb0 hb1 hf hB hwA f2 hL hC hnl hml
 have HFIT := Lib.hid hn
 clear hn
 have HI := Lib.hid hi
 clear hi
 go_enter Tryz.func16, Tryz.ntmps16
 go_upto_region 1 with fail
 rw [HWA.out]
 simp only [HBS.out]
 refine wp_region_lit ?_
 refine ldZ (load_all agg34 size34 (xs := two (.slice aL n cL) (.slice aC m cC)) rfl HB0.out.at) ?_
 refine wpList_plain rfl (fun K hK => ?_); go_simp; refine hK _ _ ?_; clear hK K
 try simp only [Act.put, nrZ]
 refine wpList_plain rfl (fun K hK => ?_)
 go_simp
 refine (lisAtG (.slice aL n cL) (.slice aC m cC) D r _ (LRow.next HL.out HF.out) (by rw [HN.out]; have := HFIT.out.nl; rw [HN.out] at this; omega)).mono ?_
 rintro e w1 ⟨rfl, f1⟩
 refine hK _ _ ?_
 clear hK K
 rw [HI.out]
 simp only [place]
 try simp only [Act.put, nrZ]
 refine wpList_plain rfl (fun K hK => ?_); go_simp; refine hK _ _ ?_; clear hK K
 refine wpList_nil ?_
 try simp only [Act.put, nrZ]
 have HB01 := Lib.hid (HB0.out.keep f1 (by simp))
 have HB11 := Lib.hid (HB1.out.keep f1 (by simp))
 have HF1 := Lib.hid (HF.out.step f1)
 clear f1 HB0 HB1 HF HWA
 go_upto_region 3 with fail
 refine wp_region_lit ?_
 refine ldZ (load_all agg34 size34 (xs := two (.slice aL n cL) (.slice aC m cC)) rfl HB01.out.at) ?_
 obtain ⟨w9, hst, hb_, hf_⟩ := store_all (t := 31) (two (.slice aL n cL) (.slice aC m cC)) size34 rfl (two_oneS _ _ _ _ _ _) HB11.out rfl
 refine stZ hst ?_
 clear hst
 iterate 2 (refine wpList_plain rfl (fun K hK => ?_); go_simp; refine hK _ _ ?_; clear hK K)
 refine wpList_nil ?_
 try simp only [Act.put, nrZ]
 have HR9 := Lib.hid hb_
 have HF9 := Lib.hid (HF1.out.own1 (S := []) (B := 0) hf_ (by have := HBS.out; omega))
 clear hb_ hf_
 go_wp2
 have hl := load_var agg34 size34 (xs := two (.slice aL n cL) (.slice aC m cC)) rfl HR9.out.at
 refine bodyPost_ret (v := .tuple #[.agg (two (.slice aL n cL) (.slice aC m cC)).toArray, .int .i64 0, .int .i64 9]) (by simp [results, Tryz.results16, as_addr, hl]) rfl ?_
 exact ⟨rfl, HF9.out⟩
theorem nAccept_empty (vL vC : Value) (D : List PN.PL) (C : List PG) (r : Int) (w : World) (hL : LRow w vL D) (hC : CRow w vC C) (hn : NetFit D C) (i : Nat) (y : PN.PL) (hi : PN.pick (PN.refP r) D 0 = some (i, y)) (hq : y.l = []) :
  Calls Tryz.prog 16 #[.agg #[vL, vC], .int .i64 r] w fun e w' => e = .returned (.tuple #[.agg #[vL, vC], .int .i64 0, .int .i64 16]) ∧ Fr [] w w' := by
 obtain ⟨n, hnl⟩ : ∃ n, D.length = n := ⟨_, rfl⟩
 obtain ⟨m, hml⟩ : ∃ m, C.length = m := ⟨_, rfl⟩
 obtain ⟨aL, cL, rfl⟩ := hL.val
 obtain ⟨aC, cC, rfl⟩ := hC.val
 rw [hnl] at hL ⊢
 rw [hml] at hC ⊢
 have HN := Lib.hid hnl
 have HM := Lib.hid hml
 obtain ⟨B, hB⟩ : ∃ B, w.heap.size = B := ⟨_, rfl⟩
 obtain ⟨wA, hwA⟩ : ∃ z, (w.alloc (.cells #[.slice aL n cL, .slice aC m cC] 31)).alloc (.cells #[.slice none 0 0, .slice none 0 0] 31) = z := ⟨_, rfl⟩
 have f2 := (Fr.refl [] (w.alloc (.cells #[.slice aL n cL, .slice aC m cC] 31))).alloc (.cells #[.slice none 0 0, .slice none 0 0] 31)
 have hb0 : Blk wA B 31 (two (.slice aL n cL) (.slice aC m cC)) := by
  rw [← hwA, ← hB]
  exact (Blk.made w 31 (two (.slice aL n cL) (.slice aC m cC))).keep f2 (by simp)
 have hb1 : Blk wA (B + 1) 31 zNt := by
  have h := Blk.made (w.alloc (.cells #[.slice aL n cL, .slice aC m cC] 31)) 31 zNt
  rw [show (w.alloc (.cells #[.slice aL n cL, .slice aC m cC] 31)).heap.size = B + 1 from by rw [← hB]; simp] at h
  rw [← hwA]
  exact h
 have hf : Fr [] w wA := by rw [← hwA]; exact ((Fr.refl [] w).alloc _).step f2
 have HB0 := Lib.hid hb0
 have HB1 := Lib.hid hb1
 have HF := Lib.hid hf
 have HBS := Lib.hid hB
 have HWA := Lib.hid hwA
 have HL := Lib.hid hL
 have HC := Lib.hid hC
 clear hb0 hb1 hf hB hwA f2 hL hC hnl hml
 have HFIT := Lib.hid hn
 clear hn
 have HI := Lib.hid hi
 have hY := place_some hi
 have hin : i < n := by rw [← HN.out]; exact (List.getElem?_eq_some_iff.1 hY).1
 have HY := Lib.hid hY
 have hi0 : (0 : Int) ≤ (i : Int) := by omega
 have hin' : (i : Int) < (n : Int) := by omega
 have dlt : decide ((i : Int) < 0) = false := decide_eq_false (by omega)
 clear hi hY
 go_enter Tryz.func16, Tryz.ntmps16
 go_upto_region 1 with fail
 rw [HWA.out]
 simp only [HBS.out]
 refine wp_region_lit ?_
 refine ldZ (load_all agg34 size34 (xs := two (.slice aL n cL) (.slice aC m cC)) rfl HB0.out.at) ?_
 refine wpList_plain rfl (fun K hK => ?_); go_simp; refine hK _ _ ?_; clear hK K
 try simp only [Act.put, nrZ]
 refine wpList_plain rfl (fun K hK => ?_)
 go_simp
 refine (lisAtG (.slice aL n cL) (.slice aC m cC) D r _ (LRow.next HL.out HF.out) (by rw [HN.out]; have := HFIT.out.nl; rw [HN.out] at this; omega)).mono ?_
 rintro e w1 ⟨rfl, f1⟩
 refine hK _ _ ?_
 clear hK K
 rw [HI.out]
 simp only [place]
 try simp only [Act.put, nrZ]
 refine wpList_plain rfl (fun K hK => ?_); go_simp; refine hK _ _ ?_; clear hK K
 refine wpList_nil ?_
 try simp only [Act.put, nrZ]
 have HB01 := Lib.hid (HB0.out.keep f1 (by simp))
 have HB11 := Lib.hid (HB1.out.keep f1 (by simp))
 have HF1 := Lib.hid (HF.out.step f1)
 clear f1 HB0 HB1 HF HWA
 obtain ⟨g, off, cap, X, hvv, hg, hX, hl, q0, rfl, hrow⟩ := HL.out.lies HY.out
 rw [HN.out] at hvv
 simp only [Value.slice.injEq] at hvv
 obtain ⟨rfl, _, rfl⟩ := hvv
 have HLY := Lib.hid hl
 have hql : q0.2.1 = y.l.length := by
  obtain ⟨a, c', he⟩ := hrow.val
  simp only [slv, Value.slice.injEq] at he
  exact he.2.1
 obtain ⟨Q1, Q2, Q3⟩ := q0
 simp only at hql
 subst hql
 clear hl hrow hg hX
 have c0 : w1.cell? ⟨B, 0, none⟩ = some (.slice (some ⟨g, off, none⟩) n cL) := HB01.out.at 0 _ rfl
 have c4 : w1.cell? ⟨g, off + i * 5 + 1 + 3, none⟩ = some (.slice Q1 y.l.length Q3) := HF1.out.keep (HLY.out 4 _ rfl) (by simp)
 have c4' : w1.cell? ⟨g, off + i * 5 + 4, none⟩ = some (.slice Q1 y.l.length Q3) := c4
 have hz : y.l.length = 0 := by rw [hq]; rfl
 rw [hz] at c4 c4'
 go_upto_region 5 with fail
 refine wp_region_lit ?_
 refine ldZ (load_all agg34 size34 (xs := two (.slice (some ⟨g, off, none⟩) n cL) (.slice aC m cC)) rfl HB01.out.at) ?_
 obtain ⟨w9, hst, hb_, hf_⟩ := store_all (t := 31) (two (.slice (some ⟨g, off, none⟩) n cL) (.slice aC m cC)) size34 rfl (two_oneS _ _ _ _ _ _) HB11.out rfl
 refine stZ hst ?_
 clear hst
 iterate 2 (refine wpList_plain rfl (fun K hK => ?_); go_simp; refine hK _ _ ?_; clear hK K)
 refine wpList_nil ?_
 try simp only [Act.put, nrZ]
 have HR9 := Lib.hid hb_
 have HF9 := Lib.hid (HF1.out.own1 (S := []) (B := 0) hf_ (by have := HBS.out; omega))
 clear hb_ hf_
 go_wp2
 have hl := load_var agg34 size34 (xs := two (.slice (some ⟨g, off, none⟩) n cL) (.slice aC m cC)) rfl HR9.out.at
 refine bodyPost_ret (v := .tuple #[.agg (two (.slice (some ⟨g, off, none⟩) n cL) (.slice aC m cC)).toArray, .int .i64 0, .int .i64 16]) (by simp [results, Tryz.results16, as_addr, hl]) rfl ?_
 exact ⟨rfl, HF9.out⟩
theorem nAccept_ok (vL vC : Value) (D : List PN.PL) (C : List PG) (r : Int) (w : World) (hL : LRow w vL D) (hC : CRow w vC C) (hn : NetFit D C) (i : Nat) (y : PN.PL) (k : Int) (l : List Int) (hi : PN.pick (PN.refP r) D 0 = some (i, y)) (hq : y.l = k :: l) :
  Calls Tryz.prog 16 #[.agg #[vL, vC], .int .i64 r] w (NetRL w (D.set i { y with l := l }) C [.int .i64 k, .int .i64 0]) := by
 obtain ⟨n, hnl⟩ : ∃ n, D.length = n := ⟨_, rfl⟩
 obtain ⟨m, hml⟩ : ∃ m, C.length = m := ⟨_, rfl⟩
 obtain ⟨aL, cL, rfl⟩ := hL.val
 obtain ⟨aC, cC, rfl⟩ := hC.val
 rw [hnl] at hL ⊢
 rw [hml] at hC ⊢
 have HN := Lib.hid hnl
 have HM := Lib.hid hml
 obtain ⟨B, hB⟩ : ∃ B, w.heap.size = B := ⟨_, rfl⟩
 obtain ⟨wA, hwA⟩ : ∃ z, (w.alloc (.cells #[.slice aL n cL, .slice aC m cC] 31)).alloc (.cells #[.slice none 0 0, .slice none 0 0] 31) = z := ⟨_, rfl⟩
 have f2 := (Fr.refl [] (w.alloc (.cells #[.slice aL n cL, .slice aC m cC] 31))).alloc (.cells #[.slice none 0 0, .slice none 0 0] 31)
 have hb0 : Blk wA B 31 (two (.slice aL n cL) (.slice aC m cC)) := by
  rw [← hwA, ← hB]
  exact (Blk.made w 31 (two (.slice aL n cL) (.slice aC m cC))).keep f2 (by simp)
 have hb1 : Blk wA (B + 1) 31 zNt := by
  have h := Blk.made (w.alloc (.cells #[.slice aL n cL, .slice aC m cC] 31)) 31 zNt
  rw [show (w.alloc (.cells #[.slice aL n cL, .slice aC m cC] 31)).heap.size = B + 1 from by rw [← hB]; simp] at h
  rw [← hwA]
  exact h
 have hf : Fr [] w wA := by rw [← hwA]; exact ((Fr.refl [] w).alloc _).step f2
 have HB0 := Lib.hid hb0
 have HB1 := Lib.hid hb1
 have HF := Lib.hid hf
 have HBS := Lib.hid hB
 have HWA := Lib.hid hwA
 have HL := Lib.hid hL
 have HC := Lib.hid hC
 clear hb0 hb1 hf hB hwA f2 hL hC hnl hml
 have HFIT := Lib.hid hn
 clear hn
 have HI := Lib.hid hi
 have hY := place_some hi
 have hin : i < n := by rw [← HN.out]; exact (List.getElem?_eq_some_iff.1 hY).1
 have HY := Lib.hid hY
 have hi0 : (0 : Int) ≤ (i : Int) := by omega
 have hin' : (i : Int) < (n : Int) := by omega
 have dlt : decide ((i : Int) < 0) = false := decide_eq_false (by omega)
 clear hi hY
 go_enter Tryz.func16, Tryz.ntmps16
 go_upto_region 1 with fail
 rw [HWA.out]
 simp only [HBS.out]
 refine wp_region_lit ?_
 refine ldZ (load_all agg34 size34 (xs := two (.slice aL n cL) (.slice aC m cC)) rfl HB0.out.at) ?_
 refine wpList_plain rfl (fun K hK => ?_); go_simp; refine hK _ _ ?_; clear hK K
 try simp only [Act.put, nrZ]
 refine wpList_plain rfl (fun K hK => ?_)
 go_simp
 refine (lisAtG (.slice aL n cL) (.slice aC m cC) D r _ (LRow.next HL.out HF.out) (by rw [HN.out]; have := HFIT.out.nl; rw [HN.out] at this; omega)).mono ?_
 rintro e w1 ⟨rfl, f1⟩
 refine hK _ _ ?_
 clear hK K
 rw [HI.out]
 simp only [place]
 try simp only [Act.put, nrZ]
 refine wpList_plain rfl (fun K hK => ?_); go_simp; refine hK _ _ ?_; clear hK K
 refine wpList_nil ?_
 try simp only [Act.put, nrZ]
 have HB01 := Lib.hid (HB0.out.keep f1 (by simp))
 have HB11 := Lib.hid (HB1.out.keep f1 (by simp))
 have HF1 := Lib.hid (HF.out.step f1)
 clear f1 HB0 HB1 HF HWA
 obtain ⟨g, off, cap, X, hvv, hg, hX, hl, q0, rfl, hrow⟩ := HL.out.lies HY.out
 rw [HN.out] at hvv
 simp only [Value.slice.injEq] at hvv
 obtain ⟨rfl, _, rfl⟩ := hvv
 have HLY := Lib.hid hl
 have hql : q0.2.1 = y.l.length := by
  obtain ⟨a, c', he⟩ := hrow.val
  simp only [slv, Value.slice.injEq] at he
  exact he.2.1
 obtain ⟨Q1, Q2, Q3⟩ := q0
 simp only at hql
 subst hql
 clear hl hrow hg hX
 have c0 : w1.cell? ⟨B, 0, none⟩ = some (.slice (some ⟨g, off, none⟩) n cL) := HB01.out.at 0 _ rfl
 have c4 : w1.cell? ⟨g, off + i * 5 + 1 + 3, none⟩ = some (.slice Q1 y.l.length Q3) := HF1.out.keep (HLY.out 4 _ rfl) (by simp)
 have c4' : w1.cell? ⟨g, off + i * 5 + 4, none⟩ = some (.slice Q1 y.l.length Q3) := c4
 have hz : ((y.l.length : Int) == 0) = false := by rw [hq]; simp; omega
 have hz2 : decide ((y.l.length : Int) = 0) = false := by rw [hq]; simp; omega
 go_upto_region 6 with fail
 clear c0 c4 c4' hz hz2 HLY
 refine wp_region_lit ?_
 refine ldZ (load_all agg34 size34 (xs := two (.slice (some ⟨g, off, none⟩) n cL) (.slice aC m cC)) rfl HB01.out.at) ?_
 refine wpList_plain rfl (fun K hK => ?_)
 go_simp
 refine (nCopy_any (.slice (some ⟨g, off, none⟩) n cL) (.slice aC m cC) D C _ (LRow.next HL.out HF1.out) (CRow.next HC.out HF1.out) HFIT.out).mono ?_
 rintro e w6 ⟨sL, sC, rfl, oL, oC, f6⟩
 refine hK _ _ ?_
 clear hK K
 try simp only [Act.put, nrZ]
 refine wpList_plain rfl (fun K hK => ?_); go_simp; refine hK _ _ ?_; clear hK K
 try simp only [Act.put, nrZ]
 have HF6 := Lib.hid (HF1.out.step f6)
 have HB26 := Lib.hid (HB11.out.keep f6 (by simp))
 have HOL6 := Lib.hid (oL.base (B' := B + 2) (by have := HB11.out.lt; omega))
 have HOC6 := Lib.hid (oC.base (B' := B) (by rw [← HBS.out]; exact HF1.out.size))
 clear oL oC f6 HF1 HB01 HB11
 obtain ⟨E7, hE_⟩ : ∃ E, w6.heap.size = E := ⟨_, rfl⟩
 obtain ⟨wy, hw_⟩ : ∃ z, w6.alloc (.cells #[.slice none 0 0, .slice none 0 0] 31) = z := ⟨_, rfl⟩
 have hbx : Blk wy E7 31 zNt := by rw [← hw_, ← hE_]; exact Blk.made w6 31 zNt
 have fx : Fr [] w6 wy := by rw [← hw_]; exact (Fr.refl [] w6).alloc _
 rw [hw_]
 simp only [hE_]
 have HE7 := Lib.hid (show w.heap.size ≤ E7 ∧ B + 1 < E7 from by rw [← hE_]; exact ⟨HF6.out.size, HB26.out.lt⟩)
 have HY7 := Lib.hid hbx
 have HF7 := Lib.hid (HF6.out.step fx)
 have HB27 := Lib.hid (HB26.out.keep fx (by simp))
 have HOL7 := Lib.hid (HOL6.out.next fx)
 have HOC7 := Lib.hid (HOC6.out.next fx)
 clear fx hbx hw_ hE_ HF6 HB26 HOL6 HOC6
 obtain ⟨w8, hst, hb_, hf_⟩ := store_all (t := 31) (two (slv sL) (slv sC)) size34 rfl (two_one _ _) HY7.out rfl
 refine stZ hst ?_
 clear hst
 refine wpList_nil ?_
 try simp only [Act.put, nrZ]
 have HY8 := Lib.hid hb_
 have HB28 := Lib.hid (HB27.out.keep hf_ (fun hm => by rw [List.mem_singleton] at hm; have := HE7.out; omega))
 have HF8 := Lib.hid (HF7.out.own1 (S := []) (B := 0) hf_ HE7.out.1)
 have HOL8 := Lib.hid (HOL7.out.far HY7.out hf_ (by decide) (by decide))
 have HOC8 := Lib.hid (HOC7.out.far HY7.out hf_ (by decide) (by decide))
 clear hb_ hf_ HY7 HB27 HF7 HOL7 HOC7
 obtain ⟨w9, hw9⟩ : ∃ z, w8.drew = z := ⟨_, rfl⟩
 have f9 : Fr [] w8 w9 := by rw [← hw9]; exact (Fr.refl [] w8).drew
 have HY9 := Lib.hid (HY8.out.keep f9 (by simp))
 have HB29 := Lib.hid (HB28.out.keep f9 (by simp))
 have HF9 := Lib.hid (HF8.out.step f9)
 have HOC9 := Lib.hid (HOC8.out.next f9)
 obtain ⟨Xs, hrec, hown, hsep⟩ := HOL8.out
 rw [HN.out] at hown
 have HW9 := Lib.hid hw9
 clear HB28 HF8 HOC8
 have hXi := List.getElem?_eq_getElem (l := Xs) (i := i) (by rw [hrec.len, HN.out]; exact hin)
 obtain ⟨X, hXX⟩ : ∃ X, Xs[i]'(by rw [hrec.len, HN.out]; exact hin) = X := ⟨_, rfl⟩
 rw [hXX] at hXi
 obtain ⟨q, rfl, hqo⟩ := hrec.el i X y hXi HY.out
 have HXI := Lib.hid hXi
 obtain ⟨sL1, sL2, sL3⟩ := sL
 obtain ⟨gL, hgL, hsn⟩ : ∃ gL, sL1 = some ⟨gL, 0, none⟩ ∧ sL2 = n := by
  rcases hown.2 with ⟨he, h0⟩ | ⟨gL, cap, cur, he, _⟩
  ·omega
  ·simp only [slv, Value.slice.injEq] at he
   exact ⟨gL, he.1, he.2.1⟩
 subst hgL
 subst hsn
 have HCQ := Lib.hid (show LiesAt w8 gL (i * 5) (lsC y q) from by
  obtain ⟨g', off', c', he, hg', hl'⟩ := (RowV.of_own hown).at hin
  simp only [slv, Value.slice.injEq, Option.some.injEq, Addr.mk.injEq, and_true] at he
  obtain ⟨⟨rfl, rfl⟩, _, rfl⟩ := he
  rw [flat_at hrec.sz hXi, Nat.zero_add] at hl'
  exact hl')
 have HREC9 := Lib.hid (hrec.mono (fun X z ⟨t, e1, e2⟩ => (⟨t, e1, rowNew e2 f9⟩ : ElLO (B + 2) w9 X z)))
 have HSEP := Lib.hid hsep
 have HOWN9 := Lib.hid (rowNew hown f9)
 have HQO9 := Lib.hid (show w9.ownsRow (B + 2) 3 1 (slv q) (l.length + 1) (intsV y.l) from by
  have := rowNew hqo f9
  rw [hq] at this ⊢
  exact this)
 obtain ⟨q1, q2, q3⟩ := q
 obtain ⟨gq, hgq, hck⟩ : ∃ gq, q1 = some ⟨gq, 0, none⟩ ∧ w8.cell? ⟨gq, 0, none⟩ = some (.int .i64 k) := by
  rw [hq] at hqo
  rcases hqo.2 with ⟨he, h0⟩ | ⟨gq, cap, cur, he, _⟩
  ·simp at h0
  ·simp only [slv, Value.slice.injEq] at he
   refine ⟨gq, he.1, ?_⟩
   have := World.ownsRow.cells hqo (g := gq) (by rw [he.1]; rfl) 0 (.int .i64 k) (by simp [intsV])
   rwa [Addr.add_lit, Nat.zero_add] at this
 subst hgq
 obtain rfl : q2 = l.length + 1 := by
  have h := (RowV.of_own HQO9.out).val
  obtain ⟨a, c, he⟩ := h
  simp only [slv, Value.slice.injEq] at he
  exact he.2.1
 have c0 : w8.cell? ⟨E7, 0, none⟩ = some (.slice (some ⟨gL, 0, none⟩) sL2 sL3) := HY8.out.at 0 _ rfl
 have c4 : w8.cell? ⟨gL, i * 5 + 1 + 3, none⟩ = some (.slice (some ⟨gq, 0, none⟩) (l.length + 1) q3) := HCQ.out 4 _ rfl
 have c4' : w8.cell? ⟨gL, i * 5 + 4, none⟩ = some (.slice (some ⟨gq, 0, none⟩) (l.length + 1) q3) := HCQ.out 4 _ rfl
 have hl0 : (0 : Int) < ((l.length + 1 : Nat) : Int) := by omega
 obtain ⟨q', hsl, hr', hbq⟩ := own_tail HQO9.out
 have HSL := Lib.hid hsl
 have HR' := Lib.hid (show RowV w9 (slv q') l.length 1 (intsV l) from by
  have h : (intsV y.l).drop 1 = intsV l := by rw [hq]; rfl
  rw [h] at hr'
  exact hr')
 have HBQ := Lib.hid hbq
 have HC9 := Lib.hid (show w9.cell? ⟨gL, i * 5 + 4, none⟩ = some (.slice (some ⟨gq, 0, none⟩) (l.length + 1) q3) from f9.keep (HCQ.out 4 _ rfl) (by simp))
 clear hrec hown hqo hXi hXX hsep hsl hr' hbq f9 hw9
 go_upto_region 8 with fail
 clear c0 c4 c4' hck HY8 HCQ
 refine wp_region_held_drew (S := fun w' => w'.cell? ⟨E7, 0, none⟩ = some (.slice (some ⟨gL, 0, none⟩) sL2 sL3)) (by kernel_rfl) (by rw [HW9.out]; exact HY9.out.at 0 _ rfl) (fun hHeld => ?_)
 rw [HW9.out] at hHeld ⊢
 refine tkZ 0 ?_
 refine tkZ 1 ?_
 refine tkZ 2 ?_
 refine tkZ 3 ?_
 refine tkZ 4 ?_
 refine tkZ 5 ?_
 refine tkZ 6 ?_
 refine tkZ 7 ?_
 refine tkZ 8 ?_
 refine rdZ 9 (fun K hK => ?_)
 have c4 := HC9.out
 go_simp
 refine hK.out _ _ (hHeld) (fun hHeld => ?_)
 clear hK K
 try simp only [Act.put, nrZ]
 clear c4
 refine tvZ 10 (slv q') rfl ?_ ?_
 ·intro w hSw
  try dsimp only at hSw
  exact exec_sliceG (V := .slice (some ⟨gq, 0, none⟩) (l.length + 1) q3) rfl rfl rfl (by kernel_rfl) (HSL.out w)
 try simp only [Act.put, nrZ]
 refine tkZ 11 ?_
 refine tkZ 12 ?_
 refine tkZ 13 ?_
 refine rdZ 14 (fun K hK => ?_)
 obtain ⟨w12, hst, hrow12, hf_⟩ := own_store (t := 64) (k := i * 5 + 4) [slv q'] (slv q') size75 rfl rfl (by intro u hu; rw [List.mem_singleton] at hu; rw [hu]; rfl) HOWN9.out (by show i * 5 + 4 + 1 ≤ sL2 * 5; omega)
 split
 rotate_left
 ·rename_i hno
  exact absurd rfl hno
 refine stY hst ?_
 clear hst
 have HY12 := Lib.hid (HY9.out.keep hf_ (fun hm => by rw [List.mem_singleton] at hm; exact blkNe HY9.out HOWN9.out (by decide) (by simp [slv, Value.ownBlock, hm])))
 have HB212 := Lib.hid (HB29.out.keep hf_ (fun hm => by rw [List.mem_singleton] at hm; exact blkNe HB29.out HOWN9.out (by decide) (by simp [slv, Value.ownBlock, hm])))
 have HF12 := Lib.hid (HF9.out.own1 (S := []) (B := 0) hf_ (by have := HBS.out; have := (HOWN9.out.lt gL rfl).1; omega))
 have hfo : Fr (Value.ownBlock (slv (some ⟨gL, 0, none⟩, sL2, sL3))).toList w9 w12 := hf_
 have HOC12 := Lib.hid (HOC9.out.farRow HOWN9.out hfo (by decide) (by decide))
 have HROW12 := Lib.hid hrow12
 have HFO := Lib.hid hfo
 clear hrow12 hfo hf_
 refine hK.out _ _ (HY12.out.at 0 _ rfl) (fun hHeld => ?_)
 clear hK K
 try simp only [Act.put, nrZ]
 refine wpAnyH_done (by kernel_rfl) ?_ _
 clear hHeld
 have HLL := Lib.hid (show LRd w12 (B + 2) (slv (some ⟨gL, 0, none⟩, sL2, sL3)) (D.set i { y with l := l }) from by
  have hgq : gq ≠ gL := fun he => rowApart HQO9.out HOWN9.out (by decide) gL rfl (by rw [← he]; rfl)
  refine ⟨Xs.set i (lsC { y with l := l } q'), ?_, ?_, fun g hg => ?_⟩
  ·refine ⟨by rw [List.length_set, List.length_set, HREC9.out.len], fun X hX => ?_, fun X hX => ?_, fun j X z hXj hzj => ?_⟩
   ·rcases List.mem_or_eq_of_mem_set hX with hX | rfl
    ·exact HREC9.out.sz X hX
    ·rfl
   ·rcases List.mem_or_eq_of_mem_set hX with hX | rfl
    ·exact HREC9.out.one X hX
    ·exact lsC_one _ _
   ·by_cases hij : i = j
    ·subst hij
     rw [List.getElem?_set_self (List.getElem?_eq_some_iff.1 HXI.out).1] at hXj
     rw [List.getElem?_set_self (List.getElem?_eq_some_iff.1 HY.out).1] at hzj
     cases hXj
     cases hzj
     refine ⟨q', rfl, HR'.out.keepB HFO.out (fun g hg hm => ?_), fun g hg => (HQO9.out.lt g (HBQ.out g hg)).1⟩
     have h1 := HBQ.out g hg
     simp only [slv, Value.ownBlock, Option.some.injEq] at h1
     simp [slv, Value.ownBlock] at hm
     omega
    ·rw [List.getElem?_set_ne hij] at hXj hzj
     obtain ⟨t, rfl, ht⟩ := HREC9.out.el j X z hXj hzj
     have h9 := rowFar ht HOWN9.out HFO.out (by decide)
     exact ⟨t, rfl, RowV.of_own h9, fun g hg => (h9.lt g hg).1⟩
  ·have hfl := flat_set (vs := [slv q']) (a := 4) HREC9.out.sz HXI.out (by simp)
   have hX' : (lsC y (some ⟨gq, 0, none⟩, l.length + 1, q3)).take 4 ++ [slv q'] ++ (lsC y (some ⟨gq, 0, none⟩, l.length + 1, q3)).drop (4 + [slv q'].length) = lsC { y with l := l } q' := rfl
   rw [hX'] at hfl
   rw [hfl, List.length_set, HN.out]
   exact RowV.of_own HROW12.out
  ·exact (HROW12.out.lt g hg).1)
 clear HREC9 HSEP HOWN9 HQO9 HXI HROW12 HFO HR' HBQ HY9 HB29 HF9 HOC9 HC9 HSL
 go_upto_region 9 with fail
 refine wp_region_lit ?_
 refine ldZ (load_all agg34 size34 (xs := two (slv (some ⟨gL, 0, none⟩, sL2, sL3)) (slv sC)) rfl HY12.out.at) ?_
 refine wpList_plain rfl (fun K hK => ?_); go_simp; refine hK _ _ ?_; clear hK K
 try simp only [Act.put, nrZ]
 obtain ⟨w13, hst, hb_, hf_⟩ := store_all (t := 31) (two (slv (some ⟨gL, 0, none⟩, sL2, sL3)) (slv sC)) size34 rfl (two_one _ _) HB212.out rfl
 refine stZ hst ?_
 clear hst
 iterate 2 (refine wpList_plain rfl (fun K hK => ?_); go_simp; refine hK _ _ ?_; clear hK K)
 refine wpList_nil ?_
 try simp only [Act.put, nrZ]
 have HR13 := Lib.hid hb_
 have HF13 := Lib.hid (HF12.out.own1 (S := []) (B := 0) hf_ (by have := HBS.out; omega))
 have HLL13 := Lib.hid ((LRd.low HLL.out hf_ (fun z hz => by rw [List.mem_singleton] at hz; omega)).base (B' := B) (by omega))
 have HCC13 := Lib.hid (HOC12.out.far HB212.out hf_ (by decide) (by decide))
 clear hb_ hf_
 go_wp2
 have hl := load_var agg34 size34 (xs := two (slv (some ⟨gL, 0, none⟩, sL2, sL3)) (slv sC)) rfl HR13.out.at
 refine bodyPost_ret (v := .tuple #[.agg (two (slv (some ⟨gL, 0, none⟩, sL2, sL3)) (slv sC)).toArray, .int .i64 k, .int .i64 0]) (by simp [results, Tryz.results16, as_addr, hl]) rfl ?_
 exact ⟨_, sC, rfl, by rw [HBS.out]; exact HLL13.out, by rw [HBS.out]; exact HCC13.out.rd, HF13.out⟩
structure Bd where
 s : ByteArray
 p : Int
 v : Int
def bdC (x : Bd) : List Value := [.string x.s, .int .i64 x.p, .int .i64 x.v]
theorem bdC_one (x : Bd) : ∀ u ∈ bdC x, u.oneCell' = true := by
 intro u hu
 simp only [bdC, List.mem_cons, List.not_mem_nil, or_false] at hu
 rcases hu with rfl | rfl | rfl <;> rfl
def ElB (w : World) (X : List Value) (y : Bd) : Prop := X = bdC y
abbrev BRow : World → Value → List Bd → Prop := RowR 3 ElB
theorem BRow.next {w w' : World} {v : Value} {T : List Bd} (h : BRow w v T) (f : Fr [] w w') : BRow w' v T := RowR.new h (fun X y h => h) f
def atB (s : ByteArray) (p : Int) (x : Bd) : Bool := decide (x.s = s ∧ x.p = p)
theorem refFind_any (vb : Value) (T : List Bd) (s : ByteArray) (p : Int) (w : World) (h : BRow w vb T) (hn : T.length ≤ 100000) :
  Calls Tryz.prog 83 #[vb, .agg #[.string s, .int .i64 p]] w fun e w' => e = .returned (.int .i64 (place (PN.pick (atB s p) T 0))) ∧ Fr [] w w' := by
 obtain ⟨a, c, rfl⟩ := h.val
 obtain ⟨n, hnl⟩ : ∃ n, T.length = n := ⟨_, rfl⟩
 have HN := Lib.hid hnl
 rw [hnl] at h hn ⊢
 obtain ⟨B, hB⟩ : ∃ B, w.heap.size = B := ⟨_, rfl⟩
 have HB := Lib.hid hB
 obtain ⟨wb, hwb⟩ : ∃ z, w.alloc (.cells #[.string s, .int .i64 p] 36) = z := ⟨_, rfl⟩
 have hb2 : Blk wb B 36 [.string s, .int .i64 p] := by
  rw [← hwb, ← hB]
  exact Blk.made w 36 [.string s, .int .i64 p]
 have hf : Fr [] w wb := by rw [← hwb]; exact (Fr.refl [] w).alloc _
 have HF := Lib.hid hf
 have HWB := Lib.hid hwb
 have HR := Lib.hid (BRow.next h hf)
 have HC2 := Lib.hid hb2
 clear hb2 hf hwb hB h hnl
 go_enter Tryz.func83, Tryz.ntmps83
 go_wp2
 rw [HWB.out]
 simp only [HB.out]
 go_loopw [5] (fun i wr => ∃ (wz : World) (q : Nat), wz = wr ∧ i = .int .i64 q ∧ q ≤ n ∧ (∀ x ∈ T.take q, atB s p x = false) ∧ Fr [] wb wr) (fun i _ => n - (intOf i).toNat)
 case atStart => exact ⟨_, 0, rfl, rfl, by omega, (fun x hx => by simp at hx), Fr.refl _ _⟩
 case round =>
  obtain ⟨wr, q, hwz, rfl, hq, hs, hF⟩ := hrel
  subst hwz
  have HS := Lib.hid hs
  have HW := Lib.hid hF
  have e0 : wr.cell? ⟨B, 0, none⟩ = some (.string s) := (HC2.out.keep hF (by simp)).at 0 _ rfl
  have e1 : wr.cell? ⟨B, 1, none⟩ = some (.int .i64 p) := (HC2.out.keep hF (by simp)).at 1 _ rfl
  clear hs hF
  by_cases hlt : q < n
  ·have hlt' : (q : Int) < (n : Int) := by omega
   have hq0 : (0 : Int) ≤ (q : Int) := by omega
   have hy := List.getElem?_eq_getElem (l := T) (i := q) (by rw [HN.out]; exact hlt)
   obtain ⟨y, hye⟩ : ∃ y, T[q]'(by rw [HN.out]; exact hlt) = y := ⟨_, rfl⟩
   rw [hye] at hy
   obtain ⟨g, off, cap, X, hv, hg, _, hl, rfl⟩ := (BRow.next HR.out HW.out).lies hy
   rw [HN.out] at hv
   simp only [Value.slice.injEq] at hv
   obtain ⟨rfl, _, rfl⟩ := hv
   have x1 := hl 0 _ rfl
   have x2 := hl 1 _ rfl
   rw [Nat.add_zero] at x1
   have heq := fun W => eqAdr y.s s y.p p W
   have HY := Lib.hid hy
   clear hy hye hl hg
   by_cases hr : y.s = s ∧ y.p = p
   ·rw [decide_eq_true hr] at heq
    have HP := Lib.hid (show place (PN.pick (atB s p) T 0) = (q : Int) from by rw [PN.pick_at HY.out HS.out (decide_eq_true hr)]; rfl)
    clear hr
    go_upto_region 4 with fail
    go_quiet (fail)
    go_wp2
    go_ret
    exact ⟨by rw [HP.out] <;> rfl, (HF.out.step HW.out).drewN _⟩
   ·rw [decide_eq_false hr] at heq
    have HT := Lib.hid (take_more HS.out HY.out (decide_eq_false hr))
    clear hr
    go_upto_region 4 with fail
    go_quiet (fail)
    go_wp2
    go_roundw
    case rel => exact ⟨_, q + 1, rfl, by go_num, by omega, HT.out, HW.out.drewN _⟩
    case measure => simp [intOf]; omega
  ·have hqn : q = n := by omega
   subst hqn
   have HP := Lib.hid (show place (PN.pick (atB s p) T 0) = -1 from by
    rw [PN.pick_end (fun x hx => HS.out x (by rw [List.take_of_length_le (by rw [HN.out]; exact Nat.le_refl _)]; exact hx))]
    rfl)
   go_wp2
   go_ret
   exact ⟨by rw [HP.out] <;> rfl, HF.out.step HW.out⟩
def portsB (T : List Bd) (s : ByteArray) : List Nat := (T.filter fun x => decide (x.s = s ∧ 49152 ≤ x.p)).map fun x => (x.p - 49152).toNat
def portB (T : List Bd) (s : ByteArray) (p : Int) : Int := if p = 0 then 49152 + (PN.free (portsB T s) : Int) else p
theorem portsB_mem (T : List Bd) (s : ByteArray) (k : Nat) : k ∈ portsB T s ↔ ∃ x ∈ T, atB s (49152 + (k : Int)) x = true := by
 unfold portsB
 simp only [List.mem_map, List.mem_filter, atB, decide_eq_true_eq]
 constructor
 ·rintro ⟨x, ⟨hx, h1, h2⟩, h3⟩
  exact ⟨x, hx, h1, by omega⟩
 ·rintro ⟨x, hx, h1, h2⟩
  exact ⟨x, ⟨hx, h1, by omega⟩, by omega⟩
theorem portsB_len (T : List Bd) (s : ByteArray) : (portsB T s).length ≤ T.length := by
 unfold portsB
 rw [List.length_map]
 exact List.length_filter_le _ _
theorem pickB_iff (T : List Bd) (s : ByteArray) (p : Int) : 0 ≤ place (PN.pick (atB s p) T 0) ↔ ∃ x ∈ T, atB s p x = true := by
 constructor
 ·intro h
  cases hp : PN.pick (atB s p) T 0 with
  | none => rw [hp] at h; simp [place] at h
  | some a =>
   obtain ⟨i, y⟩ := a
   obtain ⟨j, _, h2, h3⟩ := PN.pick_some hp
   exact ⟨y, List.mem_of_getElem? h2, h3⟩
 ·rintro ⟨x, hx, h1⟩
  cases hp : PN.pick (atB s p) T 0 with
  | none => exact absurd h1 (by rw [PN.pick_none hp x hx]; simp)
  | some a =>
   obtain ⟨i, y⟩ := a
   simp only [place]
   omega
theorem refFree_any (vb : Value) (T : List Bd) (s : ByteArray) (w : World) (h : BRow w vb T) (hn : T.length ≤ 1000) :
  Calls Tryz.prog 82 #[vb, .string s] w fun e w' => e = .returned (.int .i64 (49152 + (PN.free (portsB T s) : Int))) ∧ Fr [] w w' := by
 obtain ⟨h1, h2, h3⟩ := PN.free_spec (portsB T s)
 obtain ⟨k, hk⟩ : ∃ k, PN.free (portsB T s) = k := ⟨_, rfl⟩
 have hkn : k ≤ 1000 := by have := portsB_len T s; omega
 rw [hk] at h1 h2 ⊢
 have H1 := Lib.hid h1
 have H2 := Lib.hid h2
 have HF := Lib.hid (fun (p : Int) (W : World) (f : Fr [] w W) => refFind_any vb T s p W (h.next f) (by omega))
 clear h1 h2 h3 hk h
 go_enter Tryz.func82, Tryz.ntmps82
 go_wp2
 go_loopw [5] (fun i wr => ∃ (wz : World) (q : Nat), wz = wr ∧ i = .int .i64 (49152 + (q : Int)) ∧ q ≤ k ∧ Fr [] w wr) (fun i _ => 49152 + k - (intOf i).toNat)
 case atStart => exact ⟨_, 0, rfl, rfl, by omega, Fr.refl _ _⟩
 case round =>
  obtain ⟨wr, q, hwz, rfl, hq, hF⟩ := hrel
  subst hwz
  have HW := Lib.hid hF
  clear hF
  by_cases hlt : q < k
  ·have hg : decide ((0 : Int) ≤ place (PN.pick (atB s (49152 + (q : Int))) T 0)) = true := decide_eq_true ((pickB_iff T s _).2 ((portsB_mem T s q).1 (H2.out q hlt)))
   have HFF := Lib.hid (HF.out (49152 + (q : Int)) _ HW.out)
   obtain ⟨pl, hpl⟩ : ∃ z, place (PN.pick (atB s (49152 + (q : Int))) T 0) = z := ⟨_, rfl⟩
   rw [hpl] at hg HFF
   clear hpl
   go_wp2_with fail
   refine HFF.out.mono ?_
   rintro e w1 ⟨rfl, f1⟩
   go_wp2
   go_roundw
   case rel => exact ⟨_, q + 1, rfl, by go_num, by omega, HW.out.step f1⟩
   case measure => simp [intOf]; omega
  ·obtain rfl : q = k := by omega
   have hg : decide ((0 : Int) ≤ place (PN.pick (atB s (49152 + (q : Int))) T 0)) = false := decide_eq_false (fun h => H1.out ((portsB_mem T s q).2 ((pickB_iff T s _).1 h)))
   have HFF := Lib.hid (HF.out (49152 + (q : Int)) _ HW.out)
   obtain ⟨pl, hpl⟩ : ∃ z, place (PN.pick (atB s (49152 + (q : Int))) T 0) = z := ⟨_, rfl⟩
   rw [hpl] at hg HFF
   clear hpl
   go_wp2_with fail
   refine HFF.out.mono ?_
   rintro e w1 ⟨rfl, f1⟩
   go_wp2
   go_ret
   exact ⟨rfl, HW.out.step f1⟩
theorem refCmp_any (s1 s2 : ByteArray) (p1 p2 : Int) (w : World) :
  Calls Tryz.prog 84 #[.agg #[.string s1, .int .i64 p1], .agg #[.string s2, .int .i64 p2]] w fun e w' => ∃ c : Int, e = .returned (.int .i64 c) ∧ Fr [] w w' := by
 have f2 : Fr [] w ((w.alloc (.cells #[.string s1, .int .i64 p1] 36)).alloc (.cells #[.string s2, .int .i64 p2] 36)) := ((Fr.refl [] w).alloc _).alloc _
 have heq := fun W => eqAdr s1 s2 p1 p2 W
 cases h1 : Op.bytesLess s1.toList s2.toList <;> cases h2 : (s1.toList == s2.toList) <;> cases h3 : decide (p1 < p2) <;> cases h4 : decide (s1 = s2 ∧ p1 = p2)
 all_goals
  rw [h4] at heq
  clear h4
  go_enter Tryz.func84, Tryz.ntmps84
  go_wp2
  go_ret
  exact ⟨_, rfl, f2⟩
theorem adr_one : ∀ {L : List LB}, (L.Pairwise fun x y => ¬ (x.s = y.s ∧ x.p = y.p)) → ∀ x ∈ L, ∀ y ∈ L, x.s = y.s → x.p = y.p → y = x
 | [], _, x, hx, _, _, _, _ => by cases hx
 | a :: r, h, x, hx, y, hy, h1, h2 => by
  rw [List.pairwise_cons] at h
  rcases List.mem_cons.1 hx with rfl | hx'
  ·rcases List.mem_cons.1 hy with rfl | hy'
   ·rfl
   ·exact absurd ⟨h1, h2⟩ (h.1 y hy')
  ·rcases List.mem_cons.1 hy with rfl | hy'
   ·exact absurd ⟨h1.symm, h2.symm⟩ (h.1 x hx')
   ·exact adr_one h.2 x hx' y hy' h1 h2
theorem Live.inv {K : Nat → Prop} {B : NB} {N : PN.Net} {G : Nat} {w : World} (h : Live K B N G w) : PN.Inv N := by
 obtain ⟨own, L, C, h1, rfl, _⟩ := h
 refine ⟨?_, ?_, ?_, ?_, ?_, ?_, ?_⟩
 ·have := h1.refs
  simpa [plainN, LB.pl, Function.comp_def] using this
 ·have := h1.crefs
  simpa [plainN, CB.pc, Function.comp_def] using this
 ·intro x hx y hy e1 e2
  obtain ⟨a, ha, rfl⟩ := List.mem_map.1 hx
  obtain ⟨b, hb, rfl⟩ := List.mem_map.1 hy
  rw [adr_one h1.adrs a ha b hb e1 e2]
 ·intro k hk
  have hk' : k ∈ qs L := by rw [← waitsOf_qs]; exact hk
  obtain ⟨y, hy, h2, h3⟩ := h1.queue k hk'
  exact ⟨y.pc, List.mem_map.2 ⟨y, hy, rfl⟩, h2, h3⟩
 ·intro y hy
  obtain ⟨a, ha, rfl⟩ := List.mem_map.1 hy
  exact (h1.cs a ha).op
 ·simpa [plainN] using h1.nl
 ·simpa [plainN] using h1.nc
theorem nConnect_none (vL vC : Value) (D : List PN.PL) (C : List PG) (s : ByteArray) (p c : Int) (w : World) (hL : LRow w vL D) (hC : CRow w vC C) (hs : s.size ≤ 1000000) (hv : addrB s.data.toList p = true) (hc : 0 ≤ c ∧ c ≤ 4096) (hn : NetFit D C) (hi : PN.pick (PN.atP s p) D 0 = none) :
  Calls Tryz.prog 41 #[.agg #[vL, vC], .agg #[.string s, .int .i64 p], .int .i64 c] w fun e w' => e = .returned (.tuple #[.agg (two vL vC).toArray, .int .i64 0, .int .i64 15]) ∧ Fr [] w w' := by
 obtain ⟨n, hnl⟩ : ∃ n, D.length = n := ⟨_, rfl⟩
 obtain ⟨m, hml⟩ : ∃ m, C.length = m := ⟨_, rfl⟩
 obtain ⟨aL, cL, rfl⟩ := hL.val
 obtain ⟨aC, cC, rfl⟩ := hC.val
 rw [hnl] at hL ⊢
 rw [hml] at hC ⊢
 have HN := Lib.hid hnl
 have HM := Lib.hid hml
 obtain ⟨B, hB⟩ : ∃ B, w.heap.size = B := ⟨_, rfl⟩
 obtain ⟨u1, hu1⟩ : ∃ z, w.alloc (.cells #[.slice aL n cL, .slice aC m cC] 31) = z := ⟨_, rfl⟩
 obtain ⟨u2, hu2⟩ : ∃ z, u1.alloc (.cells #[.string s, .int .i64 p] 36) = z := ⟨_, rfl⟩
 obtain ⟨wA, hwA⟩ : ∃ z, u2.alloc (.cells #[.slice none 0 0, .slice none 0 0] 31) = z := ⟨_, rfl⟩
 have s1 : u1.heap.size = B + 1 := by rw [← hu1, ← hB]; simp
 have s2 : u2.heap.size = B + 2 := by rw [← hu2]; simp [s1]
 have f1 : Fr [] w u1 := by rw [← hu1]; exact (Fr.refl [] w).alloc _
 have f2 : Fr [] u1 u2 := by rw [← hu2]; exact (Fr.refl [] u1).alloc _
 have f3 : Fr [] u2 wA := by rw [← hwA]; exact (Fr.refl [] u2).alloc _
 have hb0 : Blk wA B 31 (two (.slice aL n cL) (.slice aC m cC)) := by
  have h := Blk.made w 31 (two (.slice aL n cL) (.slice aC m cC))
  rw [hB] at h
  exact ((show Blk u1 B 31 _ from by rw [← hu1]; exact h).keep f2 (by simp)).keep f3 (by simp)
 have hb1 : Blk wA (B + 1) 36 (two (.string s) (.int .i64 p)) := by
  have h := Blk.made u1 36 (two (.string s) (.int .i64 p))
  rw [s1] at h
  exact (show Blk u2 (B + 1) 36 _ from by rw [← hu2]; exact h).keep f3 (by simp)
 have hb2 : Blk wA (B + 2) 31 zNt := by
  have h := Blk.made u2 31 zNt
  rw [s2] at h
  rw [← hwA]
  exact h
 have hf : Fr [] w wA := (f1.step f2).step f3
 have HB0 := Lib.hid hb0
 have HB1 := Lib.hid hb1
 have HB2 := Lib.hid hb2
 have HF := Lib.hid hf
 have HBS := Lib.hid hB
 have HU1 := Lib.hid hu1
 have HU2 := Lib.hid hu2
 have HWA := Lib.hid hwA
 have HL := Lib.hid hL
 have HC := Lib.hid hC
 have HS1 := Lib.hid s1
 have HS2 := Lib.hid s2
 clear hb0 hb1 hb2 hf hB hu1 hu2 hwA f1 f2 f3 s1 s2 hL hC hnl hml
 
 have HFIT := Lib.hid hn
 have HV := Lib.hid hv
 have HI := Lib.hid hi
 clear hn hv hi
 go_enter Tryz.func41, Tryz.ntmps41
 go_upto_region 1 with fail
 simp only [HU1.out, HU2.out, HWA.out, HBS.out, HS1.out, HS2.out]
 refine wp_region_lit ?_
 iterate 2 (refine wpList_plain rfl (fun K hK => ?_); go_simp; refine hK _ _ ?_; clear hK K)
 try simp only [Act.put, nrZ]
 refine wpList_plain rfl (fun K hK => ?_)
 go_simp
 refine (dnNew_ok c hc _).mono ?_
 rintro e w1 ⟨rfl, f1⟩
 refine hK _ _ ?_
 clear hK K
 try simp only [Act.put, nrZ]
 iterate 4 (refine wpList_plain rfl (fun K hK => ?_); go_simp; refine hK _ _ ?_; clear hK K)
 try simp only [Act.put, nrZ]
 obtain ⟨E1, hE_⟩ : ∃ E, w1.heap.size = E := ⟨_, rfl⟩
 obtain ⟨wx, hw_⟩ : ∃ z, w1.alloc (.cells #[.int .i64 0, .slice none 0 0, .bool false, .slice none 0 0, .int .i64 0, .int .i64 0, .int .i64 0, .int .i64 0, .slice none 0 0, .bool false, .slice none 0 0, .int .i64 0, .int .i64 0, .int .i64 0, .bool false, .bool false] 99) = z := ⟨_, rfl⟩
 have hbx : Blk wx E1 99 zCn := by rw [← hw_, ← hE_]; exact Blk.made w1 99 zCn
 have fx : Fr [] w1 wx := by rw [← hw_]; exact (Fr.refl [] w1).alloc _
 rw [hw_]
 simp only [hE_]
 have HE1 := Lib.hid (show w.heap.size ≤ E1 ∧ B < E1 ∧ B + 1 < E1 ∧ B + 2 < E1 from by rw [← hE_]; exact ⟨(HF.out.step f1).size, (HB0.out.keep f1 (by simp)).lt, (HB1.out.keep f1 (by simp)).lt, (HB2.out.keep f1 (by simp)).lt⟩)
 have HX := Lib.hid hbx
 have HF1 := Lib.hid ((HF.out.step f1).step fx)
 have HA0 := Lib.hid ((HB0.out.keep f1 (by simp)).keep fx (by simp))
 have HA1 := Lib.hid ((HB1.out.keep f1 (by simp)).keep fx (by simp))
 have HA2 := Lib.hid ((HB2.out.keep f1 (by simp)).keep fx (by simp))
 clear f1 fx hbx hw_ hE_ HB0 HB1 HB2 HF
 obtain ⟨w2, hst, hb_, hf_⟩ := store_all (t := 99) (cnL c 0 0 0 0 false false) size94 rfl (cnL_one _ _ _ _ _ _ _) HX.out rfl
 refine stZ hst ?_
 clear hst
 refine wpList_plain rfl (fun K hK => ?_); go_simp; refine hK _ _ ?_; clear hK K
 refine wpList_nil ?_
 try simp only [Act.put, nrZ]
 have HF2 := Lib.hid (HF1.out.own1 (S := []) (B := 0) hf_ HE1.out.1)
 have HB02 := Lib.hid (HA0.out.keep hf_ (fun hm => by rw [List.mem_singleton] at hm; have := HE1.out; omega))
 have HB12 := Lib.hid (HA1.out.keep hf_ (fun hm => by rw [List.mem_singleton] at hm; have := HE1.out; omega))
 have HB22 := Lib.hid (HA2.out.keep hf_ (fun hm => by rw [List.mem_singleton] at hm; have := HE1.out; omega))
 clear hb_ hf_ HX HF1 HA0 HA1 HA2
 have e0 : w2.cell? ⟨B + 1, 0, none⟩ = some (.string s) := HB12.out.at 0 _ rfl
 have e1 : w2.cell? ⟨B + 1, 1, none⟩ = some (.int .i64 p) := HB12.out.at 1 _ rfl
 have HAV := Lib.hid (fun W : World => by
  have h := refValid_any s p hs W
  rw [HV.out] at h
  exact h)
 go_wp2_with fail
 refine (HAV.out _).mono ?_
 rintro e w3 ⟨rfl, f3⟩
 have HF3 := Lib.hid (HF2.out.step f3)
 have HB03 := Lib.hid (HB02.out.keep f3 (by simp))
 have HB13 := Lib.hid (HB12.out.keep f3 (by simp))
 have HB23 := Lib.hid (HB22.out.keep f3 (by simp))
 clear f3 HF2 HB02 HB12 HB22 HAV e0 e1
 have e0 : w3.cell? ⟨B + 1, 0, none⟩ = some (.string s) := HB13.out.at 0 _ rfl
 have e1 : w3.cell? ⟨B + 1, 1, none⟩ = some (.int .i64 p) := HB13.out.at 1 _ rfl
 go_upto_region 4 with fail
 refine wp_region_lit ?_
 refine ldZ (load_all agg34 size34 (xs := two (.slice aL n cL) (.slice aC m cC)) rfl HB03.out.at) ?_
 refine wpList_plain rfl (fun K hK => ?_); go_simp; refine hK _ _ ?_; clear hK K
 try simp only [Act.put, nrZ]
 refine wpList_plain rfl (fun K hK => ?_)
 go_simp
 refine (atG (.slice aL n cL) (.slice aC m cC) D s p _ (LRow.next HL.out HF3.out) (by rw [HN.out]; have := HFIT.out.nl; rw [HN.out] at this; omega)).mono ?_
 rintro e w4 ⟨rfl, f4⟩
 refine hK _ _ ?_
 clear hK K
 rw [HI.out]
 simp only [place]
 try simp only [Act.put, nrZ]
 refine wpList_plain rfl (fun K hK => ?_); go_simp; refine hK _ _ ?_; clear hK K
 refine wpList_nil ?_
 try simp only [Act.put, nrZ]
 have HF4 := Lib.hid (HF3.out.step f4)
 have HB04 := Lib.hid (HB03.out.keep f4 (by simp))
 have HB24 := Lib.hid (HB23.out.keep f4 (by simp))
 clear f4 HF3 HB03 HB13 HB23 e0 e1
 go_upto_region 6 with fail
 refine wp_region_lit ?_
 refine ldZ (load_all agg34 size34 (xs := two (.slice aL n cL) (.slice aC m cC)) rfl HB04.out.at) ?_
 obtain ⟨w9, hst, hb_, hf_⟩ := store_all (t := 31) (two (.slice aL n cL) (.slice aC m cC)) size34 rfl (two_oneS _ _ _ _ _ _) HB24.out rfl
 refine stZ hst ?_
 clear hst
 iterate 2 (refine wpList_plain rfl (fun K hK => ?_); go_simp; refine hK _ _ ?_; clear hK K)
 refine wpList_nil ?_
 try simp only [Act.put, nrZ]
 have HR9 := Lib.hid hb_
 have HF9 := Lib.hid (HF4.out.own1 (S := []) (B := 0) hf_ (by have := HBS.out; omega))
 clear hb_ hf_
 go_wp2
 have hl := load_var agg34 size34 (xs := two (.slice aL n cL) (.slice aC m cC)) rfl HR9.out.at
 refine bodyPost_ret (v := .tuple #[.agg (two (.slice aL n cL) (.slice aC m cC)).toArray, .int .i64 0, .int .i64 15]) (by simp [results, Tryz.results41, as_addr, hl]) rfl ?_
 exact ⟨rfl, HF9.out⟩
theorem nConnect_block (vL vC : Value) (D : List PN.PL) (C : List PG) (s : ByteArray) (p c : Int) (w : World) (hL : LRow w vL D) (hC : CRow w vC C) (hs : s.size ≤ 1000000) (hv : addrB s.data.toList p = true) (hc : 0 ≤ c ∧ c ≤ 4096) (hn : NetFit D C) (i : Nat) (y : PN.PL) (hi : PN.pick (PN.atP s p) D 0 = some (i, y)) (hq : (y.l.length : Int) = y.most) :
  Calls Tryz.prog 41 #[.agg #[vL, vC], .agg #[.string s, .int .i64 p], .int .i64 c] w fun e w' => e = .returned (.tuple #[.agg (two vL vC).toArray, .int .i64 0, .int .i64 16]) ∧ Fr [] w w' := by
 obtain ⟨n, hnl⟩ : ∃ n, D.length = n := ⟨_, rfl⟩
 obtain ⟨m, hml⟩ : ∃ m, C.length = m := ⟨_, rfl⟩
 obtain ⟨aL, cL, rfl⟩ := hL.val
 obtain ⟨aC, cC, rfl⟩ := hC.val
 rw [hnl] at hL ⊢
 rw [hml] at hC ⊢
 have HN := Lib.hid hnl
 have HM := Lib.hid hml
 obtain ⟨B, hB⟩ : ∃ B, w.heap.size = B := ⟨_, rfl⟩
 obtain ⟨u1, hu1⟩ : ∃ z, w.alloc (.cells #[.slice aL n cL, .slice aC m cC] 31) = z := ⟨_, rfl⟩
 obtain ⟨u2, hu2⟩ : ∃ z, u1.alloc (.cells #[.string s, .int .i64 p] 36) = z := ⟨_, rfl⟩
 obtain ⟨wA, hwA⟩ : ∃ z, u2.alloc (.cells #[.slice none 0 0, .slice none 0 0] 31) = z := ⟨_, rfl⟩
 have s1 : u1.heap.size = B + 1 := by rw [← hu1, ← hB]; simp
 have s2 : u2.heap.size = B + 2 := by rw [← hu2]; simp [s1]
 have f1 : Fr [] w u1 := by rw [← hu1]; exact (Fr.refl [] w).alloc _
 have f2 : Fr [] u1 u2 := by rw [← hu2]; exact (Fr.refl [] u1).alloc _
 have f3 : Fr [] u2 wA := by rw [← hwA]; exact (Fr.refl [] u2).alloc _
 have hb0 : Blk wA B 31 (two (.slice aL n cL) (.slice aC m cC)) := by
  have h := Blk.made w 31 (two (.slice aL n cL) (.slice aC m cC))
  rw [hB] at h
  exact ((show Blk u1 B 31 _ from by rw [← hu1]; exact h).keep f2 (by simp)).keep f3 (by simp)
 have hb1 : Blk wA (B + 1) 36 (two (.string s) (.int .i64 p)) := by
  have h := Blk.made u1 36 (two (.string s) (.int .i64 p))
  rw [s1] at h
  exact (show Blk u2 (B + 1) 36 _ from by rw [← hu2]; exact h).keep f3 (by simp)
 have hb2 : Blk wA (B + 2) 31 zNt := by
  have h := Blk.made u2 31 zNt
  rw [s2] at h
  rw [← hwA]
  exact h
 have hf : Fr [] w wA := (f1.step f2).step f3
 have HB0 := Lib.hid hb0
 have HB1 := Lib.hid hb1
 have HB2 := Lib.hid hb2
 have HF := Lib.hid hf
 have HBS := Lib.hid hB
 have HU1 := Lib.hid hu1
 have HU2 := Lib.hid hu2
 have HWA := Lib.hid hwA
 have HL := Lib.hid hL
 have HC := Lib.hid hC
 have HS1 := Lib.hid s1
 have HS2 := Lib.hid s2
 clear hb0 hb1 hb2 hf hB hu1 hu2 hwA f1 f2 f3 s1 s2 hL hC hnl hml
 
 have HFIT := Lib.hid hn
 have HV := Lib.hid hv
 have hY := place_some hi
 have HI := Lib.hid hi
 have hin : i < n := by rw [← HN.out]; exact (List.getElem?_eq_some_iff.1 hY).1
 have HY := Lib.hid hY
 clear hn hv hY hi
 go_enter Tryz.func41, Tryz.ntmps41
 go_upto_region 1 with fail
 simp only [HU1.out, HU2.out, HWA.out, HBS.out, HS1.out, HS2.out]
 refine wp_region_lit ?_
 iterate 2 (refine wpList_plain rfl (fun K hK => ?_); go_simp; refine hK _ _ ?_; clear hK K)
 try simp only [Act.put, nrZ]
 refine wpList_plain rfl (fun K hK => ?_)
 go_simp
 refine (dnNew_ok c hc _).mono ?_
 rintro e w1 ⟨rfl, f1⟩
 refine hK _ _ ?_
 clear hK K
 try simp only [Act.put, nrZ]
 iterate 4 (refine wpList_plain rfl (fun K hK => ?_); go_simp; refine hK _ _ ?_; clear hK K)
 try simp only [Act.put, nrZ]
 obtain ⟨E1, hE_⟩ : ∃ E, w1.heap.size = E := ⟨_, rfl⟩
 obtain ⟨wx, hw_⟩ : ∃ z, w1.alloc (.cells #[.int .i64 0, .slice none 0 0, .bool false, .slice none 0 0, .int .i64 0, .int .i64 0, .int .i64 0, .int .i64 0, .slice none 0 0, .bool false, .slice none 0 0, .int .i64 0, .int .i64 0, .int .i64 0, .bool false, .bool false] 99) = z := ⟨_, rfl⟩
 have hbx : Blk wx E1 99 zCn := by rw [← hw_, ← hE_]; exact Blk.made w1 99 zCn
 have fx : Fr [] w1 wx := by rw [← hw_]; exact (Fr.refl [] w1).alloc _
 rw [hw_]
 simp only [hE_]
 have HE1 := Lib.hid (show w.heap.size ≤ E1 ∧ B < E1 ∧ B + 1 < E1 ∧ B + 2 < E1 from by rw [← hE_]; exact ⟨(HF.out.step f1).size, (HB0.out.keep f1 (by simp)).lt, (HB1.out.keep f1 (by simp)).lt, (HB2.out.keep f1 (by simp)).lt⟩)
 have HX := Lib.hid hbx
 have HF1 := Lib.hid ((HF.out.step f1).step fx)
 have HA0 := Lib.hid ((HB0.out.keep f1 (by simp)).keep fx (by simp))
 have HA1 := Lib.hid ((HB1.out.keep f1 (by simp)).keep fx (by simp))
 have HA2 := Lib.hid ((HB2.out.keep f1 (by simp)).keep fx (by simp))
 clear f1 fx hbx hw_ hE_ HB0 HB1 HB2 HF
 obtain ⟨w2, hst, hb_, hf_⟩ := store_all (t := 99) (cnL c 0 0 0 0 false false) size94 rfl (cnL_one _ _ _ _ _ _ _) HX.out rfl
 refine stZ hst ?_
 clear hst
 refine wpList_plain rfl (fun K hK => ?_); go_simp; refine hK _ _ ?_; clear hK K
 refine wpList_nil ?_
 try simp only [Act.put, nrZ]
 have HF2 := Lib.hid (HF1.out.own1 (S := []) (B := 0) hf_ HE1.out.1)
 have HB02 := Lib.hid (HA0.out.keep hf_ (fun hm => by rw [List.mem_singleton] at hm; have := HE1.out; omega))
 have HB12 := Lib.hid (HA1.out.keep hf_ (fun hm => by rw [List.mem_singleton] at hm; have := HE1.out; omega))
 have HB22 := Lib.hid (HA2.out.keep hf_ (fun hm => by rw [List.mem_singleton] at hm; have := HE1.out; omega))
 clear hb_ hf_ HX HF1 HA0 HA1 HA2
 have e0 : w2.cell? ⟨B + 1, 0, none⟩ = some (.string s) := HB12.out.at 0 _ rfl
 have e1 : w2.cell? ⟨B + 1, 1, none⟩ = some (.int .i64 p) := HB12.out.at 1 _ rfl
 have HAV := Lib.hid (fun W : World => by
  have h := refValid_any s p hs W
  rw [HV.out] at h
  exact h)
 go_wp2_with fail
 refine (HAV.out _).mono ?_
 rintro e w3 ⟨rfl, f3⟩
 have HF3 := Lib.hid (HF2.out.step f3)
 have HB03 := Lib.hid (HB02.out.keep f3 (by simp))
 have HB13 := Lib.hid (HB12.out.keep f3 (by simp))
 have HB23 := Lib.hid (HB22.out.keep f3 (by simp))
 clear f3 HF2 HB02 HB12 HB22 HAV e0 e1
 have e0 : w3.cell? ⟨B + 1, 0, none⟩ = some (.string s) := HB13.out.at 0 _ rfl
 have e1 : w3.cell? ⟨B + 1, 1, none⟩ = some (.int .i64 p) := HB13.out.at 1 _ rfl
 go_upto_region 4 with fail
 refine wp_region_lit ?_
 refine ldZ (load_all agg34 size34 (xs := two (.slice aL n cL) (.slice aC m cC)) rfl HB03.out.at) ?_
 refine wpList_plain rfl (fun K hK => ?_); go_simp; refine hK _ _ ?_; clear hK K
 try simp only [Act.put, nrZ]
 refine wpList_plain rfl (fun K hK => ?_)
 go_simp
 refine (atG (.slice aL n cL) (.slice aC m cC) D s p _ (LRow.next HL.out HF3.out) (by rw [HN.out]; have := HFIT.out.nl; rw [HN.out] at this; omega)).mono ?_
 rintro e w4 ⟨rfl, f4⟩
 refine hK _ _ ?_
 clear hK K
 rw [HI.out]
 simp only [place]
 try simp only [Act.put, nrZ]
 refine wpList_plain rfl (fun K hK => ?_); go_simp; refine hK _ _ ?_; clear hK K
 refine wpList_nil ?_
 try simp only [Act.put, nrZ]
 have HF4 := Lib.hid (HF3.out.step f4)
 have HB04 := Lib.hid (HB03.out.keep f4 (by simp))
 have HB24 := Lib.hid (HB23.out.keep f4 (by simp))
 clear f4 HF3 HB03 HB13 HB23 e0 e1
 have hi0 : (0 : Int) ≤ (i : Int) := by omega
 have hin' : (i : Int) < (n : Int) := by omega
 have dlt : decide ((i : Int) < 0) = false := decide_eq_false (by omega)
 go_upto_region 7 with fail
 obtain ⟨g, off, cap, X, hvv, hg, hX, hl, q0, rfl, hrow⟩ := HL.out.lies HY.out
 rw [HN.out] at hvv
 simp only [Value.slice.injEq] at hvv
 obtain ⟨rfl, _, rfl⟩ := hvv
 have HLY := Lib.hid hl
 have HROW := Lib.hid hrow
 have hql : q0.2.1 = y.l.length := by
  obtain ⟨a, c', he⟩ := hrow.val
  simp only [slv, Value.slice.injEq] at he
  exact he.2.1
 obtain ⟨Q1, Q2, Q3⟩ := q0
 simp only at hql
 subst hql
 clear hl hrow hg hX
 obtain ⟨w5, hw5⟩ : ∃ z, w4.drew = z := ⟨_, rfl⟩
 have f5 : Fr [] w4 w5 := by rw [← hw5]; exact (Fr.refl [] w4).drew
 have HF5 := Lib.hid (HF4.out.step f5)
 have HB05 := Lib.hid (HB04.out.keep f5 (by simp))
 have HB25 := Lib.hid (HB24.out.keep f5 (by simp))
 have HW5 := Lib.hid hw5
 clear f5 hw5 HF4 HB04 HB24
 refine wp_region_held_drew (S := fun w' => w'.cell? ⟨B, 0, none⟩ = some (.slice (some ⟨g, off, none⟩) n cL) ∧ w'.cell? ⟨g, off + i * 5 + 3, none⟩ = some (.int .i64 y.most) ∧ w'.cell? ⟨g, off + i * 5 + 4, none⟩ = some (.slice Q1 y.l.length Q3)) (by kernel_rfl) (by rw [HW5.out]; exact ⟨HB05.out.at 0 _ rfl, HF5.out.keep (HLY.out 3 _ rfl) (by simp), HF5.out.keep (HLY.out 4 _ rfl) (by simp)⟩) (fun hHeld => ?_)
 rw [HW5.out] at hHeld ⊢
 refine tkZ 0 ?_
 refine tkZ 1 ?_
 refine tkZ 2 ?_
 refine tkZ 3 ?_
 refine tkZ 4 ?_
 refine tkZ 5 ?_
 refine tkZ 6 ?_
 refine tkZ 7 ?_
 refine tkZ 8 ?_
 refine tkZ 9 ?_
 refine tkZ 10 ?_
 refine tkZ 11 ?_
 refine tkZ 12 ?_
 refine tkZ 13 ?_
 refine tkZ 14 ?_
 refine tkZ 15 ?_
 refine wpAnyH_done (by kernel_rfl) ?_ _
 clear hHeld
 have deq : ((y.l.length : Int) == y.most) = true := beq_iff_eq.2 hq
 have deq2 : decide ((y.l.length : Int) = y.most) = true := decide_eq_true hq
 clear hq
 go_upto_region 8 with fail
 refine wp_region_lit ?_
 refine ldZ (load_all agg34 size34 (xs := two (.slice (some ⟨g, off, none⟩) n cL) (.slice aC m cC)) rfl HB05.out.at) ?_
 obtain ⟨w9, hst, hb_, hf_⟩ := store_all (t := 31) (two (.slice (some ⟨g, off, none⟩) n cL) (.slice aC m cC)) size34 rfl (two_oneS _ _ _ _ _ _) HB25.out rfl
 refine stZ hst ?_
 clear hst
 iterate 2 (refine wpList_plain rfl (fun K hK => ?_); go_simp; refine hK _ _ ?_; clear hK K)
 refine wpList_nil ?_
 try simp only [Act.put, nrZ]
 have HR9 := Lib.hid hb_
 have HF9 := Lib.hid (HF5.out.own1 (S := []) (B := 0) hf_ (by have := HBS.out; omega))
 clear hb_ hf_
 go_wp2
 have hl := load_var agg34 size34 (xs := two (.slice (some ⟨g, off, none⟩) n cL) (.slice aC m cC)) rfl HR9.out.at
 refine bodyPost_ret (v := .tuple #[.agg (two (.slice (some ⟨g, off, none⟩) n cL) (.slice aC m cC)).toArray, .int .i64 0, .int .i64 16]) (by simp [results, Tryz.results41, as_addr, hl]) rfl ?_
 exact ⟨rfl, HF9.out⟩
theorem nConnect_full (vL vC : Value) (D : List PN.PL) (C : List PG) (s : ByteArray) (p c : Int) (w : World) (hL : LRow w vL D) (hC : CRow w vC C) (hs : s.size ≤ 1000000) (hv : addrB s.data.toList p = true) (hc : 0 ≤ c ∧ c ≤ 4096) (hn : NetFit D C) (hm : 128 ≤ C.length) (i : Nat) (y : PN.PL) (hi : PN.pick (PN.atP s p) D 0 = some (i, y)) (hq : (y.l.length : Int) ≠ y.most) :
  Calls Tryz.prog 41 #[.agg #[vL, vC], .agg #[.string s, .int .i64 p], .int .i64 c] w fun e w' => e = .returned (.tuple #[.agg (two vL vC).toArray, .int .i64 0, .int .i64 7]) ∧ Fr [] w w' := by
 obtain ⟨n, hnl⟩ : ∃ n, D.length = n := ⟨_, rfl⟩
 obtain ⟨m, hml⟩ : ∃ m, C.length = m := ⟨_, rfl⟩
 obtain ⟨aL, cL, rfl⟩ := hL.val
 obtain ⟨aC, cC, rfl⟩ := hC.val
 rw [hnl] at hL ⊢
 rw [hml] at hC ⊢
 have HN := Lib.hid hnl
 have HM := Lib.hid hml
 obtain ⟨B, hB⟩ : ∃ B, w.heap.size = B := ⟨_, rfl⟩
 obtain ⟨u1, hu1⟩ : ∃ z, w.alloc (.cells #[.slice aL n cL, .slice aC m cC] 31) = z := ⟨_, rfl⟩
 obtain ⟨u2, hu2⟩ : ∃ z, u1.alloc (.cells #[.string s, .int .i64 p] 36) = z := ⟨_, rfl⟩
 obtain ⟨wA, hwA⟩ : ∃ z, u2.alloc (.cells #[.slice none 0 0, .slice none 0 0] 31) = z := ⟨_, rfl⟩
 have s1 : u1.heap.size = B + 1 := by rw [← hu1, ← hB]; simp
 have s2 : u2.heap.size = B + 2 := by rw [← hu2]; simp [s1]
 have f1 : Fr [] w u1 := by rw [← hu1]; exact (Fr.refl [] w).alloc _
 have f2 : Fr [] u1 u2 := by rw [← hu2]; exact (Fr.refl [] u1).alloc _
 have f3 : Fr [] u2 wA := by rw [← hwA]; exact (Fr.refl [] u2).alloc _
 have hb0 : Blk wA B 31 (two (.slice aL n cL) (.slice aC m cC)) := by
  have h := Blk.made w 31 (two (.slice aL n cL) (.slice aC m cC))
  rw [hB] at h
  exact ((show Blk u1 B 31 _ from by rw [← hu1]; exact h).keep f2 (by simp)).keep f3 (by simp)
 have hb1 : Blk wA (B + 1) 36 (two (.string s) (.int .i64 p)) := by
  have h := Blk.made u1 36 (two (.string s) (.int .i64 p))
  rw [s1] at h
  exact (show Blk u2 (B + 1) 36 _ from by rw [← hu2]; exact h).keep f3 (by simp)
 have hb2 : Blk wA (B + 2) 31 zNt := by
  have h := Blk.made u2 31 zNt
  rw [s2] at h
  rw [← hwA]
  exact h
 have hf : Fr [] w wA := (f1.step f2).step f3
 have HB0 := Lib.hid hb0
 have HB1 := Lib.hid hb1
 have HB2 := Lib.hid hb2
 have HF := Lib.hid hf
 have HBS := Lib.hid hB
 have HU1 := Lib.hid hu1
 have HU2 := Lib.hid hu2
 have HWA := Lib.hid hwA
 have HL := Lib.hid hL
 have HC := Lib.hid hC
 have HS1 := Lib.hid s1
 have HS2 := Lib.hid s2
 clear hb0 hb1 hb2 hf hB hu1 hu2 hwA f1 f2 f3 s1 s2 hL hC hnl hml
 
 have HFIT := Lib.hid hn
 have HV := Lib.hid hv
 have hY := place_some hi
 have HI := Lib.hid hi
 have hin : i < n := by rw [← HN.out]; exact (List.getElem?_eq_some_iff.1 hY).1
 have HY := Lib.hid hY
 clear hn hv hY hi
 go_enter Tryz.func41, Tryz.ntmps41
 go_upto_region 1 with fail
 simp only [HU1.out, HU2.out, HWA.out, HBS.out, HS1.out, HS2.out]
 refine wp_region_lit ?_
 iterate 2 (refine wpList_plain rfl (fun K hK => ?_); go_simp; refine hK _ _ ?_; clear hK K)
 try simp only [Act.put, nrZ]
 refine wpList_plain rfl (fun K hK => ?_)
 go_simp
 refine (dnNew_ok c hc _).mono ?_
 rintro e w1 ⟨rfl, f1⟩
 refine hK _ _ ?_
 clear hK K
 try simp only [Act.put, nrZ]
 iterate 4 (refine wpList_plain rfl (fun K hK => ?_); go_simp; refine hK _ _ ?_; clear hK K)
 try simp only [Act.put, nrZ]
 obtain ⟨E1, hE_⟩ : ∃ E, w1.heap.size = E := ⟨_, rfl⟩
 obtain ⟨wx, hw_⟩ : ∃ z, w1.alloc (.cells #[.int .i64 0, .slice none 0 0, .bool false, .slice none 0 0, .int .i64 0, .int .i64 0, .int .i64 0, .int .i64 0, .slice none 0 0, .bool false, .slice none 0 0, .int .i64 0, .int .i64 0, .int .i64 0, .bool false, .bool false] 99) = z := ⟨_, rfl⟩
 have hbx : Blk wx E1 99 zCn := by rw [← hw_, ← hE_]; exact Blk.made w1 99 zCn
 have fx : Fr [] w1 wx := by rw [← hw_]; exact (Fr.refl [] w1).alloc _
 rw [hw_]
 simp only [hE_]
 have HE1 := Lib.hid (show w.heap.size ≤ E1 ∧ B < E1 ∧ B + 1 < E1 ∧ B + 2 < E1 from by rw [← hE_]; exact ⟨(HF.out.step f1).size, (HB0.out.keep f1 (by simp)).lt, (HB1.out.keep f1 (by simp)).lt, (HB2.out.keep f1 (by simp)).lt⟩)
 have HX := Lib.hid hbx
 have HF1 := Lib.hid ((HF.out.step f1).step fx)
 have HA0 := Lib.hid ((HB0.out.keep f1 (by simp)).keep fx (by simp))
 have HA1 := Lib.hid ((HB1.out.keep f1 (by simp)).keep fx (by simp))
 have HA2 := Lib.hid ((HB2.out.keep f1 (by simp)).keep fx (by simp))
 clear f1 fx hbx hw_ hE_ HB0 HB1 HB2 HF
 obtain ⟨w2, hst, hb_, hf_⟩ := store_all (t := 99) (cnL c 0 0 0 0 false false) size94 rfl (cnL_one _ _ _ _ _ _ _) HX.out rfl
 refine stZ hst ?_
 clear hst
 refine wpList_plain rfl (fun K hK => ?_); go_simp; refine hK _ _ ?_; clear hK K
 refine wpList_nil ?_
 try simp only [Act.put, nrZ]
 have HF2 := Lib.hid (HF1.out.own1 (S := []) (B := 0) hf_ HE1.out.1)
 have HB02 := Lib.hid (HA0.out.keep hf_ (fun hm => by rw [List.mem_singleton] at hm; have := HE1.out; omega))
 have HB12 := Lib.hid (HA1.out.keep hf_ (fun hm => by rw [List.mem_singleton] at hm; have := HE1.out; omega))
 have HB22 := Lib.hid (HA2.out.keep hf_ (fun hm => by rw [List.mem_singleton] at hm; have := HE1.out; omega))
 clear hb_ hf_ HX HF1 HA0 HA1 HA2
 have e0 : w2.cell? ⟨B + 1, 0, none⟩ = some (.string s) := HB12.out.at 0 _ rfl
 have e1 : w2.cell? ⟨B + 1, 1, none⟩ = some (.int .i64 p) := HB12.out.at 1 _ rfl
 have HAV := Lib.hid (fun W : World => by
  have h := refValid_any s p hs W
  rw [HV.out] at h
  exact h)
 go_wp2_with fail
 refine (HAV.out _).mono ?_
 rintro e w3 ⟨rfl, f3⟩
 have HF3 := Lib.hid (HF2.out.step f3)
 have HB03 := Lib.hid (HB02.out.keep f3 (by simp))
 have HB13 := Lib.hid (HB12.out.keep f3 (by simp))
 have HB23 := Lib.hid (HB22.out.keep f3 (by simp))
 clear f3 HF2 HB02 HB12 HB22 HAV e0 e1
 have e0 : w3.cell? ⟨B + 1, 0, none⟩ = some (.string s) := HB13.out.at 0 _ rfl
 have e1 : w3.cell? ⟨B + 1, 1, none⟩ = some (.int .i64 p) := HB13.out.at 1 _ rfl
 go_upto_region 4 with fail
 refine wp_region_lit ?_
 refine ldZ (load_all agg34 size34 (xs := two (.slice aL n cL) (.slice aC m cC)) rfl HB03.out.at) ?_
 refine wpList_plain rfl (fun K hK => ?_); go_simp; refine hK _ _ ?_; clear hK K
 try simp only [Act.put, nrZ]
 refine wpList_plain rfl (fun K hK => ?_)
 go_simp
 refine (atG (.slice aL n cL) (.slice aC m cC) D s p _ (LRow.next HL.out HF3.out) (by rw [HN.out]; have := HFIT.out.nl; rw [HN.out] at this; omega)).mono ?_
 rintro e w4 ⟨rfl, f4⟩
 refine hK _ _ ?_
 clear hK K
 rw [HI.out]
 simp only [place]
 try simp only [Act.put, nrZ]
 refine wpList_plain rfl (fun K hK => ?_); go_simp; refine hK _ _ ?_; clear hK K
 refine wpList_nil ?_
 try simp only [Act.put, nrZ]
 have HF4 := Lib.hid (HF3.out.step f4)
 have HB04 := Lib.hid (HB03.out.keep f4 (by simp))
 have HB24 := Lib.hid (HB23.out.keep f4 (by simp))
 clear f4 HF3 HB03 HB13 HB23 e0 e1
 have hi0 : (0 : Int) ≤ (i : Int) := by omega
 have hin' : (i : Int) < (n : Int) := by omega
 have dlt : decide ((i : Int) < 0) = false := decide_eq_false (by omega)
 go_upto_region 7 with fail
 obtain ⟨g, off, cap, X, hvv, hg, hX, hl, q0, rfl, hrow⟩ := HL.out.lies HY.out
 rw [HN.out] at hvv
 simp only [Value.slice.injEq] at hvv
 obtain ⟨rfl, _, rfl⟩ := hvv
 have HLY := Lib.hid hl
 have HROW := Lib.hid hrow
 have hql : q0.2.1 = y.l.length := by
  obtain ⟨a, c', he⟩ := hrow.val
  simp only [slv, Value.slice.injEq] at he
  exact he.2.1
 obtain ⟨Q1, Q2, Q3⟩ := q0
 simp only at hql
 subst hql
 clear hl hrow hg hX
 obtain ⟨w5, hw5⟩ : ∃ z, w4.drew = z := ⟨_, rfl⟩
 have f5 : Fr [] w4 w5 := by rw [← hw5]; exact (Fr.refl [] w4).drew
 have HF5 := Lib.hid (HF4.out.step f5)
 have HB05 := Lib.hid (HB04.out.keep f5 (by simp))
 have HB25 := Lib.hid (HB24.out.keep f5 (by simp))
 have HW5 := Lib.hid hw5
 clear f5 hw5 HF4 HB04 HB24
 refine wp_region_held_drew (S := fun w' => w'.cell? ⟨B, 0, none⟩ = some (.slice (some ⟨g, off, none⟩) n cL) ∧ w'.cell? ⟨g, off + i * 5 + 3, none⟩ = some (.int .i64 y.most) ∧ w'.cell? ⟨g, off + i * 5 + 4, none⟩ = some (.slice Q1 y.l.length Q3)) (by kernel_rfl) (by rw [HW5.out]; exact ⟨HB05.out.at 0 _ rfl, HF5.out.keep (HLY.out 3 _ rfl) (by simp), HF5.out.keep (HLY.out 4 _ rfl) (by simp)⟩) (fun hHeld => ?_)
 rw [HW5.out] at hHeld ⊢
 refine tkZ 0 ?_
 refine tkZ 1 ?_
 refine tkZ 2 ?_
 refine tkZ 3 ?_
 refine tkZ 4 ?_
 refine tkZ 5 ?_
 refine tkZ 6 ?_
 refine tkZ 7 ?_
 refine tkZ 8 ?_
 refine tkZ 9 ?_
 refine tkZ 10 ?_
 refine tkZ 11 ?_
 refine tkZ 12 ?_
 refine tkZ 13 ?_
 refine tkZ 14 ?_
 refine tkZ 15 ?_
 refine wpAnyH_done (by kernel_rfl) ?_ _
 clear hHeld
 have deq : ((y.l.length : Int) == y.most) = false := beq_eq_false_iff_ne.2 hq
 have deq2 : decide ((y.l.length : Int) = y.most) = false := decide_eq_false hq
 go_upto_region 9 with fail
 refine wp_region_lit ?_
 refine ldZ (load_all agg34 size34 (xs := two (.slice (some ⟨g, off, none⟩) n cL) (.slice aC m cC)) rfl HB05.out.at) ?_
 refine wpList_plain rfl (fun K hK => ?_); go_simp; refine hK _ _ ?_; clear hK K
 try simp only [Act.put, nrZ]
 refine wpList_plain rfl (fun K hK => ?_)
 go_simp
 refine (nPair_full (.slice (some ⟨g, off, none⟩) n cL) (.slice aC m cC) D C c _ (LRow.next HL.out HF5.out) (CRow.next HC.out HF5.out) hc hm HFIT.out.nc).mono ?_
 rintro e w6 ⟨rfl, f6⟩
 refine hK _ _ ?_
 clear hK K
 try simp only [Act.put, nrZ]
 iterate 5 (refine wpList_plain rfl (fun K hK => ?_); go_simp; refine hK _ _ ?_; clear hK K)
 try simp only [Act.put, nrZ]
 have HF6 := Lib.hid (HF5.out.step f6)
 have HB06 := Lib.hid (HB05.out.keep f6 (by simp))
 have HB26 := Lib.hid (HB25.out.keep f6 (by simp))
 clear f6 HF5 HB05 HB25 HLY HROW
 obtain ⟨E7, hE_⟩ : ∃ E, w6.heap.size = E := ⟨_, rfl⟩
 obtain ⟨wy, hw_⟩ : ∃ z, w6.alloc (.cells #[.slice none 0 0, .slice none 0 0] 31) = z := ⟨_, rfl⟩
 have hbx : Blk wy E7 31 zNt := by rw [← hw_, ← hE_]; exact Blk.made w6 31 zNt
 have fx : Fr [] w6 wy := by rw [← hw_]; exact (Fr.refl [] w6).alloc _
 rw [hw_]
 simp only [hE_]
 have HE7 := Lib.hid (show w.heap.size ≤ E7 ∧ B + 2 < E7 ∧ B < E7 from by rw [← hE_]; exact ⟨HF6.out.size, HB26.out.lt, HB06.out.lt⟩)
 have HY7 := Lib.hid hbx
 have HF7 := Lib.hid (HF6.out.step fx)
 have HB07 := Lib.hid (HB06.out.keep fx (by simp))
 have HB27 := Lib.hid (HB26.out.keep fx (by simp))
 clear fx hbx hw_ hE_ HF6 HB26 HB06
 obtain ⟨w8, hst, hb_, hf_⟩ := store_all (t := 31) (two (.slice (some ⟨g, off, none⟩) n cL) (.slice aC m cC)) size34 rfl (two_oneS _ _ _ _ _ _) HY7.out rfl
 refine stZ hst ?_
 clear hst
 iterate 2 (refine wpList_plain rfl (fun K hK => ?_); go_simp; refine hK _ _ ?_; clear hK K)
 refine wpList_nil ?_
 try simp only [Act.put, nrZ]
 have HB08 := Lib.hid (HB07.out.keep hf_ (fun hm => by rw [List.mem_singleton] at hm; have := HE7.out; omega))
 have HB28 := Lib.hid (HB27.out.keep hf_ (fun hm => by rw [List.mem_singleton] at hm; have := HE7.out; omega))
 have HF8 := Lib.hid (HF7.out.own1 (S := []) (B := 0) hf_ HE7.out.1)
 clear hb_ hf_ HY7 HB07 HB27 HF7
 go_upto_region 11 with fail
 refine wp_region_lit ?_
 refine ldZ (load_all agg34 size34 (xs := two (.slice (some ⟨g, off, none⟩) n cL) (.slice aC m cC)) rfl HB08.out.at) ?_
 refine wpList_plain rfl (fun K hK => ?_); go_simp; refine hK _ _ ?_; clear hK K
 try simp only [Act.put, nrZ]
 obtain ⟨w9, hst, hb_, hf_⟩ := store_all (t := 31) (two (.slice (some ⟨g, off, none⟩) n cL) (.slice aC m cC)) size34 rfl (two_oneS _ _ _ _ _ _) HB28.out rfl
 refine stZ hst ?_
 clear hst
 iterate 2 (refine wpList_plain rfl (fun K hK => ?_); go_simp; refine hK _ _ ?_; clear hK K)
 refine wpList_nil ?_
 try simp only [Act.put, nrZ]
 have HR9 := Lib.hid hb_
 have HF9 := Lib.hid (HF8.out.own1 (S := []) (B := 0) hf_ (by have := HBS.out; omega))
 clear hb_ hf_
 go_wp2
 have hl := load_var agg34 size34 (xs := two (.slice (some ⟨g, off, none⟩) n cL) (.slice aC m cC)) rfl HR9.out.at
 refine bodyPost_ret (v := .tuple #[.agg (two (.slice (some ⟨g, off, none⟩) n cL) (.slice aC m cC)).toArray, .int .i64 0, .int .i64 7]) (by simp [results, Tryz.results41, as_addr, hl]) rfl ?_
 exact ⟨rfl, HF9.out⟩
end Go.Proofs.YtgbmenfmaphciaaGreat
namespace Go.Proofs.YtgbmenfmaphciaaGreat
set_option linter.unusedVariables false
set_option linter.unusedSimpArgs false
set_option linter.unusedSectionVars false
open Go.RowKit
open Go.Maps (Keyed)
set_option linter.unusedVariables false
set_option maxRecDepth 100000
set_option maxHeartbeats 4000000
theorem pass_eq (a b : Int) : PN.pass a b = passB a b := rfl
structure DialW (w : World) (own : Nat → Nat) (i d u : Nat) (x : PN.PD) : Prop where
 cells : DialIs w d u x.s x.p x.c x.un x.st x.conn x.er x.tr
 own : own d = 4 * i + 3 ∧ own u = 4 * i + 3
 adr : addrB x.s.data.toList x.p = true
 sz : x.s.size ≤ 1000000
 cap : x.c ≤ 4096
 tr : 0 ≤ x.tr
theorem DialW.keep {S : List Nat} {w w' : World} {own : Nat → Nat} {i d u : Nat} {x : PN.PD} (h : DialW w own i d u x) (hf : Fr S w w') (hS : ∀ z ∈ S, own z ≠ 4 * i + 3) : DialW w' own i d u x :=
 ⟨h.cells.keep hf (fun hm => hS d hm h.own.1) (fun hm => hS u hm h.own.2), h.own, h.adr, h.sz, h.cap, h.tr⟩
theorem DialW.ext {w : World} {own own' : Nat → Nat} {i d u : Nat} {x : PN.PD} (h : DialW w own i d u x) (he : Ext w own own') : DialW w own' i d u x :=
 ⟨h.cells, ⟨(he _ (cell_lt h.cells.c0)).trans h.own.1, (he _ (cell_lt h.cells.cu)).trans h.own.2⟩, h.adr, h.sz, h.cap, h.tr⟩
def tryO (i c : Nat) : Prop := netO c ∨ c = 4 * i + 3
instance (c : Nat) : Decidable (netO c) := by unfold netO; infer_instance
theorem dialTry_w {own : Nat → Nat} {B : NB} {L : List LB} {C : List CB} {G i d u : Nat} {x : PN.PD} (now : Int) (w : World) (h : NetW w own B L C G) (hd : DialW w own i d u x) (hG : G < 4611686018427387904) (htr : x.tr ≤ 1000000000) :
  Calls Tryz.prog 42 #[.pointer (some ⟨d, 0, none⟩), .pointer (some ⟨B.n, 0, none⟩), .int .u64 now] w fun e w' => ∃ own' L' C',
   e = .returned (.tuple #[.int .i64 (PN.tryD now x (plainN L C)).2.2.1, .int .i64 (PN.tryD now x (plainN L C)).2.2.2]) ∧ plainN L' C' = (PN.tryD now x (plainN L C)).2.1 ∧ NetW w' own' B L' C' (G + 1) ∧ DialW w' own' i d u (PN.tryD now x (plainN L C)).1 ∧ Ext w own own' ∧ FrO own (tryO i) w w' := by
 have hcl := hd.cells
 obtain ⟨od, ou⟩ := hd.own
 by_cases hst : x.st = 0
 ·by_cases hp : PN.pass x.un now = true
  ·have ht : PN.tryD now x (plainN L C) = ({ x with st := 2, er := 12 }, plainN L C, 0, 12) := by
    unfold PN.tryD
    rw [if_neg (by omega), if_pos hp]
   rw [ht]
   rw [hst] at hcl
   refine (dialTry_over d u x.s x.p x.un x.conn x.er x.tr x.c now w hcl h.net (by rw [← pass_eq]; exact hp)).mono ?_
   rintro e w' ⟨rfl, hc, hf⟩
   refine ⟨own, L, C, rfl, rfl, (h.keep hf (fun z hz hn => ?_)).mono (by omega), ⟨hc, hd.own, hd.adr, hd.sz, hd.cap, hd.tr⟩, Ext.refl _ _, FrO.of hf (fun z hz => ?_)⟩
   ·simp only [List.mem_singleton] at hz
    subst hz
    rw [od] at hn
    unfold netO at hn
    omega
   ·simp only [List.mem_singleton] at hz
    subst hz
    exact .inr od
  ·obtain ⟨cn, hcn⟩ : ∃ cn, PN.connect (plainN L C) x.s x.p x.c = cn := ⟨_, rfl⟩
   have ht : PN.tryD now x (plainN L C) = ({ x with st := if cn.2.2 = 0 then 1 else if cn.2.2 = 16 then 0 else 2, conn := if cn.2.2 = 0 then cn.2.1 else x.conn, er := if cn.2.2 = 0 ∨ cn.2.2 = 16 then x.er else cn.2.2, tr := x.tr + 1 }, cn.1, if cn.2.2 = 0 ∨ cn.2.2 = 16 then cn.2.1 else 0, cn.2.2) := by
    unfold PN.tryD
    rw [if_neg (by omega), if_neg hp, hcn]
   rw [ht]
   rw [hst] at hcl
   obtain ⟨o1, o2, o3, o4, o5⟩ := h.on
   have dz := cell_lt hcl.c0
   have key := dialTry_go d u x.s x.p x.un x.conn x.er x.tr x.c now cn.2.1 cn.2.2 ((List.range w.heap.size).filter fun z => decide (netO (own z))) (fun w' => ∃ own' L' C', plainN L' C' = cn.1 ∧ NetW w' own' B L' C' (G + 1) ∧ Ext w own own') ?_ w hcl h.net (by rw [← pass_eq]; simpa using hp) hd.tr htr ?_ ?_ ?_ ?_
   ·refine key.mono ?_
    rintro e w' ⟨rfl, hc, ⟨own', L', C', h1, h2, h3⟩, hf⟩
    refine ⟨own', L', C', rfl, h1, h2, ⟨hc, ⟨(h3 _ dz).trans od, (h3 _ (cell_lt hcl.cu)).trans ou⟩, hd.adr, hd.sz, hd.cap, by have := hd.tr; simp only; omega⟩, h3, FrO.of hf (fun z hz => ?_)⟩
    rcases List.mem_cons.1 hz with rfl | hz
    ·exact .inr od
    ·exact .inl (by simpa using (List.mem_filter.1 hz).2)
   ·rintro a b ⟨own', L', C', h1, h2, h3⟩ hf
    refine ⟨own', L', C', h1, h2.keep hf (fun z hz hn => ?_), h3⟩
    simp only [List.mem_singleton] at hz
    subst hz
    rw [h3 _ dz, od] at hn
    unfold netO at hn
    omega
   ·intro hm
    simp only [List.mem_cons, List.not_mem_nil, or_false] at hm
    have : own d = 0 := by rcases hm with rfl | rfl | rfl | rfl | rfl <;> assumption
    omega
   ·intro hm
    have := of_decide_eq_true (List.mem_filter.1 hm).2
    rw [od] at this
    unfold netO at this
    omega
   ·intro hm
    have := of_decide_eq_true (List.mem_filter.1 hm).2
    rw [ou] at this
    unfold netO at this
    omega
   ·intro W hW
    have hE := Ext.new w own 4
    have hn0 : ∀ z ∈ [d], ¬ netO (ownNew w own 4 z) := fun z hz hn => by
     simp only [List.mem_singleton] at hz
     subst hz
     rw [hE _ dz, od] at hn
     unfold netO at hn
     omega
    refine (netConnect_w x.s x.p x.c W ((h.ext hE).keep hW hn0) hd.sz hd.adr hd.cap hG).mono ?_
    rintro e w' ⟨own', L', C', he, h1, h2, h3, h4⟩
    rw [hcn] at he h1
    refine ⟨he, ⟨own', L', C', h1, h2, hE.step h3 hW.size⟩, ?_⟩
    obtain ⟨S, f1, f2⟩ := h4.list
    refine f1.mono (fun z hz _ => ?_)
    obtain ⟨h5, h6⟩ := f2 z hz
    have hzl : z < w.heap.size := by
     rcases Nat.lt_or_ge z w.heap.size with h | h
     ·exact h
     ·rw [ownNew_ge h] at h6
      unfold netO at h6
      omega
    rw [hE z hzl] at h6
    exact List.mem_filter.2 ⟨List.mem_range.2 hzl, by simpa using h6⟩
 ·rw [PN.tryD_done hst]
  refine (dialTry_state d u x.s x.p x.un x.st x.conn x.er x.tr x.c now w hcl h.net hst).mono ?_
  rintro e w' ⟨rfl, hf⟩
  exact ⟨own, L, C, rfl, rfl, (h.new hf).mono (by omega), ⟨hcl.new hf, hd.own, hd.adr, hd.sz, hd.cap, hd.tr⟩, Ext.refl _ _, FrO.new hf⟩
set_option maxHeartbeats 8000000
def stA (D : List PN.PD) (i : Nat) : Int := match D[i]? with
 | some x => x.st
 | none => 0
theorem firstDiff (f g : Nat → Int) : ∀ n, ∃ k, k ≤ n ∧ (∀ i, i < k → f i = g i) ∧ (k < n → f k ≠ g k)
 | 0 => ⟨0, Nat.le_refl _, fun i hi => by omega, fun h => by omega⟩
 | n + 1 => by
  obtain ⟨k, h1, h2, h3⟩ := firstDiff f g n
  by_cases hk : k < n
  ·exact ⟨k, by omega, h2, fun _ => h3 hk⟩
  ·obtain rfl : k = n := by omega
   by_cases he : f k = g k
   ·exact ⟨k + 1, Nat.le_refl _, fun i hi => by
     rcases Nat.lt_or_ge i k with h | h
     ·exact h2 i h
     ·obtain rfl : i = k := by omega
      exact he, fun h => by omega⟩
   ·exact ⟨k, by omega, h2, fun _ => he⟩
theorem stA_lt {D : List PN.PD} {i : Nat} (h : i < D.length) : stA D i = (D[i]).st := by
 unfold stA
 rw [List.getElem?_eq_getElem h]
theorem sts_eq {D E : List PN.PD} (hl : D.length = E.length) : PN.sts D = PN.sts E ↔ ∀ i, i < D.length → stA D i = stA E i := by
 unfold PN.sts
 constructor
 ·intro h i hi
  have h1 : (D.map (·.st))[i]? = (E.map (·.st))[i]? := by rw [h]
  rw [List.getElem?_map, List.getElem?_map, List.getElem?_eq_getElem hi, List.getElem?_eq_getElem (by omega)] at h1
  rw [stA_lt hi, stA_lt (by omega)]
  simpa using h1
 ·intro h
  refine List.ext_getElem (by simp [hl]) fun i h1 h2 => ?_
  simp only [List.length_map] at h1 h2
  have := h i h1
  rw [stA_lt h1, stA_lt h2] at this
  simpa using this
theorem round_len (now : Int) : ∀ (D : List PN.PD) (N : PN.Net), (PN.roundD now D N).1.length = D.length
 | [], _ => rfl
 | d :: r, N => by simp [PN.roundD, round_len now r]
def DialsW (w : World) (own : Nat → Nat) (ids : Nat → Nat × Nat) (D : List PN.PD) : Prop := ∀ i x, D[i]? = some x → DialW w own i (ids i).1 (ids i).2 x
theorem DialsW.keep {S : List Nat} {w w' : World} {own : Nat → Nat} {ids : Nat → Nat × Nat} {D : List PN.PD} (h : DialsW w own ids D) (hf : Fr S w w') (hS : ∀ z ∈ S, own z % 4 ≠ 3) : DialsW w' own ids D :=
 fun i x hi => (h i x hi).keep hf (fun z hz he => hS z hz (by rw [he]; omega))
theorem DialsW.new {w w' : World} {own : Nat → Nat} {ids : Nat → Nat × Nat} {D : List PN.PD} (h : DialsW w own ids D) (hf : Fr [] w w') : DialsW w' own ids D := h.keep hf (fun z hz => by cases hz)
theorem DialsW.ext {w : World} {own own' : Nat → Nat} {ids : Nat → Nat × Nat} {D : List PN.PD} (h : DialsW w own ids D) (he : Ext w own own') : DialsW w own' ids D := fun i x hi => (h i x hi).ext he
theorem DialsW.set {w w' : World} {own own' : Nat → Nat} {ids : Nat → Nat × Nat} {P R : List PN.PD} {x x' : PN.PD} (h : DialsW w own ids (P ++ x :: R)) (hx : DialW w' own' P.length (ids P.length).1 (ids P.length).2 x') (he : Ext w own own') (hf : FrO own (tryO P.length) w w') : DialsW w' own' ids (P ++ x' :: R) := by
 intro i y hy
 by_cases hi : i = P.length
 ·subst hi
  rw [List.getElem?_append_right (Nat.le_refl _)] at hy
  simp at hy
  subst hy
  exact hx
 ·have hy' : (P ++ x :: R)[i]? = some y := by
   rcases Nat.lt_or_ge i P.length with h1 | h1
   ·rw [List.getElem?_append_left h1] at hy ⊢
    exact hy
   ·rw [List.getElem?_append_right h1] at hy ⊢
    obtain ⟨k, hk⟩ : ∃ k, i - P.length = k + 1 := ⟨i - P.length - 1, by omega⟩
    rw [hk] at hy ⊢
    simpa using hy
  obtain ⟨S, f1, f2⟩ := hf.list
  refine ((h i y hy').ext he).keep f1 (fun z hz hz' => ?_)
  obtain ⟨hl, h3⟩ := f2 z hz
  rw [he z hl] at hz'
  rw [hz'] at h3
  unfold tryO netO at h3
  omega
def allO (c : Nat) : Prop := netO c ∨ c % 4 = 3
theorem tryO_all {i c : Nat} (h : tryO i c) : allO c := h.imp id (fun h => by rw [h]; omega)
structure AllR (w0 : World) (own0 : Nat → Nat) (B : NB) (ids : Nat → Nat × Nat) (now : Int) (D0 : List PN.PD) (N0 : PN.Net) (G T0 : Nat) (k : Nat) (T : Int) (w : World) (own : Nat → Nat) (L : List LB) (C : List CB) (D : List PN.PD) : Prop where
 t0 : 0 ≤ T ∧ T ≤ 2000 * (((PN.trying D0 + 1 : Nat) : Int) - k)
 len : D.length = D0.length
 net : NetW w own B L C (G + 2000 * (PN.trying D0 + 1 - k))
 dials : DialsW w own ids D
 more : PN.trying D < k ∧ k ≤ PN.trying D0 + 1
 trs : ∀ x ∈ D, x.tr ≤ T0 + (((PN.trying D0 + 1 : Nat) : Int) - k)
 ext : Ext w0 own0 own
 fro : FrO own0 allO w0 w
 eq : PN.allD now (PN.trying D0 + 1) D0 N0 = ((PN.allD now k D (plainN L C)).1, (PN.allD now k D (plainN L C)).2.1, T + (PN.allD now k D (plainN L C)).2.2)
structure RndR (w0 : World) (own0 : Nat → Nat) (B : NB) (ids : Nat → Nat × Nat) (now : Int) (D : List PN.PD) (N : PN.Net) (G : Nat) (j : Nat) (s : Int) (w : World) (own : Nat → Nat) (L : List LB) (C : List CB) (P : List PN.PD) : Prop where
 s0 : 0 ≤ s ∧ s ≤ j
 len : P.length = j ∧ j ≤ D.length
 net : NetW w own B L C (G + j)
 dials : DialsW w own ids (P ++ D.drop j)
 trs : ∀ (T : Int), (∀ x ∈ D, x.tr ≤ T) → ∀ x ∈ P, x.tr ≤ T + 1
 ext : Ext w0 own0 own
 fro : FrO own0 allO w0 w
 eq : PN.roundD now D N = (P ++ (PN.roundD now (D.drop j) (plainN L C)).1, (PN.roundD now (D.drop j) (plainN L C)).2.1, s + (PN.roundD now (D.drop j) (plainN L C)).2.2)
theorem tryD_tr (now : Int) (d : PN.PD) (N : PN.Net) : d.tr ≤ (PN.tryD now d N).1.tr ∧ (PN.tryD now d N).1.tr ≤ d.tr + 1 := by
 unfold PN.tryD
 split
 ·simp only; omega
 ·split <;> (simp only; omega)
theorem all_w {own : Nat → Nat} {B : NB} {L : List LB} {C : List CB} {G T0 : Nat} {ids : Nat → Nat × Nat} {D : List PN.PD} (b cap : Nat) (now : Int) (w : World) (h : NetW w own B L C G) (hd : DialsW w own ids D) (hlen : D.length ≤ 1000) (hG : G ≤ 1000000000000) (hT : ∀ x ∈ D, x.tr ≤ T0) (hT0 : T0 ≤ 1000000)
  (hc : ∀ i, i < D.length → w.cell? ⟨b, i, none⟩ = some (.pointer (some ⟨(ids i).1, 0, none⟩))) (hb : own b % 4 = 0 ∧ own b ≠ 0) (hbl : b < w.heap.size) :
  Calls Tryz.prog 24 #[.slice (some ⟨b, 0, none⟩) D.length cap, .pointer (some ⟨B.n, 0, none⟩), .int .u64 now] w fun e w' => ∃ own' L' C' D' r, r = PN.allD now (PN.trying D + 1) D (plainN L C) ∧
   e = .returned (.tuple #[.int .i64 r.2.2, .int .i64 0]) ∧ D' = r.1 ∧ plainN L' C' = r.2.1 ∧ D'.length = D.length ∧ NetW w' own' B L' C' (G + 2000 * (PN.trying D + 1)) ∧ DialsW w' own' ids D' ∧ (∀ x ∈ D', x.tr ≤ T0 + 1001) ∧ Ext w own own' ∧ FrO own allO w w' := by
 have HC := Lib.hid hc
 have hm' : ¬ 1000 < (D.length : Int) := by omega
 have hkt : decide (D.length = D.length) = true := by simp
 have hkf : decide (D.length < D.length) = false := by simp
 have H := Lib.hid h
 have HD := Lib.hid hd
 have htl : PN.trying D ≤ D.length := by unfold PN.trying; exact List.length_filter_le _ _
 have hnb : ∀ z, allO (own z) → z ≠ b := fun z hz he => by rw [he] at hz; unfold allO netO at hz; omega
 have HNB := Lib.hid hnb
 have HT := Lib.hid hT
 clear hc h hd hnb hT
 obtain ⟨n, hn⟩ : ∃ n, D.length = n := ⟨_, rfl⟩
 have HN := Lib.hid hn
 rw [hn] at HC hm' hkt hkf htl hlen ⊢
 clear hn
 go_enter Tryz.func24, Tryz.ntmps24
 go_wp2_with fail
 go_step3
 go_wp2_with fail
 refine (dead_ok _ H.out.net).mono ?_
 rintro e w1 ⟨rfl, f1⟩
 go_wp2_with fail
 have dNone : ∀ i, i < n → ∀ W, Fr [] w W → Calls Tryz.prog 43 #[.pointer (some ⟨(ids i).1, 0, none⟩)] W fun e w' => e = .returned (.bool false) ∧ W = w' := fun i hi W hW => by
  have hx := (HD.out i _ (List.getElem?_eq_getElem (by rw [HN.out]; exact hi))).cells
  exact dialNone_any _ _ _ _ _ _ _ _ _ _ W (hx.new hW)
 refine (containsNone b 0 n cap n (fun i => .pointer (some ⟨(ids i).1, 0, none⟩)) w1 (by omega) (by omega) (fun i hi => by simpa using f1.keep (HC.out i hi) (by simp)) (fun i hi => dNone i hi w1 f1) (fun h => absurd h (by omega))).mono ?_
 rintro e w' ⟨rfl, rfl⟩
 rw [hkf]
 clear dNone
 go_wp2_with fail
 go_step3
 go_wp2_with fail
 have hR0 : AllR w own B ids now D (plainN L C) G T0 (PN.trying D + 1) 0 w1 own L C D := ⟨⟨Int.le_refl _, by omega⟩, rfl, (H.out.new f1).mono (by omega), HD.out.new f1, ⟨by omega, Nat.le_refl _⟩, fun x hx => by have := HT.out x hx; omega, Ext.refl _ _, FrO.new f1, by simp⟩
 have HR0 := Lib.hid hR0
 clear hR0 f1
 go_loopg [8] (PN.trying D + 1) (fun k t wr => ∃ (T : Int) (own' : Nat → Nat) (L' : List LB) (C' : List CB) (D' : List PN.PD), t = .int .i64 T ∧ AllR w own B ids now D (plainN L C) G T0 k T wr own' L' C' D')
 case atStart => exact ⟨0, own, L, C, D, rfl, HR0.out⟩
 case round =>
  obtain ⟨T, own1, L1, C1, D1, rfl, hR⟩ := hrel
  have hl1 : D1.length = n := hR.len.trans HN.out
  have hk1 := hR.more
  have ht1 := hR.t0
  have hcell : ∀ i, i < n → wr.cell? ⟨b, i, none⟩ = some (.pointer (some ⟨(ids i).1, 0, none⟩)) := fun i hi => by
   obtain ⟨S, f1, f2⟩ := hR.fro.list
   exact f1.keep (HC.out i hi) (fun hm => HNB.out b (f2 b hm).2 rfl)
  have dState : ∀ (W0 : World) (own' : Nat → Nat) (D' : List PN.PD), DialsW W0 own' ids D' → D'.length = n → ∀ i, i < n → ∀ W, Fr [] W0 W → Calls Tryz.prog 73 #[.pointer (some ⟨(ids i).1, 0, none⟩)] W fun e w' => (∃ x y, e = .returned (.tuple #[.int .i64 (stA D' i), x, y])) ∧ Fr [] W w' := fun W0 own' D' hD' hl' i hi W hW => by
   have hx := (hD' i _ (List.getElem?_eq_getElem (by rw [hl']; exact hi))).cells
   rw [stA_lt (by rw [hl']; exact hi)]
   exact (dialState_any _ _ _ _ _ _ _ _ _ _ W (hx.new hW)).mono (fun e w' q => ⟨⟨_, _, q.1⟩, q.2⟩)
  have DST := Lib.hid dState
  have HR := Lib.hid hR
  have HCL := Lib.hid hcell
  clear dState hR hcell
  obtain ⟨wo, hwo⟩ : ∃ wo : World, wo = wr := ⟨_, rfl⟩
  subst hwo
  go_wp2_with fail
  refine (states_any b 0 n cap (fun i => .pointer (some ⟨(ids i).1, 0, none⟩)) (stA D1) wo (by omega) (fun i hi => by simpa using HCL.out i hi) (DST.out wo own1 D1 HR.out.dials hl1)).mono ?_
  rintro e w2 ⟨b1, rfl, lb1, hb1, f2⟩
  have hz2 := f2.size
  -- new blocks belong to nobody
  have hE1 : Ext wo own1 (ownNew wo own1 4) := Ext.new _ _ _
  have hRn : RndR w2 (ownNew wo own1 4) B ids now D1 (plainN L1 C1) (G + 2000 * (PN.trying D + 1 - gk)) 0 0 w2 (ownNew wo own1 4) L1 C1 [] :=
   ⟨⟨Int.le_refl _, Int.le_refl _⟩, ⟨rfl, Nat.zero_le _⟩, (HR.out.net.ext hE1).new f2, (HR.out.dials.ext hE1).new f2, (fun T hT x hx => by cases hx), Ext.refl _ _, FrO.new (Fr.refl _ _), by simp⟩
  have HRn := Lib.hid hRn
  have HB1 := Lib.hid hb1
  have HF2 := Lib.hid f2
  have ob1 : ownNew wo own1 4 b1 = 4 := ownNew_ge lb1
  have OB1 := Lib.hid ob1
  have OWB := Lib.hid (show ownNew wo own1 4 b = own b from (hE1 b (Nat.lt_of_lt_of_le hbl HR.out.fro.size)).trans (HR.out.ext b hbl))
  clear hRn hb1 f2 ob1 hE1
  go_wp2_with fail
  go_loopw [28, 8] (fun i t wr => ∃ (j : Nat) (s : Int) (own' : Nat → Nat) (L' : List LB) (C' : List CB) (P : List PN.PD), i = .int .i64 j ∧ t = .int .i64 (T + s) ∧ j ≤ n ∧ RndR w2 (ownNew wo own1 4) B ids now D1 (plainN L1 C1) (G + 2000 * (PN.trying D + 1 - gk)) j s wr own' L' C' P) (fun i _ _ => n - (intOf i).toNat)
  case atStart => exact ⟨0, 0, _, L1, C1, [], rfl, by simp, by omega, HRn.out⟩
  case round =>
   obtain ⟨j, s, own2, L2, C2, P, rfl, rfl, hj, hr⟩ := hrel
   have hs0 := hr.s0
   have hPl := hr.len.1
   have HRR := Lib.hid hr
   clear hr
   by_cases hl : j < n
   ·have hl' : (j : Int) < (n : Int) := by omega
    have hjd : j < D1.length := by omega
    have hdrop : D1.drop j = D1[j] :: D1.drop (j + 1) := List.drop_eq_getElem_cons hjd
    obtain ⟨x, hx⟩ : ∃ x, D1[j] = x := ⟨_, rfl⟩
    rw [hx] at hdrop
    have hxd : DialW wr own2 j (ids j).1 (ids j).2 x := HRR.out.dials j x (by
     rw [List.getElem?_append_right (by omega), hPl, Nat.sub_self, hdrop]
     rfl)
    have hcj : wr.cell? ⟨b, j, none⟩ = some (.pointer (some ⟨(ids j).1, 0, none⟩)) := by
     obtain ⟨S, f3, f4⟩ := HRR.out.fro.list
     refine f3.keep (HF2.out.keep (HCL.out j hl) (by simp)) (fun hm => ?_)
     have hm2 := (f4 b hm).2
     rw [OWB.out] at hm2
     exact HNB.out b hm2 rfl
    have htr := HR.out.trs x (by rw [← hx]; exact List.getElem_mem hjd)
    have htr0 := hxd.tr
    obtain ⟨g1, g2⟩ := tryD_tr now x (plainN L2 C2)
    have HT := Lib.hid (dialTry_w now wr HRR.out.net hxd (by omega) (by omega))
    have c8 := hxd.cells.c8
    have HXD := Lib.hid hxd
    have HDR := Lib.hid hdrop
    clear hxd hdrop
    go_wp2_with fail
    refine HT.out.mono ?_
    rintro e w3 ⟨own3, L3, C3, rfl, hp3, hn3, hd3, he3, hf3⟩
    obtain ⟨x', hx'⟩ : ∃ x', (PN.tryD now x (plainN L2 C2)).1 = x' := ⟨_, rfl⟩
    rw [hx'] at hd3 g1 g2
    have c8' := hd3.cells.c8
    have H3 := Lib.hid (And.intro hp3 (And.intro hn3 (And.intro hd3 (And.intro he3 hf3))))
    have HX' := Lib.hid hx'
    clear hp3 hn3 hd3 he3 hf3 hx'
    go_wp2_with fail
    go_roundw
    case rel =>
     obtain ⟨hp3, hn3, hd3, he3, hf3⟩ := H3.out
     refine ⟨j + 1, s + (x'.tr - x.tr), own3, L3, C3, P ++ [x'], by go_num, by rw [Int.add_assoc], by omega, ⟨⟨by omega, by push_cast; omega⟩, ⟨by simp [hPl], by omega⟩, by rw [← Nat.add_assoc]; exact hn3, ?_, ?_, HRR.out.ext.step he3 HRR.out.fro.size, HRR.out.fro.trans (hf3.mono (fun c hc => tryO_all hc)) HRR.out.ext, ?_⟩⟩
     ·have h0 := HRR.out.dials
      rw [HDR.out] at h0
      have h1 := DialsW.set (x' := x') h0 (by rw [hPl]; exact hd3) he3 (by rw [hPl]; exact hf3)
      simpa using h1
     ·intro T' hT' y hy
      rcases List.mem_append.1 hy with hy | hy
      ·exact HRR.out.trs T' hT' y hy
      ·simp only [List.mem_singleton] at hy
       subst hy
       have := hT' x (by rw [← hx]; exact List.getElem_mem hjd)
       omega
     ·have h0 := HRR.out.eq
      rw [HDR.out] at h0
      simp only [PN.roundD, HX'.out, ← hp3] at h0
      rw [h0]
      simp [Int.add_assoc]
    case measure => simp [intOf]; omega
   ·obtain rfl : j = n := by omega
    have hl' : ¬ (j : Int) < (j : Int) := by omega
    have hdr : D1.drop j = [] := List.drop_of_length_le (by omega)
    have hdl : DialsW wr own2 ids P := by
     have := HRR.out.dials
     rw [hdr, List.append_nil] at this
     exact this
    have hreq : PN.roundD now D1 (plainN L1 C1) = (P, plainN L2 C2, s) := by
     have := HRR.out.eq
     rw [hdr] at this
     simpa [PN.roundD] using this
    have HDL := Lib.hid hdl
    have HRQ := Lib.hid hreq
    have hcl2 : ∀ i, i < j → wr.cell? ⟨b, i, none⟩ = some (.pointer (some ⟨(ids i).1, 0, none⟩)) := fun i hi => by
     obtain ⟨S, f3, f4⟩ := HRR.out.fro.list
     refine f3.keep (HF2.out.keep (HCL.out i hi) (by simp)) (fun hm => ?_)
     have hm2 := (f4 b hm).2
     rw [OWB.out] at hm2
     exact HNB.out b hm2 rfl
    have hb12 : ∀ i, i < j → wr.cell? ⟨b1, i, none⟩ = some (.int .i64 (stA D1 i)) := fun i hi => by
     obtain ⟨S, f3, f4⟩ := HRR.out.fro.list
     refine f3.keep (HB1.out i hi) (fun hm => ?_)
     have hm2 := (f4 b1 hm).2
     rw [OB1.out] at hm2
     unfold allO netO at hm2
     omega
    have HC2 := Lib.hid hcl2
    have HB12 := Lib.hid hb12
    clear hdr hdl hreq hcl2 hb12
    go_wp2_with fail
    refine (states_any b 0 j cap (fun i => .pointer (some ⟨(ids i).1, 0, none⟩)) (stA P) wr (by omega) (fun i hi => by simpa using HC2.out i hi) (DST.out wr own2 P HDL.out hPl)).mono ?_
    rintro e w3 ⟨b2, rfl, lb2, hb2, f3⟩
    obtain ⟨k, hk1', hk2, hk3⟩ := firstDiff (stA D1) (stA P) j
    have HF3 := Lib.hid f3
    have HB2 := Lib.hid hb2
    clear hb2 f3
    go_wp2_with fail
    refine (equalStates b1 b2 j j j (stA D1) (stA P) k _ hk1' (by omega) (fun i hi => HF3.out.keep (HB12.out i hi) (by simp)) HB2.out hk2 hk3).mono ?_
    rintro e w4 ⟨rfl, nq, rfl⟩
    have hF4 : Fr [] wr (w3.drewN nq) := HF3.out.drewN nq
    have heq : PN.sts P = PN.sts D1 ↔ k = j := by
     rw [eq_comm, sts_eq (by omega)]
     constructor
     ·intro h
      rcases Nat.lt_or_ge k j with h1 | h1
      ·exact absurd (h k (by omega)) (hk3 h1)
      ·omega
     ·rintro rfl i hi
      exact hk2 i (by omega)
    have HEQ := Lib.hid heq
    have HF4 := Lib.hid hF4
    clear heq hF4 hk2 hk3
    obtain ⟨g, rfl⟩ : ∃ g, gk = g + 1 := ⟨gk - 1, by omega⟩
    have hX : Ext w own own2 := (HR.out.ext.step (Ext.new wo own1 4) HR.out.fro.size).step HRR.out.ext (Nat.le_trans HR.out.fro.size hz2)
    have hF : FrO own allO w (w3.drewN nq) := ((HR.out.fro.trans (FrO.new (own := own1) HF2.out) HR.out.ext).trans HRR.out.fro (HR.out.ext.step (Ext.new wo own1 4) HR.out.fro.size)).trans (FrO.new (own := own) HF4.out) (Ext.refl _ _)
    have HX := Lib.hid hX
    have HF := Lib.hid hF
    clear hX hF
    by_cases hkj : k = j
    ·rw [decide_eq_true hkj]
     go_wp2_with fail
     rw [Exit.noGoto_ret]
     go_ret2
     have hst := HEQ.out.2 hkj
     have hall : PN.allD now (g + 1) D1 (plainN L1 C1) = (P, plainN L2 C2, s) := by
      unfold PN.allD
      rw [HRQ.out, if_pos hst]
     have hfin := HR.out.eq
     rw [hall] at hfin
     refine ⟨own2, L2, C2, P, _, rfl, ?_, ?_, ?_, hPl, (HRR.out.net.new HF4.out).mono ?_, HDL.out.new HF4.out, ?_, HX.out, HF.out⟩
     ·rw [hfin]; rfl
     ·rw [hfin]
     ·rw [hfin]
     ·omega
     ·intro y hy
      have := HRR.out.trs _ HR.out.trs y hy
      omega
    ·rw [decide_eq_false hkj]
     go_wp2_with fail
     go_roundg g
     case measure => omega
     case rel =>
      have hst : PN.sts P ≠ PN.sts D1 := fun h => hkj (HEQ.out.1 h)
      have htr := (PN.round_trying (now := now) D1 (plainN L1 C1)).2
      rw [HRQ.out] at htr
      have htr2 := htr hst
      have hall : PN.allD now (g + 1) D1 (plainN L1 C1) = ((PN.allD now g P (plainN L2 C2)).1, (PN.allD now g P (plainN L2 C2)).2.1, s + (PN.allD now g P (plainN L2 C2)).2.2) := by
       conv => lhs; unfold PN.allD
       rw [HRQ.out, if_neg hst]
      have hfin := HR.out.eq
      rw [hall] at hfin
      simp only at htr2
      refine ⟨T + s, own2, L2, C2, P, rfl, ⟨⟨by omega, by omega⟩, hPl.trans HN.out.symm, (HRR.out.net.new HF4.out).mono (by omega), HDL.out.new HF4.out, ⟨by omega, by omega⟩, fun y hy => ?_, HX.out, HF.out, ?_⟩⟩
      ·have := HRR.out.trs _ HR.out.trs y hy
       omega
      ·rw [hfin]
       simp [Int.add_assoc]
set_option maxHeartbeats 4000000
structure St where
 s : ByteArray
 p : Int
 c : Int
 un : Int
structure Ac where
 what : Int
 which : Int
 n : Int
 s : ByteArray
 p : Int
 now : Int
def StRow (w : World) (sa : Option Addr) (n : Nat) (f : Nat → St) : Prop :=
 n = 0 ∨ ∃ b off, sa = some ⟨b, off, none⟩ ∧ b < w.heap.size ∧ ∀ i, i < n → w.cell? ⟨b, off + i * 4, none⟩ = some (.string (f i).s) ∧ w.cell? ⟨b, off + i * 4 + 1, none⟩ = some (.int .i64 (f i).p) ∧ w.cell? ⟨b, off + i * 4 + 2, none⟩ = some (.int .i64 (f i).c) ∧ w.cell? ⟨b, off + i * 4 + 3, none⟩ = some (.int .u64 (f i).un)
def AcRow (w : World) (sa : Option Addr) (n : Nat) (g : Nat → Ac) : Prop :=
 n = 0 ∨ ∃ b off, sa = some ⟨b, off, none⟩ ∧ b < w.heap.size ∧ ∀ i, i < n → w.cell? ⟨b, off + i * 6, none⟩ = some (.int .i64 (g i).what) ∧ w.cell? ⟨b, off + i * 6 + 1, none⟩ = some (.int .i64 (g i).which) ∧ w.cell? ⟨b, off + i * 6 + 2, none⟩ = some (.int .i64 (g i).n) ∧
  w.cell? ⟨b, off + i * 6 + 3, none⟩ = some (.string (g i).s) ∧ w.cell? ⟨b, off + i * 6 + 4, none⟩ = some (.int .i64 (g i).p) ∧ w.cell? ⟨b, off + i * 6 + 5, none⟩ = some (.int .u64 (g i).now)
theorem StRow.keep {S : List Nat} {w w' : World} {sa : Option Addr} {n : Nat} {f : Nat → St} {B : Nat} (h : StRow w sa n f) (hB : ∀ a, sa = some a → n ≠ 0 → a.block < B) (hf : Fr S w w') (hS : ∀ x ∈ S, B ≤ x) : StRow w' sa n f := by
 rcases h with h | ⟨b, off, rfl, hb, hc⟩
 ·exact .inl h
 ·by_cases hn : n = 0
  ·exact .inl hn
  ·have nb : b ∉ S := fun hm => by have h1 := hB _ rfl hn; have h2 := hS b hm; simp only at h1; omega
   exact .inr ⟨b, off, rfl, Nat.lt_of_lt_of_le hb hf.size, fun i hi => by
    obtain ⟨h1, h2, h3, h4⟩ := hc i hi
    exact ⟨hf.keep h1 nb, hf.keep h2 nb, hf.keep h3 nb, hf.keep h4 nb⟩⟩
theorem AcRow.keep {S : List Nat} {w w' : World} {sa : Option Addr} {n : Nat} {g : Nat → Ac} {B : Nat} (h : AcRow w sa n g) (hB : ∀ a, sa = some a → n ≠ 0 → a.block < B) (hf : Fr S w w') (hS : ∀ x ∈ S, B ≤ x) : AcRow w' sa n g := by
 rcases h with h | ⟨b, off, rfl, hb, hc⟩
 ·exact .inl h
 ·by_cases hn : n = 0
  ·exact .inl hn
  ·have nb : b ∉ S := fun hm => by have h1 := hB _ rfl hn; have h2 := hS b hm; simp only at h1; omega
   exact .inr ⟨b, off, rfl, Nat.lt_of_lt_of_le hb hf.size, fun i hi => by
    obtain ⟨h1, h2, h3, h4, h5, h6⟩ := hc i hi
    exact ⟨hf.keep h1 nb, hf.keep h2 nb, hf.keep h3 nb, hf.keep h4 nb, hf.keep h5 nb, hf.keep h6 nb⟩⟩
def FewPost (ns nl : Nat) (f : Nat → St) (g : Nat → Ac) (w : World) (e : Ending) (w' : World) : Prop :=
 ∃ r : Bool, e = .returned (.bool r) ∧ w = w' ∧ (r = true → ns ≤ 8 ∧ nl ≤ 25 ∧ (∀ i, i < ns → (f i).s.size ≤ 100) ∧ ∀ i, i < nl → (g i).s.size ≤ 100)
theorem few_any (sa la : Option Addr) (ns sc nl lc : Nat) (f : Nat → St) (g : Nat → Ac) (w : World) (hs : StRow w sa ns f) (hl : AcRow w la nl g) (h1 : ns ≤ maxLen) (h2 : nl ≤ maxLen) :
  Calls Tryz.prog 4 #[.slice sa ns sc, .slice la nl lc] w (FewPost ns nl f g w) := by
 unfold maxLen at h1 h2
 have HS := Lib.hid hs
 have HL := Lib.hid hl
 clear hs hl
 go_enter Tryz.func4, Tryz.ntmps4
 go_wp2
 go_loop [5] (fun i => ∃ k : Nat, i = .int .i64 k ∧ k ≤ ns ∧ k ≤ 9 ∧ ∀ j, j < k → (f j).s.size ≤ 100) (fun i => 9 - (intOf i).toNat)
 case atStart => exact ⟨0, rfl, by omega, by omega, fun j hj => by omega⟩
 case round =>
  obtain ⟨k, rfl, hk1, hk2, hsz⟩ := hrel
  have HZ := Lib.hid hsz
  clear hsz
  by_cases hlt : k < ns ∧ k < 9
  ·obtain ⟨a1, a2⟩ := hlt
   rcases HS.out with h0 | ⟨b, off, rfl, hb, hc⟩
   ·omega
   ·have c0 := (hc k a1).1
    clear hc
    by_cases hbig : (f k).s.size ≤ 100
    ·go_wp2
     go_round
     case rel => exact ⟨k + 1, by go_num, by omega, by omega, fun j hj => by
      rcases Nat.lt_or_ge j k with h | h
      ·exact HZ.out j h
      ·obtain rfl : j = k := by omega
       exact hbig⟩
     case measure => simp [intOf]; omega
    ·go_wp2
     go_ret
     exact ⟨false, rfl, rfl, fun h => by cases h⟩
  ·by_cases hk : k < ns
   all_goals (
    go_wp2
    go_loop [6] (fun i => ∃ k : Nat, i = .int .i64 k ∧ k ≤ nl ∧ k ≤ 26 ∧ ∀ j, j < k → (g j).s.size ≤ 100) (fun i => 26 - (intOf i).toNat)
    case atStart => exact ⟨0, rfl, by omega, by omega, fun j hj => by omega⟩
    case round =>
     obtain ⟨m, rfl, hm1, hm2, hsz⟩ := hrel
     have HY := Lib.hid hsz
     clear hsz
     by_cases hlt : m < nl ∧ m < 26
     ·obtain ⟨a1, a2⟩ := hlt
      rcases HL.out with h0 | ⟨b, off, rfl, hb, hc⟩
      ·omega
      ·have c0 := (hc m a1).2.2.2.1
       clear hc
       by_cases hbig : (g m).s.size ≤ 100
       ·go_wp2
        go_round
        case rel => exact ⟨m + 1, by go_num, by omega, by omega, fun j hj => by
         rcases Nat.lt_or_ge j m with h | h
         ·exact HY.out j h
         ·obtain rfl : j = m := by omega
          exact hbig⟩
        case measure => simp [intOf]; omega
       ·go_wp2
        go_ret
        exact ⟨false, rfl, rfl, fun h => by cases h⟩
     ·by_cases e1 : ns ≤ 8
      all_goals by_cases hm : m < nl
      all_goals go_wp2
      all_goals go_ret
      all_goals (
       refine ⟨_, rfl, rfl, fun h => ?_⟩
       first
        | (cases h; done)
        | (have h' := of_decide_eq_true h
           exact ⟨e1, by omega, fun i hi => HZ.out i (by omega), fun i hi => HY.out i (by omega)⟩)))
end Go.Proofs.YtgbmenfmaphciaaGreat
