/- Connections with bytes: two streams restored. -/
import Derived.Test.YtmdhlodafjpnmaaGreatM25
namespace Go.Proofs.YtmdhlodafjpnmaaGreat
open List renaming getElem_toArray → qj1, getElem_cons_succ → qj2, getElem_cons_zero → qj3, setIfInBounds_toArray → qj4, set_cons_zero → qj5, set_cons_succ → qj6
open Go.RowKit
set_option linter.unusedVariables false
set_option linter.unusedSimpArgs false
set_option maxRecDepth 100000
set_option maxHeartbeats 8000000

theorem sizePS : ∀ w, (sizeOf 149).run Tryz.prog w = .ok 1 w := fun w => by kernel_rfl
theorem ixSS0 (x y : SS) (b0 r0 b1 r1 : Sli) : ∀ W : World, (Instr.index 91 (.agg (stC x b0 r0 ++ stC y b1 r1).toArray) (.int .i64 0)).run Tryz.prog W = .ok (.agg (stC x b0 r0).toArray) W := fun W => by kernel_rfl
theorem ixSS1 (x y : SS) (b0 r0 b1 r1 : Sli) : ∀ W : World, (Instr.index 91 (.agg (stC x b0 r0 ++ stC y b1 r1).toArray) (.int .i64 1)).run Tryz.prog W = .ok (.agg (stC y b1 r1).toArray) W := fun W => by kernel_rfl
theorem aggTS : ∀ w, (isAgg 91).run Tryz.prog w = .ok true w := fun w => by kernel_rfl
theorem sizeTS : ∀ w, (sizeOf 91).run Tryz.prog w = .ok 14 w := fun w => by kernel_rfl
def BothR (own : Nat → Nat) (c : Nat) (x y : SS) (w : World) (e : Ending) (w' : World) : Prop := ∃ (s0 s1 : Nat) (own' : Nat → Nat), e = .returned (.tuple #[.agg #[.pointer (some ⟨s0, 0, none⟩), .pointer (some ⟨s1, 0, none⟩)], .int .i64 0]) ∧ StrB w' own' (c + 4) s0 x ∧ StrB w' own' (c + 8) s1 y ∧ Ext w own own' ∧ Fr [] w w'
theorem bothRest (own : Nat → Nat) (c : Nat) {x y : SS} {b0 r0 b1 r1 : Sli} (ox : StOk x) (oy : StOk y) (w : World) (hb0 : Bs w b0 x.buf) (hr0 : Bs w r0 x.rest) (hb1 : Bs w b1 y.buf) (hr1 : Bs w r1 y.rest) (hc : c % 4 = 1) :
    Calls Tryz.prog 119 #[.agg (stC x b0 r0 ++ stC y b1 r1).toArray, .func (.func 120) #[] #[]] w (BothR own c x y w) := by
  obtain ⟨X, hX⟩ : ∃ A, w.heap.size = A := ⟨_, rfl⟩
  obtain ⟨L, hL⟩ : ∃ L, stC x b0 r0 ++ stC y b1 r1 = L := ⟨_, rfl⟩
  have hi0 := ixSS0 x y b0 r0 b1 r1
  have hi1 := ixSS1 x y b0 r0 b1 r1
  rw [hL] at hi0 hi1 ⊢
  obtain ⟨C0, hC0⟩ : ∃ L, stC x b0 r0 = L := ⟨_, rfl⟩
  obtain ⟨C1, hC1⟩ : ∃ L, stC y b1 r1 = L := ⟨_, rfl⟩
  have hn0 : C0.length = 7 := by rw [← hC0]; rfl
  have hn1 : C1.length = 7 := by rw [← hC1]; rfl
  have ho0 : ∀ u ∈ C0, u.oneCell' = true := by rw [← hC0]; exact stC_one _ _ _
  have ho1 : ∀ u ∈ C1, u.oneCell' = true := by rw [← hC1]; exact stC_one _ _ _
  have hln : L.length = 14 := by rw [← hL]; rfl
  have HR0 := Lib.hid (fun (ow : Nat → Nat) (W : World) (f : Fr [] w W) => strRestore ow (c + 4) (w := W) ox (hb0.new f) (hr0.new f) (by omega) (by omega))
  have HR1 := Lib.hid (fun (ow : Nat → Nat) (W : World) (f : Fr [] w W) => strRestore ow (c + 8) (w := W) oy (hb1.new f) (hr1.new f) (by omega) (by omega))
  rw [hC0] at hi0 HR0
  rw [hC1] at hi1 HR1
  have HN := Lib.hid (And.intro hn0 (And.intro hn1 (And.intro ho0 (And.intro ho1 hln))))
  obtain ⟨wA, hwA⟩ : ∃ z, (w.alloc (.cells L.toArray 91)).alloc (.cells #[.pointer none, .pointer none] 150) = z := ⟨_, rfl⟩
  have hs1 : (w.alloc (.cells L.toArray 91)).heap.size = X + 1 := by rw [← hX]; simp
  have b0 : Blk wA X 91 L := by
    rw [← hwA, ← hX]
    exact (Blk.made w 91 L).keep ((Fr.refl [] _).alloc _) (by simp)
  have b1 : Blk wA (X + 1) 150 [.pointer none, .pointer none] := by
    have h := Blk.made (w.alloc (.cells L.toArray 91)) 150 [.pointer none, .pointer none]
    rw [hs1] at h
    rw [← hwA]
    exact h
  have fA : Fr [] w wA := by rw [← hwA]; exact ((Fr.refl [] w).alloc _).alloc _
  have HB0 := Lib.hid b0
  have HB1 := Lib.hid b1
  have HFA := Lib.hid fA
  have HWA := Lib.hid hwA
  have HX := Lib.hid hX
  clear b0 b1 fA hwA hs1 hX hL hC0 hC1 hn0 hn1 ho0 ho1 hln hb0 hr0 hb1 hr1 ox oy
  go_enter Tryz.func119, Tryz.ntmps119
  go_upto_region 1 with fail
  rw [HWA.out]
  simp only [HX.out]
  refine wp_region_lit ?_
  refine wpList_val rfl (v := .agg (L).toArray) (w' := wA) ?_ ?_
  · show Sem.run Tryz.prog ((Instr.loadAt 91 (.pointer (some ⟨X, 0, none⟩))) >>= fun x => pure (Next.value x)) wA = _
    rw [Sem.run_bind, load_all aggTS sizeTS (xs := L) HN.out.2.2.2.2 HB0.out.at]
    rfl
  try simp only [Act.put, qj1, qj2, qj3, qj4, qj5, qj6]
  refine wpList_plain rfl (fun K hK => ?_); go_simp; refine hK _ _ ?_; clear hK K
  refine wpList_nil ?_
  try simp only [Act.put, qj1, qj2, qj3, qj4, qj5, qj6]
  go_wp2
  refine wp_loop_rounds 3 ?_
  rw [rounds_succ]
  go_upto_region 3 with fail
  refine wp_region_lit ?_
  refine wpList_plain rfl (fun K hK => ?_); go_simp; refine hK _ _ ?_; clear hK K
  refine wpList_plain rfl (fun K hK => ?_); go_simp; refine hK _ _ ?_; clear hK K
  refine wpList_plain rfl (fun K hK => ?_); go_simp; refine hK _ _ ?_; clear hK K
  try simp only [Act.put, qj1, qj2, qj3, qj4, qj5, qj6]
  obtain ⟨Z0, hA_⟩ : ∃ A, wA.heap.size = A := ⟨_, rfl⟩
  obtain ⟨wa0, hw_⟩ : ∃ z, wA.alloc (.cells #[.int .i64 0, .slice none 0 0, .bool false, .slice none 0 0, .int .i64 0, .int .i64 0, .int .i64 0] 90) = z := ⟨_, rfl⟩
  have hB_ : Blk wa0 Z0 90 [.int .i64 0, .slice none 0 0, .bool false, .slice none 0 0, .int .i64 0, .int .i64 0, .int .i64 0] := by rw [← hw_, ← hA_]; exact Blk.made wA 90 _
  have hF_ : Fr [] wA wa0 := by rw [← hw_]; exact (Fr.refl [] wA).alloc _
  rw [hw_]
  simp only [hA_]
  have HZ0 := Lib.hid hA_
  have HBZ0 := Lib.hid hB_
  have HFwa0 := Lib.hid hF_
  clear hA_ hw_ hB_ hF_
  refine wpList_plain rfl (fun K hK => ?_); go_simp; refine hK _ _ ?_; clear hK K
  try simp only [Act.put, qj1, qj2, qj3, qj4, qj5, qj6]
  obtain ⟨wb0, hst, hb_, hf_⟩ := store_all (t := 90) C0 sizeSt HN.out.1 HN.out.2.2.1 HBZ0.out rfl
  refine wpList_skp rfl (w' := wb0) ?_ ?_
  · show Sem.run Tryz.prog ((Instr.storeAt 90 (.pointer (some ⟨Z0, 0, none⟩)) (.agg C0.toArray)) >>= fun _ => pure Next.skip) _ = _
    rw [Sem.run_bind, hst]
    rfl
  clear hst
  try simp only [Act.put, qj1, qj2, qj3, qj4, qj5, qj6]
  refine wpList_nil ?_
  try simp only [Act.put, qj1, qj2, qj3, qj4, qj5, qj6]
  have HZB0 := Lib.hid hb_
  have HFB0 := Lib.hid (show Fr [] wA wb0 from HFwa0.out.trans hf_ (fun x hx hl => by rw [List.mem_singleton] at hx; have := HZ0.out; omega))
  clear hb_ hf_
  go_upto_region 4 with fail
  refine wp_region_lit ?_
  refine wpList_plain rfl (fun K hK => ?_); go_simp; refine hK _ _ ?_; clear hK K
  refine wpList_plain rfl (fun K hK => ?_); go_simp; refine hK _ _ ?_; clear hK K
  refine wpList_val rfl (v := .agg (C0).toArray) (w' := wb0) ?_ ?_
  · show Sem.run Tryz.prog ((Instr.loadAt 90 (.pointer (some ⟨Z0, 0, none⟩))) >>= fun x => pure (Next.value x)) wb0 = _
    rw [Sem.run_bind, load_all aggSt sizeSt (xs := C0) HN.out.1 HZB0.out.at]
    rfl
  try simp only [Act.put, qj1, qj2, qj3, qj4, qj5, qj6]
  refine wpList_plain rfl (fun K hK => ?_)
  go_simp
  refine (HR0.out (ownNew w own 4) wb0 (HFA.out.step HFB0.out)).mono ?_
  rintro e wc0 ⟨s0, own0, rfl, hs, hx, fc, hl⟩
  have HS0 := Lib.hid hs
  have HX0 := Lib.hid hx
  have HFC0 := Lib.hid (HFB0.out.step fc)
  have HFc0 := Lib.hid fc
  clear hs hx fc hl
  refine hK _ _ ?_
  clear hK K
  try simp only [Act.put, qj1, qj2, qj3, qj4, qj5, qj6]
  refine wpList_plain rfl (fun K hK => ?_); go_simp; refine hK _ _ ?_; clear hK K
  refine wpList_plain rfl (fun K hK => ?_); go_simp; refine hK _ _ ?_; clear hK K
  refine wpList_plain rfl (fun K hK => ?_); go_simp; refine hK _ _ ?_; clear hK K
  refine wpList_plain rfl (fun K hK => ?_); go_simp; refine hK _ _ ?_; clear hK K
  try simp only [Act.put, qj1, qj2, qj3, qj4, qj5, qj6]
  obtain ⟨wd0, hst, hb_, hf_⟩ := store_cell (t := 149) (o := 0) (.pointer (some ⟨s0, 0, none⟩)) sizePS rfl rfl (HB1.out.keep HFC0.out (by simp)) (by simp)
  refine wpList_skp rfl (w' := wd0) ?_ ?_
  · show Sem.run Tryz.prog ((Instr.storeAt 149 (.pointer (some ⟨(X + 1), 0, none⟩)) (.pointer (some ⟨s0, 0, none⟩))) >>= fun _ => pure Next.skip) _ = _
    rw [Sem.run_bind, hst]
    rfl
  clear hst
  try simp only [Act.put, qj1, qj2, qj3, qj4, qj5, qj6]
  refine wpList_plain rfl (fun K hK => ?_); go_simp; refine hK _ _ ?_; clear hK K
  refine wpList_nil ?_
  try simp only [Act.put, qj1, qj2, qj3, qj4, qj5, qj6]
  have HBA0 := Lib.hid (show Blk wd0 (X + 1) 150 [.pointer (some ⟨s0, 0, none⟩), .pointer none] from hb_)
  have HFD0 := Lib.hid hf_
  clear hb_ hf_
  go_wp2
  rw [rounds_succ]
  have HXW := Lib.hid (show w.heap.size = X ∧ X + 1 < wA.heap.size from ⟨HX.out, HB1.out.lt⟩)
  have HF2 := Lib.hid (show Fr [] w wd0 from (HFA.out.step HFC0.out).trans HFD0.out (fun x hx hl => by rw [List.mem_singleton] at hx; have := HXW.out; omega))
  go_upto_region 3 with fail
  refine wp_region_lit ?_
  refine wpList_plain rfl (fun K hK => ?_); go_simp; refine hK _ _ ?_; clear hK K
  refine wpList_plain rfl (fun K hK => ?_); go_simp; refine hK _ _ ?_; clear hK K
  refine wpList_plain rfl (fun K hK => ?_); go_simp; refine hK _ _ ?_; clear hK K
  try simp only [Act.put, qj1, qj2, qj3, qj4, qj5, qj6]
  obtain ⟨Z1, hA_⟩ : ∃ A, wd0.heap.size = A := ⟨_, rfl⟩
  obtain ⟨wa1, hw_⟩ : ∃ z, wd0.alloc (.cells #[.int .i64 0, .slice none 0 0, .bool false, .slice none 0 0, .int .i64 0, .int .i64 0, .int .i64 0] 90) = z := ⟨_, rfl⟩
  have hB_ : Blk wa1 Z1 90 [.int .i64 0, .slice none 0 0, .bool false, .slice none 0 0, .int .i64 0, .int .i64 0, .int .i64 0] := by rw [← hw_, ← hA_]; exact Blk.made wd0 90 _
  have hF_ : Fr [] wd0 wa1 := by rw [← hw_]; exact (Fr.refl [] wd0).alloc _
  rw [hw_]
  simp only [hA_]
  have HZ1 := Lib.hid hA_
  have HBZ1 := Lib.hid hB_
  have HFwa1 := Lib.hid hF_
  clear hA_ hw_ hB_ hF_
  refine wpList_plain rfl (fun K hK => ?_); go_simp; refine hK _ _ ?_; clear hK K
  try simp only [Act.put, qj1, qj2, qj3, qj4, qj5, qj6]
  obtain ⟨wb1, hst, hb_, hf_⟩ := store_all (t := 90) C1 sizeSt HN.out.2.1 HN.out.2.2.2.1 HBZ1.out rfl
  refine wpList_skp rfl (w' := wb1) ?_ ?_
  · show Sem.run Tryz.prog ((Instr.storeAt 90 (.pointer (some ⟨Z1, 0, none⟩)) (.agg C1.toArray)) >>= fun _ => pure Next.skip) _ = _
    rw [Sem.run_bind, hst]
    rfl
  clear hst
  try simp only [Act.put, qj1, qj2, qj3, qj4, qj5, qj6]
  refine wpList_nil ?_
  try simp only [Act.put, qj1, qj2, qj3, qj4, qj5, qj6]
  have HZB1 := Lib.hid hb_
  have HFB1 := Lib.hid (show Fr [] wd0 wb1 from HFwa1.out.trans hf_ (fun x hx hl => by rw [List.mem_singleton] at hx; have := HZ1.out; omega))
  clear hb_ hf_
  go_upto_region 4 with fail
  refine wp_region_lit ?_
  refine wpList_plain rfl (fun K hK => ?_); go_simp; refine hK _ _ ?_; clear hK K
  refine wpList_plain rfl (fun K hK => ?_); go_simp; refine hK _ _ ?_; clear hK K
  refine wpList_val rfl (v := .agg (C1).toArray) (w' := wb1) ?_ ?_
  · show Sem.run Tryz.prog ((Instr.loadAt 90 (.pointer (some ⟨Z1, 0, none⟩))) >>= fun x => pure (Next.value x)) wb1 = _
    rw [Sem.run_bind, load_all aggSt sizeSt (xs := C1) HN.out.2.1 HZB1.out.at]
    rfl
  try simp only [Act.put, qj1, qj2, qj3, qj4, qj5, qj6]
  refine wpList_plain rfl (fun K hK => ?_)
  go_simp
  refine (HR1.out (ownNew wd0 own0 4) wb1 (HF2.out.step HFB1.out)).mono ?_
  rintro e wc1 ⟨s1, own1, rfl, hs, hx, fc, hl⟩
  have HS1 := Lib.hid hs
  have HX1 := Lib.hid hx
  have HFC1 := Lib.hid (HFB1.out.step fc)
  have HFc1 := Lib.hid fc
  clear hs hx fc hl
  refine hK _ _ ?_
  clear hK K
  try simp only [Act.put, qj1, qj2, qj3, qj4, qj5, qj6]
  refine wpList_plain rfl (fun K hK => ?_); go_simp; refine hK _ _ ?_; clear hK K
  refine wpList_plain rfl (fun K hK => ?_); go_simp; refine hK _ _ ?_; clear hK K
  refine wpList_plain rfl (fun K hK => ?_); go_simp; refine hK _ _ ?_; clear hK K
  refine wpList_plain rfl (fun K hK => ?_); go_simp; refine hK _ _ ?_; clear hK K
  try simp only [Act.put, qj1, qj2, qj3, qj4, qj5, qj6]
  obtain ⟨wd1, hst, hb_, hf_⟩ := store_cell (t := 149) (o := 1) (.pointer (some ⟨s1, 0, none⟩)) sizePS rfl rfl (HBA0.out.keep HFC1.out (by simp)) (by simp)
  refine wpList_skp rfl (w' := wd1) ?_ ?_
  · show Sem.run Tryz.prog ((Instr.storeAt 149 (.pointer (some ⟨(X + 1), 1, none⟩)) (.pointer (some ⟨s1, 0, none⟩))) >>= fun _ => pure Next.skip) _ = _
    rw [Sem.run_bind, hst]
    rfl
  clear hst
  try simp only [Act.put, qj1, qj2, qj3, qj4, qj5, qj6]
  refine wpList_plain rfl (fun K hK => ?_); go_simp; refine hK _ _ ?_; clear hK K
  refine wpList_nil ?_
  try simp only [Act.put, qj1, qj2, qj3, qj4, qj5, qj6]
  have HBA1 := Lib.hid (show Blk wd1 (X + 1) 150 [.pointer (some ⟨s0, 0, none⟩), .pointer (some ⟨s1, 0, none⟩)] from hb_)
  have HFD1 := Lib.hid hf_
  clear hb_ hf_
  go_wp2
  rw [rounds_succ]
  go_upto_region 8 with fail
  refine wp_region_lit ?_
  refine wpList_val rfl (v := .agg ([.pointer (some ⟨s0, 0, none⟩), .pointer (some ⟨s1, 0, none⟩)]).toArray) (w' := wd1) ?_ ?_
  · show Sem.run Tryz.prog ((Instr.loadAt 150 (.pointer (some ⟨(X + 1), 0, none⟩))) >>= fun x => pure (Next.value x)) wd1 = _
    rw [Sem.run_bind, load_all aggA2 sizeA2 (xs := [.pointer (some ⟨s0, 0, none⟩), .pointer (some ⟨s1, 0, none⟩)]) rfl HBA1.out.at]
    rfl
  try simp only [Act.put, qj1, qj2, qj3, qj4, qj5, qj6]
  obtain ⟨we, hst, hb_, hf_⟩ := store_all (t := 150) [.pointer (some ⟨s0, 0, none⟩), .pointer (some ⟨s1, 0, none⟩)] sizeA2 rfl (fun u hu => by simp only [List.mem_cons, List.not_mem_nil, or_false] at hu; rcases hu with rfl | rfl <;> rfl) HBA1.out rfl
  refine wpList_skp rfl (w' := we) ?_ ?_
  · show Sem.run Tryz.prog ((Instr.storeAt 150 (.pointer (some ⟨(X + 1), 0, none⟩)) (.agg ([.pointer (some ⟨s0, 0, none⟩), .pointer (some ⟨s1, 0, none⟩)] : List Value).toArray)) >>= fun _ => pure Next.skip) _ = _
    rw [Sem.run_bind, hst]
    rfl
  clear hst
  try simp only [Act.put, qj1, qj2, qj3, qj4, qj5, qj6]
  refine wpList_plain rfl (fun K hK => ?_); go_simp; refine hK _ _ ?_; clear hK K
  refine wpList_nil ?_
  try simp only [Act.put, qj1, qj2, qj3, qj4, qj5, qj6]
  have hl := load_var aggA2 sizeA2 (xs := [.pointer (some ⟨s0, 0, none⟩), .pointer (some ⟨s1, 0, none⟩)]) rfl hb_.at
  go_wp2
  refine bodyPost_ret (v := .tuple #[.agg #[.pointer (some ⟨s0, 0, none⟩), .pointer (some ⟨s1, 0, none⟩)], .int .i64 0]) (by simp [results, Tryz.results119, as_addr, hl]) rfl ?_
  have hxw := HXW.out
  have za := HFA.out.size
  have zb := HFB0.out.size
  have zc := HFC0.out.size
  have zd := HFD0.out.size
  have ze := HFB1.out.size
  have zf := HFC1.out.size
  have l1 : own0 (X + 1) = 4 := (HX0.out _ (by omega)).trans (ownNew_ge (by omega))
  have eA : Ext wd0 own0 (ownNew wd0 own0 4) := Ext.new _ _ _
  have zg := HFc0.out.size
  have zh := HFc1.out.size
  have l2 : own1 (X + 1) = 4 := (HX1.out _ (by omega)).trans ((eA _ (by omega)).trans l1)
  have k0 := (((((HS0.out.keep HFD0.out (fun z hz hlz => by rw [List.mem_singleton] at hz; subst hz; rw [l1]; omega)).ext eA).new HFB1.out).ext HX1.out).new HFc1.out)
  have hno : ∀ z ∈ [X + 1], own1 z ≠ c + 4 ∧ own1 z ≠ c + 8 ∧ own1 z ≠ 3 := fun z hz => by rw [List.mem_singleton] at hz; subst hz; rw [l2]; omega
  have f2 : Fr [X + 1] wc1 we := HFD1.out.trans hf_ (fun x hx _ => hx)
  refine ⟨s0, s1, own1, rfl, k0.keep f2 (fun z hz _ => ⟨(hno z hz).1, (hno z hz).2.2⟩), HS1.out.keep f2 (fun z hz _ => ⟨(hno z hz).2.1, (hno z hz).2.2⟩), fun z hz => ?_, (HF2.out.step HFC1.out).trans f2 (fun x hx hl => by rw [List.mem_singleton] at hx; omega)⟩
  rw [HX1.out z (by omega), eA z (by omega), HX0.out z (by omega)]
  exact if_pos hz
end Go.Proofs.YtmdhlodafjpnmaaGreat
