/- Streams: Restore of a state that is one. -/
/- Streams: Restore over any owners; Copy. -/
import Derived.Test.YtmdhlodafjpnmaaGreatM16
import Derived.Test.YtmdhlodafjpnmaaGreatM14
namespace Go.Proofs.YtmdhlodafjpnmaaGreat
open List renaming getElem_toArray → qj1, getElem_cons_succ → qj2, getElem_cons_zero → qj3, setIfInBounds_toArray → qj4, set_cons_zero → qj5, set_cons_succ → qj6
open Go.RowKit
set_option linter.unusedVariables false
set_option linter.unusedSimpArgs false
set_option maxRecDepth 100000
set_option maxHeartbeats 4000000

def RestOut (own : Nat → Nat) (c : Nat) (x : SS) (w : World) (e : Ending) (w' : World) : Prop := ∃ (s : Nat) (own' : Nat → Nat), e = .returned (.tuple #[.pointer (some ⟨s, 0, none⟩), .int .i64 0]) ∧ StrB w' own' c s x ∧ Ext w own own' ∧ Fr [] w w' ∧ w.heap.size ≤ s
theorem bs_some {w : World} {b : Sli} {l : List UInt8} (h : Bs w b l) : b.1 = none → l.length = 0 := by
  intro hn
  obtain ⟨a, n, c⟩ := b
  rcases Nat.eq_zero_or_pos l.length with h0 | h0
  · exact h0
  · obtain ⟨g, off, he, _⟩ := Bs_elem h 0 h0
    simp only at hn
    rw [hn] at he
    cases he
theorem bs_len {w : World} {b : Sli} {l : List UInt8} (h : Bs w b l) : b.2.1 = l.length := by
  obtain ⟨a', c', he⟩ := RowV.val h
  simp only [slv, Value.slice.injEq] at he
  exact he.2.1
theorem bldCodes (a b : Int) : ∀ w, (Instr.build 207 #[(0, .int .i64 a), (1, .int .i64 b)]).run Tryz.prog w = .ok (.agg #[.int .i64 a, .int .i64 b]) w := fun w => by kernel_rfl
theorem sizeCodes : ∀ w, (sizeOf 207).run Tryz.prog w = .ok 2 w := fun w => by kernel_rfl
theorem StrA.relab {w : World} {own own' : Nat → Nat} {c s : Nat} {x : SS} (h : StrA w own c s x) (h1 : ∀ z, own z = c → own' z = c) (h3 : ∀ z, own z = 3 → own' z = 3) : StrA w own' c s x := by
  obtain ⟨st, p, hb, hs, hr⟩ := h.at_
  refine ⟨h1 _ h.os, st, p, hb, ?_, ?_⟩
  · rcases hs with h | ⟨r, g, l', cp, fr, n, k1, k2, k3⟩
    · exact .inl h
    · exact .inr ⟨r, g, l', cp, fr, n, h1 _ k1, h1 _ k2, k3⟩
  · rcases hr with h | ⟨b, off, c', y, k1, k2, k3, k4, k5, k6, k7, k8, k9⟩
    · exact .inl h
    · exact .inr ⟨b, off, c', y, k1, k2, h3 _ k3, k4, k5, k6, k7, k8, fun g hg => h3 _ (k9 g hg)⟩
theorem codes_one (a b : Int) : ∀ u ∈ [Value.int .i64 a, .int .i64 b], u.oneCell' = true := by
  intro u hu
  simp only [List.mem_cons, List.not_mem_nil, or_false] at hu
  rcases hu with rfl | rfl <;> rfl
theorem strRestore4 (c : Nat) {w : World} {x : SS} {b r : Sli} (ok : StOk x) (hb : Bs w b x.buf) (hr : Bs w r x.rest) (hc3 : c ≠ 3) (hc4 : c ≠ 4) :
    Calls Tryz.prog 120 #[.agg (stC x b r).toArray] w (RestOut (fun _ => 4) c x w) := by
  have hbl := bs_len hb
  have hrl := bs_len hr
  have HBN := Lib.hid (bs_some hb)
  have HRN := Lib.hid (bs_some hr)
  obtain ⟨ba, lb, bc⟩ := b
  obtain ⟨ra, lr, rc⟩ := r
  simp only at hbl hrl
  subst hbl
  subst hrl
  have g0 := ok.cap0
  have g1 := ok.cap1
  have g2 := ok.buf
  have g3 := ok.acc0
  have g4 := ok.acc1
  obtain ⟨cap, hcap⟩ : ∃ n : Nat, x.cap = n := ⟨x.cap.toNat, by omega⟩
  have HG := Lib.hid (show x.buf.length ≤ cap ∧ cap ≤ 4096 ∧ x.rest.length ≤ 65536 from by omega)
  have HCAP := Lib.hid hcap
  have OKK := Lib.hid ok
  have HVB := Lib.hid hb
  have HVR := Lib.hid hr
  have hval := fun W => strValid (w := W) (b := (ba, x.buf.length, bc)) (r := (ra, x.rest.length, rc)) ok rfl rfl
  simp only [stC] at hval
  have HVAL := Lib.hid hval
  obtain ⟨X, hX⟩ : ∃ A, w.heap.size = A := ⟨_, rfl⟩
  obtain ⟨w0, hw0⟩ : ∃ z, w.alloc (.cells #[.int .i64 x.cap, .slice ba x.buf.length bc, .bool x.busy, .slice ra x.rest.length rc, .int .i64 x.acc, .int .i64 x.wr, .int .i64 x.rd] 90) = z := ⟨_, rfl⟩
  have f0 : Fr [] w w0 := by rw [← hw0]; exact (Fr.refl [] w).alloc _
  have b0 : Blk w0 X 90 [.int .i64 x.cap, .slice ba x.buf.length bc, .bool x.busy, .slice ra x.rest.length rc, .int .i64 x.acc, .int .i64 x.wr, .int .i64 x.rd] := by rw [← hw0, ← hX]; exact Blk.made w _ _
  have HX := Lib.hid hX
  have HW0 := Lib.hid hw0
  have HF0 := Lib.hid f0
  have HB0 := Lib.hid b0
  simp only [stC]
  clear b0 hX hw0 f0 ok hb hr hval g0 g1 g2 g3 g4 hcap
  go_enter Tryz.func120, Tryz.ntmps120
  go_upto_region 1 with fail
  rw [HW0.out]
  simp only [HX.out]
  refine wp_region_lit ?_
  refine wpList_val rfl (v := .agg ([.int .i64 x.cap, .slice ba x.buf.length bc, .bool x.busy, .slice ra x.rest.length rc, .int .i64 x.acc, .int .i64 x.wr, .int .i64 x.rd]).toArray) (w' := w0) ?_ ?_
  · show Sem.run Tryz.prog ((Instr.loadAt 90 (.pointer (some ⟨X, 0, none⟩))) >>= fun x => pure (Next.value x)) w0 = _
    rw [Sem.run_bind, load_all aggSt sizeSt (xs := [.int .i64 x.cap, .slice ba x.buf.length bc, .bool x.busy, .slice ra x.rest.length rc, .int .i64 x.acc, .int .i64 x.wr, .int .i64 x.rd]) rfl HB0.out.at]
    rfl
  try simp only [Act.put, qj1, qj2, qj3, qj4, qj5, qj6]
  refine wpList_plain rfl (fun K hK => ?_)
  go_simp
  refine (HVAL.out w0).mono ?_
  rintro e w1 ⟨rfl, f1⟩
  have HF1 := Lib.hid (HF0.out.step f1)
  have HB1 := Lib.hid (HB0.out.keep f1 (by simp))
  clear f1
  refine hK _ _ ?_
  clear hK K
  try simp only [Act.put, qj1, qj2, qj3, qj4, qj5, qj6]
  refine wpList_plain rfl (fun K hK => ?_); go_simp; refine hK _ _ ?_; clear hK K
  refine wpList_nil ?_
  try simp only [Act.put, qj1, qj2, qj3, qj4, qj5, qj6]
  have k0 : w1.cell? ⟨X, 0, none⟩ = some (.int .i64 cap) := by rw [← HCAP.out]; exact HB1.out.at 0 _ rfl
  go_upto_region 3 with fail
  refine wp_region_lit ?_
  refine wpList_plain rfl (fun K hK => ?_); go_simp; refine hK _ _ ?_; clear hK K
  refine wpList_plain rfl (fun K hK => ?_); go_simp; refine hK _ _ ?_; clear hK K
  refine wpList_plain rfl (fun K hK => ?_)
  go_simp
  refine (strNew (fun _ => 4) c cap HG.out.2.1 w1).mono ?_
  rintro e w2 ⟨s, rfl, hs2, f2, hsl⟩
  have HS2 := Lib.hid hs2
  have HF2 := Lib.hid f2
  have HSL := Lib.hid hsl
  clear hs2 f2 hsl k0
  refine hK _ _ ?_
  clear hK K
  try simp only [Act.put, qj1, qj2, qj3, qj4, qj5, qj6]
  refine wpList_plain rfl (fun K hK => ?_); go_simp; refine hK _ _ ?_; clear hK K
  refine wpList_plain rfl (fun K hK => ?_); go_simp; refine hK _ _ ?_; clear hK K
  refine wpList_plain rfl (fun K hK => ?_); go_simp; refine hK _ _ ?_; clear hK K
  refine wpList_plain rfl (fun K hK => ?_); go_simp; refine hK _ _ ?_; clear hK K
  refine wpList_plain rfl (fun K hK => ?_); go_simp; refine hK _ _ ?_; clear hK K
  refine wpList_nil ?_
  try simp only [Act.put, qj1, qj2, qj3, qj4, qj5, qj6]
  have k1 : w2.cell? ⟨X, 1, none⟩ = some (.slice ba x.buf.length bc) := HF2.out.keep (HB1.out.at 1 _ rfl) (by simp)
  have HF12 := Lib.hid (HF1.out.step HF2.out)
  go_upto_region 4 with fail
  refine wp_region_lit ?_
  refine wpList_plain rfl (fun K hK => ?_); go_simp; refine hK _ _ ?_; clear hK K
  refine wpList_plain rfl (fun K hK => ?_); go_simp; refine hK _ _ ?_; clear hK K
  refine wpList_plain rfl (fun K hK => ?_)
  go_simp
  refine (clone_bytes (x := (ba, x.buf.length, bc)) (l := x.buf) (HVB.out.new HF12.out) rfl (fun h => HBN.out h) (by have := HG.out; omega)).mono ?_
  rintro e wa1 ⟨v, rfl, ho, fa⟩
  have HO1 := Lib.hid ho
  have HFa1 := Lib.hid fa
  clear ho fa
  obtain ⟨va1, vn1, vc1⟩ := v
  simp only [slv]
  refine hK _ _ ?_
  clear hK K
  try simp only [Act.put, qj1, qj2, qj3, qj4, qj5, qj6]
  refine wpList_plain rfl (fun K hK => ?_); go_simp; refine hK _ _ ?_; clear hK K
  try simp only [Act.put, qj1, qj2, qj3, qj4, qj5, qj6]
  obtain ⟨P1, hA_⟩ : ∃ A, wa1.heap.size = A := ⟨_, rfl⟩
  obtain ⟨wb1, hw_⟩ : ∃ z, wa1.alloc (.cells #[.slice va1 vn1 vc1] 22) = z := ⟨_, rfl⟩
  have hB_ : Blk wb1 P1 22 [.slice va1 vn1 vc1] := by rw [← hw_, ← hA_]; exact Blk.made wa1 22 _
  have hF_ : Fr [] wa1 wb1 := by rw [← hw_]; exact (Fr.refl [] wa1).alloc _
  rw [hw_]
  simp only [hA_]
  have HP1 := Lib.hid hA_
  have HBP1 := Lib.hid hB_
  have HFwb1 := Lib.hid hF_
  clear hA_ hw_ hB_ hF_
  refine wpList_plain rfl (fun K hK => ?_)
  go_simp
  refine (ropeNew_any (ownNew w1 (fun _ => 4) c) (x := (va1, vn1, vc1)) (l := x.buf) (HBP1.out.at 0 _ rfl) ((HO1.out.new HFwb1.out).bs) (bsO_cap HO1.out).1 (bs_some (HO1.out.bs)) (by have := HG.out; omega)).mono ?_
  rintro e wc1 ⟨p1, own1, rfl, hp, hx, fc⟩
  have HRP1 := Lib.hid hp
  have HX1 := Lib.hid hx
  have HFc1 := Lib.hid ((HFa1.out.step HFwb1.out).step fc)
  have HFd1 := Lib.hid fc
  clear hp hx fc
  refine hK _ _ ?_
  clear hK K
  try simp only [Act.put, qj1, qj2, qj3, qj4, qj5, qj6]
  refine wpList_plain rfl (fun K hK => ?_); go_simp; refine hK _ _ ?_; clear hK K
  refine wpList_plain rfl (fun K hK => ?_); go_simp; refine hK _ _ ?_; clear hK K
  refine wpList_plain rfl (fun K hK => ?_); go_simp; refine hK _ _ ?_; clear hK K
  try simp only [Act.put, qj1, qj2, qj3, qj4, qj5, qj6]
  refine wpList_plain rfl (fun K hK => ?_); go_simp; refine hK _ _ ?_; clear hK K
  try simp only [Act.put, qj1, qj2, qj3, qj4, qj5, qj6]
  obtain ⟨Q, hA_⟩ : ∃ A, wc1.heap.size = A := ⟨_, rfl⟩
  obtain ⟨w3, hw_⟩ : ∃ z, wc1.alloc (.cells #[.slice none 0 0, .int .i64 0] 128) = z := ⟨_, rfl⟩
  have hB_ : Blk w3 Q 128 [.slice none 0 0, .int .i64 0] := by rw [← hw_, ← hA_]; exact Blk.made wc1 128 _
  have hF_ : Fr [] wc1 w3 := by rw [← hw_]; exact (Fr.refl [] wc1).alloc _
  rw [hw_]
  simp only [hA_]
  have HQ := Lib.hid hA_
  have HBQ := Lib.hid hB_
  have HFw3 := Lib.hid hF_
  clear hA_ hw_ hB_ hF_
  obtain ⟨w4, hst, hb_, hf_⟩ := store_all (t := 128) [.slice p1.1 p1.2.1 p1.2.2, .int .i64 x.buf.length] sizeRope rfl (rope_one _ _ _ _) HBQ.out rfl
  refine wpList_skp rfl (w' := w4) ?_ ?_
  · show Sem.run Tryz.prog ((Instr.storeAt 128 (.pointer (some ⟨Q, 0, none⟩)) (.agg #[.slice p1.1 p1.2.1 p1.2.2, .int .i64 x.buf.length])) >>= fun _ => pure Next.skip) _ = _
    rw [Sem.run_bind, hst]
    rfl
  clear hst
  try simp only [Act.put, qj1, qj2, qj3, qj4, qj5, qj6]
  refine wpList_plain rfl (fun K hK => ?_); go_simp; refine hK _ _ ?_; clear hK K
  refine wpList_nil ?_
  try simp only [Act.put, qj1, qj2, qj3, qj4, qj5, qj6]
  have HQ4 := Lib.hid hb_
  have HF24 := Lib.hid (show Fr [] w2 w4 from ((HFc1.out.step HFw3.out).trans hf_ (fun x hx hl => by rw [List.mem_singleton] at hx; have := HQ.out; have := HFc1.out.size; omega)))
  obtain ⟨own2, hown2⟩ : ∃ o : Nat → Nat, o = (fun z => if z = Q then 4 else own1 z) := ⟨_, rfl⟩
  have HE12 := Lib.hid (show Ext wc1 own1 own2 from fun z hz => by rw [hown2]; have := HQ.out; simp only; rw [if_neg (by omega)])
  have HQ3 := Lib.hid (show own2 Q = 4 from by rw [hown2]; simp)
  have HX2 := Lib.hid (show Ext w2 (ownNew w1 (fun _ => 4) c) own2 from fun z hz => by
    have h1 := (HFa1.out.step HFwb1.out).size
    have h2 := HFd1.out.size
    rw [HE12.out z (by omega)]
    exact HX1.out z (by omega))
  have HRP4 := Lib.hid (((HRP1.out.ext HE12.out).new HFw3.out).keep hf_ (fun z hz hl => by rw [List.mem_singleton] at hz; subst hz; rw [HQ3.out]; omega))
  have HS4 := Lib.hid ((HS2.out.a.ext HX2.out).new HF24.out)
  have HXL := Lib.hid (show X < w1.heap.size ∧ w.heap.size = X ∧ w1.heap.size ≤ w2.heap.size ∧ w2.heap.size ≤ wc1.heap.size ∧ wc1.heap.size = Q ∧ Q < w4.heap.size from ⟨HB1.out.lt, HX.out, HF2.out.size, HFc1.out.size, HQ.out, hb_.lt⟩)
  have HLAB := Lib.hid (show ∀ z, z < w1.heap.size → own2 z = 4 from fun z hz => by rw [HX2.out z (Nat.lt_of_lt_of_le hz HF2.out.size)]; exact if_pos hz)
  have HB4 := Lib.hid (((HB1.out.keep HF2.out (by simp)).keep HF24.out (by simp)))
  have HVR4 := Lib.hid ((HVR.out.new HF12.out).new HF24.out)
  clear hb_ hf_ hown2
  obtain ⟨st, p0, hbs, hst, hp0⟩ := HS4.out.at_
  have HBS4 := Lib.hid hbs
  have HOS4 := Lib.hid HS4.out.os
  have ks : w4.cell? ⟨s, 0, none⟩ = some st := hbs.at 0 _ rfl
  clear hbs hp0 k1
  rcases hst with ⟨hz0, _, rfl⟩ | ⟨r, g, l, cp, f, n, h1, h2, h3, h4, h5, h6, h7, h8, h9, rfl⟩
  · skip
    have hm := fill_dm
    have HBE := Lib.hid (show x.buf = [] from List.eq_nil_of_length_eq_zero (by have := HG.out.1; have h0 : (cap : Int) = 0 := hz0; omega))
    have HZ0 := Lib.hid hz0
    clear hz0
    go_wp2_with fail
    refine (fill_direct _ w4).mono ?_
    rintro e w5 ⟨rfl, f5⟩
    have HX3 := Lib.hid (Ext.refl w4 own2)
    have HB5 := Lib.hid (HB4.out.keep f5 (by simp))
    have HVR5 := Lib.hid (HVR4.out.new f5)
    have HBS5 := Lib.hid (HBS4.out.keep f5 (by simp))
    have HST5 := Lib.hid (show StoreB w5 own2 c s x.cap x.buf (.iface 246 (.agg #[])) from .inl ⟨by rw [HCAP.out]; exact HZ0.out, HBE.out, rfl⟩)
    have HF5 := Lib.hid ((HF12.out.step HF24.out).step f5)
    have HOS5 := HOS4
    clear f5
    have k3 : w5.cell? ⟨X, 3, none⟩ = some (.slice ra x.rest.length rc) := HB5.out.at 3 _ rfl
    go_upto_region 6 with fail
    refine wp_region_lit ?_
    refine wpList_plain rfl (fun K hK => ?_); go_simp; refine hK _ _ ?_; clear hK K
    refine wpList_plain rfl (fun K hK => ?_); go_simp; refine hK _ _ ?_; clear hK K
    refine wpList_plain rfl (fun K hK => ?_); go_simp; refine hK _ _ ?_; clear hK K
    refine wpList_plain rfl (fun K hK => ?_)
    go_simp
    refine (clone_bytes (x := (ra, x.rest.length, rc)) (l := x.rest) (HVR5.out.new (Fr.refl [] w5)) rfl (fun h => HRN.out h) (HG.out.2.2)).mono ?_
    rintro e wa2 ⟨v, rfl, ho, fa⟩
    have HO2 := Lib.hid ho
    have HFa2 := Lib.hid fa
    clear ho fa
    obtain ⟨va2, vn2, vc2⟩ := v
    simp only [slv]
    refine hK _ _ ?_
    clear hK K
    try simp only [Act.put, qj1, qj2, qj3, qj4, qj5, qj6]
    refine wpList_plain rfl (fun K hK => ?_); go_simp; refine hK _ _ ?_; clear hK K
    try simp only [Act.put, qj1, qj2, qj3, qj4, qj5, qj6]
    obtain ⟨P2, hA_⟩ : ∃ A, wa2.heap.size = A := ⟨_, rfl⟩
    obtain ⟨wb2, hw_⟩ : ∃ z, wa2.alloc (.cells #[.slice va2 vn2 vc2] 22) = z := ⟨_, rfl⟩
    have hB_ : Blk wb2 P2 22 [.slice va2 vn2 vc2] := by rw [← hw_, ← hA_]; exact Blk.made wa2 22 _
    have hF_ : Fr [] wa2 wb2 := by rw [← hw_]; exact (Fr.refl [] wa2).alloc _
    rw [hw_]
    simp only [hA_]
    have HP2 := Lib.hid hA_
    have HBP2 := Lib.hid hB_
    have HFwb2 := Lib.hid hF_
    clear hA_ hw_ hB_ hF_
    refine wpList_plain rfl (fun K hK => ?_)
    go_simp
    refine (ropeNew_any own2 (x := (va2, vn2, vc2)) (l := x.rest) (HBP2.out.at 0 _ rfl) ((HO2.out.new HFwb2.out).bs) (bsO_cap HO2.out).1 (bs_some (HO2.out.bs)) (HG.out.2.2)).mono ?_
    rintro e wc2 ⟨p2, own2b, rfl, hp, hx, fc⟩
    have HRP2 := Lib.hid hp
    have HX2b := Lib.hid hx
    have HFc2 := Lib.hid ((HFa2.out.step HFwb2.out).step fc)
    have HFd2 := Lib.hid fc
    clear hp hx fc
    refine hK _ _ ?_
    clear hK K
    try simp only [Act.put, qj1, qj2, qj3, qj4, qj5, qj6]
    refine wpList_plain rfl (fun K hK => ?_); go_simp; refine hK _ _ ?_; clear hK K
    refine wpList_plain rfl (fun K hK => ?_); go_simp; refine hK _ _ ?_; clear hK K
    refine wpList_plain rfl (fun K hK => ?_); go_simp; refine hK _ _ ?_; clear hK K
    refine wpList_plain rfl (fun K hK => ?_); go_simp; refine hK _ _ ?_; clear hK K
    refine wpList_plain rfl (fun K hK => ?_); go_simp; refine hK _ _ ?_; clear hK K
    try simp only [Act.put, qj1, qj2, qj3, qj4, qj5, qj6]
    obtain ⟨w6, hst, hb_, hf_⟩ := store_part (o := 2) (t := 128) [.slice p2.1 p2.2.1 p2.2.2, .int .i64 x.rest.length] sizeRope rfl (rope_one _ _ _ _) (HBS5.out.keep HFc2.out (by simp)) (by simp [stB])
    refine wpList_skp rfl (w' := w6) ?_ ?_
    · show Sem.run Tryz.prog ((Instr.storeAt 128 (.pointer (some ⟨s, 2, none⟩)) (.agg #[.slice p2.1 p2.2.1 p2.2.2, .int .i64 x.rest.length])) >>= fun _ => pure Next.skip) _ = _
      rw [Sem.run_bind, hst]
      rfl
    clear hst
    try simp only [Act.put, qj1, qj2, qj3, qj4, qj5, qj6]
    refine wpList_nil ?_
    try simp only [Act.put, qj1, qj2, qj3, qj4, qj5, qj6]
    have HS6 := Lib.hid hb_
    have HF6 := Lib.hid hf_
    have hXs : X ≠ s := fun h => by have h1 := HXL.out; have h2 := HSL.out; omega
    have HB6 := Lib.hid ((HB5.out.keep HFc2.out (by simp)).keep hf_ (by simpa using hXs))
    obtain ⟨w7, hw7⟩ : ∃ z, w6.drew = z := ⟨_, rfl⟩
    have f7 : Fr [] w6 w7 := by rw [← hw7]; exact (Fr.refl [] w6).drew
    have HF7 := Lib.hid f7
    have HW7 := Lib.hid hw7
    have HB7 := Lib.hid (HB6.out.keep f7 (by simp))
    have HS7 := Lib.hid (HS6.out.keep f7 (by simp))
    have hbc := bldCodes x.wr x.rd
    clear hb_ hf_ f7 hw7 k3
    go_upto_region 7 with fail
    refine wp_region_held_drew (S := fun W => W.cell? ⟨X, 2, none⟩ = some (.bool x.busy) ∧ W.cell? ⟨X, 4, none⟩ = some (.int .i64 x.acc) ∧ W.cell? ⟨X, 5, none⟩ = some (.int .i64 x.wr) ∧ W.cell? ⟨X, 6, none⟩ = some (.int .i64 x.rd)) (by kernel_rfl) (by rw [HW7.out]; exact ⟨HB7.out.at 2 _ rfl, HB7.out.at 4 _ rfl, HB7.out.at 5 _ rfl, HB7.out.at 6 _ rfl⟩) (fun hHeld => ?_)
    rw [HW7.out] at hHeld ⊢
    refine wpAnyH_take (i := 0) (oi := _) (v := ?_) rfl (by kernel_rfl) (by kernel_rfl) (by kernel_rfl) (fun _ _ _ h => h) (Or.inl ⟨by rfl, ?_⟩) (by first | assumption | trivial) ?_
    rotate_left
    · intro w hSw; (try dsimp only at hSw); go_simp; try with_reducible rfl
    try simp only [Act.put, qj1, qj2, qj3, qj4, qj5, qj6]
    refine wpAnyH_take (i := 1) (oi := _) (v := ?_) rfl (by kernel_rfl) (by kernel_rfl) (by kernel_rfl) (fun _ _ _ h => h) (Or.inl ⟨by rfl, ?_⟩) (by first | assumption | trivial) ?_
    rotate_left
    · intro w hSw; (try dsimp only at hSw); go_simp; try with_reducible rfl
    try simp only [Act.put, qj1, qj2, qj3, qj4, qj5, qj6]
    refine wpAnyH_take (i := 2) (oi := _) (v := ?_) rfl (by kernel_rfl) (by kernel_rfl) (by kernel_rfl) (fun _ _ _ h => h) (Or.inl ⟨by rfl, ?_⟩) (by first | assumption | trivial) ?_
    rotate_left
    · intro w hSw; (try dsimp only at hSw); go_simp; try with_reducible rfl
    try simp only [Act.put, qj1, qj2, qj3, qj4, qj5, qj6]
    refine wpAnyH_take (i := 3) (oi := _) (v := ?_) rfl (by kernel_rfl) (by kernel_rfl) (by kernel_rfl) (fun _ _ _ h => h) (Or.inl ⟨by rfl, ?_⟩) (by first | assumption | trivial) ?_
    rotate_left
    · intro w hSw; (try dsimp only at hSw); go_simp; try with_reducible rfl
    try simp only [Act.put, qj1, qj2, qj3, qj4, qj5, qj6]
    refine wpAnyH_take (i := 4) (oi := _) (v := ?_) rfl (by kernel_rfl) (by kernel_rfl) (by kernel_rfl) (fun _ _ _ h => h) (Or.inl ⟨by rfl, ?_⟩) (by first | assumption | trivial) ?_
    rotate_left
    · intro w hSw; (try dsimp only at hSw); go_simp; try with_reducible rfl
    try simp only [Act.put, qj1, qj2, qj3, qj4, qj5, qj6]
    refine wpAnyH_take (i := 5) (oi := _) (v := ?_) rfl (by kernel_rfl) (by kernel_rfl) (by kernel_rfl) (fun _ _ _ h => h) (Or.inl ⟨by rfl, ?_⟩) (by first | assumption | trivial) ?_
    rotate_left
    · intro w hSw; (try dsimp only at hSw); go_simp; try with_reducible rfl
    try simp only [Act.put, qj1, qj2, qj3, qj4, qj5, qj6]
    refine wpAnyH_take (i := 6) (oi := _) (v := ?_) rfl (by kernel_rfl) (by kernel_rfl) (by kernel_rfl) (fun _ _ _ h => h) (Or.inl ⟨by rfl, ?_⟩) (by first | assumption | trivial) ?_
    rotate_left
    · intro w hSw; (try dsimp only at hSw); go_simp; try with_reducible rfl
    try simp only [Act.put, qj1, qj2, qj3, qj4, qj5, qj6]
    refine wpAnyH_take (i := 7) (oi := _) (v := ?_) rfl (by kernel_rfl) (by kernel_rfl) (by kernel_rfl) (fun _ _ _ h => h) (Or.inl ⟨by rfl, ?_⟩) (by first | assumption | trivial) ?_
    rotate_left
    · intro w hSw; (try dsimp only at hSw); go_simp; try with_reducible rfl
    try simp only [Act.put, qj1, qj2, qj3, qj4, qj5, qj6]
    refine wpAnyH_take (i := 8) (oi := _) (v := ?_) rfl (by kernel_rfl) (by kernel_rfl) (by kernel_rfl) (fun _ _ _ h => h) (Or.inl ⟨by rfl, ?_⟩) (by first | assumption | trivial) ?_
    rotate_left
    · intro w hSw; (try dsimp only at hSw); go_simp; try with_reducible rfl
    try simp only [Act.put, qj1, qj2, qj3, qj4, qj5, qj6]
    refine wpAnyH_take (i := 9) (oi := _) (v := ?_) rfl (by kernel_rfl) (by kernel_rfl) (by kernel_rfl) (fun _ _ _ h => h) (Or.inl ⟨by rfl, ?_⟩) (by first | assumption | trivial) ?_
    rotate_left
    · intro w hSw; (try dsimp only at hSw); go_simp; try with_reducible rfl
    try simp only [Act.put, qj1, qj2, qj3, qj4, qj5, qj6]
    refine wpAnyH_take (i := 10) (oi := _) (v := ?_) rfl (by kernel_rfl) (by kernel_rfl) (by kernel_rfl) (fun _ _ _ h => h) (Or.inl ⟨by rfl, ?_⟩) (by first | assumption | trivial) ?_
    rotate_left
    · intro w hSw; (try dsimp only at hSw); go_simp; try with_reducible rfl
    try simp only [Act.put, qj1, qj2, qj3, qj4, qj5, qj6]
    refine wpAnyH_take (i := 11) (oi := _) (v := ?_) rfl (by kernel_rfl) (by kernel_rfl) (by kernel_rfl) (fun _ _ _ h => h) (Or.inl ⟨by rfl, ?_⟩) (by first | assumption | trivial) ?_
    rotate_left
    · intro w hSw; (try dsimp only at hSw); go_simp; try with_reducible rfl
    try simp only [Act.put, qj1, qj2, qj3, qj4, qj5, qj6]
    refine wpAnyH_take (i := 12) (oi := _) (v := ?_) rfl (by kernel_rfl) (by kernel_rfl) (by kernel_rfl) (fun _ _ _ h => h) (Or.inl ⟨by rfl, ?_⟩) (by first | assumption | trivial) ?_
    rotate_left
    · intro w hSw; (try dsimp only at hSw); go_simp; try with_reducible rfl
    try simp only [Act.put, qj1, qj2, qj3, qj4, qj5, qj6]
    refine wpAnyH_take (i := 13) (oi := _) (v := ?_) rfl (by kernel_rfl) (by kernel_rfl) (by kernel_rfl) (fun _ _ _ h => h) (Or.inl ⟨by rfl, ?_⟩) (by first | assumption | trivial) ?_
    rotate_left
    · intro w hSw; (try dsimp only at hSw); go_simp; try with_reducible rfl
    try simp only [Act.put, qj1, qj2, qj3, qj4, qj5, qj6]
    refine wpAnyH_ready (rs := [14]) (by kernel_rfl) (by simp) ?_
    refine AllReadyH.cons (o := _) rfl (fun K hK => ?_) AllReadyH.nil
    obtain ⟨w8, hst, hb_, hf_⟩ := store_cell (t := 4) (o := 1) (.bool x.busy) sizeBool rfl rfl HS7.out (by simp [stB])
    split
    rotate_left
    · rename_i hno
      exact absurd rfl hno
    refine wp_skp (w' := w8) ?_ ?_
    · show Sem.run Tryz.prog ((Instr.storeAt 4 (.pointer (some ⟨s, 1, none⟩)) (.bool x.busy)) >>= fun _ => pure Next.skip) _ = _
      rw [Sem.run_bind, hst]
      rfl
    clear hst
    have HS8 := Lib.hid hb_
    have HFs1 := Lib.hid hf_
    clear hb_ hf_
    refine hK.out _ _ (⟨HFs1.out.keep hHeld.1 (by simpa using hXs), HFs1.out.keep hHeld.2.1 (by simpa using hXs), HFs1.out.keep hHeld.2.2.1 (by simpa using hXs), HFs1.out.keep hHeld.2.2.2 (by simpa using hXs)⟩) (fun hHeld => ?_)
    clear hK K
    try simp only [Act.put, qj1, qj2, qj3, qj4, qj5, qj6]
    refine wpAnyH_take (i := 15) (oi := _) (v := ?_) rfl (by kernel_rfl) (by kernel_rfl) (by kernel_rfl) (fun _ _ _ h => h) (Or.inl ⟨by rfl, ?_⟩) (by first | assumption | trivial) ?_
    rotate_left
    · intro w hSw; (try dsimp only at hSw); go_simp; try with_reducible rfl
    try simp only [Act.put, qj1, qj2, qj3, qj4, qj5, qj6]
    refine wpAnyH_take (i := 16) (oi := _) (v := ?_) rfl (by kernel_rfl) (by kernel_rfl) (by kernel_rfl) (fun _ _ _ h => h) (Or.inl ⟨by rfl, ?_⟩) (by first | assumption | trivial) ?_
    rotate_left
    · intro w hSw; (try dsimp only at hSw); go_simp; try with_reducible rfl
    try simp only [Act.put, qj1, qj2, qj3, qj4, qj5, qj6]
    refine wpAnyH_ready (rs := [17]) (by kernel_rfl) (by simp) ?_
    refine AllReadyH.cons (o := _) rfl (fun K hK => ?_) AllReadyH.nil
    obtain ⟨w9, hst, hb_, hf_⟩ := store_cell (t := 3) (o := 4) (.int .i64 x.acc) size3 rfl rfl HS8.out (by simp [stB])
    split
    rotate_left
    · rename_i hno
      exact absurd rfl hno
    refine wp_skp (w' := w9) ?_ ?_
    · show Sem.run Tryz.prog ((Instr.storeAt 3 (.pointer (some ⟨s, 4, none⟩)) (.int .i64 x.acc)) >>= fun _ => pure Next.skip) _ = _
      rw [Sem.run_bind, hst]
      rfl
    clear hst
    have HS9 := Lib.hid hb_
    have HFs2 := Lib.hid hf_
    clear hb_ hf_
    refine hK.out _ _ (⟨HFs2.out.keep hHeld.1 (by simpa using hXs), HFs2.out.keep hHeld.2.1 (by simpa using hXs), HFs2.out.keep hHeld.2.2.1 (by simpa using hXs), HFs2.out.keep hHeld.2.2.2 (by simpa using hXs)⟩) (fun hHeld => ?_)
    clear hK K
    try simp only [Act.put, qj1, qj2, qj3, qj4, qj5, qj6]
    refine wpAnyH_take (i := 18) (oi := _) (v := ?_) rfl (by kernel_rfl) (by kernel_rfl) (by kernel_rfl) (fun _ _ _ h => h) (Or.inl ⟨by rfl, ?_⟩) (by first | assumption | trivial) ?_
    rotate_left
    · intro w hSw; (try dsimp only at hSw); go_simp; try with_reducible rfl
    try simp only [Act.put, qj1, qj2, qj3, qj4, qj5, qj6]
    refine wpAnyH_take (i := 19) (oi := _) (v := ?_) rfl (by kernel_rfl) (by kernel_rfl) (by kernel_rfl) (fun _ _ _ h => h) (Or.inl ⟨by rfl, ?_⟩) (by first | assumption | trivial) ?_
    rotate_left
    · intro w hSw; (try dsimp only at hSw); go_simp; try with_reducible rfl
    try simp only [Act.put, qj1, qj2, qj3, qj4, qj5, qj6]
    refine wpAnyH_ready (rs := [20]) (by kernel_rfl) (by simp) ?_
    refine AllReadyH.cons (o := _) rfl (fun K hK => ?_) AllReadyH.nil
    obtain ⟨w10, hst, hb_, hf_⟩ := store_part (o := 5) (t := 207) [.int .i64 x.wr, .int .i64 x.rd] sizeCodes rfl (codes_one _ _) HS9.out (by simp [stB])
    split
    rotate_left
    · rename_i hno
      exact absurd rfl hno
    refine wp_skp (w' := w10) ?_ ?_
    · show Sem.run Tryz.prog ((Instr.storeAt 207 (.pointer (some ⟨s, 5, none⟩)) (.agg #[.int .i64 x.wr, .int .i64 x.rd])) >>= fun _ => pure Next.skip) _ = _
      rw [Sem.run_bind, hst]
      rfl
    clear hst
    have HS10 := Lib.hid hb_
    have HFs3 := Lib.hid hf_
    clear hb_ hf_
    refine hK.out _ _ (⟨HFs3.out.keep hHeld.1 (by simpa using hXs), HFs3.out.keep hHeld.2.1 (by simpa using hXs), HFs3.out.keep hHeld.2.2.1 (by simpa using hXs), HFs3.out.keep hHeld.2.2.2 (by simpa using hXs)⟩) (fun hHeld => ?_)
    clear hK K
    try simp only [Act.put, qj1, qj2, qj3, qj4, qj5, qj6]
    refine wpAnyH_done (by kernel_rfl) ?_ _
    clear hHeld
    go_wp2
    refine bodyPost_ret (v := .tuple #[.pointer (some ⟨s, 0, none⟩), .int .i64 0]) (by simp [results, Tryz.results120]) rfl ?_
    have hb10 : Blk w10 s 209 (stB x (.iface 246 (.agg #[])) p2) := HS10.out
    have f10 : Fr [s] w5 w10 := ((((HFc2.out.mono (T := [s]) (fun x hx _ => by cases hx)).trans HF6.out (fun x hx _ => hx)).step HF7.out).trans HFs1.out (fun x hx _ => hx)).trans ((HFs2.out.trans HFs3.out (fun x hx _ => hx))) (fun x hx _ => hx)
    have f10' : Fr [s] wc2 w10 := (((HF6.out.step HF7.out).trans HFs1.out (fun x hx _ => hx)).trans (HFs2.out.trans HFs3.out (fun x hx _ => hx)) (fun x hx _ => hx))
    have hsl := HSL.out
    have hxl := HXL.out
    have hs5 := HBS5.out.lt
    have HX25 := Lib.hid (show Ext w5 own2 own2b from fun z hz => HX2b.out z (Nat.lt_of_lt_of_le hz (HFa2.out.step HFwb2.out).size))
    have ho2 : own2b s = c := (HX25.out s hs5).trans HOS5.out
    refine ⟨s, own2b, rfl, ⟨⟨ho2, _, p2, hb10, (HST5.out.ext HX25.out).keep1 f10, HRP2.out.keep f10' (fun z hz hl => by rw [List.mem_singleton] at hz; subst hz; rw [ho2]; exact hc3)⟩, OKK.out⟩, fun z hz => ?_, HF5.out.trans f10 (fun x hx hl => by rw [List.mem_singleton] at hx; omega), by omega⟩
    rw [HX25.out z (Nat.lt_of_lt_of_le hz HF5.out.size), HX3.out z (by omega)]
    exact HLAB.out z (by omega)
  · skip
    have hm := fill_bm r
    have h8' : n = 0 := h8
    have hcl : (l.length : Int) = cap := h6
    have hmn : min (l.length - n) x.buf.length = x.buf.length := by have := HG.out.1; omega
    have hfill := fill_ring h9 h5 HRP4.out (by have := HG.out; omega) (q := Q) (t := 128) (pre := []) (post := []) HQ4.out (fun h => by rw [← h, HQ3.out] at h1; exact hc4 h1.symm) (fun h => by rw [← h, HQ3.out] at h2; exact hc4 h2.symm) ⟨by rw [HQ3.out]; omega, by rw [h1]; exact hc3, by rw [h2]; exact hc3⟩ x.buf.length hmn
    rw [List.take_length, List.drop_length] at hfill
    have HFILL := Lib.hid hfill
    have HRI := Lib.hid (And.intro h1 (And.intro h2 (And.intro h3 (And.intro h4 h5))))
    have HCC := Lib.hid (And.intro hcl (And.intro h7 (And.intro h8' h9)))
    clear hfill h1 h2 h3 h4 h5 h6 h7 h8 h9 h8' hcl hmn
    go_wp2_with fail
    refine HFILL.out.mono ?_
    rintro e w5 ⟨p5, own3, rfl, hr5, hp5, hq5, hx5, f5⟩
    have hri := HRI.out
    have hcc := HCC.out
    have hlab := HLAB.out
    have hxl := HXL.out
    have hXn : X ∉ [Q, r, g] := fun hm => by
      simp only [List.mem_cons, List.not_mem_nil, or_false] at hm
      rcases hm with h | h | h
      · omega
      · have := hlab X hxl.1
        rw [h, hri.1] at this
        exact hc4 this
      · have := hlab X hxl.1
        rw [h, hri.2.1] at this
        exact hc4 this
    have hsn : s ∉ [Q, r, g] := fun hm => by
      simp only [List.mem_cons, List.not_mem_nil, or_false] at hm
      rcases hm with h | h | h
      · have := HOS4.out
        rw [h, HQ3.out] at this
        exact hc4 this.symm
      · exact hri.2.2.1 h.symm
      · exact hri.2.2.2.1 h.symm
    have HX3 := Lib.hid hx5
    have HB5 := Lib.hid (HB4.out.keep f5 hXn)
    have HVR5 := Lib.hid (show Bs w5 (ra, x.rest.length, rc) x.rest from by
      rcases Nat.eq_zero_or_pos x.rest.length with h0 | h0
      · have := HVR4.out
        have hn : x.rest = [] := List.eq_nil_of_length_eq_zero h0
        rw [hn] at this ⊢
        exact ⟨rfl, .inl ⟨rfl, _, _, rfl⟩⟩
      · exact RowV.not HVR4.out f5 (fun z hz hm => by
          have hzl := bs_low HVR.out h0 z hz
          have h4 := hlab z (by omega)
          simp only [List.mem_cons, List.not_mem_nil, or_false] at hm
          rcases hm with h | h | h
          · omega
          · rw [h, hri.1] at h4
            exact hc4 h4
          · rw [h, hri.2.1] at h4
            exact hc4 h4))
    have HBS5 := Lib.hid (HBS4.out.keep f5 hsn)
    have hrl := hcc.2.2.2.blk.lt
    have hgl := hcc.2.2.2.row.lt
    have hfl := hcc.2.2.2.hf
    have HST5 := Lib.hid (show StoreB w5 own3 c s x.cap x.buf (.iface 251 (.agg #[.pointer (some ⟨r, 0, none⟩)])) from .inr ⟨r, g, ringPut l f n x.buf, cp, f, n + x.buf.length, (hx5 r hrl).trans hri.1, (hx5 g hgl).trans hri.2.1, hri.2.2.1, hri.2.2.2.1, hri.2.2.2.2, by rw [ringPut_len hfl (by have := HG.out; omega), HCAP.out]; exact hcc.1, by rw [cont_put hfl (by have := HG.out; omega), hcc.2.1]; rfl, by rw [hcc.2.2.1, Nat.zero_add], hr5, rfl⟩)
    have HF5 := Lib.hid (show Fr [] w w5 from (HF12.out.step HF24.out).trans f5 (fun z hz hl => by
      have h4 := hlab z (by omega)
      simp only [List.mem_cons, List.not_mem_nil, or_false] at hz
      rcases hz with h | h | h
      · omega
      · rw [h, hri.1] at h4
        exact absurd h4 hc4
      · rw [h, hri.2.1] at h4
        exact absurd h4 hc4))
    have HOS5 := Lib.hid (show own3 s = c from (hx5 s HBS4.out.lt).trans HOS4.out)
    clear hr5 hp5 hq5 hx5 f5 hri hcc hlab hxl hXn hsn hrl hgl hfl
    have k3 : w5.cell? ⟨X, 3, none⟩ = some (.slice ra x.rest.length rc) := HB5.out.at 3 _ rfl
    go_upto_region 6 with fail
    refine wp_region_lit ?_
    refine wpList_plain rfl (fun K hK => ?_); go_simp; refine hK _ _ ?_; clear hK K
    refine wpList_plain rfl (fun K hK => ?_); go_simp; refine hK _ _ ?_; clear hK K
    refine wpList_plain rfl (fun K hK => ?_); go_simp; refine hK _ _ ?_; clear hK K
    refine wpList_plain rfl (fun K hK => ?_)
    go_simp
    refine (clone_bytes (x := (ra, x.rest.length, rc)) (l := x.rest) (HVR5.out.new (Fr.refl [] w5)) rfl (fun h => HRN.out h) (HG.out.2.2)).mono ?_
    rintro e wa2 ⟨v, rfl, ho, fa⟩
    have HO2 := Lib.hid ho
    have HFa2 := Lib.hid fa
    clear ho fa
    obtain ⟨va2, vn2, vc2⟩ := v
    simp only [slv]
    refine hK _ _ ?_
    clear hK K
    try simp only [Act.put, qj1, qj2, qj3, qj4, qj5, qj6]
    refine wpList_plain rfl (fun K hK => ?_); go_simp; refine hK _ _ ?_; clear hK K
    try simp only [Act.put, qj1, qj2, qj3, qj4, qj5, qj6]
    obtain ⟨P2, hA_⟩ : ∃ A, wa2.heap.size = A := ⟨_, rfl⟩
    obtain ⟨wb2, hw_⟩ : ∃ z, wa2.alloc (.cells #[.slice va2 vn2 vc2] 22) = z := ⟨_, rfl⟩
    have hB_ : Blk wb2 P2 22 [.slice va2 vn2 vc2] := by rw [← hw_, ← hA_]; exact Blk.made wa2 22 _
    have hF_ : Fr [] wa2 wb2 := by rw [← hw_]; exact (Fr.refl [] wa2).alloc _
    rw [hw_]
    simp only [hA_]
    have HP2 := Lib.hid hA_
    have HBP2 := Lib.hid hB_
    have HFwb2 := Lib.hid hF_
    clear hA_ hw_ hB_ hF_
    refine wpList_plain rfl (fun K hK => ?_)
    go_simp
    refine (ropeNew_any own3 (x := (va2, vn2, vc2)) (l := x.rest) (HBP2.out.at 0 _ rfl) ((HO2.out.new HFwb2.out).bs) (bsO_cap HO2.out).1 (bs_some (HO2.out.bs)) (HG.out.2.2)).mono ?_
    rintro e wc2 ⟨p2, own2b, rfl, hp, hx, fc⟩
    have HRP2 := Lib.hid hp
    have HX2b := Lib.hid hx
    have HFc2 := Lib.hid ((HFa2.out.step HFwb2.out).step fc)
    have HFd2 := Lib.hid fc
    clear hp hx fc
    refine hK _ _ ?_
    clear hK K
    try simp only [Act.put, qj1, qj2, qj3, qj4, qj5, qj6]
    refine wpList_plain rfl (fun K hK => ?_); go_simp; refine hK _ _ ?_; clear hK K
    refine wpList_plain rfl (fun K hK => ?_); go_simp; refine hK _ _ ?_; clear hK K
    refine wpList_plain rfl (fun K hK => ?_); go_simp; refine hK _ _ ?_; clear hK K
    refine wpList_plain rfl (fun K hK => ?_); go_simp; refine hK _ _ ?_; clear hK K
    refine wpList_plain rfl (fun K hK => ?_); go_simp; refine hK _ _ ?_; clear hK K
    try simp only [Act.put, qj1, qj2, qj3, qj4, qj5, qj6]
    obtain ⟨w6, hst, hb_, hf_⟩ := store_part (o := 2) (t := 128) [.slice p2.1 p2.2.1 p2.2.2, .int .i64 x.rest.length] sizeRope rfl (rope_one _ _ _ _) (HBS5.out.keep HFc2.out (by simp)) (by simp [stB])
    refine wpList_skp rfl (w' := w6) ?_ ?_
    · show Sem.run Tryz.prog ((Instr.storeAt 128 (.pointer (some ⟨s, 2, none⟩)) (.agg #[.slice p2.1 p2.2.1 p2.2.2, .int .i64 x.rest.length])) >>= fun _ => pure Next.skip) _ = _
      rw [Sem.run_bind, hst]
      rfl
    clear hst
    try simp only [Act.put, qj1, qj2, qj3, qj4, qj5, qj6]
    refine wpList_nil ?_
    try simp only [Act.put, qj1, qj2, qj3, qj4, qj5, qj6]
    have HS6 := Lib.hid hb_
    have HF6 := Lib.hid hf_
    have hXs : X ≠ s := fun h => by have h1 := HXL.out; have h2 := HSL.out; omega
    have HB6 := Lib.hid ((HB5.out.keep HFc2.out (by simp)).keep hf_ (by simpa using hXs))
    obtain ⟨w7, hw7⟩ : ∃ z, w6.drew = z := ⟨_, rfl⟩
    have f7 : Fr [] w6 w7 := by rw [← hw7]; exact (Fr.refl [] w6).drew
    have HF7 := Lib.hid f7
    have HW7 := Lib.hid hw7
    have HB7 := Lib.hid (HB6.out.keep f7 (by simp))
    have HS7 := Lib.hid (HS6.out.keep f7 (by simp))
    have hbc := bldCodes x.wr x.rd
    clear hb_ hf_ f7 hw7 k3
    go_upto_region 7 with fail
    refine wp_region_held_drew (S := fun W => W.cell? ⟨X, 2, none⟩ = some (.bool x.busy) ∧ W.cell? ⟨X, 4, none⟩ = some (.int .i64 x.acc) ∧ W.cell? ⟨X, 5, none⟩ = some (.int .i64 x.wr) ∧ W.cell? ⟨X, 6, none⟩ = some (.int .i64 x.rd)) (by kernel_rfl) (by rw [HW7.out]; exact ⟨HB7.out.at 2 _ rfl, HB7.out.at 4 _ rfl, HB7.out.at 5 _ rfl, HB7.out.at 6 _ rfl⟩) (fun hHeld => ?_)
    rw [HW7.out] at hHeld ⊢
    refine wpAnyH_take (i := 0) (oi := _) (v := ?_) rfl (by kernel_rfl) (by kernel_rfl) (by kernel_rfl) (fun _ _ _ h => h) (Or.inl ⟨by rfl, ?_⟩) (by first | assumption | trivial) ?_
    rotate_left
    · intro w hSw; (try dsimp only at hSw); go_simp; try with_reducible rfl
    try simp only [Act.put, qj1, qj2, qj3, qj4, qj5, qj6]
    refine wpAnyH_take (i := 1) (oi := _) (v := ?_) rfl (by kernel_rfl) (by kernel_rfl) (by kernel_rfl) (fun _ _ _ h => h) (Or.inl ⟨by rfl, ?_⟩) (by first | assumption | trivial) ?_
    rotate_left
    · intro w hSw; (try dsimp only at hSw); go_simp; try with_reducible rfl
    try simp only [Act.put, qj1, qj2, qj3, qj4, qj5, qj6]
    refine wpAnyH_take (i := 2) (oi := _) (v := ?_) rfl (by kernel_rfl) (by kernel_rfl) (by kernel_rfl) (fun _ _ _ h => h) (Or.inl ⟨by rfl, ?_⟩) (by first | assumption | trivial) ?_
    rotate_left
    · intro w hSw; (try dsimp only at hSw); go_simp; try with_reducible rfl
    try simp only [Act.put, qj1, qj2, qj3, qj4, qj5, qj6]
    refine wpAnyH_take (i := 3) (oi := _) (v := ?_) rfl (by kernel_rfl) (by kernel_rfl) (by kernel_rfl) (fun _ _ _ h => h) (Or.inl ⟨by rfl, ?_⟩) (by first | assumption | trivial) ?_
    rotate_left
    · intro w hSw; (try dsimp only at hSw); go_simp; try with_reducible rfl
    try simp only [Act.put, qj1, qj2, qj3, qj4, qj5, qj6]
    refine wpAnyH_take (i := 4) (oi := _) (v := ?_) rfl (by kernel_rfl) (by kernel_rfl) (by kernel_rfl) (fun _ _ _ h => h) (Or.inl ⟨by rfl, ?_⟩) (by first | assumption | trivial) ?_
    rotate_left
    · intro w hSw; (try dsimp only at hSw); go_simp; try with_reducible rfl
    try simp only [Act.put, qj1, qj2, qj3, qj4, qj5, qj6]
    refine wpAnyH_take (i := 5) (oi := _) (v := ?_) rfl (by kernel_rfl) (by kernel_rfl) (by kernel_rfl) (fun _ _ _ h => h) (Or.inl ⟨by rfl, ?_⟩) (by first | assumption | trivial) ?_
    rotate_left
    · intro w hSw; (try dsimp only at hSw); go_simp; try with_reducible rfl
    try simp only [Act.put, qj1, qj2, qj3, qj4, qj5, qj6]
    refine wpAnyH_take (i := 6) (oi := _) (v := ?_) rfl (by kernel_rfl) (by kernel_rfl) (by kernel_rfl) (fun _ _ _ h => h) (Or.inl ⟨by rfl, ?_⟩) (by first | assumption | trivial) ?_
    rotate_left
    · intro w hSw; (try dsimp only at hSw); go_simp; try with_reducible rfl
    try simp only [Act.put, qj1, qj2, qj3, qj4, qj5, qj6]
    refine wpAnyH_take (i := 7) (oi := _) (v := ?_) rfl (by kernel_rfl) (by kernel_rfl) (by kernel_rfl) (fun _ _ _ h => h) (Or.inl ⟨by rfl, ?_⟩) (by first | assumption | trivial) ?_
    rotate_left
    · intro w hSw; (try dsimp only at hSw); go_simp; try with_reducible rfl
    try simp only [Act.put, qj1, qj2, qj3, qj4, qj5, qj6]
    refine wpAnyH_take (i := 8) (oi := _) (v := ?_) rfl (by kernel_rfl) (by kernel_rfl) (by kernel_rfl) (fun _ _ _ h => h) (Or.inl ⟨by rfl, ?_⟩) (by first | assumption | trivial) ?_
    rotate_left
    · intro w hSw; (try dsimp only at hSw); go_simp; try with_reducible rfl
    try simp only [Act.put, qj1, qj2, qj3, qj4, qj5, qj6]
    refine wpAnyH_take (i := 9) (oi := _) (v := ?_) rfl (by kernel_rfl) (by kernel_rfl) (by kernel_rfl) (fun _ _ _ h => h) (Or.inl ⟨by rfl, ?_⟩) (by first | assumption | trivial) ?_
    rotate_left
    · intro w hSw; (try dsimp only at hSw); go_simp; try with_reducible rfl
    try simp only [Act.put, qj1, qj2, qj3, qj4, qj5, qj6]
    refine wpAnyH_take (i := 10) (oi := _) (v := ?_) rfl (by kernel_rfl) (by kernel_rfl) (by kernel_rfl) (fun _ _ _ h => h) (Or.inl ⟨by rfl, ?_⟩) (by first | assumption | trivial) ?_
    rotate_left
    · intro w hSw; (try dsimp only at hSw); go_simp; try with_reducible rfl
    try simp only [Act.put, qj1, qj2, qj3, qj4, qj5, qj6]
    refine wpAnyH_take (i := 11) (oi := _) (v := ?_) rfl (by kernel_rfl) (by kernel_rfl) (by kernel_rfl) (fun _ _ _ h => h) (Or.inl ⟨by rfl, ?_⟩) (by first | assumption | trivial) ?_
    rotate_left
    · intro w hSw; (try dsimp only at hSw); go_simp; try with_reducible rfl
    try simp only [Act.put, qj1, qj2, qj3, qj4, qj5, qj6]
    refine wpAnyH_take (i := 12) (oi := _) (v := ?_) rfl (by kernel_rfl) (by kernel_rfl) (by kernel_rfl) (fun _ _ _ h => h) (Or.inl ⟨by rfl, ?_⟩) (by first | assumption | trivial) ?_
    rotate_left
    · intro w hSw; (try dsimp only at hSw); go_simp; try with_reducible rfl
    try simp only [Act.put, qj1, qj2, qj3, qj4, qj5, qj6]
    refine wpAnyH_take (i := 13) (oi := _) (v := ?_) rfl (by kernel_rfl) (by kernel_rfl) (by kernel_rfl) (fun _ _ _ h => h) (Or.inl ⟨by rfl, ?_⟩) (by first | assumption | trivial) ?_
    rotate_left
    · intro w hSw; (try dsimp only at hSw); go_simp; try with_reducible rfl
    try simp only [Act.put, qj1, qj2, qj3, qj4, qj5, qj6]
    refine wpAnyH_ready (rs := [14]) (by kernel_rfl) (by simp) ?_
    refine AllReadyH.cons (o := _) rfl (fun K hK => ?_) AllReadyH.nil
    obtain ⟨w8, hst, hb_, hf_⟩ := store_cell (t := 4) (o := 1) (.bool x.busy) sizeBool rfl rfl HS7.out (by simp [stB])
    split
    rotate_left
    · rename_i hno
      exact absurd rfl hno
    refine wp_skp (w' := w8) ?_ ?_
    · show Sem.run Tryz.prog ((Instr.storeAt 4 (.pointer (some ⟨s, 1, none⟩)) (.bool x.busy)) >>= fun _ => pure Next.skip) _ = _
      rw [Sem.run_bind, hst]
      rfl
    clear hst
    have HS8 := Lib.hid hb_
    have HFs1 := Lib.hid hf_
    clear hb_ hf_
    refine hK.out _ _ (⟨HFs1.out.keep hHeld.1 (by simpa using hXs), HFs1.out.keep hHeld.2.1 (by simpa using hXs), HFs1.out.keep hHeld.2.2.1 (by simpa using hXs), HFs1.out.keep hHeld.2.2.2 (by simpa using hXs)⟩) (fun hHeld => ?_)
    clear hK K
    try simp only [Act.put, qj1, qj2, qj3, qj4, qj5, qj6]
    refine wpAnyH_take (i := 15) (oi := _) (v := ?_) rfl (by kernel_rfl) (by kernel_rfl) (by kernel_rfl) (fun _ _ _ h => h) (Or.inl ⟨by rfl, ?_⟩) (by first | assumption | trivial) ?_
    rotate_left
    · intro w hSw; (try dsimp only at hSw); go_simp; try with_reducible rfl
    try simp only [Act.put, qj1, qj2, qj3, qj4, qj5, qj6]
    refine wpAnyH_take (i := 16) (oi := _) (v := ?_) rfl (by kernel_rfl) (by kernel_rfl) (by kernel_rfl) (fun _ _ _ h => h) (Or.inl ⟨by rfl, ?_⟩) (by first | assumption | trivial) ?_
    rotate_left
    · intro w hSw; (try dsimp only at hSw); go_simp; try with_reducible rfl
    try simp only [Act.put, qj1, qj2, qj3, qj4, qj5, qj6]
    refine wpAnyH_ready (rs := [17]) (by kernel_rfl) (by simp) ?_
    refine AllReadyH.cons (o := _) rfl (fun K hK => ?_) AllReadyH.nil
    obtain ⟨w9, hst, hb_, hf_⟩ := store_cell (t := 3) (o := 4) (.int .i64 x.acc) size3 rfl rfl HS8.out (by simp [stB])
    split
    rotate_left
    · rename_i hno
      exact absurd rfl hno
    refine wp_skp (w' := w9) ?_ ?_
    · show Sem.run Tryz.prog ((Instr.storeAt 3 (.pointer (some ⟨s, 4, none⟩)) (.int .i64 x.acc)) >>= fun _ => pure Next.skip) _ = _
      rw [Sem.run_bind, hst]
      rfl
    clear hst
    have HS9 := Lib.hid hb_
    have HFs2 := Lib.hid hf_
    clear hb_ hf_
    refine hK.out _ _ (⟨HFs2.out.keep hHeld.1 (by simpa using hXs), HFs2.out.keep hHeld.2.1 (by simpa using hXs), HFs2.out.keep hHeld.2.2.1 (by simpa using hXs), HFs2.out.keep hHeld.2.2.2 (by simpa using hXs)⟩) (fun hHeld => ?_)
    clear hK K
    try simp only [Act.put, qj1, qj2, qj3, qj4, qj5, qj6]
    refine wpAnyH_take (i := 18) (oi := _) (v := ?_) rfl (by kernel_rfl) (by kernel_rfl) (by kernel_rfl) (fun _ _ _ h => h) (Or.inl ⟨by rfl, ?_⟩) (by first | assumption | trivial) ?_
    rotate_left
    · intro w hSw; (try dsimp only at hSw); go_simp; try with_reducible rfl
    try simp only [Act.put, qj1, qj2, qj3, qj4, qj5, qj6]
    refine wpAnyH_take (i := 19) (oi := _) (v := ?_) rfl (by kernel_rfl) (by kernel_rfl) (by kernel_rfl) (fun _ _ _ h => h) (Or.inl ⟨by rfl, ?_⟩) (by first | assumption | trivial) ?_
    rotate_left
    · intro w hSw; (try dsimp only at hSw); go_simp; try with_reducible rfl
    try simp only [Act.put, qj1, qj2, qj3, qj4, qj5, qj6]
    refine wpAnyH_ready (rs := [20]) (by kernel_rfl) (by simp) ?_
    refine AllReadyH.cons (o := _) rfl (fun K hK => ?_) AllReadyH.nil
    obtain ⟨w10, hst, hb_, hf_⟩ := store_part (o := 5) (t := 207) [.int .i64 x.wr, .int .i64 x.rd] sizeCodes rfl (codes_one _ _) HS9.out (by simp [stB])
    split
    rotate_left
    · rename_i hno
      exact absurd rfl hno
    refine wp_skp (w' := w10) ?_ ?_
    · show Sem.run Tryz.prog ((Instr.storeAt 207 (.pointer (some ⟨s, 5, none⟩)) (.agg #[.int .i64 x.wr, .int .i64 x.rd])) >>= fun _ => pure Next.skip) _ = _
      rw [Sem.run_bind, hst]
      rfl
    clear hst
    have HS10 := Lib.hid hb_
    have HFs3 := Lib.hid hf_
    clear hb_ hf_
    refine hK.out _ _ (⟨HFs3.out.keep hHeld.1 (by simpa using hXs), HFs3.out.keep hHeld.2.1 (by simpa using hXs), HFs3.out.keep hHeld.2.2.1 (by simpa using hXs), HFs3.out.keep hHeld.2.2.2 (by simpa using hXs)⟩) (fun hHeld => ?_)
    clear hK K
    try simp only [Act.put, qj1, qj2, qj3, qj4, qj5, qj6]
    refine wpAnyH_done (by kernel_rfl) ?_ _
    clear hHeld
    go_wp2
    refine bodyPost_ret (v := .tuple #[.pointer (some ⟨s, 0, none⟩), .int .i64 0]) (by simp [results, Tryz.results120]) rfl ?_
    have hb10 : Blk w10 s 209 (stB x (.iface 251 (.agg #[.pointer (some ⟨r, 0, none⟩)])) p2) := HS10.out
    have f10 : Fr [s] w5 w10 := ((((HFc2.out.mono (T := [s]) (fun x hx _ => by cases hx)).trans HF6.out (fun x hx _ => hx)).step HF7.out).trans HFs1.out (fun x hx _ => hx)).trans ((HFs2.out.trans HFs3.out (fun x hx _ => hx))) (fun x hx _ => hx)
    have f10' : Fr [s] wc2 w10 := (((HF6.out.step HF7.out).trans HFs1.out (fun x hx _ => hx)).trans (HFs2.out.trans HFs3.out (fun x hx _ => hx)) (fun x hx _ => hx))
    have hsl := HSL.out
    have hxl := HXL.out
    have hs5 := HBS5.out.lt
    have HX25 := Lib.hid (show Ext w5 own3 own2b from fun z hz => HX2b.out z (Nat.lt_of_lt_of_le hz (HFa2.out.step HFwb2.out).size))
    have ho2 : own2b s = c := (HX25.out s hs5).trans HOS5.out
    refine ⟨s, own2b, rfl, ⟨⟨ho2, _, p2, hb10, (HST5.out.ext HX25.out).keep1 f10, HRP2.out.keep f10' (fun z hz hl => by rw [List.mem_singleton] at hz; subst hz; rw [ho2]; exact hc3)⟩, OKK.out⟩, fun z hz => ?_, HF5.out.trans f10 (fun x hx hl => by rw [List.mem_singleton] at hx; omega), by omega⟩
    rw [HX25.out z (Nat.lt_of_lt_of_le hz HF5.out.size), HX3.out z (by omega)]
    exact HLAB.out z (by omega)
end Go.Proofs.YtmdhlodafjpnmaaGreat
namespace Go.Proofs.YtmdhlodafjpnmaaGreat
open List renaming getElem_toArray → qj1, getElem_cons_succ → qj2, getElem_cons_zero → qj3, setIfInBounds_toArray → qj4, set_cons_zero → qj5, set_cons_succ → qj6
open Go.RowKit
set_option linter.unusedVariables false
set_option linter.unusedSimpArgs false
set_option maxRecDepth 100000
set_option maxHeartbeats 4000000

theorem strRestore (own : Nat → Nat) (c : Nat) {w : World} {x : SS} {b r : Sli} (ok : StOk x) (hb : Bs w b x.buf) (hr : Bs w r x.rest) (hc3 : c ≠ 3) (hc4 : c ≠ 4) :
    Calls Tryz.prog 120 #[.agg (stC x b r).toArray] w (RestOut own c x w) := by
  refine (strRestore4 c ok hb hr hc3 hc4).mono ?_
  rintro e w' ⟨s, ow, rfl, h, hx, f, hs⟩
  refine ⟨s, fun z => if z < w.heap.size then own z else ow z, rfl, ⟨h.a.relab (fun z hz => ?_) (fun z hz => ?_), h.ok⟩, fun z hz => if_pos hz, f, hs⟩
  · by_cases hl : z < w.heap.size
    · have := hx z hl
      rw [hz] at this
      exact absurd this hc4
    · simp only [if_neg hl]
      exact hz
  · by_cases hl : z < w.heap.size
    · have := hx z hl
      rw [hz] at this
      cases this
    · simp only [if_neg hl]
      exact hz
theorem aggStream : ∀ w, (isAgg 209).run Tryz.prog w = .ok true w := fun w => by kernel_rfl
theorem sizeStream : ∀ w, (sizeOf 209).run Tryz.prog w = .ok 7 w := fun w => by kernel_rfl
theorem sizeStore2 : ∀ w, (sizeOf 206).run Tryz.prog w = .ok 1 w := fun w => by kernel_rfl
def CopyS (own : Nat → Nat) (c2 : Nat) (x : SS) (w : World) (e : Ending) (w' : World) : Prop := ∃ s2, e = .returned (.pointer (some ⟨s2, 0, none⟩)) ∧ StrB w' (ownNew w own c2) c2 s2 x ∧ Fr [] w w' ∧ w.heap.size ≤ s2
theorem strCopy {w : World} {own : Nat → Nat} {c s : Nat} {x : SS} (h : StrB w own c s x) (c2 : Nat) :
    Calls Tryz.prog 87 #[.pointer (some ⟨s, 0, none⟩)] w (CopyS own c2 x w) := by
  obtain ⟨st, p, hb, hs, hr⟩ := h.a.at_
  have HN := Lib.hid (strNone h.a)
  have HOK := Lib.hid h.ok
  have HB := Lib.hid hb
  have HR := Lib.hid hr
  clear h hb hr
  rcases hs with ⟨hc0, hbuf, rfl⟩ | ⟨r, g, l, cp, f, n, q1, q2, q3, q4, q5, q6, q7, q8, q9, rfl⟩
  · skip
    have hm := again_dm
    go_enter Tryz.func87, Tryz.ntmps87
    go_wp2_with fail
    refine HN.out.mono ?_
    rintro e w' ⟨rfl, rfl⟩
    go_upto_region 3 with fail
    refine wp_region_lit ?_
    refine wpList_plain rfl (fun K hK => ?_); go_simp; refine hK _ _ ?_; clear hK K
    refine wpList_plain rfl (fun K hK => ?_); go_simp; refine hK _ _ ?_; clear hK K
    refine wpList_val rfl (v := .agg (stB x (.iface 246 (.agg #[])) p).toArray) (w' := w) ?_ ?_
    · show Sem.run Tryz.prog ((Instr.loadAt 209 (.pointer (some ⟨s, 0, none⟩))) >>= fun x => pure (Next.value x)) w = _
      rw [Sem.run_bind, load_all aggStream sizeStream (xs := stB x (.iface 246 (.agg #[])) p) rfl HB.out.at]
      rfl
    try simp only [Act.put, qj1, qj2, qj3, qj4, qj5, qj6]
    refine wpList_plain rfl (fun K hK => ?_); go_simp; refine hK _ _ ?_; clear hK K
    try simp only [Act.put, qj1, qj2, qj3, qj4, qj5, qj6]
    obtain ⟨S, hA_⟩ : ∃ A, w.heap.size = A := ⟨_, rfl⟩
    obtain ⟨w1, hw_⟩ : ∃ z, w.alloc (.cells #[.nilIface, .bool false, .slice none 0 0, .int .i64 0, .int .i64 0, .int .i64 0, .int .i64 0] 209) = z := ⟨_, rfl⟩
    have hB_ : Blk w1 S 209 [.nilIface, .bool false, .slice none 0 0, .int .i64 0, .int .i64 0, .int .i64 0, .int .i64 0] := by rw [← hw_, ← hA_]; exact Blk.made w 209 _
    have hF_ : Fr [] w w1 := by rw [← hw_]; exact (Fr.refl [] w).alloc _
    rw [hw_]
    simp only [hA_]
    have HS := Lib.hid hA_
    have HBS := Lib.hid hB_
    have HFw1 := Lib.hid hF_
    clear hA_ hw_ hB_ hF_
    obtain ⟨w2, hst, hb_, hf_⟩ := store_all (t := 209) (stB x (.iface 246 (.agg #[])) p) sizeStream rfl (stB_one _ _ _ rfl) HBS.out rfl
    refine wpList_skp rfl (w' := w2) ?_ ?_
    · show Sem.run Tryz.prog ((Instr.storeAt 209 (.pointer (some ⟨S, 0, none⟩)) (.agg (stB x (.iface 246 (.agg #[])) p).toArray)) >>= fun _ => pure Next.skip) _ = _
      rw [Sem.run_bind, hst]
      rfl
    clear hst
    try simp only [Act.put, qj1, qj2, qj3, qj4, qj5, qj6]
    refine wpList_nil ?_
    try simp only [Act.put, qj1, qj2, qj3, qj4, qj5, qj6]
    have HB2 := Lib.hid hb_
    have HF2 := Lib.hid (HFw1.out.trans hf_ (fun x hx hl => by rw [List.mem_singleton] at hx; have := HS.out; omega))
    clear hb_ hf_
    have k0 : w2.cell? ⟨s, 0, none⟩ = some (.iface 246 (.agg #[])) := (HB.out.keep HF2.out (by simp)).at 0 _ rfl
    go_upto_region 4 with fail
    refine wp_region_lit ?_
    refine wpList_plain rfl (fun K hK => ?_); go_simp; refine hK _ _ ?_; clear hK K
    refine wpList_plain rfl (fun K hK => ?_); go_simp; refine hK _ _ ?_; clear hK K
    refine wpList_plain rfl (fun K hK => ?_); go_simp; refine hK _ _ ?_; clear hK K
    refine wpList_plain rfl (fun K hK => ?_); go_simp; refine hK _ _ ?_; clear hK K
    refine wpList_plain rfl (fun K hK => ?_)
    go_simp
    refine (again_direct w2).mono ?_
    rintro e w3 ⟨rfl, f3⟩
    have HF3 := Lib.hid f3
    clear f3
    refine hK _ _ ?_
    clear hK K
    try simp only [Act.put, qj1, qj2, qj3, qj4, qj5, qj6]
    refine wpList_plain rfl (fun K hK => ?_); go_simp; refine hK _ _ ?_; clear hK K
    try simp only [Act.put, qj1, qj2, qj3, qj4, qj5, qj6]
    obtain ⟨w4, hst, hb_, hf_⟩ := store_cell (t := 206) (o := 0) (.iface 246 (.agg #[])) sizeStore2 rfl rfl (HB2.out.keep HF3.out (by simp)) (by simp [stB])
    refine wpList_skp rfl (w' := w4) ?_ ?_
    · show Sem.run Tryz.prog ((Instr.storeAt 206 (.pointer (some ⟨S, 0, none⟩)) (.iface 246 (.agg #[]))) >>= fun _ => pure Next.skip) _ = _
      rw [Sem.run_bind, hst]
      rfl
    clear hst
    try simp only [Act.put, qj1, qj2, qj3, qj4, qj5, qj6]
    refine wpList_nil ?_
    try simp only [Act.put, qj1, qj2, qj3, qj4, qj5, qj6]
    go_wp2
    go_ret
    have hS := HS.out
    have hsz := HF2.out.size
    have f4 : Fr [] w w4 := (HF2.out.step HF3.out).trans hf_ (fun x hx hl => by rw [List.mem_singleton] at hx; omega)
    refine ⟨S, rfl, ⟨⟨ownNew_ge (by omega), _, p, hb_, ?_, (HR.out.ext (Ext.new w own c2)).new f4⟩, HOK.out⟩, f4, by omega⟩
    exact .inl ⟨hc0, hbuf, rfl⟩
  · skip
    have hm := again_bm r
    go_enter Tryz.func87, Tryz.ntmps87
    go_wp2_with fail
    refine HN.out.mono ?_
    rintro e w' ⟨rfl, rfl⟩
    go_upto_region 3 with fail
    refine wp_region_lit ?_
    refine wpList_plain rfl (fun K hK => ?_); go_simp; refine hK _ _ ?_; clear hK K
    refine wpList_plain rfl (fun K hK => ?_); go_simp; refine hK _ _ ?_; clear hK K
    refine wpList_val rfl (v := .agg (stB x (.iface 251 (.agg #[.pointer (some ⟨r, 0, none⟩)])) p).toArray) (w' := w) ?_ ?_
    · show Sem.run Tryz.prog ((Instr.loadAt 209 (.pointer (some ⟨s, 0, none⟩))) >>= fun x => pure (Next.value x)) w = _
      rw [Sem.run_bind, load_all aggStream sizeStream (xs := stB x (.iface 251 (.agg #[.pointer (some ⟨r, 0, none⟩)])) p) rfl HB.out.at]
      rfl
    try simp only [Act.put, qj1, qj2, qj3, qj4, qj5, qj6]
    refine wpList_plain rfl (fun K hK => ?_); go_simp; refine hK _ _ ?_; clear hK K
    try simp only [Act.put, qj1, qj2, qj3, qj4, qj5, qj6]
    obtain ⟨S, hA_⟩ : ∃ A, w.heap.size = A := ⟨_, rfl⟩
    obtain ⟨w1, hw_⟩ : ∃ z, w.alloc (.cells #[.nilIface, .bool false, .slice none 0 0, .int .i64 0, .int .i64 0, .int .i64 0, .int .i64 0] 209) = z := ⟨_, rfl⟩
    have hB_ : Blk w1 S 209 [.nilIface, .bool false, .slice none 0 0, .int .i64 0, .int .i64 0, .int .i64 0, .int .i64 0] := by rw [← hw_, ← hA_]; exact Blk.made w 209 _
    have hF_ : Fr [] w w1 := by rw [← hw_]; exact (Fr.refl [] w).alloc _
    rw [hw_]
    simp only [hA_]
    have HS := Lib.hid hA_
    have HBS := Lib.hid hB_
    have HFw1 := Lib.hid hF_
    clear hA_ hw_ hB_ hF_
    obtain ⟨w2, hst, hb_, hf_⟩ := store_all (t := 209) (stB x (.iface 251 (.agg #[.pointer (some ⟨r, 0, none⟩)])) p) sizeStream rfl (stB_one _ _ _ rfl) HBS.out rfl
    refine wpList_skp rfl (w' := w2) ?_ ?_
    · show Sem.run Tryz.prog ((Instr.storeAt 209 (.pointer (some ⟨S, 0, none⟩)) (.agg (stB x (.iface 251 (.agg #[.pointer (some ⟨r, 0, none⟩)])) p).toArray)) >>= fun _ => pure Next.skip) _ = _
      rw [Sem.run_bind, hst]
      rfl
    clear hst
    try simp only [Act.put, qj1, qj2, qj3, qj4, qj5, qj6]
    refine wpList_nil ?_
    try simp only [Act.put, qj1, qj2, qj3, qj4, qj5, qj6]
    have HB2 := Lib.hid hb_
    have HF2 := Lib.hid (HFw1.out.trans hf_ (fun x hx hl => by rw [List.mem_singleton] at hx; have := HS.out; omega))
    clear hb_ hf_
    have k0 : w2.cell? ⟨s, 0, none⟩ = some (.iface 251 (.agg #[.pointer (some ⟨r, 0, none⟩)])) := (HB.out.keep HF2.out (by simp)).at 0 _ rfl
    go_upto_region 4 with fail
    refine wp_region_lit ?_
    refine wpList_plain rfl (fun K hK => ?_); go_simp; refine hK _ _ ?_; clear hK K
    refine wpList_plain rfl (fun K hK => ?_); go_simp; refine hK _ _ ?_; clear hK K
    refine wpList_plain rfl (fun K hK => ?_); go_simp; refine hK _ _ ?_; clear hK K
    refine wpList_plain rfl (fun K hK => ?_); go_simp; refine hK _ _ ?_; clear hK K
    refine wpList_plain rfl (fun K hK => ?_)
    go_simp
    refine (again_ring (q9.new HF2.out)).mono ?_
    rintro e w3 ⟨r2, g2, cp2, rfl, h2, f3, l1, l2, l3⟩
    have HF3 := Lib.hid f3
    have H2 := Lib.hid h2
    have HL := Lib.hid (And.intro l1 (And.intro l2 l3))
    clear f3 h2 l1 l2 l3
    refine hK _ _ ?_
    clear hK K
    try simp only [Act.put, qj1, qj2, qj3, qj4, qj5, qj6]
    refine wpList_plain rfl (fun K hK => ?_); go_simp; refine hK _ _ ?_; clear hK K
    try simp only [Act.put, qj1, qj2, qj3, qj4, qj5, qj6]
    obtain ⟨w4, hst, hb_, hf_⟩ := store_cell (t := 206) (o := 0) (.iface 251 (.agg #[.pointer (some ⟨r2, 0, none⟩)])) sizeStore2 rfl rfl (HB2.out.keep HF3.out (by simp)) (by simp [stB])
    refine wpList_skp rfl (w' := w4) ?_ ?_
    · show Sem.run Tryz.prog ((Instr.storeAt 206 (.pointer (some ⟨S, 0, none⟩)) (.iface 251 (.agg #[.pointer (some ⟨r2, 0, none⟩)]))) >>= fun _ => pure Next.skip) _ = _
      rw [Sem.run_bind, hst]
      rfl
    clear hst
    try simp only [Act.put, qj1, qj2, qj3, qj4, qj5, qj6]
    refine wpList_nil ?_
    try simp only [Act.put, qj1, qj2, qj3, qj4, qj5, qj6]
    go_wp2
    go_ret
    have hS := HS.out
    have hsz := HF2.out.size
    have f4 : Fr [] w w4 := (HF2.out.step HF3.out).trans hf_ (fun x hx hl => by rw [List.mem_singleton] at hx; omega)
    refine ⟨S, rfl, ⟨⟨ownNew_ge (by omega), _, p, hb_, ?_, (HR.out.ext (Ext.new w own c2)).new f4⟩, HOK.out⟩, f4, by omega⟩
    have hl := HL.out
    have hSl := HB2.out.lt
    exact .inr ⟨r2, g2, l, cp2, f, n, ownNew_ge (by omega), ownNew_ge (by omega), by omega, by omega, hl.2.2, q6, q7, q8, H2.out.keep hf_ (by simp; omega) (by simp; omega), rfl⟩
end Go.Proofs.YtmdhlodafjpnmaaGreat
