/- Connections with bytes: Valid of a state that is one. -/
import Derived.Test.YtmdhlodafjpnmaaGreatM26
namespace Go.Proofs.YtmdhlodafjpnmaaGreat
open List renaming getElem_toArray → qj1, getElem_cons_succ → qj2, getElem_cons_zero → qj3, setIfInBounds_toArray → qj4, set_cons_zero → qj5, set_cons_succ → qj6
open Go.RowKit
set_option linter.unusedVariables false
set_option linter.unusedSimpArgs false
set_option maxRecDepth 100000
set_option maxHeartbeats 8000000

/-- What a connection can be. -/
structure CcOk (x : CC) : Prop where
  s0 : StOk x.s0
  s1 : StOk x.s1
  w0 : x.s0.wr = 0 ∨ x.s0.wr = 13
  r0 : x.s0.rd = 0 ∨ x.s0.rd = 14
  w1 : x.s1.wr = 0 ∨ x.s1.wr = 13
  r1 : x.s1.rd = 0 ∨ x.s1.rd = 14
  c0 : x.a0 = true → x.s0.wr = 13 ∧ x.s1.rd = 14
  c1 : x.a1 = true → x.s1.wr = 13 ∧ x.s0.rd = 14
theorem dupValidB {w : World} {x : CC} {q : Q4} (ok : CcOk x) (h0 : q.b0.2.1 = x.s0.buf.length) (h1 : q.r0.2.1 = x.s0.rest.length) (h2 : q.b1.2.1 = x.s1.buf.length) (h3 : q.r1.2.1 = x.s1.rest.length) :
    Calls Tryz.prog 118 #[.agg (cnC x q).toArray] w fun e w' => e = .returned (.bool true) ∧ Fr [] w w' := by
  obtain ⟨X, hX⟩ : ∃ A, w.heap.size = A := ⟨_, rfl⟩
  obtain ⟨L, hL⟩ : ∃ L, cnC x q = L := ⟨_, rfl⟩
  obtain ⟨LS, hLS⟩ : ∃ L, stC x.s0 q.b0 q.r0 ++ stC x.s1 q.b1 q.r1 = L := ⟨_, rfl⟩
  have hi0 := ixSS0 x.s0 x.s1 q.b0 q.r0 q.b1 q.r1
  have hi1 := ixSS1 x.s0 x.s1 q.b0 q.r0 q.b1 q.r1
  have hv0 := fun W => strValid (w := W) (b := q.b0) (r := q.r0) ok.s0 h0 h1
  have hv1 := fun W => strValid (w := W) (b := q.b1) (r := q.r1) ok.s1 h2 h3
  obtain ⟨wA, hwA⟩ : ∃ z, w.alloc (.cells L.toArray 94) = z := ⟨_, rfl⟩
  have b0 : Blk wA X 94 L := by rw [← hwA, ← hX]; exact Blk.made w 94 L
  have fA : Fr [] w wA := by rw [← hwA]; exact (Fr.refl [] w).alloc _
  have c0 : wA.cell? ⟨X, 14, none⟩ = some (.bool x.a0) := b0.at 14 _ (by rw [← hL]; rfl)
  have c1 : wA.cell? ⟨X, 15, none⟩ = some (.bool x.a1) := b0.at 15 _ (by rw [← hL]; rfl)
  have HLS := Lib.hid (show LiesAt wA X 0 LS ∧ LS.length = 14 from ⟨by
    have := b0.at.part (k := 0) (n := 14) (ys := LS) (by rw [← hL, ← hLS]; rfl)
    exact this, by rw [← hLS]; rfl⟩)
  rw [hLS] at hi0 hi1
  obtain ⟨C0, hC0⟩ : ∃ L, stC x.s0 q.b0 q.r0 = L := ⟨_, rfl⟩
  obtain ⟨C1, hC1⟩ : ∃ L, stC x.s1 q.b1 q.r1 = L := ⟨_, rfl⟩
  have HN := Lib.hid (show C0.length = 7 ∧ C1.length = 7 ∧ (∀ u ∈ C0, u.oneCell' = true) ∧ (∀ u ∈ C1, u.oneCell' = true) from by rw [← hC0, ← hC1]; exact ⟨rfl, rfl, stC_one _ _ _, stC_one _ _ _⟩)
  have HKA := Lib.hid (show ∀ (C : List Value) (y : SS) (b r : Sli) (W : World) (Z : Nat), stC y b r = C → Blk W Z 90 C → W.cell? ⟨Z, 0, none⟩ = some (.int .i64 y.cap) ∧ W.cell? ⟨Z, 1, none⟩ = some (.slice b.1 b.2.1 b.2.2) ∧ W.cell? ⟨Z, 2, none⟩ = some (.bool y.busy) ∧ W.cell? ⟨Z, 3, none⟩ = some (.slice r.1 r.2.1 r.2.2) ∧ W.cell? ⟨Z, 4, none⟩ = some (.int .i64 y.acc) from fun C y b r W Z h hb => by
    rw [← h] at hb
    exact ⟨hb.at 0 _ rfl, hb.at 1 _ rfl, hb.at 2 _ rfl, hb.at 3 _ rfl, hb.at 4 _ rfl⟩)
  have HC01 := Lib.hid (And.intro hC0 hC1)
  have HK := Lib.hid (show C0[5]? = some (.int .i64 x.s0.wr) ∧ C0[6]? = some (.int .i64 x.s0.rd) ∧ C1[5]? = some (.int .i64 x.s1.wr) ∧ C1[6]? = some (.int .i64 x.s1.rd) from by rw [← hC0, ← hC1]; exact ⟨rfl, rfl, rfl, rfl⟩)
  rw [hC0] at hi0
  rw [hC1] at hi1
  simp only [stC] at hv0 hv1
  have HV0 := Lib.hid hv0
  have HV1 := Lib.hid hv1
  have HFA := Lib.hid fA
  have HWAA := Lib.hid hwA
  have HX := Lib.hid hX
  have OW0 := ok.w0
  have OR0 := ok.r0
  have OW1 := ok.w1
  have OR1 := ok.r1
  have OC0 := ok.c0
  have OC1 := ok.c1
  rw [hL]
  clear b0 fA hwA hX hL hLS hC0 hC1 hv0 hv1 ok h0 h1 h2 h3
  obtain ⟨wr0, hwr0⟩ : ∃ z, x.s0.wr = z := ⟨_, rfl⟩
  obtain ⟨rd0, hrd0⟩ : ∃ z, x.s0.rd = z := ⟨_, rfl⟩
  obtain ⟨wr1, hwr1⟩ : ∃ z, x.s1.wr = z := ⟨_, rfl⟩
  obtain ⟨rd1, hrd1⟩ : ∃ z, x.s1.rd = z := ⟨_, rfl⟩
  obtain ⟨a0, ha0⟩ : ∃ z, x.a0 = z := ⟨_, rfl⟩
  obtain ⟨a1, ha1⟩ : ∃ z, x.a1 = z := ⟨_, rfl⟩
  rw [hwr0] at OW0 OC0 HK HV0
  rw [hrd0] at OR0 OC1 HK HV0
  rw [hwr1] at OW1 OC1 HK HV1
  rw [hrd1] at OR1 OC0 HK HV1
  rw [ha0] at OC0 c0
  rw [ha1] at OC1 c1
  clear hwr0 hrd0 hwr1 hrd1 ha0 ha1
  rcases OW0 with rfl | rfl <;> rcases OR0 with rfl | rfl <;> rcases OW1 with rfl | rfl <;> rcases OR1 with rfl | rfl <;> cases a0 <;> cases a1
  all_goals try (exfalso; have h := OC0 rfl; omega)
  all_goals try (exfalso; have h := OC1 rfl; omega)
  all_goals clear OC0 OC1
  all_goals (
    go_enter Tryz.func118, Tryz.ntmps118
    go_upto_region 1 with fail
    rw [HWAA.out]
    simp only [HX.out]
    refine wp_region_lit ?_
    refine wpList_plain rfl (fun K hK => ?_); go_simp; refine hK _ _ ?_; clear hK K
    refine wpList_val rfl (v := .agg (LS).toArray) (w' := wA) ?_ ?_
    · show Sem.run Tryz.prog ((Instr.loadAt 91 (.pointer (some ⟨X, 0, none⟩))) >>= fun x => pure (Next.value x)) wA = _
      rw [Sem.run_bind, load_all aggTS sizeTS (xs := LS) HLS.out.2 HLS.out.1]
      rfl
    try simp only [Act.put, qj1, qj2, qj3, qj4, qj5, qj6]
    refine wpList_plain rfl (fun K hK => ?_); go_simp; refine hK _ _ ?_; clear hK K
    refine wpList_nil ?_
    try simp only [Act.put, qj1, qj2, qj3, qj4, qj5, qj6]
    go_wp2
    refine wp_loop_rounds 3 ?_
    rw [rounds_succ]
    go_upto_region 3 with fail
    refine wp_region_lit ?_
    refine wpList_plain rfl (fun K hK => ?_); go_simp; refine hK _ _ ?_; clear hK K
    refine wpList_plain rfl (fun K hK => ?_); go_simp; refine hK _ _ ?_; clear hK K
    refine wpList_plain rfl (fun K hK => ?_); go_simp; refine hK _ _ ?_; clear hK K
    try simp only [Act.put, qj1, qj2, qj3, qj4, qj5, qj6]
    obtain ⟨Z0, hA_⟩ : ∃ A, wA.heap.size = A := ⟨_, rfl⟩
    obtain ⟨wa0, hw_⟩ : ∃ z, wA.alloc (.cells #[.int .i64 0, .slice none 0 0, .bool false, .slice none 0 0, .int .i64 0, .int .i64 0, .int .i64 0] 90) = z := ⟨_, rfl⟩
    have hB_ : Blk wa0 Z0 90 [.int .i64 0, .slice none 0 0, .bool false, .slice none 0 0, .int .i64 0, .int .i64 0, .int .i64 0] := by rw [← hw_, ← hA_]; exact Blk.made wA 90 _
    have hF_ : Fr [] wA wa0 := by rw [← hw_]; exact (Fr.refl [] wA).alloc _
    rw [hw_]
    simp only [hA_]
    have HZ0 := Lib.hid hA_
    have HBZ0 := Lib.hid hB_
    have HFwa0 := Lib.hid hF_
    clear hA_ hw_ hB_ hF_
    refine wpList_plain rfl (fun K hK => ?_); go_simp; refine hK _ _ ?_; clear hK K
    try simp only [Act.put, qj1, qj2, qj3, qj4, qj5, qj6]
    obtain ⟨wb0, hst, hb_, hf_⟩ := store_all (t := 90) C0 sizeSt HN.out.1 HN.out.2.2.1 HBZ0.out rfl
    refine wpList_skp rfl (w' := wb0) ?_ ?_
    · show Sem.run Tryz.prog ((Instr.storeAt 90 (.pointer (some ⟨Z0, 0, none⟩)) (.agg C0.toArray)) >>= fun _ => pure Next.skip) _ = _
      rw [Sem.run_bind, hst]
      rfl
    clear hst
    try simp only [Act.put, qj1, qj2, qj3, qj4, qj5, qj6]
    refine wpList_nil ?_
    try simp only [Act.put, qj1, qj2, qj3, qj4, qj5, qj6]
    have HZB0 := Lib.hid hb_
    have HFB0 := Lib.hid (show Fr [] wA wb0 from HFwa0.out.trans hf_ (fun x hx hl => by rw [List.mem_singleton] at hx; have := HZ0.out; omega))
    have k5 : wb0.cell? ⟨Z0, 5, none⟩ = some (.int .i64 _) := hb_.at 5 _ HK.out.1
    have k6 : wb0.cell? ⟨Z0, 6, none⟩ = some (.int .i64 _) := hb_.at 6 _ HK.out.2.1
    obtain ⟨k0, k1, k2, k3, k4⟩ := HKA.out _ _ _ _ _ _ HC01.out.1 HZB0.out
    have x0 := HFB0.out.keep c0 (by simp)
    have x1 := HFB0.out.keep c1 (by simp)
    clear hb_ hf_
    go_upto_region 4 with fail
    go_quiet (fail)
    go_wp2_with (first
      | (go_at_call 153; refine (HV0.out _).mono ?_; rintro e w0 ⟨rfl, f0⟩; have g0 := f0.undrew; have j5 := g0.keep k5 (by simp); have j6 := g0.keep k6 (by simp); have y0 := g0.keep x0 (by simp); have y1 := g0.keep x1 (by simp); have HG0 := Lib.hid (Fr.step HFB0.out g0); clear f0 g0)
      | (go_at_call 115; refine (out_any 0 _).mono ?_; rintro e wo0 ⟨rfl, nn, hwo⟩; have fo : Fr [] w0 wo0 := (by rw [hwo]; exact (Fr.refl [] _).drewN nn); have p0 := fo.keep y0 (by simp); have p1 := fo.keep y1 (by simp); have HO0 := Lib.hid fo; clear hwo fo)
      | (go_at_call 88; refine (in_any 0 (by omega) (by omega) _).mono ?_; rintro e wi0 ⟨rfl, nn, hwi⟩; have fi : Fr [] wo0 wi0 := (by rw [hwi]; exact (Fr.refl [] _).drewN nn); have q0 := fi.keep p0 (by simp); have q1 := fi.keep p1 (by simp); have HI0 := Lib.hid fi; clear hwi fi))
    have HW0 := Lib.hid (show Fr [] wA wi0 from (HG0.out.step HO0.out).step HI0.out)
    have z0 := q0
    have z1 := q1
    clear k0 k1 k2 k3 k4 k5 k6 j5 j6 x0 x1 y0 y1 p0 p1 q0 q1
    rw [rounds_succ]
    go_upto_region 3 with fail
    refine wp_region_lit ?_
    refine wpList_plain rfl (fun K hK => ?_); go_simp; refine hK _ _ ?_; clear hK K
    refine wpList_plain rfl (fun K hK => ?_); go_simp; refine hK _ _ ?_; clear hK K
    refine wpList_plain rfl (fun K hK => ?_); go_simp; refine hK _ _ ?_; clear hK K
    try simp only [Act.put, qj1, qj2, qj3, qj4, qj5, qj6]
    obtain ⟨Z1, hA_⟩ : ∃ A, wi0.heap.size = A := ⟨_, rfl⟩
    obtain ⟨wa1, hw_⟩ : ∃ z, wi0.alloc (.cells #[.int .i64 0, .slice none 0 0, .bool false, .slice none 0 0, .int .i64 0, .int .i64 0, .int .i64 0] 90) = z := ⟨_, rfl⟩
    have hB_ : Blk wa1 Z1 90 [.int .i64 0, .slice none 0 0, .bool false, .slice none 0 0, .int .i64 0, .int .i64 0, .int .i64 0] := by rw [← hw_, ← hA_]; exact Blk.made wi0 90 _
    have hF_ : Fr [] wi0 wa1 := by rw [← hw_]; exact (Fr.refl [] wi0).alloc _
    rw [hw_]
    simp only [hA_]
    have HZ1 := Lib.hid hA_
    have HBZ1 := Lib.hid hB_
    have HFwa1 := Lib.hid hF_
    clear hA_ hw_ hB_ hF_
    refine wpList_plain rfl (fun K hK => ?_); go_simp; refine hK _ _ ?_; clear hK K
    try simp only [Act.put, qj1, qj2, qj3, qj4, qj5, qj6]
    obtain ⟨wb1, hst, hb_, hf_⟩ := store_all (t := 90) C1 sizeSt HN.out.2.1 HN.out.2.2.2 HBZ1.out rfl
    refine wpList_skp rfl (w' := wb1) ?_ ?_
    · show Sem.run Tryz.prog ((Instr.storeAt 90 (.pointer (some ⟨Z1, 0, none⟩)) (.agg C1.toArray)) >>= fun _ => pure Next.skip) _ = _
      rw [Sem.run_bind, hst]
      rfl
    clear hst
    try simp only [Act.put, qj1, qj2, qj3, qj4, qj5, qj6]
    refine wpList_nil ?_
    try simp only [Act.put, qj1, qj2, qj3, qj4, qj5, qj6]
    have HZB1 := Lib.hid hb_
    have HFB1 := Lib.hid (show Fr [] wi0 wb1 from HFwa1.out.trans hf_ (fun x hx hl => by rw [List.mem_singleton] at hx; have := HZ1.out; omega))
    have k5 : wb1.cell? ⟨Z1, 5, none⟩ = some (.int .i64 _) := hb_.at 5 _ HK.out.2.2.1
    have k6 : wb1.cell? ⟨Z1, 6, none⟩ = some (.int .i64 _) := hb_.at 6 _ HK.out.2.2.2
    obtain ⟨k0, k1, k2, k3, k4⟩ := HKA.out _ _ _ _ _ _ HC01.out.2 HZB1.out
    have x0 := HFB1.out.keep z0 (by simp)
    have x1 := HFB1.out.keep z1 (by simp)
    clear hb_ hf_
    go_upto_region 4 with fail
    go_quiet (fail)
    go_wp2_with (first
      | (go_at_call 153; refine (HV1.out _).mono ?_; rintro e w1 ⟨rfl, f1⟩; have g1 := f1.undrew; have j5 := g1.keep k5 (by simp); have j6 := g1.keep k6 (by simp); have y0 := g1.keep x0 (by simp); have y1 := g1.keep x1 (by simp); have HG1 := Lib.hid (Fr.step HFB1.out g1); clear f1 g1)
      | (go_at_call 115; refine (out_any 1 _).mono ?_; rintro e wo1 ⟨rfl, nn, hwo⟩; have fo : Fr [] w1 wo1 := (by rw [hwo]; exact (Fr.refl [] _).drewN nn); have p0 := fo.keep y0 (by simp); have p1 := fo.keep y1 (by simp); have HO1 := Lib.hid fo; clear hwo fo)
      | (go_at_call 88; refine (in_any 1 (by omega) (by omega) _).mono ?_; rintro e wi1 ⟨rfl, nn, hwi⟩; have fi : Fr [] wo1 wi1 := (by rw [hwi]; exact (Fr.refl [] _).drewN nn); have q0 := fi.keep p0 (by simp); have q1 := fi.keep p1 (by simp); have HI1 := Lib.hid fi; clear hwi fi))
    have HW1 := Lib.hid (show Fr [] wi0 wi1 from (HG1.out.step HO1.out).step HI1.out)
    have z0 := q0
    have z1 := q1
    clear k0 k1 k2 k3 k4 k5 k6 j5 j6 x0 x1 y0 y1 p0 p1 q0 q1
    rw [rounds_succ]
    go_wp2
    go_ret
    exact ⟨rfl, ((HFA.out.step HW0.out).step HW1.out)⟩)
end Go.Proofs.YtmdhlodafjpnmaaGreat
