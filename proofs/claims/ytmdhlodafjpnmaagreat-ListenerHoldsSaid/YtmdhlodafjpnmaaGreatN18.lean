/- The net with bytes: Restore of lists that are valid. -/
import Derived.Test.YtmdhlodafjpnmaaGreatN17
namespace Go.Proofs.YtmdhlodafjpnmaaGreat
open List renaming getElem_toArray → qj1, getElem_cons_succ → qj2, getElem_cons_zero → qj3, setIfInBounds_toArray → qj4, set_cons_zero → qj5, set_cons_succ → qj6
open Go.RowKit
open Go.Maps (Keyed)
set_option linter.unusedVariables false
set_option linter.unusedSimpArgs false
set_option maxRecDepth 100000
set_option maxHeartbeats 16000000

theorem exec_entry {P : Program} {o : Oper} {a : Act} {w w' : World} {v : Value} {t : TypeId} {m x : Operand} {M X : Value} (ho : o.op = .mapEntry t m x) (hm : a.eval m = M) (hx : a.eval x = X) (hrun : (Instr.mapEntry t M X).run P w = .ok v w') : (execOp a.eval o).run P w = .ok (.value v) w' := by
  simp [execOp, ho, hm, hx, hrun]
theorem bldQueue (b : Nat) (s : ByteArray) (p : Int) : ∀ w, (Instr.build 120 #[(0, .pointer (some ⟨b, 0, none⟩)), (1, .agg #[.string s, .int .i64 p])]).run Tryz.prog w = .ok (qV b s p) w := fun w => by kernel_rfl
theorem netRestore_any (vL vC : Value) (D : List PN.PL) (C : List PG) (w : World) (hL : LRow w vL D) (hC : CRow w vC C) (hg : GoodG ⟨D, C⟩) (hcs : C.Pairwise fun a b => a.ref < b.ref) (hls : D.Pairwise fun a b => a.ref < b.ref) (hcr : ∀ y ∈ C, y.ref < 128) (hlr : ∀ x ∈ D, x.ref < 128) :
    Calls Tryz.prog 29 #[vL, vC] w fun e w' => ∃ (B : NB) (own : Nat → Nat) (L' : List LB) (C' : List CG), e = .returned (.tuple #[.pointer (some ⟨B.n, 0, none⟩), .int .i64 0]) ∧ RsL w w' own B D C L' C' D.length := by
  obtain ⟨n, hnl⟩ : ∃ n, D.length = n := ⟨_, rfl⟩
  obtain ⟨m, hml⟩ : ∃ m, C.length = m := ⟨_, rfl⟩
  obtain ⟨aL, cL, rfl⟩ := hL.val
  obtain ⟨aC, cC, rfl⟩ := hC.val
  have hn1 : D.length ≤ 128 := hg.nl
  have hm1 : C.length ≤ 128 := hg.nc
  rw [hnl] at hn1
  rw [hml] at hm1
  rw [hnl] at hL ⊢
  rw [hml] at hC ⊢
  have HN := Lib.hid hnl
  have HM := Lib.hid hml
  have HG := Lib.hid hg
  have HL := Lib.hid hL
  have HC := Lib.hid hC
  have HCS := Lib.hid hcs
  have HLS := Lib.hid hls
  have HCR := Lib.hid hcr
  have HLR := Lib.hid hlr
  clear hL hC hg hcs hls hcr hlr hnl hml
  go_enter Tryz.func29, Tryz.ntmps29
  go_wp2_with fail
  refine (rsNew C w).mono ?_
  rintro e w1 ⟨B, own0, rfl, hr0⟩
  have HR0 := Lib.hid hr0
  clear hr0
  go_wp2_with fail
  go_loopw [25, 7] (fun i la wr => ∃ (wz : World) (q : Nat) (lv : Int) (own : Nat → Nat) (C' : List CG), wz = wr ∧ i = .int .i64 q ∧ la = .int .i64 lv ∧ q ≤ m ∧ RsC w wr own B C C' q ∧ -1 ≤ lv ∧ lv ≤ 1000 ∧ (∀ y, C[q]? = some y → lv < y.ref)) (fun i _ _ => m - (intOf i).toNat)
  case atStart => exact ⟨_, 0, -1, own0, [], rfl, rfl, rfl, by omega, HR0.out, by omega, by omega, fun y _ => by omega⟩
  case round =>
    obtain ⟨wr, q, lv, own, C', hwz, rfl, rfl, hq, hr, hv0, hv1, hv2⟩ := hrel
    subst hwz
    have HR := Lib.hid hr
    clear hr
    by_cases hlt : q < m
    · skip
      have hlt' : (q : Int) < (m : Int) := by omega
      have hq0 : (0 : Int) ≤ (q : Int) := by omega
      have hy := List.getElem?_eq_getElem (l := C) (i := q) (by rw [HM.out]; exact hlt)
      obtain ⟨y, hye⟩ : ∃ y, C[q]'(by rw [HM.out]; exact hlt) = y := ⟨_, rfl⟩
      rw [hye] at hy
      obtain ⟨g, off, cap, X, hv, hgl, hX, hl, q0, rfl, hrow⟩ := (HC.out.next HR.out.fr).lies hy
      rw [HM.out] at hv
      simp only [Value.slice.injEq] at hv
      obtain ⟨rfl, _, rfl⟩ := hv
      have HLY := Lib.hid hl
      have HROW := Lib.hid hrow
      have HYY := Lib.hid hy
      have hyC := List.mem_of_getElem? hy
      have HOK := Lib.hid (show CcOk y.c ∧ (y.c.a0 && y.c.a1) = false from ⟨HG.out.ok y hyC, HG.out.op y hyC⟩)
      have g1 : decide ((y.ref : Int) ≤ lv) = false := decide_eq_false (by have := hv2 y hy; omega)
      have g2 : decide ((128 : Int) ≤ (y.ref : Int)) = false := decide_eq_false (by have := HCR.out y hyC; omega)
      have HLT := Lib.hid (HCR.out y hyC)
      clear hy hye hl hrow hgl hX hyC hv2
      go_upto_region 5 with fail
      refine wp_region_lit ?_
      refine wpList_plain rfl (fun K hK => ?_); go_simp; refine hK _ _ ?_; clear hK K
      try simp only [Act.put, qj1, qj2, qj3, qj4, qj5, qj6]
      refine wpList_val rfl (v := .agg (pgC y q0).toArray) (w' := wr) ?_ ?_
      · show Sem.run Tryz.prog ((Instr.loadAt 96 (.pointer (some ⟨g, off + q * 17, none⟩))) >>= fun x => pure (Next.value x)) wr = _
        rw [Sem.run_bind, load_all agg96g size96r (xs := pgC y q0) rfl HLY.out]
        rfl
      try simp only [Act.put, qj1, qj2, qj3, qj4, qj5, qj6]
      refine wpList_plain rfl (fun K hK => ?_); go_simp; refine hK _ _ ?_; clear hK K
      try simp only [Act.put, qj1, qj2, qj3, qj4, qj5, qj6]
      obtain ⟨E1, hA_⟩ : ∃ A, wr.heap.size = A := ⟨_, rfl⟩
      obtain ⟨wa, hw_⟩ : ∃ z, wr.alloc (.cells #[.int .i64 0, .int .i64 0, .slice none 0 0, .bool false, .slice none 0 0, .int .i64 0, .int .i64 0, .int .i64 0, .int .i64 0, .slice none 0 0, .bool false, .slice none 0 0, .int .i64 0, .int .i64 0, .int .i64 0, .bool false, .bool false] 96) = z := ⟨_, rfl⟩
      have hB_ : Blk wa E1 96 [.int .i64 0, .int .i64 0, .slice none 0 0, .bool false, .slice none 0 0, .int .i64 0, .int .i64 0, .int .i64 0, .int .i64 0, .slice none 0 0, .bool false, .slice none 0 0, .int .i64 0, .int .i64 0, .int .i64 0, .bool false, .bool false] := by rw [← hw_, ← hA_]; exact Blk.made wr 96 _
      have hF_ : Fr [] wr wa := by rw [← hw_]; exact (Fr.refl [] wr).alloc _
      rw [hw_]
      simp only [hA_]
      have HE1 := Lib.hid hA_
      have HBE1 := Lib.hid hB_
      have HFwa := Lib.hid hF_
      clear hA_ hw_ hB_ hF_
      obtain ⟨w2, hst, hb_, hf_⟩ := store_all (t := 96) (pgC y q0) size96r rfl (pgC_one _ _) HBE1.out rfl
      refine wpList_skp rfl (w' := w2) ?_ ?_
      · show Sem.run Tryz.prog ((Instr.storeAt 96 (.pointer (some ⟨E1, 0, none⟩)) (.agg (pgC y q0).toArray)) >>= fun _ => pure Next.skip) _ = _
        rw [Sem.run_bind, hst]
        rfl
      clear hst
      try simp only [Act.put, qj1, qj2, qj3, qj4, qj5, qj6]
      refine wpList_nil ?_
      try simp only [Act.put, qj1, qj2, qj3, qj4, qj5, qj6]
      have HB2 := Lib.hid hb_
      have HF2 := Lib.hid (show Fr [] wr w2 from HFwa.out.trans hf_ (fun x hx hl => by rw [List.mem_singleton] at hx; have := HE1.out; omega))
      clear hb_ hf_ HBE1 HFwa
      have HRC := Lib.hid (show LiesAt w2 E1 1 (cnC y.c q0) from fun j u hj => by
        have := HB2.out.at (j + 1) u (by simpa [pgC] using hj)
        rwa [show 0 + (j + 1) = 1 + j from by omega] at this)
      go_upto_region 6 with fail
      refine wp_region_lit ?_
      refine wpList_plain rfl (fun K hK => ?_); go_simp; refine hK _ _ ?_; clear hK K
      refine wpList_val rfl (v := .agg (cnC y.c q0).toArray) (w' := w2) ?_ ?_
      · show Sem.run Tryz.prog ((Instr.loadAt 94 (.pointer (some ⟨E1, 1, none⟩))) >>= fun x => pure (Next.value x)) w2 = _
        rw [Sem.run_bind, load_all agg94 size94 (xs := cnC y.c q0) rfl HRC.out]
        rfl
      try simp only [Act.put, qj1, qj2, qj3, qj4, qj5, qj6]
      refine wpList_plain rfl (fun K hK => ?_)
      go_simp
      refine (dupRestore own (16 * y.ref + 1) HOK.out.1 (HROW.out.new HF2.out) (by omega)).mono ?_
      rintro e w3 ⟨d, own1, rfl, hd, hx, f3, hdl⟩
      have HD := Lib.hid hd
      have HX := Lib.hid hx
      have HF3 := Lib.hid f3
      have HB3 := Lib.hid (HB2.out.keep f3 (by simp))
      clear hd hx f3 hdl
      refine hK _ _ ?_
      clear hK K
      try simp only [Act.put, qj1, qj2, qj3, qj4, qj5, qj6]
      refine wpList_plain rfl (fun K hK => ?_); go_simp; refine hK _ _ ?_; clear hK K
      refine wpList_plain rfl (fun K hK => ?_); go_simp; refine hK _ _ ?_; clear hK K
      refine wpList_plain rfl (fun K hK => ?_); go_simp; refine hK _ _ ?_; clear hK K
      refine wpList_plain rfl (fun K hK => ?_); go_simp; refine hK _ _ ?_; clear hK K
      refine wpList_plain rfl (fun K hK => ?_); go_simp; refine hK _ _ ?_; clear hK K
      refine wpList_nil ?_
      try simp only [Act.put, qj1, qj2, qj3, qj4, qj5, qj6]
      have cr : w3.cell? ⟨E1, 0, none⟩ = some (.int .i64 y.ref) := HB3.out.at 0 _ rfl
      obtain ⟨w4, hw4⟩ : ∃ z, w3.drew = z := ⟨_, rfl⟩
      have f4 : Fr [] w3 w4 := by rw [← hw4]; exact (Fr.refl [] w3).drew
      have HF4 := Lib.hid f4
      have HW4 := Lib.hid hw4
      have HB4 := Lib.hid (HB3.out.keep f4 (by simp))
      have HN4 := Lib.hid ((HR.out.net.new ((HF2.out.step HF3.out).step f4)).net)
      clear f4 hw4
      obtain ⟨hfr1, hfr2⟩ := HR.out.fresh HCS.out HYY.out
      obtain ⟨st, w5, hme, f5, z5, hst5⟩ := HN4.out.cs.entry keyInt (t := 51) (e := 55) Tryz.underlying51 (keyInt_of y.ref (by omega) (by have := HLT.out; omega)) hfr1 (zeroD _)
      obtain ⟨w6, hes, hm6, f6⟩ := hst5 (.pointer (some ⟨d, 0, none⟩))
      have ne1 : B.n ∉ [B.cm] := by
        obtain ⟨e1, e2, e3, e4, e5, e6, e7, e8, e9⟩ := HN4.out.ne
        simp [e4]
      have ne2 : E1 ∉ [B.cm] := by
        have h1 := HR.out.net.net.cs.lt
        have h2 := HE1.out
        simp only [List.mem_singleton]
        omega
      have HME := Lib.hid hme
      have HES := Lib.hid hes
      have HF5 := Lib.hid f5
      have HF6 := Lib.hid f6
      have HNE := Lib.hid (And.intro ne1 ne2)
      have HST := Lib.hid (show RsC w w6 own1 B C (C' ++ [⟨y.ref, y.c, d⟩]) (q + 1) from HR.out.step HCS.out (by rw [HM.out]; exact hm1) HYY.out HOK.out.1 HOK.out.2 HF2.out HX.out (HD.out.new HF4.out) (HF3.out.step HF4.out) (f5.trans f6 (fun x hx _ => hx)) hm6)
      clear hme f5 hst5 hes hm6 f6 ne1 ne2 hfr1 hfr2 z5
      have HC0 := Lib.hid (dupClosedB_0 HD.out)
      have HC1 := Lib.hid (dupClosedB_1 HD.out)
      have hop := HOK.out.2
      obtain ⟨a0, ha0⟩ : ∃ b, y.c.a0 = b := ⟨_, rfl⟩
      obtain ⟨a1, ha1⟩ : ∃ b, y.c.a1 = b := ⟨_, rfl⟩
      rw [ha0] at HC0
      rw [ha1] at HC1
      rw [ha0, ha1] at hop
      clear ha0 ha1
      cases a0
      · skip
        go_wp2_with fail
        refine HC0.out.mono ?_
        rintro e w' ⟨rfl, rfl⟩
        go_upto_region 9 with fail
        refine wp_region_held_drew (S := fun W => W.cell? ⟨B.n, 2, none⟩ = some (.map (some B.cm)) ∧ W.cell? ⟨E1, 0, none⟩ = some (.int .i64 y.ref)) (by kernel_rfl) (by rw [HW4.out]; exact ⟨HN4.out.c2, HB4.out.at 0 _ rfl⟩) (fun hHeld => ?_)
        rw [HW4.out] at hHeld ⊢
        refine wpAnyH_take (i := 0) (oi := _) (v := ?_) rfl (by kernel_rfl) (by kernel_rfl) (by kernel_rfl) (fun _ _ _ h => h) (Or.inl ⟨by rfl, ?_⟩) (by first | assumption | trivial) ?_
        rotate_left
        · intro w hSw; (try dsimp only at hSw); go_simp; try with_reducible rfl
        try simp only [Act.put, qj1, qj2, qj3, qj4, qj5, qj6]
        refine wpAnyH_take (i := 1) (oi := _) (v := ?_) rfl (by kernel_rfl) (by kernel_rfl) (by kernel_rfl) (fun _ _ _ h => h) (Or.inl ⟨by rfl, ?_⟩) (by first | assumption | trivial) ?_
        rotate_left
        · intro w hSw; (try dsimp only at hSw); go_simp; try with_reducible rfl
        try simp only [Act.put, qj1, qj2, qj3, qj4, qj5, qj6]
        refine wpAnyH_take (i := 2) (oi := _) (v := ?_) rfl (by kernel_rfl) (by kernel_rfl) (by kernel_rfl) (fun _ _ _ h => h) (Or.inl ⟨by rfl, ?_⟩) (by first | assumption | trivial) ?_
        rotate_left
        · intro w hSw; (try dsimp only at hSw); go_simp; try with_reducible rfl
        try simp only [Act.put, qj1, qj2, qj3, qj4, qj5, qj6]
        refine wpAnyH_take (i := 3) (oi := _) (v := ?_) rfl (by kernel_rfl) (by kernel_rfl) (by kernel_rfl) (fun _ _ _ h => h) (Or.inl ⟨by rfl, ?_⟩) (by first | assumption | trivial) ?_
        rotate_left
        · intro w hSw; (try dsimp only at hSw); go_simp; try with_reducible rfl
        try simp only [Act.put, qj1, qj2, qj3, qj4, qj5, qj6]
        refine wpAnyH_take (i := 4) (oi := _) (v := ?_) rfl (by kernel_rfl) (by kernel_rfl) (by kernel_rfl) (fun _ _ _ h => h) (Or.inl ⟨by rfl, ?_⟩) (by first | assumption | trivial) ?_
        rotate_left
        · intro w hSw; (try dsimp only at hSw); go_simp; try with_reducible rfl
        try simp only [Act.put, qj1, qj2, qj3, qj4, qj5, qj6]
        refine wpAnyH_take (i := 5) (oi := _) (v := ?_) rfl (by kernel_rfl) (by kernel_rfl) (by kernel_rfl) (fun _ _ _ h => h) (Or.inl ⟨by rfl, ?_⟩) (by first | assumption | trivial) ?_
        rotate_left
        · intro w hSw; (try dsimp only at hSw); go_simp; try with_reducible rfl
        try simp only [Act.put, qj1, qj2, qj3, qj4, qj5, qj6]
        refine wpAnyH_take (i := 6) (oi := _) (v := ?_) rfl (by kernel_rfl) (by kernel_rfl) (by kernel_rfl) (fun _ _ _ h => h) (Or.inl ⟨by rfl, ?_⟩) (by first | assumption | trivial) ?_
        rotate_left
        · intro w hSw; (try dsimp only at hSw); go_simp; try with_reducible rfl
        try simp only [Act.put, qj1, qj2, qj3, qj4, qj5, qj6]
        refine wpAnyH_take (i := 7) (oi := _) (v := ?_) rfl (by kernel_rfl) (by kernel_rfl) (by kernel_rfl) (fun _ _ _ h => h) (Or.inl ⟨by rfl, ?_⟩) (by first | assumption | trivial) ?_
        rotate_left
        · intro w hSw; (try dsimp only at hSw); go_simp; try with_reducible rfl
        try simp only [Act.put, qj1, qj2, qj3, qj4, qj5, qj6]
        refine wpAnyH_take (i := 8) (oi := _) (v := ?_) rfl (by kernel_rfl) (by kernel_rfl) (by kernel_rfl) (fun _ _ _ h => h) (Or.inl ⟨by rfl, ?_⟩) (by first | assumption | trivial) ?_
        rotate_left
        · intro w hSw; (try dsimp only at hSw); go_simp; try with_reducible rfl
        try simp only [Act.put, qj1, qj2, qj3, qj4, qj5, qj6]
        refine wpAnyH_ready (rs := [9]) (by kernel_rfl) (by simp) ?_
        refine AllReadyH.cons (o := _) rfl (fun K hK => ?_) AllReadyH.nil
        split
        rotate_left
        · rename_i hno
          exact absurd rfl hno
        refine wp_vl (v := .tuple #[.pointer none, .int .i64 st]) (w' := w5) ?_ ?_
        · exact exec_entry (M := .map (some B.cm)) (X := .int .i64 y.ref) rfl rfl rfl HME.out
        refine hK.out _ _ (⟨HF5.out.keep hHeld.1 HNE.out.1, HF5.out.keep hHeld.2 HNE.out.2⟩) (fun hHeld => ?_)
        clear hK K
        try simp only [Act.put, qj1, qj2, qj3, qj4, qj5, qj6]
        refine wpAnyH_take (i := 10) (oi := _) (v := ?_) rfl (by kernel_rfl) (by kernel_rfl) (by kernel_rfl) (fun _ _ _ h => h) (Or.inl ⟨by rfl, ?_⟩) (by first | assumption | trivial) ?_
        rotate_left
        · intro w hSw; (try dsimp only at hSw); go_simp; try with_reducible rfl
        try simp only [Act.put, qj1, qj2, qj3, qj4, qj5, qj6]
        refine wpAnyH_ready (rs := [11]) (by kernel_rfl) (by simp) ?_
        refine AllReadyH.cons (o := _) rfl (fun K hK => ?_) AllReadyH.nil
        split
        rotate_left
        · rename_i hno
          exact absurd rfl hno
        refine wp_skp (w' := w6) ?_ ?_
        · show Sem.run Tryz.prog ((Instr.entryStore 51 (.map (some B.cm)) (.int .i64 st) (.pointer (some ⟨d, 0, none⟩))) >>= fun _ => pure Next.skip) _ = _
          rw [Sem.run_bind, HES.out]
          rfl
        refine hK.out _ _ (⟨HF6.out.keep hHeld.1 HNE.out.1, HF6.out.keep hHeld.2 HNE.out.2⟩) (fun hHeld => ?_)
        clear hK K
        try simp only [Act.put, qj1, qj2, qj3, qj4, qj5, qj6]
        refine wpAnyH_take (i := 12) (oi := _) (v := ?_) rfl (by kernel_rfl) (by kernel_rfl) (by kernel_rfl) (fun _ _ _ h => h) (Or.inl ⟨by rfl, ?_⟩) (by first | assumption | trivial) ?_
        rotate_left
        · intro w hSw; (try dsimp only at hSw); go_simp; try with_reducible rfl
        try simp only [Act.put, qj1, qj2, qj3, qj4, qj5, qj6]
        refine wpAnyH_done (by kernel_rfl) ?_ _
        clear hHeld
        go_wp2
        go_roundw
        case rel => exact ⟨_, q + 1, y.ref, own1, _, rfl, by go_num, rfl, by omega, HST.out, by omega, by have := HLT.out; omega, fun z hz => by
          have hz2 := List.getElem?_eq_some_iff.1 hz
          have hy2 := List.getElem?_eq_some_iff.1 HYY.out
          obtain ⟨hz3, rfl⟩ := hz2
          obtain ⟨hy3, hy4⟩ := hy2
          have := List.pairwise_iff_getElem.1 HCS.out q (q + 1) hy3 hz3 (by omega)
          rw [hy4] at this
          omega⟩
        case measure => simp [intOf]; omega
      · skip
        have : a1 = false := by cases a1 with
          | false => rfl
          | true => cases hop
        subst this
        go_wp2_with fail
        refine HC0.out.mono ?_
        rintro e w' ⟨rfl, rfl⟩
        go_wp2_with fail
        refine HC1.out.mono ?_
        rintro e w' ⟨rfl, rfl⟩
        go_upto_region 9 with fail
        refine wp_region_held_drew (S := fun W => W.cell? ⟨B.n, 2, none⟩ = some (.map (some B.cm)) ∧ W.cell? ⟨E1, 0, none⟩ = some (.int .i64 y.ref)) (by kernel_rfl) (by rw [HW4.out]; exact ⟨HN4.out.c2, HB4.out.at 0 _ rfl⟩) (fun hHeld => ?_)
        rw [HW4.out] at hHeld ⊢
        refine wpAnyH_take (i := 0) (oi := _) (v := ?_) rfl (by kernel_rfl) (by kernel_rfl) (by kernel_rfl) (fun _ _ _ h => h) (Or.inl ⟨by rfl, ?_⟩) (by first | assumption | trivial) ?_
        rotate_left
        · intro w hSw; (try dsimp only at hSw); go_simp; try with_reducible rfl
        try simp only [Act.put, qj1, qj2, qj3, qj4, qj5, qj6]
        refine wpAnyH_take (i := 1) (oi := _) (v := ?_) rfl (by kernel_rfl) (by kernel_rfl) (by kernel_rfl) (fun _ _ _ h => h) (Or.inl ⟨by rfl, ?_⟩) (by first | assumption | trivial) ?_
        rotate_left
        · intro w hSw; (try dsimp only at hSw); go_simp; try with_reducible rfl
        try simp only [Act.put, qj1, qj2, qj3, qj4, qj5, qj6]
        refine wpAnyH_take (i := 2) (oi := _) (v := ?_) rfl (by kernel_rfl) (by kernel_rfl) (by kernel_rfl) (fun _ _ _ h => h) (Or.inl ⟨by rfl, ?_⟩) (by first | assumption | trivial) ?_
        rotate_left
        · intro w hSw; (try dsimp only at hSw); go_simp; try with_reducible rfl
        try simp only [Act.put, qj1, qj2, qj3, qj4, qj5, qj6]
        refine wpAnyH_take (i := 3) (oi := _) (v := ?_) rfl (by kernel_rfl) (by kernel_rfl) (by kernel_rfl) (fun _ _ _ h => h) (Or.inl ⟨by rfl, ?_⟩) (by first | assumption | trivial) ?_
        rotate_left
        · intro w hSw; (try dsimp only at hSw); go_simp; try with_reducible rfl
        try simp only [Act.put, qj1, qj2, qj3, qj4, qj5, qj6]
        refine wpAnyH_take (i := 4) (oi := _) (v := ?_) rfl (by kernel_rfl) (by kernel_rfl) (by kernel_rfl) (fun _ _ _ h => h) (Or.inl ⟨by rfl, ?_⟩) (by first | assumption | trivial) ?_
        rotate_left
        · intro w hSw; (try dsimp only at hSw); go_simp; try with_reducible rfl
        try simp only [Act.put, qj1, qj2, qj3, qj4, qj5, qj6]
        refine wpAnyH_take (i := 5) (oi := _) (v := ?_) rfl (by kernel_rfl) (by kernel_rfl) (by kernel_rfl) (fun _ _ _ h => h) (Or.inl ⟨by rfl, ?_⟩) (by first | assumption | trivial) ?_
        rotate_left
        · intro w hSw; (try dsimp only at hSw); go_simp; try with_reducible rfl
        try simp only [Act.put, qj1, qj2, qj3, qj4, qj5, qj6]
        refine wpAnyH_take (i := 6) (oi := _) (v := ?_) rfl (by kernel_rfl) (by kernel_rfl) (by kernel_rfl) (fun _ _ _ h => h) (Or.inl ⟨by rfl, ?_⟩) (by first | assumption | trivial) ?_
        rotate_left
        · intro w hSw; (try dsimp only at hSw); go_simp; try with_reducible rfl
        try simp only [Act.put, qj1, qj2, qj3, qj4, qj5, qj6]
        refine wpAnyH_take (i := 7) (oi := _) (v := ?_) rfl (by kernel_rfl) (by kernel_rfl) (by kernel_rfl) (fun _ _ _ h => h) (Or.inl ⟨by rfl, ?_⟩) (by first | assumption | trivial) ?_
        rotate_left
        · intro w hSw; (try dsimp only at hSw); go_simp; try with_reducible rfl
        try simp only [Act.put, qj1, qj2, qj3, qj4, qj5, qj6]
        refine wpAnyH_take (i := 8) (oi := _) (v := ?_) rfl (by kernel_rfl) (by kernel_rfl) (by kernel_rfl) (fun _ _ _ h => h) (Or.inl ⟨by rfl, ?_⟩) (by first | assumption | trivial) ?_
        rotate_left
        · intro w hSw; (try dsimp only at hSw); go_simp; try with_reducible rfl
        try simp only [Act.put, qj1, qj2, qj3, qj4, qj5, qj6]
        refine wpAnyH_ready (rs := [9]) (by kernel_rfl) (by simp) ?_
        refine AllReadyH.cons (o := _) rfl (fun K hK => ?_) AllReadyH.nil
        split
        rotate_left
        · rename_i hno
          exact absurd rfl hno
        refine wp_vl (v := .tuple #[.pointer none, .int .i64 st]) (w' := w5) ?_ ?_
        · exact exec_entry (M := .map (some B.cm)) (X := .int .i64 y.ref) rfl rfl rfl HME.out
        refine hK.out _ _ (⟨HF5.out.keep hHeld.1 HNE.out.1, HF5.out.keep hHeld.2 HNE.out.2⟩) (fun hHeld => ?_)
        clear hK K
        try simp only [Act.put, qj1, qj2, qj3, qj4, qj5, qj6]
        refine wpAnyH_take (i := 10) (oi := _) (v := ?_) rfl (by kernel_rfl) (by kernel_rfl) (by kernel_rfl) (fun _ _ _ h => h) (Or.inl ⟨by rfl, ?_⟩) (by first | assumption | trivial) ?_
        rotate_left
        · intro w hSw; (try dsimp only at hSw); go_simp; try with_reducible rfl
        try simp only [Act.put, qj1, qj2, qj3, qj4, qj5, qj6]
        refine wpAnyH_ready (rs := [11]) (by kernel_rfl) (by simp) ?_
        refine AllReadyH.cons (o := _) rfl (fun K hK => ?_) AllReadyH.nil
        split
        rotate_left
        · rename_i hno
          exact absurd rfl hno
        refine wp_skp (w' := w6) ?_ ?_
        · show Sem.run Tryz.prog ((Instr.entryStore 51 (.map (some B.cm)) (.int .i64 st) (.pointer (some ⟨d, 0, none⟩))) >>= fun _ => pure Next.skip) _ = _
          rw [Sem.run_bind, HES.out]
          rfl
        refine hK.out _ _ (⟨HF6.out.keep hHeld.1 HNE.out.1, HF6.out.keep hHeld.2 HNE.out.2⟩) (fun hHeld => ?_)
        clear hK K
        try simp only [Act.put, qj1, qj2, qj3, qj4, qj5, qj6]
        refine wpAnyH_take (i := 12) (oi := _) (v := ?_) rfl (by kernel_rfl) (by kernel_rfl) (by kernel_rfl) (fun _ _ _ h => h) (Or.inl ⟨by rfl, ?_⟩) (by first | assumption | trivial) ?_
        rotate_left
        · intro w hSw; (try dsimp only at hSw); go_simp; try with_reducible rfl
        try simp only [Act.put, qj1, qj2, qj3, qj4, qj5, qj6]
        refine wpAnyH_done (by kernel_rfl) ?_ _
        clear hHeld
        go_wp2
        go_roundw
        case rel => exact ⟨_, q + 1, y.ref, own1, _, rfl, by go_num, rfl, by omega, HST.out, by omega, by have := HLT.out; omega, fun z hz => by
          have hz2 := List.getElem?_eq_some_iff.1 hz
          have hy2 := List.getElem?_eq_some_iff.1 HYY.out
          obtain ⟨hz3, rfl⟩ := hz2
          obtain ⟨hy3, hy4⟩ := hy2
          have := List.pairwise_iff_getElem.1 HCS.out q (q + 1) hy3 hz3 (by omega)
          rw [hy4] at this
          omega⟩
        case measure => simp [intOf]; omega
    · skip
      obtain rfl : q = m := by omega
      have HRL := Lib.hid (HR.out.fin (D := D) (by rw [HM.out]; exact Nat.le_refl _))
      clear HR hlt hv2
      have HRL0 := Lib.hid HRL.out
      go_wp2_with fail
      go_loopw [70, 7] (fun i la wx => ∃ (wz : World) (p : Nat) (lv : Int) (own : Nat → Nat) (L' : List LB), wz = wx ∧ i = .int .i64 p ∧ la = .int .i64 lv ∧ p ≤ n ∧ RsL w wx own B D C L' C' p ∧ -1 ≤ lv ∧ lv ≤ 1000 ∧ (∀ x, D[p]? = some x → lv < x.ref)) (fun i _ _ => n - (intOf i).toNat)
      case atStart => exact ⟨_, 0, -1, own, [], rfl, rfl, rfl, by omega, HRL.out, by omega, by omega, fun x _ => by omega⟩
      case round =>
        clear HRL HRL0
        obtain ⟨wx, p, lx, own, L', hwz, rfl, rfl, hp, hr, hv0, hv1, hv2⟩ := hrel
        subst hwz
        have HR := Lib.hid hr
        clear hr
        by_cases hlt : p < n
        · skip
          have hlt' : (p : Int) < (n : Int) := by omega
          have hq0 : (0 : Int) ≤ (p : Int) := by omega
          have hy := List.getElem?_eq_getElem (l := D) (i := p) (by rw [HN.out]; exact hlt)
          obtain ⟨x, hye⟩ : ∃ y, D[p]'(by rw [HN.out]; exact hlt) = y := ⟨_, rfl⟩
          rw [hye] at hy
          obtain ⟨g, off, cap, X, hv, hgl, hX, hl, q0, rfl, hrow⟩ := HL.out.lies hy
          rw [HN.out] at hv
          simp only [Value.slice.injEq] at hv
          obtain ⟨rfl, _, rfl⟩ := hv
          have HLY := Lib.hid hl
          have HROW := Lib.hid hrow
          have HXX := Lib.hid hy
          have hxD := List.mem_of_getElem? hy
          have HLF := Lib.hid (HG.out.ls x hxD)
          have hpb : (x.p == 0) = false := HLF.out.2.2.1
          have g1 : decide ((x.ref : Int) ≤ lx) = false := decide_eq_false (by have := hv2 x hy; omega)
          have g2 : decide ((128 : Int) ≤ (x.ref : Int)) = false := decide_eq_false (by have := HLR.out x hxD; omega)
          have HLT := Lib.hid (HLR.out x hxD)
          clear hy hye hl hrow hgl hX hxD hv2
          go_upto_region 14 with fail
          refine wp_region_lit ?_
          refine wpList_plain rfl (fun K hK => ?_); go_simp; refine hK _ _ ?_; clear hK K
          try simp only [Act.put, qj1, qj2, qj3, qj4, qj5, qj6]
          refine wpList_val rfl (v := .agg (lsC x q0).toArray) (w' := wx) ?_ ?_
          · show Sem.run Tryz.prog ((Instr.loadAt 100 (.pointer (some ⟨g, off + p * 5, none⟩))) >>= fun x => pure (Next.value x)) wx = _
            rw [Sem.run_bind, load_all agg100 size100 (xs := lsC x q0) rfl (HLY.out.keep HR.out.fr (by simp))]
            rfl
          try simp only [Act.put, qj1, qj2, qj3, qj4, qj5, qj6]
          refine wpList_plain rfl (fun K hK => ?_); go_simp; refine hK _ _ ?_; clear hK K
          try simp only [Act.put, qj1, qj2, qj3, qj4, qj5, qj6]
          obtain ⟨E1, hA_⟩ : ∃ A, wx.heap.size = A := ⟨_, rfl⟩
          obtain ⟨wa, hw_⟩ : ∃ z, wx.alloc (.cells #[.int .i64 0, .string ⟨#[]⟩, .int .i64 0, .int .i64 0, .slice none 0 0] 100) = z := ⟨_, rfl⟩
          have hB_ : Blk wa E1 100 [.int .i64 0, .string ⟨#[]⟩, .int .i64 0, .int .i64 0, .slice none 0 0] := by rw [← hw_, ← hA_]; exact Blk.made wx 100 _
          have hF_ : Fr [] wx wa := by rw [← hw_]; exact (Fr.refl [] wx).alloc _
          rw [hw_]
          simp only [hA_]
          have HE1 := Lib.hid hA_
          have HBE1 := Lib.hid hB_
          have HFwa := Lib.hid hF_
          clear hA_ hw_ hB_ hF_
          obtain ⟨w2, hst, hb_, hf_⟩ := store_all (t := 100) (lsC x q0) size100 rfl (lsC_one _ _) HBE1.out rfl
          refine wpList_skp rfl (w' := w2) ?_ ?_
          · show Sem.run Tryz.prog ((Instr.storeAt 100 (.pointer (some ⟨E1, 0, none⟩)) (.agg (lsC x q0).toArray)) >>= fun _ => pure Next.skip) _ = _
            rw [Sem.run_bind, hst]
            rfl
          clear hst
          try simp only [Act.put, qj1, qj2, qj3, qj4, qj5, qj6]
          refine wpList_nil ?_
          try simp only [Act.put, qj1, qj2, qj3, qj4, qj5, qj6]
          have HB2 := Lib.hid hb_
          have HF2 := Lib.hid (show Fr [] wx w2 from HFwa.out.trans hf_ (fun z hz hl => by rw [List.mem_singleton] at hz; have := HE1.out; omega))
          clear hb_ hf_ HBE1 HFwa
          have cm : w2.cell? ⟨E1, 3, none⟩ = some (.int .i64 x.most) := HB2.out.at 3 _ rfl
          go_wp2_with fail
          refine (backNew_ok x.most _ (by have := HLF.out.2.2.2.1; omega) (by have := HLF.out.2.2.2.1; omega)).mono ?_
          rintro e w3 ⟨b, qq, mm, tt, rfl, hbk, f3, l1, l2, l3, l4⟩
          have z2 := HF2.out.size
          have HBK := Lib.hid hbk
          have HBX1 := Lib.hid (show E1 ≠ b ∧ E1 ≠ qq ∧ E1 ≠ mm ∧ E1 ≠ tt from by have := HB2.out.lt; exact ⟨by omega, by omega, by omega, by omega⟩)
          have HLO := Lib.hid (show wx.heap.size ≤ b ∧ wx.heap.size ≤ qq ∧ wx.heap.size ≤ mm ∧ wx.heap.size ≤ tt from ⟨by omega, by omega, by omega, by omega⟩)
          have HF3 := Lib.hid (HF2.out.step f3)
          have HB3 := Lib.hid (HB2.out.keep f3 (by simp))
          clear hbk f3 l1 l2 l3 l4 cm HB2 HF2 z2
          have cr : w3.cell? ⟨E1, 0, none⟩ = some (.int .i64 x.ref) := HB3.out.at 0 _ rfl
          have cp : w3.cell? ⟨E1, 2, none⟩ = some (.int .i64 x.p) := HB3.out.at 2 _ rfl
          obtain ⟨w4, hw4⟩ : ∃ z, w3.drew = z := ⟨_, rfl⟩
          have f4 : Fr [] w3 w4 := by rw [← hw4]; exact (Fr.refl [] w3).drew
          have HF4 := Lib.hid (HF3.out.step f4)
          have HW4 := Lib.hid hw4
          have HB4 := Lib.hid (HB3.out.keep f4 (by simp))
          have HK4 := Lib.hid (HBK.out.keep f4 (by simp) (by simp) (by simp) (by simp))
          clear f4 hw4
          have HNT := Lib.hid HR.out.net.net
          have HMM := Lib.hid (show B.n ∉ [B.m] ∧ B.lm ∉ [B.m] ∧ B.cm ∉ [B.m] ∧ B.n ∉ [B.lm] ∧ B.r ∉ [B.lm] ∧ B.m ∉ [B.lm] ∧ B.cm ∉ [B.lm] from by
            obtain ⟨e1, e2, e3, e4, e5, e6, e7, e8, e9⟩ := HNT.out.ne
            exact ⟨by simp [e2], by simp [Ne.symm e7], by simp [Ne.symm e8], by simp [e3], by simp [e5], by simp [e7], by simp [Ne.symm e9]⟩)
          obtain ⟨hfn, hfr, hfe⟩ := HR.out.fresh HLS.out HG.out.ad HXX.out
          have HFS := Lib.hid (And.intro hfn (And.intro hfr hfe))
          have hlen := HR.out.len HXX.out
          have HLEN := Lib.hid hlen
          have HRB := Lib.hid (fun W (f : Fr [] w4 W) => regBind_ok B.r B.m (L'.map LB.nm) x.s x.p x.ref W (HNT.out.reg.keep (HF4.out.step f) (by simp) (by simp)) HLF.out.2.1 HLF.out.1 hpb (by omega) hfn (by rw [List.length_map, hlen]; omega))
          clear hfn hfr hfe hlen
          go_upto_region 18 with fail
          go_cut [17] from 102 to 114 (fun s17 wc => s17 = .int .i64 0 ∧ RegIs wc B.r B.m (L'.map LB.nm ++ [(addrV x.s x.p, .int .i64 x.ref)]) ∧ Fr [B.m] w4 wc)
          case first =>
            refine wp_region_held_drew (S := fun W => W.cell? ⟨B.n, 0, none⟩ = some (.pointer (some ⟨B.r, 0, none⟩)) ∧ W.cell? ⟨E1, 0, none⟩ = some (.int .i64 x.ref) ∧ LiesAt W E1 1 [.string x.s, .int .i64 x.p]) (by kernel_rfl) (by rw [HW4.out]; exact ⟨(HNT.out.new HF4.out).c0, HB4.out.at 0 _ rfl, by have := HB4.out.at.part (k := 1) (n := 2) (ys := [.string x.s, .int .i64 x.p]) rfl; rwa [Nat.zero_add] at this⟩) (fun hHeld => ?_)
            rw [HW4.out] at hHeld ⊢
            refine wpAnyH_take (i := 0) (oi := _) (v := ?_) rfl (by kernel_rfl) (by kernel_rfl) (by kernel_rfl) (fun _ _ _ h => h) (Or.inl ⟨by rfl, ?_⟩) (by first | assumption | trivial) ?_
            rotate_left
            · intro w hSw; (try dsimp only at hSw); go_simp; try with_reducible rfl
            try simp only [Act.put, qj1, qj2, qj3, qj4, qj5, qj6]
            refine wpAnyH_take (i := 1) (oi := _) (v := ?_) rfl (by kernel_rfl) (by kernel_rfl) (by kernel_rfl) (fun _ _ _ h => h) (Or.inl ⟨by rfl, ?_⟩) (by first | assumption | trivial) ?_
            rotate_left
            · intro w hSw; (try dsimp only at hSw); go_simp; try with_reducible rfl
            try simp only [Act.put, qj1, qj2, qj3, qj4, qj5, qj6]
            refine wpAnyH_take (i := 2) (oi := _) (v := ?_) rfl (by kernel_rfl) (by kernel_rfl) (by kernel_rfl) (fun _ _ _ h => h) (Or.inl ⟨by rfl, ?_⟩) (by first | assumption | trivial) ?_
            rotate_left
            · intro w hSw; (try dsimp only at hSw); go_simp; try with_reducible rfl
            try simp only [Act.put, qj1, qj2, qj3, qj4, qj5, qj6]
            refine wpAnyH_take (i := 3) (oi := _) (v := ?_) rfl (by kernel_rfl) (by kernel_rfl) (by kernel_rfl) (fun _ _ _ h => h) (Or.inl ⟨by rfl, ?_⟩) (by first | assumption | trivial) ?_
            rotate_left
            · intro w hSw; (try dsimp only at hSw); go_simp; try with_reducible rfl
            try simp only [Act.put, qj1, qj2, qj3, qj4, qj5, qj6]
            refine wpAnyH_take (i := 4) (oi := _) (v := ?_) rfl (by kernel_rfl) (by kernel_rfl) (by kernel_rfl) (fun _ _ _ h => h) (Or.inl ⟨by rfl, ?_⟩) (by first | assumption | trivial) ?_
            rotate_left
            · intro w hSw; (try dsimp only at hSw); go_simp; try with_reducible rfl
            try simp only [Act.put, qj1, qj2, qj3, qj4, qj5, qj6]
            refine wpAnyH_take (i := 5) (oi := _) (v := ?_) rfl (by kernel_rfl) (by kernel_rfl) (by kernel_rfl) (fun _ _ _ h => h) (Or.inl ⟨by rfl, ?_⟩) (by first | assumption | trivial) ?_
            rotate_left
            · intro w hSw; (try dsimp only at hSw); go_simp; try with_reducible rfl
            try simp only [Act.put, qj1, qj2, qj3, qj4, qj5, qj6]
            refine wpAnyH_take (i := 6) (oi := _) (v := .agg #[.string x.s, .int .i64 x.p]) rfl (by kernel_rfl) (by kernel_rfl) (by kernel_rfl) (fun _ _ _ h => h) (Or.inl ⟨by rfl, ?_⟩) (by first | assumption | trivial) ?_
            · intro w hSw
              try dsimp only at hSw
              show Sem.run Tryz.prog ((Instr.loadAt 28 (.pointer (some ⟨E1, 1, none⟩))) >>= fun x => pure (Next.value x)) w = _
              rw [Sem.run_bind, load_all agg28 size28 (xs := [.string x.s, .int .i64 x.p]) rfl hSw.2.2]
              rfl
            try simp only [Act.put, qj1, qj2, qj3, qj4, qj5, qj6]
            refine wpAnyH_take (i := 7) (oi := _) (v := ?_) rfl (by kernel_rfl) (by kernel_rfl) (by kernel_rfl) (fun _ _ _ h => h) (Or.inl ⟨by rfl, ?_⟩) (by first | assumption | trivial) ?_
            rotate_left
            · intro w hSw; (try dsimp only at hSw); go_simp; try with_reducible rfl
            try simp only [Act.put, qj1, qj2, qj3, qj4, qj5, qj6]
            refine wpAnyH_take (i := 8) (oi := _) (v := ?_) rfl (by kernel_rfl) (by kernel_rfl) (by kernel_rfl) (fun _ _ _ h => h) (Or.inl ⟨by rfl, ?_⟩) (by first | assumption | trivial) ?_
            rotate_left
            · intro w hSw; (try dsimp only at hSw); go_simp; try with_reducible rfl
            try simp only [Act.put, qj1, qj2, qj3, qj4, qj5, qj6]
            refine wpAnyH_take (i := 9) (oi := _) (v := .int .i64 x.ref) rfl (by kernel_rfl) (by kernel_rfl) (by kernel_rfl) (fun _ _ _ h => h) (Or.inl ⟨by rfl, ?_⟩) (by first | assumption | trivial) ?_
            · intro w hSw
              try dsimp only at hSw
              have hmx : max (0 : Int) (x.ref : Int) = x.ref := by omega
              go_simp
              try with_reducible rfl
            try simp only [Act.put, qj1, qj2, qj3, qj4, qj5, qj6]
            refine wpAnyH_ready (rs := [10, 14]) (by kernel_rfl) (by simp) ?_
            refine AllReadyH.cons (o := _) rfl (fun K hK => ?_) (AllReadyH.cons (o := _) rfl (fun K hK => ?_) AllReadyH.nil)
            · skip
              go_simp
              refine (HRB.out _ (Fr.refl [] _)).mono ?_
              rintro e w5 ⟨rfl, rg, fb⟩
              have HRG := Lib.hid rg
              have HFB := Lib.hid fb
              have hnm : B.n ∉ [B.m] := HMM.out.1
              have hem : E1 ∉ [B.m] := by
                have h1 := HNT.out.reg.map.lt
                have h2 := HE1.out
                simp only [List.mem_singleton]
                omega
              clear rg fb
              refine hK.out _ _ (⟨HFB.out.keep hHeld.1 hnm, HFB.out.keep hHeld.2.1 hem, hHeld.2.2.keep HFB.out hem⟩) (fun hHeld => ?_)
              clear hK K
              try simp only [Act.put, qj1, qj2, qj3, qj4, qj5, qj6]
              refine wpAnyH_take (i := 11) (oi := _) (v := ?_) rfl (by kernel_rfl) (by kernel_rfl) (by kernel_rfl) (fun _ _ _ h => h) (Or.inl ⟨by rfl, ?_⟩) (by first | assumption | trivial) ?_
              rotate_left
              · intro w hSw; (try dsimp only at hSw); go_simp; try with_reducible rfl
              try simp only [Act.put, qj1, qj2, qj3, qj4, qj5, qj6]
              refine wpAnyH_take (i := 12) (oi := _) (v := ?_) rfl (by kernel_rfl) (by kernel_rfl) (by kernel_rfl) (fun _ _ _ h => h) (Or.inl ⟨by rfl, ?_⟩) (by first | assumption | trivial) ?_
              rotate_left
              · intro w hSw; (try dsimp only at hSw); go_simp; try with_reducible rfl
              try simp only [Act.put, qj1, qj2, qj3, qj4, qj5, qj6]
              refine wpAnyH_take (i := 13) (oi := _) (v := ?_) rfl (by kernel_rfl) (by kernel_rfl) (by kernel_rfl) (fun _ _ _ h => h) (Or.inl ⟨by rfl, ?_⟩) (by first | assumption | trivial) ?_
              rotate_left
              · intro w hSw; (try dsimp only at hSw); go_simp; try with_reducible rfl
              try simp only [Act.put, qj1, qj2, qj3, qj4, qj5, qj6]
              refine wpAnyH_ready (rs := [14]) (by kernel_rfl) (by simp) ?_
              refine AllReadyH.cons (o := _) rfl (fun K hK => ?_) AllReadyH.nil
              go_simp
              obtain ⟨E2, hE_⟩ : ∃ E, w5.heap.size = E := ⟨_, rfl⟩
              obtain ⟨w6, hw_⟩ : ∃ z, w5.alloc (.cells #[.string ⟨#[]⟩, .int .i64 0] 28) = z := ⟨_, rfl⟩
              have hbx : Blk w6 E2 28 [.string ⟨#[]⟩, .int .i64 0] := by rw [← hw_, ← hE_]; exact Blk.made w5 28 _
              have fx : Fr [] w5 w6 := by rw [← hw_]; exact (Fr.refl [] w5).alloc _
              rw [hw_]
              simp only [hE_]
              have HE2 := Lib.hid hE_
              have HBX := Lib.hid hbx
              have HFX := Lib.hid fx
              clear hw_ hE_ hbx fx
              refine hK.out _ _ (⟨HFX.out.keep hHeld.1 (by simp), HFX.out.keep hHeld.2.1 (by simp), hHeld.2.2.keep HFX.out (by simp)⟩) (fun hHeld => ?_)
              clear hK K
              try simp only [Act.put, qj1, qj2, qj3, qj4, qj5, qj6]
              refine wpAnyH_ready (rs := [15]) (by kernel_rfl) (by simp) ?_
              refine AllReadyH.cons (o := _) rfl (fun K hK => ?_) AllReadyH.nil
              obtain ⟨ws, hst, hb_, hf_⟩ := store_all (t := 28) [.string x.s, .int .i64 x.p] size28 rfl (fun u hu => by simp only [List.mem_cons, List.not_mem_nil, or_false] at hu; rcases hu with rfl | rfl <;> rfl) (HBX.out) rfl
              split
              rotate_left
              · rename_i hno
                exact absurd rfl hno
              refine wp_skp (w' := ws) ?_ ?_
              · show Sem.run Tryz.prog ((Instr.storeAt 28 (.pointer (some ⟨E2, 0, none⟩)) (.agg ([.string x.s, .int .i64 x.p] : List Value).toArray)) >>= fun _ => pure Next.skip) _ = _
                rw [Sem.run_bind, hst]
                rfl
              clear hst
              have hm4 := HNT.out.reg.map.lt
              have hr4 := cell_lt HNT.out.reg.c0
              have hn4 := cell_lt HNT.out.c0
              have he1 := HE1.out
              have z4 := HF4.out.size
              have zb := HFB.out.size
              have he2 := HE2.out
              have h14 := HB4.out.lt
              have hge : w4.heap.size ≤ E2 := by omega
              have n1 : B.n ∉ [E2] := by simp only [List.mem_singleton]; omega
              have n2 : E1 ∉ [E2] := by simp only [List.mem_singleton]; omega
              have n3 : B.r ∉ [E2] := by simp only [List.mem_singleton]; omega
              have n4 : B.m ∉ [E2] := by simp only [List.mem_singleton]; omega
              have HRS := Lib.hid ((HRG.out.keep HFX.out (by simp) (by simp)).keep hf_ n3 n4)
              have HFS2 := Lib.hid (show Fr [B.m] w4 ws from (HFB.out.trans HFX.out (fun z hz hl => by cases hz)).trans hf_ (fun z hz hl => by rw [List.mem_singleton] at hz; omega))
              have hH := And.intro (hf_.keep hHeld.1 n1) (And.intro (hf_.keep hHeld.2.1 n2) (hHeld.2.2.keep hf_ n2))
              clear hb_ hm4 hr4 hn4 he1 z4 zb he2 h14 hge n1 n2 n3 n4 hf_
              refine hK.out _ _ (hH) (fun hHeld => ?_)
              clear hK K
              try simp only [Act.put, qj1, qj2, qj3, qj4, qj5, qj6]
              refine wpAnyH_take (i := 16) (oi := _) (v := ?_) rfl (by kernel_rfl) (by kernel_rfl) (by kernel_rfl) (fun _ _ _ h => h) (Or.inl ⟨by rfl, ?_⟩) (by first | assumption | trivial) ?_
              rotate_left
              · intro w hSw; (try dsimp only at hSw); go_simp; try with_reducible rfl
              try simp only [Act.put, qj1, qj2, qj3, qj4, qj5, qj6]
              refine wpAnyH_done (by kernel_rfl) ?_ _
              go_wp2
              go_meet
              exact ⟨rfl, HRS.out, HFS2.out⟩
            · skip
              go_simp
              obtain ⟨E2, hE_⟩ : ∃ E, w4.heap.size = E := ⟨_, rfl⟩
              obtain ⟨w5, hw_⟩ : ∃ z, w4.alloc (.cells #[.string ⟨#[]⟩, .int .i64 0] 28) = z := ⟨_, rfl⟩
              have hbx : Blk w5 E2 28 [.string ⟨#[]⟩, .int .i64 0] := by rw [← hw_, ← hE_]; exact Blk.made w4 28 _
              have fx : Fr [] w4 w5 := by rw [← hw_]; exact (Fr.refl [] w4).alloc _
              rw [hw_]
              simp only [hE_]
              have HE2 := Lib.hid hE_
              have HBX := Lib.hid hbx
              have HFX := Lib.hid fx
              clear hw_ hE_ hbx fx
              refine hK.out _ _ (⟨HFX.out.keep hHeld.1 (by simp), HFX.out.keep hHeld.2.1 (by simp), hHeld.2.2.keep HFX.out (by simp)⟩) (fun hHeld => ?_)
              clear hK K
              try simp only [Act.put, qj1, qj2, qj3, qj4, qj5, qj6]
              refine wpAnyH_ready (rs := [10]) (by kernel_rfl) (by simp) ?_
              refine AllReadyH.cons (o := _) rfl (fun K hK => ?_) AllReadyH.nil
              go_simp
              refine (HRB.out _ HFX.out).mono ?_
              rintro e w6 ⟨rfl, rg, fb⟩
              have HRG := Lib.hid rg
              have HFB := Lib.hid fb
              have hnm : B.n ∉ [B.m] := HMM.out.1
              have hem : E1 ∉ [B.m] := by
                have h1 := HNT.out.reg.map.lt
                have h2 := HE1.out
                simp only [List.mem_singleton]
                omega
              clear rg fb
              refine hK.out _ _ (⟨HFB.out.keep hHeld.1 hnm, HFB.out.keep hHeld.2.1 hem, hHeld.2.2.keep HFB.out hem⟩) (fun hHeld => ?_)
              clear hK K
              try simp only [Act.put, qj1, qj2, qj3, qj4, qj5, qj6]
              refine wpAnyH_take (i := 11) (oi := _) (v := ?_) rfl (by kernel_rfl) (by kernel_rfl) (by kernel_rfl) (fun _ _ _ h => h) (Or.inl ⟨by rfl, ?_⟩) (by first | assumption | trivial) ?_
              rotate_left
              · intro w hSw; (try dsimp only at hSw); go_simp; try with_reducible rfl
              try simp only [Act.put, qj1, qj2, qj3, qj4, qj5, qj6]
              refine wpAnyH_take (i := 12) (oi := _) (v := ?_) rfl (by kernel_rfl) (by kernel_rfl) (by kernel_rfl) (fun _ _ _ h => h) (Or.inl ⟨by rfl, ?_⟩) (by first | assumption | trivial) ?_
              rotate_left
              · intro w hSw; (try dsimp only at hSw); go_simp; try with_reducible rfl
              try simp only [Act.put, qj1, qj2, qj3, qj4, qj5, qj6]
              refine wpAnyH_take (i := 13) (oi := _) (v := ?_) rfl (by kernel_rfl) (by kernel_rfl) (by kernel_rfl) (fun _ _ _ h => h) (Or.inl ⟨by rfl, ?_⟩) (by first | assumption | trivial) ?_
              rotate_left
              · intro w hSw; (try dsimp only at hSw); go_simp; try with_reducible rfl
              try simp only [Act.put, qj1, qj2, qj3, qj4, qj5, qj6]
              refine wpAnyH_ready (rs := [15]) (by kernel_rfl) (by simp) ?_
              refine AllReadyH.cons (o := _) rfl (fun K hK => ?_) AllReadyH.nil
              obtain ⟨ws, hst, hb_, hf_⟩ := store_all (t := 28) [.string x.s, .int .i64 x.p] size28 rfl (fun u hu => by simp only [List.mem_cons, List.not_mem_nil, or_false] at hu; rcases hu with rfl | rfl <;> rfl) (HBX.out.keep HFB.out (by have h1 := HNT.out.reg.map.lt; have h2 := HF4.out.size; have h3 := HE2.out; simp only [List.mem_singleton]; omega)) rfl
              split
              rotate_left
              · rename_i hno
                exact absurd rfl hno
              refine wp_skp (w' := ws) ?_ ?_
              · show Sem.run Tryz.prog ((Instr.storeAt 28 (.pointer (some ⟨E2, 0, none⟩)) (.agg ([.string x.s, .int .i64 x.p] : List Value).toArray)) >>= fun _ => pure Next.skip) _ = _
                rw [Sem.run_bind, hst]
                rfl
              clear hst
              have hm4 := HNT.out.reg.map.lt
              have hr4 := cell_lt HNT.out.reg.c0
              have hn4 := cell_lt HNT.out.c0
              have he1 := HE1.out
              have z4 := HF4.out.size
              have zb := HFB.out.size
              have he2 := HE2.out
              have h14 := HB4.out.lt
              have hge : w4.heap.size ≤ E2 := by omega
              have n1 : B.n ∉ [E2] := by simp only [List.mem_singleton]; omega
              have n2 : E1 ∉ [E2] := by simp only [List.mem_singleton]; omega
              have n3 : B.r ∉ [E2] := by simp only [List.mem_singleton]; omega
              have n4 : B.m ∉ [E2] := by simp only [List.mem_singleton]; omega
              have HRS := Lib.hid (HRG.out.keep hf_ n3 n4)
              have HFS2 := Lib.hid (show Fr [B.m] w4 ws from ((HFX.out.mono (fun z hz => by cases hz)).trans HFB.out (fun z hz _ => hz)).trans hf_ (fun z hz hl => by rw [List.mem_singleton] at hz; omega))
              have hH := And.intro (hf_.keep hHeld.1 n1) (And.intro (hf_.keep hHeld.2.1 n2) (hHeld.2.2.keep hf_ n2))
              clear hb_ hm4 hr4 hn4 he1 z4 zb he2 h14 hge n1 n2 n3 n4 hf_
              refine hK.out _ _ (hH) (fun hHeld => ?_)
              clear hK K
              try simp only [Act.put, qj1, qj2, qj3, qj4, qj5, qj6]
              refine wpAnyH_take (i := 16) (oi := _) (v := ?_) rfl (by kernel_rfl) (by kernel_rfl) (by kernel_rfl) (fun _ _ _ h => h) (Or.inl ⟨by rfl, ?_⟩) (by first | assumption | trivial) ?_
              rotate_left
              · intro w hSw; (try dsimp only at hSw); go_simp; try with_reducible rfl
              try simp only [Act.put, qj1, qj2, qj3, qj4, qj5, qj6]
              refine wpAnyH_done (by kernel_rfl) ?_ _
              go_wp2
              go_meet
              exact ⟨rfl, HRS.out, HFS2.out⟩
          case rest =>
            obtain ⟨rfl, hrg, hfc⟩ := hcut
            have hmlt := HNT.out.reg.map.lt
            have hz4 := HF4.out.size
            have dm : ∀ z, wx.heap.size ≤ z → z ∉ [B.m] := fun z hz hm => by rw [List.mem_singleton] at hm; omega
            have HDM := Lib.hid dm
            have HFC := Lib.hid (show Fr [B.m] wx wc from (HF4.out.mono (fun z hz => by cases hz)).trans hfc (fun z hz _ => hz))
            have HBC := Lib.hid (HB4.out.keep hfc (dm _ (by have := HE1.out; omega)))
            have HIN := Lib.hid (show RsI wx wc B L' x b qq mm tt [] 0 0 from ⟨HK4.out.keep hfc (dm _ HLO.out.1) (dm _ HLO.out.2.1) (dm _ HLO.out.2.2.1) (dm _ HLO.out.2.2.2), rfl, by omega, hrg, HFC.out⟩)
            clear hrg hfc dm hmlt hz4 HRB HK4 HB4 HF4 HW4 HB3 HF3 HBK cr cp
            have cs : wc.cell? ⟨E1, 4, none⟩ = some (slv q0) := HBC.out.at 4 _ rfl
            obtain ⟨k, hk⟩ : ∃ k, x.l.length = k := ⟨_, rfl⟩
            obtain ⟨sa, sn, sc⟩ := q0
            simp only [slv] at cs
            obtain rfl : sn = k := by
              have h1 := HROW.out.sli
              obtain ⟨s, h2, h3⟩ := h1
              have h4 : (sa, sn, sc) = s := by
                obtain ⟨a1, a2, a3⟩ := s
                simp only [slv, Value.slice.injEq] at h2
                simp [h2]
              rw [← h4] at h3
              simp only at h3
              omega
            have HKK := Lib.hid hk
            have hsn : sn ≤ 128 := by have h1 := HLF.out.2.2.2.2; have h2 := HLF.out.2.2.2.1.2; omega
            clear hk
            go_wp2_with fail
            go_loopw [121] (fun i wi => ∃ (wz : World) (j : Nat) (l : List (Nat × Int)) (gg : Nat), wz = wi ∧ i = .int .i64 j ∧ j ≤ sn ∧ RsI wx wi B L' x b qq mm tt l gg j ∧ Blk wi E1 100 (lsC x (sa, sn, sc))) (fun i _ => sn - (intOf i).toNat)
            case atStart => exact ⟨_, 0, [], 0, rfl, rfl, by omega, HIN.out, HBC.out⟩
            case round =>
              clear HIN HBC cs
              obtain ⟨wi, j, l, gg, hwz, rfl, hj, hri, hbi⟩ := hrel
              subst hwz
              have HI := Lib.hid hri
              have HBI := Lib.hid hbi
              clear hri hbi
              by_cases hlt2 : j < sn
              · skip
                have hlt3 : (j : Int) < (sn : Int) := by omega
                have hj0 : (0 : Int) ≤ (j : Int) := by omega
                obtain ⟨kk, hkk⟩ : ∃ v, x.l[j]'(by rw [HKK.out]; exact hlt2) = v := ⟨_, rfl⟩
                have hkj : x.l[j]? = some kk := by rw [List.getElem?_eq_getElem (by rw [HKK.out]; exact hlt2), hkk]
                obtain ⟨hw1, hw2, hw3⟩ := HR.out.wait HG.out HXX.out
                obtain ⟨⟨y, hyC, hyk, hya⟩, hkq⟩ := hw1 kk (List.mem_of_getElem? hkj)
                have HFI := Lib.hid HI.out.fr
                have o0 := HR.out.net.on
                have hkS : ∀ z ∈ [B.m], own z = 0 := fun z hz => by rw [List.mem_singleton] at hz; rw [hz]; exact o0.2.2.1
                have HDU := Lib.hid (((HR.out.net.cs y hyC).dup).keep HI.out.fr (fun z hz _ => by rw [hkS z hz]; omega))
                have HC1 := Lib.hid (by have := dupClosedB_1 HDU.out; rw [hya] at this; exact this)
                have cn1 : wi.cell? ⟨B.n, 1, none⟩ = some (.map (some B.lm)) := HI.out.fr.keep HNT.out.c1 HMM.out.1
                have cn2 : wi.cell? ⟨B.n, 2, none⟩ = some (.map (some B.cm)) := HI.out.fr.keep HNT.out.c2 HMM.out.1
                have hlk := (HNT.out.cs.keep HI.out.fr HMM.out.2.2.1).hit keyInt (t := 51) (e := 55) Tryz.underlying51 (x := .int .i64 y.ref) (v := .pointer (some ⟨y.d, 0, none⟩)) (List.mem_map.2 ⟨y, hyC, rfl⟩) true
                simp only [if_true] at hlk
                have HWT := Lib.hid (by
                  have := netWaitsP (B := B) (G := 200) kk wi cn1 (HNT.out.ls.keep HI.out.fr HMM.out.2.1) (fun z hz => (HR.out.net.ls z hz).keep HI.out.fr (fun u hu => by rw [hkS u hu]; omega)) HR.out.net.refs (by omega)
                  rw [decide_eq_false hkq] at this
                  exact this)
                have hne : ∀ z ∈ l, z.2 ≠ kk := fun z hz he => by
                  have h1 : z.2 ∈ x.l.take j := by rw [← HI.out.pl]; exact List.mem_map.2 ⟨z, hz, rfl⟩
                  rw [he] at h1
                  obtain ⟨i, hi⟩ := List.getElem?_of_mem h1
                  have hi2 := (List.getElem?_eq_some_iff.1 hi).1
                  rw [List.length_take] at hi2
                  rw [List.getElem?_take_of_lt (by omega)] at hi
                  have := (List.getElem?_inj (List.getElem?_eq_some_iff.1 hi).1 hw2).1 (hi.trans hkj.symm)
                  omega
                have hll : l.length = j := by
                  have := congrArg List.length HI.out.pl
                  rw [List.length_map, List.length_take, HKK.out] at this
                  omega
                have hyr : y.ref < 128 := by
                  have : y.pg ∈ C := by rw [← HR.out.pc]; exact List.mem_map.2 ⟨y, hyC, rfl⟩
                  exact HCR.out _ this
                have HPU := Lib.hid (fun W (f : Fr [] wi W) => backPush_any b qq mm tt x.most l gg kk W (HI.out.back.keep f (by simp) (by simp) (by simp) (by simp)) (by rw [hll]; have := HLF.out.2.2.2.2; rw [HKK.out] at this; omega) HLF.out.2.2.2.1.2 (by have := HI.out.g; omega) (by omega) (by omega) hne)
                subst hyk
                have hfw : Fr [] w wi := HR.out.fr.trans HI.out.fr (fun z hz hl => by
                  have h1 := HR.out.old z hl
                  rw [hkS z hz] at h1
                  cases h1)
                obtain ⟨gs, go, hgs, hcell⟩ : ∃ gs go, sa = some ⟨gs, go, none⟩ ∧ wi.cell? ⟨gs, go + j, none⟩ = some (.int .i64 y.ref) := by
                  rcases HROW.out.2 with ⟨he, h0⟩ | ⟨gs, go, cap, hv, hb, hc⟩
                  · have := HKK.out
                    omega
                  · simp only [slv, Value.slice.injEq] at hv
                    refine ⟨gs, go, hv.1, hfw.keep (hc j _ ?_) (by simp)⟩
                    simp [intsV, hkj]
                subst hgs
                have HNX := Lib.hid (And.intro hkj (And.intro hll hya))
                clear hw1 hw2 hw3 hkj hkk hyC hkq hkS o0 hne hll hyr hya
                go_wp2_with fail
                refine HC1.out.mono ?_
                rintro e w' ⟨rfl, rfl⟩
                go_wp2_with fail
                refine HWT.out.mono ?_
                rintro e w5 ⟨rfl, f5⟩
                go_wp2_with fail
                refine (HPU.out _ f5).mono ?_
                rintro e w6 ⟨rfl, hbk6, f6⟩
                have hlo := HLO.out
                have hS6 : ∀ z, z < wx.heap.size → z ∉ [qq, mm, tt] := fun z hz hm => by
                  simp only [List.mem_cons, List.not_mem_nil, or_false] at hm
                  omega
                have hrl := cell_lt HNT.out.reg.c0
                have hml := HNT.out.reg.map.lt
                have HF6 := Lib.hid (show Fr [B.m] wx w6 from (HI.out.fr.trans f5 (fun z hz => by cases hz)).trans f6 (fun z hz hl => absurd hz (hS6 z hl)))
                have hg6 := HI.out.g
                have HI6 := Lib.hid (show RsI wx w6 B L' x b qq mm tt (l ++ [(gg + 1, (y.ref : Int))]) (gg + 1) (j + 1) from ⟨hbk6, by rw [List.map_append, HI.out.pl, take_getG HNX.out.1]; rfl, by omega, (HI.out.reg.keep f5 (by simp) (by simp)).keep f6 (hS6 _ hrl) (hS6 _ hml), HF6.out⟩)
                have HB6 := Lib.hid ((HBI.out.keep f5 (by simp)).keep f6 (fun hm => by
                  have h1 := HBX1.out
                  have h2 := HLO.out
                  simp only [List.mem_cons, List.not_mem_nil, or_false] at hm
                  omega))
                clear hbk6 f5 f6 hlo hS6 hrl hml hg6
                go_wp2
                go_roundw
                case rel => exact ⟨_, j + 1, _, _, rfl, by go_num, by omega, HI6.out, HB6.out⟩
                case measure => simp [intOf]; omega
              · skip
                obtain rfl : j = sn := by omega
                clear hlt2
                have hpl : l.map (·.2) = x.l := by rw [HI.out.pl, List.take_of_length_le (by rw [HKK.out]; exact Nat.le_refl _)]
                have HPL := Lib.hid hpl
                have hg6 : gg ≤ 200 := by
                  have h1 := HI.out.g
                  have h2 := HLF.out.2.2.2.2
                  have h3 := HLF.out.2.2.2.1.2
                  have h4 := HKK.out
                  omega
                obtain ⟨w7, hw7⟩ : ∃ z, wi.drew = z := ⟨_, rfl⟩
                have f7 : Fr [] wi w7 := by rw [← hw7]; exact (Fr.refl [] wi).drew
                have HW7 := Lib.hid hw7
                have HB7 := Lib.hid (HBI.out.keep f7 (by simp))
                have HF7 := Lib.hid (HI.out.fr.trans f7 (fun z hz => by cases hz))
                have HBK7 := Lib.hid (HI.out.back.keep f7 (by simp) (by simp) (by simp) (by simp))
                have HRG7 := Lib.hid (HI.out.reg.keep f7 (by simp) (by simp))
                clear f7 hw7 hpl
                obtain ⟨st, w8, hme, f8, z8, hst8⟩ := (HNT.out.ls.keep HF7.out HMM.out.2.1).entry keyInt (t := 49) (e := 120) Tryz.underlying49 (keyInt_of x.ref (by omega) (by have := HLT.out; omega)) HFS.out.2.2 (zeroQ _)
                obtain ⟨w9, hes, hm9, f9⟩ := hst8 (qV b x.s x.p)
                have hE1m : E1 ∉ [B.lm] := by
                  have h1 := HNT.out.ls.lt
                  have h2 := HE1.out
                  simp only [List.mem_singleton]
                  omega
                have HME := Lib.hid hme
                have HES := Lib.hid hes
                have HF8 := Lib.hid f8
                have HF9 := Lib.hid f9
                have f79 : Fr [B.lm] w7 w9 := f8.trans f9 (fun z hz _ => hz)
                have nb : ∀ z, wx.heap.size ≤ z → z ∉ [B.lm] := fun z hz hm => by
                  have h1 := HNT.out.ls.lt
                  rw [List.mem_singleton] at hm
                  omega
                have HN9 := Lib.hid (show NetIs w9 B.n B.r B.m B.lm B.cm (L'.map LB.nm ++ [(addrV x.s x.p, .int .i64 x.ref)]) (L'.map LB.ent ++ [(.int .i64 x.ref, qV b x.s x.p)]) (C'.map CG.ent) from
                  ⟨f79.keep (HF7.out.keep HNT.out.c0 HMM.out.1) HMM.out.2.2.2.1, f79.keep (HF7.out.keep HNT.out.c1 HMM.out.1) HMM.out.2.2.2.1, f79.keep (HF7.out.keep HNT.out.c2 HMM.out.1) HMM.out.2.2.2.1, HRG7.out.keep f79 HMM.out.2.2.2.2.1 HMM.out.2.2.2.2.2.1, hm9, (HNT.out.cs.keep HF7.out HMM.out.2.2.1).keep f79 HMM.out.2.2.2.2.2.2, HNT.out.ne⟩)
                have HSTP := Lib.hid (HR.out.step HG.out HLS.out HXX.out HPL.out hg6 HN9.out (HBK7.out.keep f79 (nb _ HLO.out.1) (nb _ HLO.out.2.1) (nb _ HLO.out.2.2.1) (nb _ HLO.out.2.2.2)) ((HF7.out.mono (T := [B.m, B.lm]) (fun z hz _ => by simp at hz; simp [hz])).trans f79 (fun z hz _ => by simp at hz; simp [hz])) HLO.out.1 HLO.out.2.1 HLO.out.2.2.1 HLO.out.2.2.2)
                have HCN := Lib.hid (HF7.out.keep HNT.out.c1 HMM.out.1)
                have hbq := bldQueue b x.s x.p
                clear hme hst8 hes hm9 f8 f9 z8 f79 nb hg6
                go_upto_region 28 with fail
                refine wp_region_held_drew (S := fun W => W.cell? ⟨B.n, 1, none⟩ = some (.map (some B.lm)) ∧ W.cell? ⟨E1, 0, none⟩ = some (.int .i64 x.ref) ∧ LiesAt W E1 1 [.string x.s, .int .i64 x.p]) (by kernel_rfl) (by rw [HW7.out]; exact ⟨HCN.out, HB7.out.at 0 _ rfl, by have := HB7.out.at.part (k := 1) (n := 2) (ys := [.string x.s, .int .i64 x.p]) rfl; rwa [Nat.zero_add] at this⟩) (fun hHeld => ?_)
                rw [HW7.out] at hHeld ⊢
                refine wpAnyH_take (i := 0) (oi := _) (v := ?_) rfl (by kernel_rfl) (by kernel_rfl) (by kernel_rfl) (fun _ _ _ h => h) (Or.inl ⟨by rfl, ?_⟩) (by first | assumption | trivial) ?_
                rotate_left
                · intro w hSw; (try dsimp only at hSw); go_simp; try with_reducible rfl
                try simp only [Act.put, qj1, qj2, qj3, qj4, qj5, qj6]
                refine wpAnyH_take (i := 1) (oi := _) (v := ?_) rfl (by kernel_rfl) (by kernel_rfl) (by kernel_rfl) (fun _ _ _ h => h) (Or.inl ⟨by rfl, ?_⟩) (by first | assumption | trivial) ?_
                rotate_left
                · intro w hSw; (try dsimp only at hSw); go_simp; try with_reducible rfl
                try simp only [Act.put, qj1, qj2, qj3, qj4, qj5, qj6]
                refine wpAnyH_take (i := 2) (oi := _) (v := ?_) rfl (by kernel_rfl) (by kernel_rfl) (by kernel_rfl) (fun _ _ _ h => h) (Or.inl ⟨by rfl, ?_⟩) (by first | assumption | trivial) ?_
                rotate_left
                · intro w hSw; (try dsimp only at hSw); go_simp; try with_reducible rfl
                try simp only [Act.put, qj1, qj2, qj3, qj4, qj5, qj6]
                refine wpAnyH_take (i := 3) (oi := _) (v := ?_) rfl (by kernel_rfl) (by kernel_rfl) (by kernel_rfl) (fun _ _ _ h => h) (Or.inl ⟨by rfl, ?_⟩) (by first | assumption | trivial) ?_
                rotate_left
                · intro w hSw; (try dsimp only at hSw); go_simp; try with_reducible rfl
                try simp only [Act.put, qj1, qj2, qj3, qj4, qj5, qj6]
                refine wpAnyH_take (i := 4) (oi := _) (v := ?_) rfl (by kernel_rfl) (by kernel_rfl) (by kernel_rfl) (fun _ _ _ h => h) (Or.inl ⟨by rfl, ?_⟩) (by first | assumption | trivial) ?_
                rotate_left
                · intro w hSw; (try dsimp only at hSw); go_simp; try with_reducible rfl
                try simp only [Act.put, qj1, qj2, qj3, qj4, qj5, qj6]
                refine wpAnyH_take (i := 5) (oi := _) (v := ?_) rfl (by kernel_rfl) (by kernel_rfl) (by kernel_rfl) (fun _ _ _ h => h) (Or.inl ⟨by rfl, ?_⟩) (by first | assumption | trivial) ?_
                rotate_left
                · intro w hSw; (try dsimp only at hSw); go_simp; try with_reducible rfl
                try simp only [Act.put, qj1, qj2, qj3, qj4, qj5, qj6]
                refine wpAnyH_take (i := 6) (oi := _) (v := ?_) rfl (by kernel_rfl) (by kernel_rfl) (by kernel_rfl) (fun _ _ _ h => h) (Or.inl ⟨by rfl, ?_⟩) (by first | assumption | trivial) ?_
                rotate_left
                · intro w hSw; (try dsimp only at hSw); go_simp; try with_reducible rfl
                try simp only [Act.put, qj1, qj2, qj3, qj4, qj5, qj6]
                refine wpAnyH_take (i := 7) (oi := _) (v := ?_) rfl (by kernel_rfl) (by kernel_rfl) (by kernel_rfl) (fun _ _ _ h => h) (Or.inl ⟨by rfl, ?_⟩) (by first | assumption | trivial) ?_
                rotate_left
                · intro w hSw; (try dsimp only at hSw); go_simp; try with_reducible rfl
                try simp only [Act.put, qj1, qj2, qj3, qj4, qj5, qj6]
                refine wpAnyH_take (i := 8) (oi := _) (v := ?_) rfl (by kernel_rfl) (by kernel_rfl) (by kernel_rfl) (fun _ _ _ h => h) (Or.inl ⟨by rfl, ?_⟩) (by first | assumption | trivial) ?_
                rotate_left
                · intro w hSw; (try dsimp only at hSw); go_simp; try with_reducible rfl
                try simp only [Act.put, qj1, qj2, qj3, qj4, qj5, qj6]
                refine wpAnyH_take (i := 9) (oi := _) (v := .agg #[.string x.s, .int .i64 x.p]) rfl (by kernel_rfl) (by kernel_rfl) (by kernel_rfl) (fun _ _ _ h => h) (Or.inl ⟨by rfl, ?_⟩) (by first | assumption | trivial) ?_
                · intro w hSw
                  try dsimp only at hSw
                  show Sem.run Tryz.prog ((Instr.loadAt 28 (.pointer (some ⟨E1, 1, none⟩))) >>= fun x => pure (Next.value x)) w = _
                  rw [Sem.run_bind, load_all agg28 size28 (xs := [.string x.s, .int .i64 x.p]) rfl hSw.2.2]
                  rfl
                try simp only [Act.put, qj1, qj2, qj3, qj4, qj5, qj6]
                refine wpAnyH_take (i := 10) (oi := _) (v := qV b x.s x.p) rfl (by kernel_rfl) (by kernel_rfl) (by kernel_rfl) (fun _ _ _ h => h) (Or.inl ⟨by rfl, ?_⟩) (by first | assumption | trivial) ?_
                · intro w hSw
                  try dsimp only at hSw
                  exact exec_bld2 (V := .pointer (some ⟨b, 0, none⟩)) (U := .agg #[.string x.s, .int .i64 x.p]) rfl rfl rfl (hbq w)
                try simp only [Act.put, qj1, qj2, qj3, qj4, qj5, qj6]
                refine wpAnyH_take (i := 11) (oi := _) (v := ?_) rfl (by kernel_rfl) (by kernel_rfl) (by kernel_rfl) (fun _ _ _ h => h) (Or.inl ⟨by rfl, ?_⟩) (by first | assumption | trivial) ?_
                rotate_left
                · intro w hSw; (try dsimp only at hSw); go_simp; try with_reducible rfl
                try simp only [Act.put, qj1, qj2, qj3, qj4, qj5, qj6]
                refine wpAnyH_take (i := 12) (oi := _) (v := ?_) rfl (by kernel_rfl) (by kernel_rfl) (by kernel_rfl) (fun _ _ _ h => h) (Or.inl ⟨by rfl, ?_⟩) (by first | assumption | trivial) ?_
                rotate_left
                · intro w hSw; (try dsimp only at hSw); go_simp; try with_reducible rfl
                try simp only [Act.put, qj1, qj2, qj3, qj4, qj5, qj6]
                refine wpAnyH_ready (rs := [13]) (by kernel_rfl) (by simp) ?_
                refine AllReadyH.cons (o := _) rfl (fun K hK => ?_) AllReadyH.nil
                split
                rotate_left
                · rename_i hno
                  exact absurd rfl hno
                refine wp_vl (v := .tuple #[.agg #[.pointer none, .string ⟨#[]⟩, .int .i64 0], .int .i64 st]) (w' := w8) ?_ ?_
                · exact exec_entry (M := .map (some B.lm)) (X := .int .i64 x.ref) rfl rfl rfl HME.out
                refine hK.out _ _ (⟨HF8.out.keep hHeld.1 HMM.out.2.2.2.1, HF8.out.keep hHeld.2.1 hE1m, hHeld.2.2.keep HF8.out hE1m⟩) (fun hHeld => ?_)
                clear hK K
                try simp only [Act.put, qj1, qj2, qj3, qj4, qj5, qj6]
                refine wpAnyH_take (i := 14) (oi := _) (v := ?_) rfl (by kernel_rfl) (by kernel_rfl) (by kernel_rfl) (fun _ _ _ h => h) (Or.inl ⟨by rfl, ?_⟩) (by first | assumption | trivial) ?_
                rotate_left
                · intro w hSw; (try dsimp only at hSw); go_simp; try with_reducible rfl
                try simp only [Act.put, qj1, qj2, qj3, qj4, qj5, qj6]
                refine wpAnyH_ready (rs := [15]) (by kernel_rfl) (by simp) ?_
                refine AllReadyH.cons (o := _) rfl (fun K hK => ?_) AllReadyH.nil
                split
                rotate_left
                · rename_i hno
                  exact absurd rfl hno
                refine wp_skp (w' := w9) ?_ ?_
                · show Sem.run Tryz.prog ((Instr.entryStore 49 (.map (some B.lm)) (.int .i64 st) (qV b x.s x.p)) >>= fun _ => pure Next.skip) _ = _
                  rw [Sem.run_bind, HES.out]
                  rfl
                refine hK.out _ _ (⟨HF9.out.keep hHeld.1 HMM.out.2.2.2.1, HF9.out.keep hHeld.2.1 hE1m, hHeld.2.2.keep HF9.out hE1m⟩) (fun hHeld => ?_)
                clear hK K
                try simp only [Act.put, qj1, qj2, qj3, qj4, qj5, qj6]
                refine wpAnyH_take (i := 16) (oi := _) (v := ?_) rfl (by kernel_rfl) (by kernel_rfl) (by kernel_rfl) (fun _ _ _ h => h) (Or.inl ⟨by rfl, ?_⟩) (by first | assumption | trivial) ?_
                rotate_left
                · intro w hSw; (try dsimp only at hSw); go_simp; try with_reducible rfl
                try simp only [Act.put, qj1, qj2, qj3, qj4, qj5, qj6]
                refine wpAnyH_done (by kernel_rfl) ?_ _
                clear hHeld
                go_wp2
                go_roundw
                case rel => exact ⟨_, p + 1, x.ref, _, _, rfl, by go_num, rfl, by omega, HSTP.out, by omega, by have := HLT.out; omega, fun z hz => by
                  have hz2 := List.getElem?_eq_some_iff.1 hz
                  have hy2 := List.getElem?_eq_some_iff.1 HXX.out
                  obtain ⟨hz3, rfl⟩ := hz2
                  obtain ⟨hy3, hy4⟩ := hy2
                  have := List.pairwise_iff_getElem.1 HLS.out p (p + 1) hy3 hz3 (by omega)
                  rw [hy4] at this
                  omega⟩
                case measure => simp [intOf]; omega
        · skip
          obtain rfl : p = n := by omega
          go_wp2
          go_ret2
          exact ⟨B, own, L', C', rfl, HR.out⟩
end Go.Proofs.YtmdhlodafjpnmaaGreat
