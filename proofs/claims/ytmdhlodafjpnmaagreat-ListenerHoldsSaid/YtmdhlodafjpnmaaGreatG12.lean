/- The reference's comparisons of streams, connections, lists of them, where both read alike. -/
import Derived.Test.YtmdhlodafjpnmaaGreatGE
import Derived.Test.YtmdhlodafjpnmaaGreatLn1
namespace Go.Proofs.YtmdhlodafjpnmaaGreat
open List renaming getElem_toArray → qj1, getElem_cons_succ → qj2, getElem_cons_zero → qj3, setIfInBounds_toArray → qj4, set_cons_zero → qj5, set_cons_succ → qj6
open Go.RowKit
set_option linter.unusedVariables false
set_option linter.unusedSimpArgs false
set_option maxRecDepth 100000
set_option maxHeartbeats 8000000

section
variable {P : Program} {ops : Array Oper} {rest : List Oper} {o : Oper} {a : Act} {w : World} {Q : Exit → Act → World → Prop}
theorem wpList_want (hw : Region.wanted o (yielded ops a.tmps) = true) (h : ∀ K : Act → World → Prop, (∀ a w, wpList P ops Q rest a w → K a w) → o.wp P a w K Q) : wpList P ops Q (o :: rest) a w := by
  unfold wpList
  rw [if_pos hw]
  exact .inl (h _ (fun _ _ h => h))
end
theorem conv_bs {w : World} {s : Sli} {l : List UInt8} (h : Bs w s l) : (convert 22 9 (.slice s.1 s.2.1 s.2.2)).run Tryz.prog w = .ok (.string ⟨l.toArray⟩) w := by
  rcases h.2 with ⟨h0, a, c, he⟩ | ⟨g, off, c, he, hg, hc⟩
  · simp only [slv, Value.slice.injEq] at he
    obtain ⟨h1, h2, h3⟩ := he
    obtain rfl : l = [] := List.eq_nil_of_length_eq_zero h0
    rw [h1, h2]
    cases a with
    | none => exact run_convert_bytes_nil w _ _ Tryz.underlying22 Tryz.underlying5 _ _ _ Tryz.underlying9
    | some ad => exact run_convert_bytes_back (P := Tryz.prog) w 22 9 5 ad _ [] Tryz.underlying22 Tryz.underlying5 Tryz.underlying9 (fun j hj => by simp at hj)
  · simp only [slv, Value.slice.injEq] at he
    obtain ⟨h1, h2, h3⟩ := he
    rw [h1, h2]
    refine run_convert_bytes_back (P := Tryz.prog) w 22 9 5 ⟨g, off, none⟩ _ l Tryz.underlying22 Tryz.underlying5 Tryz.underlying9 (fun j hj => ?_)
    rw [Addr.add_lit]
    exact hc j _ (by simp [bsV, byteV, hj])
theorem sSame_t (x : SS) (b r b' r' : Sli) (w : World) (h1 : Bs w b x.buf) (h2 : Bs w r x.rest) (h3 : Bs w b' x.buf) (h4 : Bs w r' x.rest) :
    Calls Tryz.prog 133 #[.agg (stC x b r).toArray, .agg (stC x b' r').toArray] w fun e w' => e = .returned (.bool true) ∧ Fr [] w w' := by
  obtain ⟨B, hB⟩ : ∃ B, w.heap.size = B := ⟨_, rfl⟩
  obtain ⟨wA, hwA⟩ : ∃ z, (w.alloc (.cells (stC x b r).toArray 90)).alloc (.cells (stC x b' r').toArray 90) = z := ⟨_, rfl⟩
  have f2 := (Fr.refl [] (w.alloc (.cells (stC x b r).toArray 90))).alloc (.cells (stC x b' r').toArray 90)
  have hb0 : Blk wA B 90 (stC x b r) := by
    rw [← hwA, ← hB]
    exact (Blk.made w 90 (stC x b r)).keep f2 (by simp)
  have hb1 : Blk wA (B + 1) 90 (stC x b' r') := by
    have h := Blk.made (w.alloc (.cells (stC x b r).toArray 90)) 90 (stC x b' r')
    rw [show (w.alloc (.cells (stC x b r).toArray 90)).heap.size = B + 1 from by rw [← hB]; simp] at h
    rw [← hwA]
    exact h
  have hf : Fr [] w wA := by rw [← hwA]; exact ((Fr.refl [] w).alloc _).step f2
  have HF := Lib.hid hf
  have HBS := Lib.hid hB
  have HWA := Lib.hid hwA
  have v1 := conv_bs (h1.new hf)
  have v2 := conv_bs (h2.new hf)
  have v3 := conv_bs (h3.new hf)
  have v4 := conv_bs (h4.new hf)
  generalize (⟨x.buf.toArray⟩ : ByteArray) = S1 at v1 v3
  generalize (⟨x.rest.toArray⟩ : ByteArray) = S2 at v2 v4
  have c0 : wA.cell? ⟨B, 0, none⟩ = some (.int .i64 x.cap) := hb0.at 0 _ rfl
  have c1 : wA.cell? ⟨B, 1, none⟩ = some (.slice b.1 b.2.1 b.2.2) := hb0.at 1 _ rfl
  have c2 : wA.cell? ⟨B, 2, none⟩ = some (.bool x.busy) := hb0.at 2 _ rfl
  have c3 : wA.cell? ⟨B, 3, none⟩ = some (.slice r.1 r.2.1 r.2.2) := hb0.at 3 _ rfl
  have c4 : wA.cell? ⟨B, 4, none⟩ = some (.int .i64 x.acc) := hb0.at 4 _ rfl
  have c5 : wA.cell? ⟨B, 5, none⟩ = some (.int .i64 x.wr) := hb0.at 5 _ rfl
  have c6 : wA.cell? ⟨B, 6, none⟩ = some (.int .i64 x.rd) := hb0.at 6 _ rfl
  have d0 : wA.cell? ⟨B + 1, 0, none⟩ = some (.int .i64 x.cap) := hb1.at 0 _ rfl
  have d1 : wA.cell? ⟨B + 1, 1, none⟩ = some (.slice b'.1 b'.2.1 b'.2.2) := hb1.at 1 _ rfl
  have d2 : wA.cell? ⟨B + 1, 2, none⟩ = some (.bool x.busy) := hb1.at 2 _ rfl
  have d3 : wA.cell? ⟨B + 1, 3, none⟩ = some (.slice r'.1 r'.2.1 r'.2.2) := hb1.at 3 _ rfl
  have d4 : wA.cell? ⟨B + 1, 4, none⟩ = some (.int .i64 x.acc) := hb1.at 4 _ rfl
  have d5 : wA.cell? ⟨B + 1, 5, none⟩ = some (.int .i64 x.wr) := hb1.at 5 _ rfl
  have d6 : wA.cell? ⟨B + 1, 6, none⟩ = some (.int .i64 x.rd) := hb1.at 6 _ rfl
  clear hb0 hb1 hf hB hwA f2 h1 h2 h3 h4
  go_enter Tryz.func133, Tryz.ntmps133
  go_upto_region 1 with fail
  rw [HWA.out]
  simp only [HBS.out]
  go_wp2
  go_ret
  exact ⟨rfl, HF.out⟩
theorem eq92 (a0 a1 : Bool) (W : World) : (binOp .eql 92 (.agg #[.bool a0, .bool a1]) (.agg #[.bool a0, .bool a1])).run Tryz.prog W = .ok (.bool true) W := by
  cases a0 <;> cases a1 <;> kernel_rfl
theorem agg92 : ∀ w, (isAgg 92).run Tryz.prog w = .ok true w := fun w => by kernel_rfl
theorem size92 : ∀ w, (sizeOf 92).run Tryz.prog w = .ok 2 w := fun w => by kernel_rfl
theorem dSame_t (x : CC) (q q' : Q4) (w : World) (h1 : CnB w x q) (h2 : CnB w x q') :
    Calls Tryz.prog 90 #[.agg (cnC x q).toArray, .agg (cnC x q').toArray] w fun e w' => e = .returned (.bool true) ∧ Fr [] w w' := by
  obtain ⟨B, hB⟩ : ∃ B, w.heap.size = B := ⟨_, rfl⟩
  obtain ⟨wA, hwA⟩ : ∃ z, (w.alloc (.cells (cnC x q).toArray 94)).alloc (.cells (cnC x q').toArray 94) = z := ⟨_, rfl⟩
  have f2 := (Fr.refl [] (w.alloc (.cells (cnC x q).toArray 94))).alloc (.cells (cnC x q').toArray 94)
  have hb0 : Blk wA B 94 (cnC x q) := by
    rw [← hwA, ← hB]
    exact (Blk.made w 94 (cnC x q)).keep f2 (by simp)
  have hb1 : Blk wA (B + 1) 94 (cnC x q') := by
    have h := Blk.made (w.alloc (.cells (cnC x q).toArray 94)) 94 (cnC x q')
    rw [show (w.alloc (.cells (cnC x q).toArray 94)).heap.size = B + 1 from by rw [← hB]; simp] at h
    rw [← hwA]
    exact h
  have hf : Fr [] w wA := by rw [← hwA]; exact ((Fr.refl [] w).alloc _).step f2
  have HF := Lib.hid hf
  have HBS := Lib.hid hB
  have HWA := Lib.hid hwA
  have HB0 := Lib.hid hb0
  have HB1 := Lib.hid hb1
  have HQ := Lib.hid (h1.new hf)
  have HQ' := Lib.hid (h2.new hf)
  clear hb0 hb1 hf hB hwA f2 h1 h2
  go_enter Tryz.func90, Tryz.ntmps90
  go_upto_region 1 with fail
  rw [HWA.out]
  simp only [HBS.out]
  refine wp_region_lit ?_
  refine wpList_plain rfl (fun K hK => ?_); go_simp; refine hK _ _ ?_; clear hK K
  refine wpList_plain rfl (fun K hK => ?_); go_simp; refine hK _ _ ?_; clear hK K
  try simp only [Act.put, qj1, qj2, qj3, qj4, qj5, qj6]
  refine wpList_val rfl (v := .agg (stC x.s0 q.b0 q.r0).toArray) (w' := wA) ?_ ?_
  · show Sem.run Tryz.prog ((Instr.loadAt 90 (.pointer (some ⟨B, 0, none⟩))) >>= fun x => pure (Next.value x)) wA = _
    rw [Sem.run_bind, load_all agg90 size90 (xs := stC x.s0 q.b0 q.r0) rfl (show LiesAt wA B 0 (stC x.s0 q.b0 q.r0) from HB0.out.at.part (k := 0) (n := 7) rfl)]
    rfl
  try simp only [Act.put, qj1, qj2, qj3, qj4, qj5, qj6]
  refine wpList_plain rfl (fun K hK => ?_); go_simp; refine hK _ _ ?_; clear hK K
  refine wpList_plain rfl (fun K hK => ?_); go_simp; refine hK _ _ ?_; clear hK K
  try simp only [Act.put, qj1, qj2, qj3, qj4, qj5, qj6]
  refine wpList_val rfl (v := .agg (stC x.s0 q'.b0 q'.r0).toArray) (w' := wA) ?_ ?_
  · show Sem.run Tryz.prog ((Instr.loadAt 90 (.pointer (some ⟨B + 1, 0, none⟩))) >>= fun x => pure (Next.value x)) wA = _
    rw [Sem.run_bind, load_all agg90 size90 (xs := stC x.s0 q'.b0 q'.r0) rfl (show LiesAt wA (B + 1) 0 (stC x.s0 q'.b0 q'.r0) from HB1.out.at.part (k := 0) (n := 7) rfl)]
    rfl
  try simp only [Act.put, qj1, qj2, qj3, qj4, qj5, qj6]
  refine wpList_plain rfl (fun K hK => ?_)
  go_simp
  refine (sSame_t x.s0 q.b0 q.r0 q'.b0 q'.r0 _ HQ.out.b0 HQ.out.r0 HQ'.out.b0 HQ'.out.r0).mono ?_
  rintro e w1 ⟨rfl, f1⟩
  refine hK _ _ ?_
  clear hK K
  try simp only [Act.put, qj1, qj2, qj3, qj4, qj5, qj6]
  have HB01 := Lib.hid (HB0.out.keep f1 (by simp))
  have HB11 := Lib.hid (HB1.out.keep f1 (by simp))
  have HF1 := Lib.hid (HF.out.step f1)
  have HQ1 := Lib.hid (HQ.out.new f1)
  have HQ1' := Lib.hid (HQ'.out.new f1)
  clear f1 HB0 HB1 HF HQ HQ' 
  refine wpList_plain rfl (fun K hK => ?_); go_simp; refine hK _ _ ?_; clear hK K
  try simp only [Act.put, qj1, qj2, qj3, qj4, qj5, qj6]
  refine wpList_want (by rfl) (fun K hK => ?_)
  go_simp
  refine hK _ _ ?_
  clear hK K
  refine wpList_want (by rfl) (fun K hK => ?_)
  go_simp
  refine hK _ _ ?_
  clear hK K
  try simp only [Act.put, qj1, qj2, qj3, qj4, qj5, qj6]
  refine wpList_want (by rfl) (fun K hK => ?_)
  refine wp_vl (v := .agg (stC x.s1 q.b1 q.r1).toArray) (w' := w1) ?_ ?_
  · show Sem.run Tryz.prog ((Instr.loadAt 90 (.pointer (some ⟨B, 7, none⟩))) >>= fun x => pure (Next.value x)) w1 = _
    rw [Sem.run_bind, load_all agg90 size90 (xs := stC x.s1 q.b1 q.r1) rfl (show LiesAt w1 B 7 (stC x.s1 q.b1 q.r1) from HB01.out.at.part (k := 7) (n := 7) rfl)]
    rfl
  refine hK _ _ ?_
  clear hK K
  try simp only [Act.put, qj1, qj2, qj3, qj4, qj5, qj6]
  refine wpList_want (by rfl) (fun K hK => ?_)
  go_simp
  refine hK _ _ ?_
  clear hK K
  refine wpList_want (by rfl) (fun K hK => ?_)
  go_simp
  refine hK _ _ ?_
  clear hK K
  try simp only [Act.put, qj1, qj2, qj3, qj4, qj5, qj6]
  refine wpList_want (by rfl) (fun K hK => ?_)
  refine wp_vl (v := .agg (stC x.s1 q'.b1 q'.r1).toArray) (w' := w1) ?_ ?_
  · show Sem.run Tryz.prog ((Instr.loadAt 90 (.pointer (some ⟨B + 1, 7, none⟩))) >>= fun x => pure (Next.value x)) w1 = _
    rw [Sem.run_bind, load_all agg90 size90 (xs := stC x.s1 q'.b1 q'.r1) rfl (show LiesAt w1 (B + 1) 7 (stC x.s1 q'.b1 q'.r1) from HB11.out.at.part (k := 7) (n := 7) rfl)]
    rfl
  refine hK _ _ ?_
  clear hK K
  try simp only [Act.put, qj1, qj2, qj3, qj4, qj5, qj6]
  refine wpList_want (by rfl) (fun K hK => ?_)
  go_simp
  refine (sSame_t x.s1 q.b1 q.r1 q'.b1 q'.r1 _ HQ1.out.b1 HQ1.out.r1 HQ1'.out.b1 HQ1'.out.r1).mono ?_
  rintro e w2 ⟨rfl, f2⟩
  refine hK _ _ ?_
  clear hK K
  try simp only [Act.put, qj1, qj2, qj3, qj4, qj5, qj6]
  have HB02 := Lib.hid (HB01.out.keep f2 (by simp))
  have HB12 := Lib.hid (HB11.out.keep f2 (by simp))
  have HF2 := Lib.hid (HF1.out.step f2)
  clear f2 HB01 HB11 HF1 HQ1 HQ1' 
  refine wpList_plain rfl (fun K hK => ?_); go_simp; refine hK _ _ ?_; clear hK K
  refine wpList_plain rfl (fun K hK => ?_); go_simp; refine hK _ _ ?_; clear hK K
  try simp only [Act.put, qj1, qj2, qj3, qj4, qj5, qj6]
  refine wpList_want (by rfl) (fun K hK => ?_)
  go_simp
  refine hK _ _ ?_
  clear hK K
  try simp only [Act.put, qj1, qj2, qj3, qj4, qj5, qj6]
  refine wpList_want (by rfl) (fun K hK => ?_)
  refine wp_vl (v := .agg ([.bool x.a0, .bool x.a1]).toArray) (w' := w2) ?_ ?_
  · show Sem.run Tryz.prog ((Instr.loadAt 92 (.pointer (some ⟨B, 14, none⟩))) >>= fun x => pure (Next.value x)) w2 = _
    rw [Sem.run_bind, load_all agg92 size92 (xs := [.bool x.a0, .bool x.a1]) rfl (show LiesAt w2 B 14 [.bool x.a0, .bool x.a1] from HB02.out.at.part (k := 14) (n := 2) rfl)]
    rfl
  refine hK _ _ ?_
  clear hK K
  try simp only [Act.put, qj1, qj2, qj3, qj4, qj5, qj6]
  refine wpList_want (by rfl) (fun K hK => ?_)
  go_simp
  refine hK _ _ ?_
  clear hK K
  try simp only [Act.put, qj1, qj2, qj3, qj4, qj5, qj6]
  refine wpList_want (by rfl) (fun K hK => ?_)
  refine wp_vl (v := .agg ([.bool x.a0, .bool x.a1]).toArray) (w' := w2) ?_ ?_
  · show Sem.run Tryz.prog ((Instr.loadAt 92 (.pointer (some ⟨B + 1, 14, none⟩))) >>= fun x => pure (Next.value x)) w2 = _
    rw [Sem.run_bind, load_all agg92 size92 (xs := [.bool x.a0, .bool x.a1]) rfl (show LiesAt w2 (B + 1) 14 [.bool x.a0, .bool x.a1] from HB12.out.at.part (k := 14) (n := 2) rfl)]
    rfl
  refine hK _ _ ?_
  clear hK K
  try simp only [Act.put, qj1, qj2, qj3, qj4, qj5, qj6]
  refine wpList_want (by rfl) (fun K hK => ?_)
  refine wp_vl (v := .bool true) (w' := w2) ?_ ?_
  · show Sem.run Tryz.prog ((binOp .eql 92 (.agg #[.bool x.a0, .bool x.a1]) (.agg #[.bool x.a0, .bool x.a1])) >>= fun x => pure (Next.value x)) w2 = _
    rw [Sem.run_bind, eq92]
    rfl
  refine hK _ _ ?_
  clear hK K
  try simp only [Act.put, qj1, qj2, qj3, qj4, qj5, qj6]
  refine wpList_plain rfl (fun K hK => ?_); go_simp; refine hK _ _ ?_; clear hK K
  refine wpList_plain rfl (fun K hK => ?_); go_simp; refine hK _ _ ?_; clear hK K
  refine wpList_nil ?_
  try simp only [Act.put, qj1, qj2, qj3, qj4, qj5, qj6]
  go_wp2
  go_ret
  exact ⟨rfl, HF2.out⟩
theorem conns_t (v v' : Value) (C : List PG) (w : World) (h : CRow w v C) (h' : CRow w v' C) (hn : C.length ≤ 1000) :
    Calls Tryz.prog 41 #[v, v'] w fun e w' => e = .returned (.bool true) ∧ Fr [] w w' := by
  obtain ⟨a, c, rfl⟩ := h.val
  obtain ⟨a', c', rfl⟩ := h'.val
  obtain ⟨n, hnl⟩ : ∃ n, C.length = n := ⟨_, rfl⟩
  have HN := Lib.hid hnl
  rw [hnl] at h h' hn ⊢
  have HR := Lib.hid h
  have HR' := Lib.hid h'
  clear h h' hnl
  have hnn : ((n : Int) == (n : Int)) = true := by simp
  go_enter Tryz.func41, Tryz.ntmps41
  go_wp2
  go_loopw [5] (fun i wr => ∃ (wz : World) (q : Nat), wz = wr ∧ i = .int .i64 q ∧ q ≤ n ∧ Fr [] w wr) (fun i _ => n - (intOf i).toNat)
  case atStart => exact ⟨_, 0, rfl, rfl, by omega, Fr.refl _ _⟩
  case round =>
    obtain ⟨wr, q, hwz, rfl, hq, fr⟩ := hrel
    subst hwz
    have FR := Lib.hid fr
    clear fr
    by_cases hlt : q < n
    · skip
      have hlt' : (q : Int) < (n : Int) := by omega
      have hq0 : (0 : Int) ≤ (q : Int) := by omega
      have hy := List.getElem?_eq_getElem (l := C) (i := q) (by rw [HN.out]; exact hlt)
      obtain ⟨y, hye⟩ : ∃ y, C[q]'(by rw [HN.out]; exact hlt) = y := ⟨_, rfl⟩
      rw [hye] at hy
      obtain ⟨w0, hw0⟩ : ∃ z, wr.drew = z := ⟨_, rfl⟩
      have f0 : Fr [] wr w0 := by rw [← hw0]; exact (Fr.refl [] wr).drew
      have HF0 := Lib.hid (FR.out.step f0)
      have HW0 := Lib.hid hw0
      clear hw0 f0
      obtain ⟨g, off, cap, X, hv, hg, hX, hl, q1, rfl, hrow⟩ := HR.out.lies hy
      obtain ⟨g', off', cap', X', hv', hg', hX', hl', q2, rfl, hrow'⟩ := HR'.out.lies hy
      rw [HN.out] at hv hv'
      simp only [Value.slice.injEq] at hv hv'
      obtain ⟨rfl, _, rfl⟩ := hv
      obtain ⟨rfl, _, rfl⟩ := hv'
      have HC0 := Lib.hid (show w0.cell? ⟨g, off + q * 17, none⟩ = some (.int .i64 y.ref) from HF0.out.keep (hl 0 _ rfl) (by simp))
      have HC0' := Lib.hid (show w0.cell? ⟨g', off' + q * 17, none⟩ = some (.int .i64 y.ref) from HF0.out.keep (hl' 0 _ rfl) (by simp))
      have HL1 := Lib.hid (show LiesAt w0 g (off + q * 17 + 1) (cnC y.c q1) from fun j u hj => by
        have := hl (j + 1) u (by simpa [pgC] using hj)
        rw [show off + q * 17 + (j + 1) = off + q * 17 + 1 + j from by omega] at this
        exact HF0.out.keep this (by simp))
      have HL2 := Lib.hid (show LiesAt w0 g' (off' + q * 17 + 1) (cnC y.c q2) from fun j u hj => by
        have := hl' (j + 1) u (by simpa [pgC] using hj)
        rw [show off' + q * 17 + (j + 1) = off' + q * 17 + 1 + j from by omega] at this
        exact HF0.out.keep this (by simp))
      have HB1 := Lib.hid (hrow.new HF0.out)
      have HB2 := Lib.hid (hrow'.new HF0.out)
      clear hy hye hl hl' hrow hrow' hg hg' hX hX'
      have hre : ((y.ref : Int) == (y.ref : Int)) = true := by simp
      go_upto_region 6 with fail
      refine wp_region_held_drew (S := fun w' => w'.cell? ⟨g, off + q * 17, none⟩ = some (.int .i64 y.ref) ∧ w'.cell? ⟨g', off' + q * 17, none⟩ = some (.int .i64 y.ref) ∧ LiesAt w' g (off + q * 17 + 1) (cnC y.c q1) ∧ LiesAt w' g' (off' + q * 17 + 1) (cnC y.c q2)) (by kernel_rfl) (by rw [HW0.out]; exact ⟨HC0.out, HC0'.out, HL1.out, HL2.out⟩) (fun hHeld => ?_)
      rw [HW0.out] at hHeld ⊢
      refine wpAnyH_take (i := 0) (oi := _) (v := ?_) rfl (by kernel_rfl) (by kernel_rfl) (by kernel_rfl) (fun _ _ _ h => h) (Or.inl ⟨by rfl, ?_⟩) (by first | assumption | trivial) ?_
      rotate_left
      · intro w hSw; (try dsimp only at hSw); go_simp; try with_reducible rfl
      try simp only [Act.put, qj1, qj2, qj3, qj4, qj5, qj6]
      refine wpAnyH_take (i := 1) (oi := _) (v := ?_) rfl (by kernel_rfl) (by kernel_rfl) (by kernel_rfl) (fun _ _ _ h => h) (Or.inl ⟨by rfl, ?_⟩) (by first | assumption | trivial) ?_
      rotate_left
      · intro w hSw; (try dsimp only at hSw); go_simp; try with_reducible rfl
      try simp only [Act.put, qj1, qj2, qj3, qj4, qj5, qj6]
      refine wpAnyH_take (i := 2) (oi := _) (v := ?_) rfl (by kernel_rfl) (by kernel_rfl) (by kernel_rfl) (fun _ _ _ h => h) (Or.inl ⟨by rfl, ?_⟩) (by first | assumption | trivial) ?_
      rotate_left
      · intro w hSw; (try dsimp only at hSw); go_simp; try with_reducible rfl
      try simp only [Act.put, qj1, qj2, qj3, qj4, qj5, qj6]
      refine wpAnyH_take (i := 3) (oi := _) (v := ?_) rfl (by kernel_rfl) (by kernel_rfl) (by kernel_rfl) (fun _ _ _ h => h) (Or.inl ⟨by rfl, ?_⟩) (by first | assumption | trivial) ?_
      rotate_left
      · intro w hSw; (try dsimp only at hSw); go_simp; try with_reducible rfl
      try simp only [Act.put, qj1, qj2, qj3, qj4, qj5, qj6]
      refine wpAnyH_take (i := 4) (oi := _) (v := ?_) rfl (by kernel_rfl) (by kernel_rfl) (by kernel_rfl) (fun _ _ _ h => h) (Or.inl ⟨by rfl, ?_⟩) (by first | assumption | trivial) ?_
      rotate_left
      · intro w hSw; (try dsimp only at hSw); go_simp; try with_reducible rfl
      try simp only [Act.put, qj1, qj2, qj3, qj4, qj5, qj6]
      refine wpAnyH_take (i := 5) (oi := _) (v := ?_) rfl (by kernel_rfl) (by kernel_rfl) (by kernel_rfl) (fun _ _ _ h => h) (Or.inl ⟨by rfl, ?_⟩) (by first | assumption | trivial) ?_
      rotate_left
      · intro w hSw; (try dsimp only at hSw); go_simp; try with_reducible rfl
      try simp only [Act.put, qj1, qj2, qj3, qj4, qj5, qj6]
      refine wpAnyH_take (i := 6) (oi := _) (v := ?_) rfl (by kernel_rfl) (by kernel_rfl) (by kernel_rfl) (fun _ _ _ h => h) (Or.inl ⟨by rfl, ?_⟩) (by first | assumption | trivial) ?_
      rotate_left
      · intro w hSw; (try dsimp only at hSw); go_simp; try with_reducible rfl
      try simp only [Act.put, qj1, qj2, qj3, qj4, qj5, qj6]
      refine wpAnyH_take (i := 7) (oi := _) (v := ?_) rfl (by kernel_rfl) (by kernel_rfl) (by kernel_rfl) (fun _ _ _ h => h) (Or.inl ⟨by rfl, ?_⟩) (by first | assumption | trivial) ?_
      rotate_left
      · intro w hSw; (try dsimp only at hSw); go_simp; try with_reducible rfl
      try simp only [Act.put, qj1, qj2, qj3, qj4, qj5, qj6]
      refine wpAnyH_take (i := 8) (oi := _) (v := ?_) rfl (by kernel_rfl) (by kernel_rfl) (by kernel_rfl) (fun _ _ _ h => h) (Or.inl ⟨by rfl, ?_⟩) (by first | assumption | trivial) ?_
      rotate_left
      · intro w hSw; (try dsimp only at hSw); go_simp; try with_reducible rfl
      try simp only [Act.put, qj1, qj2, qj3, qj4, qj5, qj6]
      refine wpAnyH_take (i := 9) (oi := _) (v := ?_) rfl (by kernel_rfl) (by kernel_rfl) (by kernel_rfl) (fun _ _ _ h => h) (Or.inl ⟨by rfl, ?_⟩) (by first | assumption | trivial) ?_
      rotate_left
      · intro w hSw; (try dsimp only at hSw); go_simp; try with_reducible rfl
      try simp only [Act.put, qj1, qj2, qj3, qj4, qj5, qj6]
      refine wpAnyH_take (i := 10) (oi := _) (v := ?_) rfl (by kernel_rfl) (by kernel_rfl) (by kernel_rfl) (fun _ _ _ h => h) (Or.inl ⟨by rfl, ?_⟩) (by first | assumption | trivial) ?_
      rotate_left
      · intro w hSw; (try dsimp only at hSw); go_simp; try with_reducible rfl
      try simp only [Act.put, qj1, qj2, qj3, qj4, qj5, qj6]
      refine wpAnyH_take (i := 11) (oi := _) (v := ?_) rfl (by kernel_rfl) (by kernel_rfl) (by kernel_rfl) (fun _ _ _ h => h) (Or.inl ⟨by rfl, ?_⟩) (by first | assumption | trivial) ?_
      rotate_left
      · intro w hSw; (try dsimp only at hSw); go_simp; try with_reducible rfl
      try simp only [Act.put, qj1, qj2, qj3, qj4, qj5, qj6]
      refine wpAnyH_take (i := 12) (oi := _) (v := ?_) rfl (by kernel_rfl) (by kernel_rfl) (by kernel_rfl) (fun _ _ _ h => h) (Or.inl ⟨by rfl, ?_⟩) (by first | assumption | trivial) ?_
      rotate_left
      · intro w hSw; (try dsimp only at hSw); go_simp; try with_reducible rfl
      try simp only [Act.put, qj1, qj2, qj3, qj4, qj5, qj6]
      refine wpAnyH_take (i := 13) (oi := _) (v := ?_) rfl (by kernel_rfl) (by kernel_rfl) (by kernel_rfl) (fun _ _ _ h => h) (Or.inl ⟨by rfl, ?_⟩) (by first | assumption | trivial) ?_
      rotate_left
      · intro w hSw; (try dsimp only at hSw); go_simp; try with_reducible rfl
      try simp only [Act.put, qj1, qj2, qj3, qj4, qj5, qj6]
      refine wpAnyH_take (i := 14) (oi := _) (v := ?_) rfl (by kernel_rfl) (by kernel_rfl) (by kernel_rfl) (fun _ _ _ h => h) (Or.inl ⟨by rfl, ?_⟩) (by first | assumption | trivial) ?_
      rotate_left
      · intro w hSw; (try dsimp only at hSw); go_simp; try with_reducible rfl
      try simp only [Act.put, qj1, qj2, qj3, qj4, qj5, qj6]
      refine wpAnyH_take (i := 15) (oi := _) (v := ?_) rfl (by kernel_rfl) (by kernel_rfl) (by kernel_rfl) (fun _ _ _ h => h) (Or.inl ⟨by rfl, ?_⟩) (by first | assumption | trivial) ?_
      rotate_left
      · intro w hSw; (try dsimp only at hSw); go_simp; try with_reducible rfl
      try simp only [Act.put, qj1, qj2, qj3, qj4, qj5, qj6]
      refine wpAnyH_take (i := 16) (oi := _) (v := .agg (cnC y.c q1).toArray) rfl (by kernel_rfl) (by kernel_rfl) (by kernel_rfl) (fun _ _ _ h => h) (Or.inl ⟨by rfl, ?_⟩) (by first | assumption | trivial) ?_
      · intro w hSw
        try dsimp only at hSw
        show Sem.run Tryz.prog ((Instr.loadAt 94 (.pointer (some ⟨g, off + q * 17 + 1, none⟩))) >>= fun x => pure (Next.value x)) w = _
        rw [Sem.run_bind, load_all agg94 size94 (xs := cnC y.c q1) rfl hSw.2.2.1]
        rfl
      try simp only [Act.put, qj1, qj2, qj3, qj4, qj5, qj6]
      refine wpAnyH_take (i := 17) (oi := _) (v := ?_) rfl (by kernel_rfl) (by kernel_rfl) (by kernel_rfl) (fun _ _ _ h => h) (Or.inl ⟨by rfl, ?_⟩) (by first | assumption | trivial) ?_
      rotate_left
      · intro w hSw; (try dsimp only at hSw); go_simp; try with_reducible rfl
      try simp only [Act.put, qj1, qj2, qj3, qj4, qj5, qj6]
      refine wpAnyH_take (i := 18) (oi := _) (v := ?_) rfl (by kernel_rfl) (by kernel_rfl) (by kernel_rfl) (fun _ _ _ h => h) (Or.inl ⟨by rfl, ?_⟩) (by first | assumption | trivial) ?_
      rotate_left
      · intro w hSw; (try dsimp only at hSw); go_simp; try with_reducible rfl
      try simp only [Act.put, qj1, qj2, qj3, qj4, qj5, qj6]
      refine wpAnyH_take (i := 19) (oi := _) (v := ?_) rfl (by kernel_rfl) (by kernel_rfl) (by kernel_rfl) (fun _ _ _ h => h) (Or.inl ⟨by rfl, ?_⟩) (by first | assumption | trivial) ?_
      rotate_left
      · intro w hSw; (try dsimp only at hSw); go_simp; try with_reducible rfl
      try simp only [Act.put, qj1, qj2, qj3, qj4, qj5, qj6]
      refine wpAnyH_take (i := 20) (oi := _) (v := ?_) rfl (by kernel_rfl) (by kernel_rfl) (by kernel_rfl) (fun _ _ _ h => h) (Or.inl ⟨by rfl, ?_⟩) (by first | assumption | trivial) ?_
      rotate_left
      · intro w hSw; (try dsimp only at hSw); go_simp; try with_reducible rfl
      try simp only [Act.put, qj1, qj2, qj3, qj4, qj5, qj6]
      refine wpAnyH_take (i := 21) (oi := _) (v := .agg (cnC y.c q2).toArray) rfl (by kernel_rfl) (by kernel_rfl) (by kernel_rfl) (fun _ _ _ h => h) (Or.inl ⟨by rfl, ?_⟩) (by first | assumption | trivial) ?_
      · intro w hSw
        try dsimp only at hSw
        show Sem.run Tryz.prog ((Instr.loadAt 94 (.pointer (some ⟨g', off' + q * 17 + 1, none⟩))) >>= fun x => pure (Next.value x)) w = _
        rw [Sem.run_bind, load_all agg94 size94 (xs := cnC y.c q2) rfl hSw.2.2.2]
        rfl
      try simp only [Act.put, qj1, qj2, qj3, qj4, qj5, qj6]
      refine wpAnyH_ready (rs := [22]) (by kernel_rfl) (by simp) ?_
      refine AllReadyH.cons (o := _) rfl (fun K hK => ?_) AllReadyH.nil
      go_simp
      refine (dSame_t y.c q1 q2 _ HB1.out HB2.out).mono ?_
      rintro e w1 ⟨rfl, f1⟩
      have HF1 := Lib.hid (HF0.out.step f1)
      have HS1 := Lib.hid (show _ ∧ _ ∧ _ ∧ _ from ⟨f1.keep HC0.out (by simp), f1.keep HC0'.out (by simp), HL1.out.keep f1 (by simp), HL2.out.keep f1 (by simp)⟩)
      clear f1
      refine hK.out _ _ (HS1.out) (fun hHeld => ?_)
      clear hK K
      try simp only [Act.put, qj1, qj2, qj3, qj4, qj5, qj6]
      refine wpAnyH_take (i := 23) (oi := _) (v := ?_) rfl (by kernel_rfl) (by kernel_rfl) (by kernel_rfl) (fun _ _ _ h => h) (Or.inl ⟨by rfl, ?_⟩) (by first | assumption | trivial) ?_
      rotate_left
      · intro w hSw; (try dsimp only at hSw); go_simp; try with_reducible rfl
      try simp only [Act.put, qj1, qj2, qj3, qj4, qj5, qj6]
      refine wpAnyH_take (i := 24) (oi := _) (v := ?_) rfl (by kernel_rfl) (by kernel_rfl) (by kernel_rfl) (fun _ _ _ h => h) (Or.inl ⟨by rfl, ?_⟩) (by first | assumption | trivial) ?_
      rotate_left
      · intro w hSw; (try dsimp only at hSw); go_simp; try with_reducible rfl
      try simp only [Act.put, qj1, qj2, qj3, qj4, qj5, qj6]
      refine wpAnyH_done (by kernel_rfl) ?_ _
      clear hHeld HS1 HC0 HC0' HL1 HL2 HB1 HB2 HW0 HF0
      go_wp2
      go_roundw
      case rel => exact ⟨_, q + 1, rfl, by go_num, by omega, HF1.out⟩
      case measure => simp [intOf]; omega
    · skip
      obtain rfl : q = n := by omega
      go_wp2
      go_ret
      exact ⟨rfl, FR.out⟩
theorem neAdr (s : ByteArray) (p : Int) (w : World) : (binOp .neq 28 (.agg #[.string s, .int .i64 p]) (.agg #[.string s, .int .i64 p])).run Tryz.prog w = .ok (.bool false) w := by
  have h := eqAdrRaw s s p p w
  rw [decide_eq_true (And.intro rfl rfl)] at h
  rw [run_neq_struct, h]
  rfl
theorem agg28 : ∀ w, (isAgg 28).run Tryz.prog w = .ok true w := fun w => by kernel_rfl
theorem size28 : ∀ w, (sizeOf 28).run Tryz.prog w = .ok 2 w := fun w => by kernel_rfl
theorem listeners_t (v v' : Value) (C : List PN.PL) (w : World) (h : LRow w v C) (h' : LRow w v' C) (hn : C.length ≤ 1000) (hq : ∀ x ∈ C, x.l.length ≤ 100000) :
    Calls Tryz.prog 40 #[v, v'] w fun e w' => e = .returned (.bool true) ∧ Fr [] w w' := by
  obtain ⟨a, c, rfl⟩ := h.val
  obtain ⟨a', c', rfl⟩ := h'.val
  obtain ⟨n, hnl⟩ : ∃ n, C.length = n := ⟨_, rfl⟩
  have HN := Lib.hid hnl
  have HQ := Lib.hid hq
  rw [hnl] at h h' hn ⊢
  have HR := Lib.hid h
  have HR' := Lib.hid h'
  clear h h' hnl hq
  have hnn : ((n : Int) == (n : Int)) = true := by simp
  go_enter Tryz.func40, Tryz.ntmps40
  go_wp2
  go_loopw [5] (fun i wr => ∃ (wz : World) (q : Nat), wz = wr ∧ i = .int .i64 q ∧ q ≤ n ∧ Fr [] w wr) (fun i _ => n - (intOf i).toNat)
  case atStart => exact ⟨_, 0, rfl, rfl, by omega, Fr.refl _ _⟩
  case round =>
    obtain ⟨wr, q, hwz, rfl, hq, fr⟩ := hrel
    subst hwz
    have FR := Lib.hid fr
    clear fr
    by_cases hlt : q < n
    · skip
      have hlt' : (q : Int) < (n : Int) := by omega
      have hq0 : (0 : Int) ≤ (q : Int) := by omega
      have hy := List.getElem?_eq_getElem (l := C) (i := q) (by rw [HN.out]; exact hlt)
      obtain ⟨y, hye⟩ : ∃ y, C[q]'(by rw [HN.out]; exact hlt) = y := ⟨_, rfl⟩
      rw [hye] at hy
      obtain ⟨w0, hw0⟩ : ∃ z, wr.drew = z := ⟨_, rfl⟩
      have f0 : Fr [] wr w0 := by rw [← hw0]; exact (Fr.refl [] wr).drew
      have HF0 := Lib.hid (FR.out.step f0)
      have HW0 := Lib.hid hw0
      clear hw0 f0
      obtain ⟨g, off, cap, X, hv, hg, hX, hl, q1, rfl, hrow⟩ := HR.out.lies hy
      obtain ⟨g', off', cap', X', hv', hg', hX', hl', q2, rfl, hrow'⟩ := HR'.out.lies hy
      rw [HN.out] at hv hv'
      simp only [Value.slice.injEq] at hv hv'
      obtain ⟨rfl, _, rfl⟩ := hv
      obtain ⟨rfl, _, rfl⟩ := hv'
      have hS : ∀ W, Fr [] w W → (fun w' => w'.cell? ⟨g, off + q * 5, none⟩ = some (.int .i64 y.ref) ∧ w'.cell? ⟨g', off' + q * 5, none⟩ = some (.int .i64 y.ref) ∧ LiesAt w' g (off + q * 5 + 1) [.string y.s, .int .i64 y.p] ∧ LiesAt w' g' (off' + q * 5 + 1) [.string y.s, .int .i64 y.p] ∧ w'.cell? ⟨g, off + q * 5 + 3, none⟩ = some (.int .i64 y.most) ∧ w'.cell? ⟨g', off' + q * 5 + 3, none⟩ = some (.int .i64 y.most) ∧ w'.cell? ⟨g, off + q * 5 + 4, none⟩ = some (.slice q1.1 q1.2.1 q1.2.2) ∧ w'.cell? ⟨g', off' + q * 5 + 4, none⟩ = some (.slice q2.1 q2.2.1 q2.2.2)) W := fun W f => ⟨f.keep (hl 0 _ rfl) (by simp), f.keep (hl' 0 _ rfl) (by simp), (show LiesAt w g (off + q * 5 + 1) [.string y.s, .int .i64 y.p] from hl.part (k := 1) (n := 2) rfl).keep f (by simp), (show LiesAt w g' (off' + q * 5 + 1) [.string y.s, .int .i64 y.p] from hl'.part (k := 1) (n := 2) rfl).keep f (by simp), f.keep (hl 3 _ rfl) (by simp), f.keep (hl' 3 _ rfl) (by simp), f.keep (hl 4 _ rfl) (by simp), f.keep (hl' 4 _ rfl) (by simp)⟩
      have HSS := Lib.hid hS
      have HQY := Lib.hid (HQ.out y (List.mem_of_getElem? hy))
      have HB1 := Lib.hid (IntRow.ofV (hrow.new HF0.out) HQY.out)
      have HB2 := Lib.hid (IntRow.ofV (hrow'.new HF0.out) HQY.out)
      clear hy hye hl hl' hrow hrow' hg hg' hX hX' hS
      have hre : ((y.ref : Int) == (y.ref : Int)) = true := by simp
      have hmo : (y.most == y.most) = true := by simp
      have hne := fun W => neAdr y.s y.p W
      have hraw : ∀ W, (Op.equalIn 10000 28 (.agg #[.string y.s, .int .i64 y.p]) (.agg #[.string y.s, .int .i64 y.p])).run Tryz.prog W = .ok true W := fun W => by
        have h := eqAdrRaw y.s y.s y.p y.p W
        rwa [decide_eq_true (And.intro rfl rfl)] at h
      go_upto_region 6 with fail
      refine wp_region_held_drew (S := fun w' => w'.cell? ⟨g, off + q * 5, none⟩ = some (.int .i64 y.ref) ∧ w'.cell? ⟨g', off' + q * 5, none⟩ = some (.int .i64 y.ref) ∧ LiesAt w' g (off + q * 5 + 1) [.string y.s, .int .i64 y.p] ∧ LiesAt w' g' (off' + q * 5 + 1) [.string y.s, .int .i64 y.p] ∧ w'.cell? ⟨g, off + q * 5 + 3, none⟩ = some (.int .i64 y.most) ∧ w'.cell? ⟨g', off' + q * 5 + 3, none⟩ = some (.int .i64 y.most) ∧ w'.cell? ⟨g, off + q * 5 + 4, none⟩ = some (.slice q1.1 q1.2.1 q1.2.2) ∧ w'.cell? ⟨g', off' + q * 5 + 4, none⟩ = some (.slice q2.1 q2.2.1 q2.2.2)) (by kernel_rfl) (by rw [HW0.out]; exact HSS.out _ HF0.out) (fun hHeld => ?_)
      rw [HW0.out] at hHeld ⊢
      refine wpAnyH_take (i := 0) (oi := _) (v := ?_) rfl (by kernel_rfl) (by kernel_rfl) (by kernel_rfl) (fun _ _ _ h => h) (Or.inl ⟨by rfl, ?_⟩) (by first | assumption | trivial) ?_
      rotate_left
      · intro w hSw; (try dsimp only at hSw); go_simp; try with_reducible rfl
      try simp only [Act.put, qj1, qj2, qj3, qj4, qj5, qj6]
      refine wpAnyH_take (i := 1) (oi := _) (v := ?_) rfl (by kernel_rfl) (by kernel_rfl) (by kernel_rfl) (fun _ _ _ h => h) (Or.inl ⟨by rfl, ?_⟩) (by first | assumption | trivial) ?_
      rotate_left
      · intro w hSw; (try dsimp only at hSw); go_simp; try with_reducible rfl
      try simp only [Act.put, qj1, qj2, qj3, qj4, qj5, qj6]
      refine wpAnyH_take (i := 2) (oi := _) (v := ?_) rfl (by kernel_rfl) (by kernel_rfl) (by kernel_rfl) (fun _ _ _ h => h) (Or.inl ⟨by rfl, ?_⟩) (by first | assumption | trivial) ?_
      rotate_left
      · intro w hSw; (try dsimp only at hSw); go_simp; try with_reducible rfl
      try simp only [Act.put, qj1, qj2, qj3, qj4, qj5, qj6]
      refine wpAnyH_take (i := 3) (oi := _) (v := ?_) rfl (by kernel_rfl) (by kernel_rfl) (by kernel_rfl) (fun _ _ _ h => h) (Or.inl ⟨by rfl, ?_⟩) (by first | assumption | trivial) ?_
      rotate_left
      · intro w hSw; (try dsimp only at hSw); go_simp; try with_reducible rfl
      try simp only [Act.put, qj1, qj2, qj3, qj4, qj5, qj6]
      refine wpAnyH_take (i := 4) (oi := _) (v := ?_) rfl (by kernel_rfl) (by kernel_rfl) (by kernel_rfl) (fun _ _ _ h => h) (Or.inl ⟨by rfl, ?_⟩) (by first | assumption | trivial) ?_
      rotate_left
      · intro w hSw; (try dsimp only at hSw); go_simp; try with_reducible rfl
      try simp only [Act.put, qj1, qj2, qj3, qj4, qj5, qj6]
      refine wpAnyH_take (i := 5) (oi := _) (v := ?_) rfl (by kernel_rfl) (by kernel_rfl) (by kernel_rfl) (fun _ _ _ h => h) (Or.inl ⟨by rfl, ?_⟩) (by first | assumption | trivial) ?_
      rotate_left
      · intro w hSw; (try dsimp only at hSw); go_simp; try with_reducible rfl
      try simp only [Act.put, qj1, qj2, qj3, qj4, qj5, qj6]
      refine wpAnyH_take (i := 6) (oi := _) (v := ?_) rfl (by kernel_rfl) (by kernel_rfl) (by kernel_rfl) (fun _ _ _ h => h) (Or.inl ⟨by rfl, ?_⟩) (by first | assumption | trivial) ?_
      rotate_left
      · intro w hSw; (try dsimp only at hSw); go_simp; try with_reducible rfl
      try simp only [Act.put, qj1, qj2, qj3, qj4, qj5, qj6]
      refine wpAnyH_take (i := 7) (oi := _) (v := ?_) rfl (by kernel_rfl) (by kernel_rfl) (by kernel_rfl) (fun _ _ _ h => h) (Or.inl ⟨by rfl, ?_⟩) (by first | assumption | trivial) ?_
      rotate_left
      · intro w hSw; (try dsimp only at hSw); go_simp; try with_reducible rfl
      try simp only [Act.put, qj1, qj2, qj3, qj4, qj5, qj6]
      refine wpAnyH_take (i := 8) (oi := _) (v := ?_) rfl (by kernel_rfl) (by kernel_rfl) (by kernel_rfl) (fun _ _ _ h => h) (Or.inl ⟨by rfl, ?_⟩) (by first | assumption | trivial) ?_
      rotate_left
      · intro w hSw; (try dsimp only at hSw); go_simp; try with_reducible rfl
      try simp only [Act.put, qj1, qj2, qj3, qj4, qj5, qj6]
      refine wpAnyH_take (i := 9) (oi := _) (v := ?_) rfl (by kernel_rfl) (by kernel_rfl) (by kernel_rfl) (fun _ _ _ h => h) (Or.inl ⟨by rfl, ?_⟩) (by first | assumption | trivial) ?_
      rotate_left
      · intro w hSw; (try dsimp only at hSw); go_simp; try with_reducible rfl
      try simp only [Act.put, qj1, qj2, qj3, qj4, qj5, qj6]
      refine wpAnyH_take (i := 10) (oi := _) (v := ?_) rfl (by kernel_rfl) (by kernel_rfl) (by kernel_rfl) (fun _ _ _ h => h) (Or.inl ⟨by rfl, ?_⟩) (by first | assumption | trivial) ?_
      rotate_left
      · intro w hSw; (try dsimp only at hSw); go_simp; try with_reducible rfl
      try simp only [Act.put, qj1, qj2, qj3, qj4, qj5, qj6]
      refine wpAnyH_take (i := 11) (oi := _) (v := ?_) rfl (by kernel_rfl) (by kernel_rfl) (by kernel_rfl) (fun _ _ _ h => h) (Or.inl ⟨by rfl, ?_⟩) (by first | assumption | trivial) ?_
      rotate_left
      · intro w hSw; (try dsimp only at hSw); go_simp; try with_reducible rfl
      try simp only [Act.put, qj1, qj2, qj3, qj4, qj5, qj6]
      refine wpAnyH_take (i := 12) (oi := _) (v := ?_) rfl (by kernel_rfl) (by kernel_rfl) (by kernel_rfl) (fun _ _ _ h => h) (Or.inl ⟨by rfl, ?_⟩) (by first | assumption | trivial) ?_
      rotate_left
      · intro w hSw; (try dsimp only at hSw); go_simp; try with_reducible rfl
      try simp only [Act.put, qj1, qj2, qj3, qj4, qj5, qj6]
      refine wpAnyH_take (i := 13) (oi := _) (v := ?_) rfl (by kernel_rfl) (by kernel_rfl) (by kernel_rfl) (fun _ _ _ h => h) (Or.inl ⟨by rfl, ?_⟩) (by first | assumption | trivial) ?_
      rotate_left
      · intro w hSw; (try dsimp only at hSw); go_simp; try with_reducible rfl
      try simp only [Act.put, qj1, qj2, qj3, qj4, qj5, qj6]
      refine wpAnyH_take (i := 14) (oi := _) (v := ?_) rfl (by kernel_rfl) (by kernel_rfl) (by kernel_rfl) (fun _ _ _ h => h) (Or.inl ⟨by rfl, ?_⟩) (by first | assumption | trivial) ?_
      rotate_left
      · intro w hSw; (try dsimp only at hSw); go_simp; try with_reducible rfl
      try simp only [Act.put, qj1, qj2, qj3, qj4, qj5, qj6]
      refine wpAnyH_take (i := 15) (oi := _) (v := ?_) rfl (by kernel_rfl) (by kernel_rfl) (by kernel_rfl) (fun _ _ _ h => h) (Or.inl ⟨by rfl, ?_⟩) (by first | assumption | trivial) ?_
      rotate_left
      · intro w hSw; (try dsimp only at hSw); go_simp; try with_reducible rfl
      try simp only [Act.put, qj1, qj2, qj3, qj4, qj5, qj6]
      refine wpAnyH_take (i := 16) (oi := _) (v := ?_) rfl (by kernel_rfl) (by kernel_rfl) (by kernel_rfl) (fun _ _ _ h => h) (Or.inl ⟨by rfl, ?_⟩) (by first | assumption | trivial) ?_
      rotate_left
      · intro w hSw; (try dsimp only at hSw); go_simp; try with_reducible rfl
      try simp only [Act.put, qj1, qj2, qj3, qj4, qj5, qj6]
      refine wpAnyH_take (i := 17) (oi := _) (v := .agg #[.string y.s, .int .i64 y.p]) rfl (by kernel_rfl) (by kernel_rfl) (by kernel_rfl) (fun _ _ _ h => h) (Or.inl ⟨by rfl, ?_⟩) (by first | assumption | trivial) ?_
      · intro w hSw
        try dsimp only at hSw
        show Sem.run Tryz.prog ((Instr.loadAt 28 (.pointer (some ⟨g, off + q * 5 + 1, none⟩))) >>= fun x => pure (Next.value x)) w = _
        rw [Sem.run_bind, load_all agg28 size28 (xs := [.string y.s, .int .i64 y.p]) rfl hSw.2.2.1]
        rfl
      try simp only [Act.put, qj1, qj2, qj3, qj4, qj5, qj6]
      refine wpAnyH_take (i := 18) (oi := _) (v := ?_) rfl (by kernel_rfl) (by kernel_rfl) (by kernel_rfl) (fun _ _ _ h => h) (Or.inl ⟨by rfl, ?_⟩) (by first | assumption | trivial) ?_
      rotate_left
      · intro w hSw; (try dsimp only at hSw); go_simp; try with_reducible rfl
      try simp only [Act.put, qj1, qj2, qj3, qj4, qj5, qj6]
      refine wpAnyH_take (i := 19) (oi := _) (v := ?_) rfl (by kernel_rfl) (by kernel_rfl) (by kernel_rfl) (fun _ _ _ h => h) (Or.inl ⟨by rfl, ?_⟩) (by first | assumption | trivial) ?_
      rotate_left
      · intro w hSw; (try dsimp only at hSw); go_simp; try with_reducible rfl
      try simp only [Act.put, qj1, qj2, qj3, qj4, qj5, qj6]
      refine wpAnyH_take (i := 20) (oi := _) (v := ?_) rfl (by kernel_rfl) (by kernel_rfl) (by kernel_rfl) (fun _ _ _ h => h) (Or.inl ⟨by rfl, ?_⟩) (by first | assumption | trivial) ?_
      rotate_left
      · intro w hSw; (try dsimp only at hSw); go_simp; try with_reducible rfl
      try simp only [Act.put, qj1, qj2, qj3, qj4, qj5, qj6]
      refine wpAnyH_take (i := 21) (oi := _) (v := ?_) rfl (by kernel_rfl) (by kernel_rfl) (by kernel_rfl) (fun _ _ _ h => h) (Or.inl ⟨by rfl, ?_⟩) (by first | assumption | trivial) ?_
      rotate_left
      · intro w hSw; (try dsimp only at hSw); go_simp; try with_reducible rfl
      try simp only [Act.put, qj1, qj2, qj3, qj4, qj5, qj6]
      refine wpAnyH_take (i := 22) (oi := _) (v := ?_) rfl (by kernel_rfl) (by kernel_rfl) (by kernel_rfl) (fun _ _ _ h => h) (Or.inl ⟨by rfl, ?_⟩) (by first | assumption | trivial) ?_
      rotate_left
      · intro w hSw; (try dsimp only at hSw); go_simp; try with_reducible rfl
      try simp only [Act.put, qj1, qj2, qj3, qj4, qj5, qj6]
      refine wpAnyH_take (i := 23) (oi := _) (v := .agg #[.string y.s, .int .i64 y.p]) rfl (by kernel_rfl) (by kernel_rfl) (by kernel_rfl) (fun _ _ _ h => h) (Or.inl ⟨by rfl, ?_⟩) (by first | assumption | trivial) ?_
      · intro w hSw
        try dsimp only at hSw
        show Sem.run Tryz.prog ((Instr.loadAt 28 (.pointer (some ⟨g', off' + q * 5 + 1, none⟩))) >>= fun x => pure (Next.value x)) w = _
        rw [Sem.run_bind, load_all agg28 size28 (xs := [.string y.s, .int .i64 y.p]) rfl hSw.2.2.2.1]
        rfl
      try simp only [Act.put, qj1, qj2, qj3, qj4, qj5, qj6]
      refine wpAnyH_take (i := 24) (oi := _) (v := .bool false) rfl (by kernel_rfl) (by kernel_rfl) (by kernel_rfl) (fun _ _ _ h => h) (Or.inl ⟨by rfl, ?_⟩) (by first | assumption | trivial) ?_
      · intro w hSw
        try dsimp only at hSw
        go_simp
      try simp only [Act.put, qj1, qj2, qj3, qj4, qj5, qj6]
      refine wpAnyH_take (i := 25) (oi := _) (v := ?_) rfl (by kernel_rfl) (by kernel_rfl) (by kernel_rfl) (fun _ _ _ h => h) (Or.inl ⟨by rfl, ?_⟩) (by first | assumption | trivial) ?_
      rotate_left
      · intro w hSw; (try dsimp only at hSw); go_simp; try with_reducible rfl
      try simp only [Act.put, qj1, qj2, qj3, qj4, qj5, qj6]
      refine wpAnyH_take (i := 26) (oi := _) (v := ?_) rfl (by kernel_rfl) (by kernel_rfl) (by kernel_rfl) (fun _ _ _ h => h) (Or.inl ⟨by rfl, ?_⟩) (by first | assumption | trivial) ?_
      rotate_left
      · intro w hSw; (try dsimp only at hSw); go_simp; try with_reducible rfl
      try simp only [Act.put, qj1, qj2, qj3, qj4, qj5, qj6]
      refine wpAnyH_take (i := 27) (oi := _) (v := ?_) rfl (by kernel_rfl) (by kernel_rfl) (by kernel_rfl) (fun _ _ _ h => h) (Or.inl ⟨by rfl, ?_⟩) (by first | assumption | trivial) ?_
      rotate_left
      · intro w hSw; (try dsimp only at hSw); go_simp; try with_reducible rfl
      try simp only [Act.put, qj1, qj2, qj3, qj4, qj5, qj6]
      refine wpAnyH_take (i := 28) (oi := _) (v := ?_) rfl (by kernel_rfl) (by kernel_rfl) (by kernel_rfl) (fun _ _ _ h => h) (Or.inl ⟨by rfl, ?_⟩) (by first | assumption | trivial) ?_
      rotate_left
      · intro w hSw; (try dsimp only at hSw); go_simp; try with_reducible rfl
      try simp only [Act.put, qj1, qj2, qj3, qj4, qj5, qj6]
      refine wpAnyH_take (i := 29) (oi := _) (v := ?_) rfl (by kernel_rfl) (by kernel_rfl) (by kernel_rfl) (fun _ _ _ h => h) (Or.inl ⟨by rfl, ?_⟩) (by first | assumption | trivial) ?_
      rotate_left
      · intro w hSw; (try dsimp only at hSw); go_simp; try with_reducible rfl
      try simp only [Act.put, qj1, qj2, qj3, qj4, qj5, qj6]
      refine wpAnyH_take (i := 30) (oi := _) (v := ?_) rfl (by kernel_rfl) (by kernel_rfl) (by kernel_rfl) (fun _ _ _ h => h) (Or.inl ⟨by rfl, ?_⟩) (by first | assumption | trivial) ?_
      rotate_left
      · intro w hSw; (try dsimp only at hSw); go_simp; try with_reducible rfl
      try simp only [Act.put, qj1, qj2, qj3, qj4, qj5, qj6]
      refine wpAnyH_take (i := 31) (oi := _) (v := ?_) rfl (by kernel_rfl) (by kernel_rfl) (by kernel_rfl) (fun _ _ _ h => h) (Or.inl ⟨by rfl, ?_⟩) (by first | assumption | trivial) ?_
      rotate_left
      · intro w hSw; (try dsimp only at hSw); go_simp; try with_reducible rfl
      try simp only [Act.put, qj1, qj2, qj3, qj4, qj5, qj6]
      refine wpAnyH_take (i := 32) (oi := _) (v := ?_) rfl (by kernel_rfl) (by kernel_rfl) (by kernel_rfl) (fun _ _ _ h => h) (Or.inl ⟨by rfl, ?_⟩) (by first | assumption | trivial) ?_
      rotate_left
      · intro w hSw; (try dsimp only at hSw); go_simp; try with_reducible rfl
      try simp only [Act.put, qj1, qj2, qj3, qj4, qj5, qj6]
      refine wpAnyH_take (i := 33) (oi := _) (v := ?_) rfl (by kernel_rfl) (by kernel_rfl) (by kernel_rfl) (fun _ _ _ h => h) (Or.inl ⟨by rfl, ?_⟩) (by first | assumption | trivial) ?_
      rotate_left
      · intro w hSw; (try dsimp only at hSw); go_simp; try with_reducible rfl
      try simp only [Act.put, qj1, qj2, qj3, qj4, qj5, qj6]
      refine wpAnyH_take (i := 34) (oi := _) (v := ?_) rfl (by kernel_rfl) (by kernel_rfl) (by kernel_rfl) (fun _ _ _ h => h) (Or.inl ⟨by rfl, ?_⟩) (by first | assumption | trivial) ?_
      rotate_left
      · intro w hSw; (try dsimp only at hSw); go_simp; try with_reducible rfl
      try simp only [Act.put, qj1, qj2, qj3, qj4, qj5, qj6]
      refine wpAnyH_take (i := 35) (oi := _) (v := ?_) rfl (by kernel_rfl) (by kernel_rfl) (by kernel_rfl) (fun _ _ _ h => h) (Or.inl ⟨by rfl, ?_⟩) (by first | assumption | trivial) ?_
      rotate_left
      · intro w hSw; (try dsimp only at hSw); go_simp; try with_reducible rfl
      try simp only [Act.put, qj1, qj2, qj3, qj4, qj5, qj6]
      refine wpAnyH_take (i := 36) (oi := _) (v := ?_) rfl (by kernel_rfl) (by kernel_rfl) (by kernel_rfl) (fun _ _ _ h => h) (Or.inl ⟨by rfl, ?_⟩) (by first | assumption | trivial) ?_
      rotate_left
      · intro w hSw; (try dsimp only at hSw); go_simp; try with_reducible rfl
      try simp only [Act.put, qj1, qj2, qj3, qj4, qj5, qj6]
      refine wpAnyH_take (i := 37) (oi := _) (v := ?_) rfl (by kernel_rfl) (by kernel_rfl) (by kernel_rfl) (fun _ _ _ h => h) (Or.inl ⟨by rfl, ?_⟩) (by first | assumption | trivial) ?_
      rotate_left
      · intro w hSw; (try dsimp only at hSw); go_simp; try with_reducible rfl
      try simp only [Act.put, qj1, qj2, qj3, qj4, qj5, qj6]
      refine wpAnyH_take (i := 38) (oi := _) (v := ?_) rfl (by kernel_rfl) (by kernel_rfl) (by kernel_rfl) (fun _ _ _ h => h) (Or.inl ⟨by rfl, ?_⟩) (by first | assumption | trivial) ?_
      rotate_left
      · intro w hSw; (try dsimp only at hSw); go_simp; try with_reducible rfl
      try simp only [Act.put, qj1, qj2, qj3, qj4, qj5, qj6]
      refine wpAnyH_take (i := 39) (oi := _) (v := ?_) rfl (by kernel_rfl) (by kernel_rfl) (by kernel_rfl) (fun _ _ _ h => h) (Or.inl ⟨by rfl, ?_⟩) (by first | assumption | trivial) ?_
      rotate_left
      · intro w hSw; (try dsimp only at hSw); go_simp; try with_reducible rfl
      try simp only [Act.put, qj1, qj2, qj3, qj4, qj5, qj6]
      refine wpAnyH_take (i := 40) (oi := _) (v := ?_) rfl (by kernel_rfl) (by kernel_rfl) (by kernel_rfl) (fun _ _ _ h => h) (Or.inl ⟨by rfl, ?_⟩) (by first | assumption | trivial) ?_
      rotate_left
      · intro w hSw; (try dsimp only at hSw); go_simp; try with_reducible rfl
      try simp only [Act.put, qj1, qj2, qj3, qj4, qj5, qj6]
      refine wpAnyH_take (i := 41) (oi := _) (v := ?_) rfl (by kernel_rfl) (by kernel_rfl) (by kernel_rfl) (fun _ _ _ h => h) (Or.inl ⟨by rfl, ?_⟩) (by first | assumption | trivial) ?_
      rotate_left
      · intro w hSw; (try dsimp only at hSw); go_simp; try with_reducible rfl
      try simp only [Act.put, qj1, qj2, qj3, qj4, qj5, qj6]
      refine wpAnyH_take (i := 42) (oi := _) (v := ?_) rfl (by kernel_rfl) (by kernel_rfl) (by kernel_rfl) (fun _ _ _ h => h) (Or.inl ⟨by rfl, ?_⟩) (by first | assumption | trivial) ?_
      rotate_left
      · intro w hSw; (try dsimp only at hSw); go_simp; try with_reducible rfl
      try simp only [Act.put, qj1, qj2, qj3, qj4, qj5, qj6]
      refine wpAnyH_take (i := 43) (oi := _) (v := ?_) rfl (by kernel_rfl) (by kernel_rfl) (by kernel_rfl) (fun _ _ _ h => h) (Or.inl ⟨by rfl, ?_⟩) (by first | assumption | trivial) ?_
      rotate_left
      · intro w hSw; (try dsimp only at hSw); go_simp; try with_reducible rfl
      try simp only [Act.put, qj1, qj2, qj3, qj4, qj5, qj6]
      refine wpAnyH_take (i := 44) (oi := _) (v := ?_) rfl (by kernel_rfl) (by kernel_rfl) (by kernel_rfl) (fun _ _ _ h => h) (Or.inl ⟨by rfl, ?_⟩) (by first | assumption | trivial) ?_
      rotate_left
      · intro w hSw; (try dsimp only at hSw); go_simp; try with_reducible rfl
      try simp only [Act.put, qj1, qj2, qj3, qj4, qj5, qj6]
      refine wpAnyH_take (i := 45) (oi := _) (v := ?_) rfl (by kernel_rfl) (by kernel_rfl) (by kernel_rfl) (fun _ _ _ h => h) (Or.inl ⟨by rfl, ?_⟩) (by first | assumption | trivial) ?_
      rotate_left
      · intro w hSw; (try dsimp only at hSw); go_simp; try with_reducible rfl
      try simp only [Act.put, qj1, qj2, qj3, qj4, qj5, qj6]
      refine wpAnyH_take (i := 46) (oi := _) (v := ?_) rfl (by kernel_rfl) (by kernel_rfl) (by kernel_rfl) (fun _ _ _ h => h) (Or.inl ⟨by rfl, ?_⟩) (by first | assumption | trivial) ?_
      rotate_left
      · intro w hSw; (try dsimp only at hSw); go_simp; try with_reducible rfl
      try simp only [Act.put, qj1, qj2, qj3, qj4, qj5, qj6]
      refine wpAnyH_take (i := 47) (oi := _) (v := ?_) rfl (by kernel_rfl) (by kernel_rfl) (by kernel_rfl) (fun _ _ _ h => h) (Or.inl ⟨by rfl, ?_⟩) (by first | assumption | trivial) ?_
      rotate_left
      · intro w hSw; (try dsimp only at hSw); go_simp; try with_reducible rfl
      try simp only [Act.put, qj1, qj2, qj3, qj4, qj5, qj6]
      refine wpAnyH_take (i := 48) (oi := _) (v := ?_) rfl (by kernel_rfl) (by kernel_rfl) (by kernel_rfl) (fun _ _ _ h => h) (Or.inl ⟨by rfl, ?_⟩) (by first | assumption | trivial) ?_
      rotate_left
      · intro w hSw; (try dsimp only at hSw); go_simp; try with_reducible rfl
      try simp only [Act.put, qj1, qj2, qj3, qj4, qj5, qj6]
      refine wpAnyH_take (i := 49) (oi := _) (v := ?_) rfl (by kernel_rfl) (by kernel_rfl) (by kernel_rfl) (fun _ _ _ h => h) (Or.inl ⟨by rfl, ?_⟩) (by first | assumption | trivial) ?_
      rotate_left
      · intro w hSw; (try dsimp only at hSw); go_simp; try with_reducible rfl
      try simp only [Act.put, qj1, qj2, qj3, qj4, qj5, qj6]
      refine wpAnyH_take (i := 50) (oi := _) (v := ?_) rfl (by kernel_rfl) (by kernel_rfl) (by kernel_rfl) (fun _ _ _ h => h) (Or.inl ⟨by rfl, ?_⟩) (by first | assumption | trivial) ?_
      rotate_left
      · intro w hSw; (try dsimp only at hSw); go_simp; try with_reducible rfl
      try simp only [Act.put, qj1, qj2, qj3, qj4, qj5, qj6]
      refine wpAnyH_take (i := 51) (oi := _) (v := ?_) rfl (by kernel_rfl) (by kernel_rfl) (by kernel_rfl) (fun _ _ _ h => h) (Or.inl ⟨by rfl, ?_⟩) (by first | assumption | trivial) ?_
      rotate_left
      · intro w hSw; (try dsimp only at hSw); go_simp; try with_reducible rfl
      try simp only [Act.put, qj1, qj2, qj3, qj4, qj5, qj6]
      refine wpAnyH_take (i := 52) (oi := _) (v := ?_) rfl (by kernel_rfl) (by kernel_rfl) (by kernel_rfl) (fun _ _ _ h => h) (Or.inl ⟨by rfl, ?_⟩) (by first | assumption | trivial) ?_
      rotate_left
      · intro w hSw; (try dsimp only at hSw); go_simp; try with_reducible rfl
      try simp only [Act.put, qj1, qj2, qj3, qj4, qj5, qj6]
      refine wpAnyH_take (i := 53) (oi := _) (v := ?_) rfl (by kernel_rfl) (by kernel_rfl) (by kernel_rfl) (fun _ _ _ h => h) (Or.inl ⟨by rfl, ?_⟩) (by first | assumption | trivial) ?_
      rotate_left
      · intro w hSw; (try dsimp only at hSw); go_simp; try with_reducible rfl
      try simp only [Act.put, qj1, qj2, qj3, qj4, qj5, qj6]
      refine wpAnyH_ready (rs := [54]) (by kernel_rfl) (by simp) ?_
      refine AllReadyH.cons (o := _) rfl (fun K hK => ?_) AllReadyH.nil
      go_simp
      refine (ints_t _ _ y.l _ HB1.out HB2.out).mono ?_
      rintro e w1 ⟨rfl, f1⟩
      have HF1 := Lib.hid (HF0.out.step f1)
      clear f1
      refine hK.out _ _ (HSS.out _ HF1.out) (fun hHeld => ?_)
      clear hK K
      try simp only [Act.put, qj1, qj2, qj3, qj4, qj5, qj6]
      refine wpAnyH_take (i := 55) (oi := _) (v := ?_) rfl (by kernel_rfl) (by kernel_rfl) (by kernel_rfl) (fun _ _ _ h => h) (Or.inl ⟨by rfl, ?_⟩) (by first | assumption | trivial) ?_
      rotate_left
      · intro w hSw; (try dsimp only at hSw); go_simp; try with_reducible rfl
      try simp only [Act.put, qj1, qj2, qj3, qj4, qj5, qj6]
      refine wpAnyH_take (i := 56) (oi := _) (v := ?_) rfl (by kernel_rfl) (by kernel_rfl) (by kernel_rfl) (fun _ _ _ h => h) (Or.inl ⟨by rfl, ?_⟩) (by first | assumption | trivial) ?_
      rotate_left
      · intro w hSw; (try dsimp only at hSw); go_simp; try with_reducible rfl
      try simp only [Act.put, qj1, qj2, qj3, qj4, qj5, qj6]
      refine wpAnyH_done (by kernel_rfl) ?_ _
      clear hHeld HSS HB1 HB2 HW0 HF0 HQY
      go_wp2
      go_roundw
      case rel => exact ⟨_, q + 1, rfl, by go_num, by omega, HF1.out⟩
      case measure => simp [intOf]; omega
    · skip
      obtain rfl : q = n := by omega
      go_wp2
      go_ret
      exact ⟨rfl, FR.out⟩
end Go.Proofs.YtmdhlodafjpnmaaGreat
