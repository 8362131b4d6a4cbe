/- Connections with bytes: Restore of a state that is one. -/
/- Connections with bytes: Close. -/
/- Connections with bytes: Begin. -/
/- Connections in a net, with bytes: what they can be stays so; what keeps them. -/
/- Plain: a connection that is closed at an end is one that can be. -/
/- A net in memory whose connections hold bytes. -/
/- Pair and Connect where they make a connection: it is one with bytes. -/
/- The net with bytes: a pair is opened. -/
/- The net with bytes: Connect. -/
/- The net with bytes: Accept. -/
/- The net with bytes: Listen. -/
import Derived.Test.YtmdhlodafjpnmaaGreatM27
import Derived.Test.YtmdhlodafjpnmaaGreatM25
import Derived.Test.YtmdhlodafjpnmaaGreatPairW
namespace Go.Proofs.YtmdhlodafjpnmaaGreat
open List renaming getElem_toArray → qj1, getElem_cons_succ → qj2, getElem_cons_zero → qj3, setIfInBounds_toArray → qj4, set_cons_zero → qj5, set_cons_succ → qj6
open Go.RowKit
set_option linter.unusedVariables false
set_option linter.unusedSimpArgs false
set_option maxRecDepth 100000
set_option maxHeartbeats 8000000

def RestD (own : Nat → Nat) (c : Nat) (x : CC) (w : World) (e : Ending) (w' : World) : Prop := ∃ (d : Nat) (own' : Nat → Nat), e = .returned (.tuple #[.pointer (some ⟨d, 0, none⟩), .int .i64 0]) ∧ DupB w' own' c d x ∧ Ext w own own' ∧ Fr [] w w' ∧ w.heap.size ≤ d
theorem dupRestore (own : Nat → Nat) (c : Nat) {w : World} {x : CC} {q : Q4} (ok : CcOk x) (hq : CnB w x q) (hc : c % 4 = 1) :
    Calls Tryz.prog 72 #[.agg (cnC x q).toArray] w (RestD own c x w) := by
  obtain ⟨X, hX⟩ : ∃ A, w.heap.size = A := ⟨_, rfl⟩
  have HV := Lib.hid (fun W => dupValidB (w := W) ok (bs_len hq.b0) (bs_len hq.r0) (bs_len hq.b1) (bs_len hq.r1))
  have HBO := Lib.hid (fun W (f : Fr [] w W) => bothRest own c ok.s0 ok.s1 W (hq.b0.new f) (hq.r0.new f) (hq.b1.new f) (hq.r1.new f) hc)
  obtain ⟨L, hL⟩ : ∃ L, cnC x q = L := ⟨_, rfl⟩
  obtain ⟨LS, hLS⟩ : ∃ L, stC x.s0 q.b0 q.r0 ++ stC x.s1 q.b1 q.r1 = L := ⟨_, rfl⟩
  have HL := Lib.hid (show L.length = 16 ∧ LS.length = 14 ∧ (L.drop 0).take 14 = LS ∧ (L.drop 14).take 2 = [.bool x.a0, .bool x.a1] from by rw [← hL, ← hLS]; exact ⟨rfl, rfl, rfl, rfl⟩)
  rw [hL] at HV ⊢
  rw [hLS] at HBO
  obtain ⟨wA, hwA⟩ : ∃ z, w.alloc (.cells L.toArray 94) = z := ⟨_, rfl⟩
  have b0 : Blk wA X 94 L := by rw [← hwA, ← hX]; exact Blk.made w 94 L
  have fA : Fr [] w wA := by rw [← hwA]; exact (Fr.refl [] w).alloc _
  have HB := Lib.hid b0
  have HFA := Lib.hid fA
  have HWA := Lib.hid hwA
  have HX := Lib.hid hX
  clear b0 fA hwA hX hL hLS hq ok
  go_enter Tryz.func72, Tryz.ntmps72
  go_upto_region 1 with fail
  rw [HWA.out]
  simp only [HX.out]
  refine wp_region_lit ?_
  refine wpList_val rfl (v := .agg (L).toArray) (w' := wA) ?_ ?_
  · show Sem.run Tryz.prog ((Instr.loadAt 94 (.pointer (some ⟨X, 0, none⟩))) >>= fun x => pure (Next.value x)) wA = _
    rw [Sem.run_bind, load_all agg94 size94 (xs := L) HL.out.1 HB.out.at]
    rfl
  try simp only [Act.put, qj1, qj2, qj3, qj4, qj5, qj6]
  refine wpList_plain rfl (fun K hK => ?_)
  go_simp
  refine (HV.out wA).mono ?_
  rintro e w1 ⟨rfl, f1⟩
  have HF1 := Lib.hid (HFA.out.step f1)
  have HB1 := Lib.hid (HB.out.keep f1 (by simp))
  clear f1
  refine hK _ _ ?_
  clear hK K
  try simp only [Act.put, qj1, qj2, qj3, qj4, qj5, qj6]
  refine wpList_plain rfl (fun K hK => ?_); go_simp; refine hK _ _ ?_; clear hK K
  refine wpList_nil ?_
  try simp only [Act.put, qj1, qj2, qj3, qj4, qj5, qj6]
  go_upto_region 3 with fail
  refine wp_region_lit ?_
  refine wpList_plain rfl (fun K hK => ?_); go_simp; refine hK _ _ ?_; clear hK K
  refine wpList_val rfl (v := .agg (LS).toArray) (w' := w1) ?_ ?_
  · show Sem.run Tryz.prog ((Instr.loadAt 91 (.pointer (some ⟨X, 0, none⟩))) >>= fun x => pure (Next.value x)) w1 = _
    rw [Sem.run_bind, load_all aggTS sizeTS (xs := LS) HL.out.2.1 (HB1.out.at.part (k := 0) (n := 14) HL.out.2.2.1)]
    rfl
  try simp only [Act.put, qj1, qj2, qj3, qj4, qj5, qj6]
  refine wpList_plain rfl (fun K hK => ?_)
  go_simp
  refine (HBO.out w1 HF1.out).mono ?_
  rintro e w2 ⟨s0, s1, own1, rfl, h0, h1, hx, f2⟩
  have HS0 := Lib.hid h0
  have HS1 := Lib.hid h1
  have HX1 := Lib.hid hx
  have HF2 := Lib.hid f2
  clear h0 h1 hx f2
  refine hK _ _ ?_
  clear hK K
  try simp only [Act.put, qj1, qj2, qj3, qj4, qj5, qj6]
  refine wpList_plain rfl (fun K hK => ?_); go_simp; refine hK _ _ ?_; clear hK K
  refine wpList_plain rfl (fun K hK => ?_); go_simp; refine hK _ _ ?_; clear hK K
  refine wpList_plain rfl (fun K hK => ?_); go_simp; refine hK _ _ ?_; clear hK K
  try simp only [Act.put, qj1, qj2, qj3, qj4, qj5, qj6]
  refine wpList_plain rfl (fun K hK => ?_); go_simp; refine hK _ _ ?_; clear hK K
  try simp only [Act.put, qj1, qj2, qj3, qj4, qj5, qj6]
  obtain ⟨Q, hA_⟩ : ∃ A, w2.heap.size = A := ⟨_, rfl⟩
  obtain ⟨w3, hw_⟩ : ∃ z, w2.alloc (.cells #[.pointer none, .pointer none] 150) = z := ⟨_, rfl⟩
  have hB_ : Blk w3 Q 150 [.pointer none, .pointer none] := by rw [← hw_, ← hA_]; exact Blk.made w2 150 _
  have hF_ : Fr [] w2 w3 := by rw [← hw_]; exact (Fr.refl [] w2).alloc _
  rw [hw_]
  simp only [hA_]
  have HQ := Lib.hid hA_
  have HBQ := Lib.hid hB_
  have HFw3 := Lib.hid hF_
  clear hA_ hw_ hB_ hF_
  obtain ⟨w4, hst, hb_, hf_⟩ := store_all (t := 150) [.pointer (some ⟨s0, 0, none⟩), .pointer (some ⟨s1, 0, none⟩)] sizeA2 rfl (fun u hu => by simp only [List.mem_cons, List.not_mem_nil, or_false] at hu; rcases hu with rfl | rfl <;> rfl) HBQ.out rfl
  refine wpList_skp rfl (w' := w4) ?_ ?_
  · show Sem.run Tryz.prog ((Instr.storeAt 150 (.pointer (some ⟨Q, 0, none⟩)) (.agg ([.pointer (some ⟨s0, 0, none⟩), .pointer (some ⟨s1, 0, none⟩)] : List Value).toArray)) >>= fun _ => pure Next.skip) _ = _
    rw [Sem.run_bind, hst]
    rfl
  clear hst
  try simp only [Act.put, qj1, qj2, qj3, qj4, qj5, qj6]
  refine wpList_plain rfl (fun K hK => ?_); go_simp; refine hK _ _ ?_; clear hK K
  refine wpList_nil ?_
  try simp only [Act.put, qj1, qj2, qj3, qj4, qj5, qj6]
  have HQ4 := Lib.hid hb_
  have HF4 := Lib.hid (show Fr [] w2 w4 from HFw3.out.trans hf_ (fun x hx hl => by rw [List.mem_singleton] at hx; have := HQ.out; omega))
  have HB4 := Lib.hid ((HB1.out.keep HF2.out (by simp)).keep HF4.out (by simp))
  have HLB := Lib.hid (show LiesAt w4 X 14 [.bool x.a0, .bool x.a1] from by
    have := HB4.out.at.part (k := 14) (n := 2) HL.out.2.2.2
    rwa [Nat.zero_add] at this)
  clear hb_ hf_
  have hbd := bldDx s0 s1 x.a0 x.a1
  go_upto_region 4 with fail
  refine wp_region_lit ?_
  refine wpList_val rfl (v := .agg ([.pointer (some ⟨s0, 0, none⟩), .pointer (some ⟨s1, 0, none⟩)]).toArray) (w' := w4) ?_ ?_
  · show Sem.run Tryz.prog ((Instr.loadAt 150 (.pointer (some ⟨Q, 0, none⟩))) >>= fun x => pure (Next.value x)) w4 = _
    rw [Sem.run_bind, load_all aggA2 sizeA2 (xs := [.pointer (some ⟨s0, 0, none⟩), .pointer (some ⟨s1, 0, none⟩)]) rfl HQ4.out.at]
    rfl
  try simp only [Act.put, qj1, qj2, qj3, qj4, qj5, qj6]
  refine wpList_plain rfl (fun K hK => ?_); go_simp; refine hK _ _ ?_; clear hK K
  refine wpList_val rfl (v := .agg ([.bool x.a0, .bool x.a1]).toArray) (w' := w4) ?_ ?_
  · show Sem.run Tryz.prog ((Instr.loadAt 92 (.pointer (some ⟨X, 14, none⟩))) >>= fun x => pure (Next.value x)) w4 = _
    rw [Sem.run_bind, load_all aggB2 sizeB2 (xs := [.bool x.a0, .bool x.a1]) rfl HLB.out]
    rfl
  try simp only [Act.put, qj1, qj2, qj3, qj4, qj5, qj6]
  refine wpList_plain rfl (fun K hK => ?_); go_simp; refine hK _ _ ?_; clear hK K
  try simp only [Act.put, qj1, qj2, qj3, qj4, qj5, qj6]
  refine wpList_plain rfl (fun K hK => ?_); go_simp; refine hK _ _ ?_; clear hK K
  try simp only [Act.put, qj1, qj2, qj3, qj4, qj5, qj6]
  obtain ⟨D, hA_⟩ : ∃ A, w4.heap.size = A := ⟨_, rfl⟩
  obtain ⟨w5, hw_⟩ : ∃ z, w4.alloc (.cells #[.pointer (some ⟨s0, 0, none⟩), .pointer (some ⟨s1, 0, none⟩), .bool x.a0, .bool x.a1] 152) = z := ⟨_, rfl⟩
  have hB_ : Blk w5 D 152 [.pointer (some ⟨s0, 0, none⟩), .pointer (some ⟨s1, 0, none⟩), .bool x.a0, .bool x.a1] := by rw [← hw_, ← hA_]; exact Blk.made w4 152 _
  have hF_ : Fr [] w4 w5 := by rw [← hw_]; exact (Fr.refl [] w4).alloc _
  rw [hw_]
  simp only [hA_]
  have HD := Lib.hid hA_
  have HBD := Lib.hid hB_
  have HFw5 := Lib.hid hF_
  clear hA_ hw_ hB_ hF_
  refine wpList_plain rfl (fun K hK => ?_); go_simp; refine hK _ _ ?_; clear hK K
  refine wpList_plain rfl (fun K hK => ?_); go_simp; refine hK _ _ ?_; clear hK K
  refine wpList_plain rfl (fun K hK => ?_); go_simp; refine hK _ _ ?_; clear hK K
  refine wpList_nil ?_
  try simp only [Act.put, qj1, qj2, qj3, qj4, qj5, qj6]
  go_wp2
  refine bodyPost_ret (v := .tuple #[.pointer (some ⟨D, 0, none⟩), .int .i64 0]) (by simp [results, Tryz.results72]) rfl ?_
  have hD := HD.out
  have z1 := HF1.out.size
  have z2 := HF2.out.size
  have z4 := HF4.out.size
  have e3 : Ext w4 own1 (ownNew w4 own1 c) := Ext.new _ _ _
  exact ⟨D, _, rfl, ⟨ownNew_ge (own := own1) (w := w4) (by omega), s0, s1, HBD.out, ((HS0.out.new HF4.out).ext e3).new HFw5.out, ((HS1.out.new HF4.out).ext e3).new HFw5.out⟩, fun z hz => (e3 z (by omega)).trans (HX1.out z (by omega)), ((HF1.out.step HF2.out).step HF4.out).step HFw5.out, by omega⟩
end Go.Proofs.YtmdhlodafjpnmaaGreat
namespace Go.Proofs.YtmdhlodafjpnmaaGreat
open Go.RowKit
set_option linter.unusedVariables false
set_option linter.unusedSimpArgs false
set_option maxRecDepth 100000
set_option maxHeartbeats 4000000

theorem DupOut.step {own o1 : Nat → Nat} {c d : Nat} {y z : CC} {a b w : World} (hx : Ext a own o1) (hf : FrO own (fun z => z = c ∨ z = c + 4 ∨ z = c + 8) a b) (h : DupOut o1 c d z b w) : DupOut own c d z a w := by
  obtain ⟨o2, k1, k2, k3⟩ := h
  exact ⟨o2, hx.step k1 hf.size, k2, hf.trans k3 hx⟩
section
variable {w : World} {own : Nat → Nat} {c d : Nat} {x : CC}
theorem dupCloseB_0 (h : DupB w own c d x) (hc : c % 4 = 1) :
    Calls Tryz.prog 103 #[.pointer (some ⟨d, 0, none⟩), .int .i64 0] w fun e w' => e = .returned (.int .i64 (x.close false).2) ∧ DupOut own c d (x.close false).1 w w' := by
  have HC := Lib.hid (dupCheckB 0 (.inl rfl) h)
  have HH := Lib.hid h
  obtain ⟨s0, s1, hb, h0, h1⟩ := h.at_
  have c2 : w.cell? ⟨d, 2, none⟩ = some (.bool x.a0) := hb.at 2 _ rfl
  cases ha : x.a0 with
  | true =>
    rw [ha] at c2
    have hx : x.close false = (x, 14) := by unfold CC.close CC.isShut; simp [ha]
    rw [hx]
    clear h hb h0 h1
    go_enter Tryz.func103, Tryz.ntmps103
    go_wp2_with (go_at_call 86; refine HC.out.mono ?_; rintro e w' ⟨rfl, rfl⟩)
    go_ret
    exact ⟨rfl, DupOut.new HH.out (Fr.refl [] _)⟩
  | false =>
    rw [ha] at c2
    have hx : x.close false = ((((x.shut false).closeW false).1.closeR false).1, 0) := by unfold CC.close CC.isShut; simp [ha]
    rw [hx]
    have z2 : w.frozen? ⟨d, 2, none⟩ = false := blk_frozen hb 2
    have fs : Fr [d] w (w.setCell ⟨d, 2, none⟩ (.bool true)) := (Fr.refl _ _).setCell (fun _ => by simp) _
    have hod := h.od
    have hT : DupB (w.setCell ⟨d, 2, none⟩ (.bool true)) own c d (x.shut false) :=
      ⟨h.od, s0, s1, blk_set hb (k := 2) (.bool true), h0.keep fs (fun z hz hl => by rw [List.mem_singleton] at hz; subst hz; rw [hod]; omega), h1.keep fs (fun z hz hl => by rw [List.mem_singleton] at hz; subst hz; rw [hod]; omega)⟩
    have HT := Lib.hid hT
    have HFS := Lib.hid (show FrO own (fun z => z = c ∨ z = c + 4 ∨ z = c + 8) w (w.setCell ⟨d, 2, none⟩ (.bool true)) from FrO.of fs (fun z hz => by rw [List.mem_singleton] at hz; subst hz; exact .inl hod))
    have ix0 : ∀ W : World, (Instr.index 221 (.agg #[.func (.func 141) #[.pointer (some ⟨d, 0, none⟩)] #[], .func (.func 142) #[.pointer (some ⟨d, 0, none⟩)] #[]]) (.int .i64 0)).run Tryz.prog W = .ok (.func (.func 141) #[.pointer (some ⟨d, 0, none⟩)] #[]) W := fun W => by kernel_rfl
    have ix1 : ∀ W : World, (Instr.index 221 (.agg #[.func (.func 141) #[.pointer (some ⟨d, 0, none⟩)] #[], .func (.func 142) #[.pointer (some ⟨d, 0, none⟩)] #[]]) (.int .i64 1)).run Tryz.prog W = .ok (.func (.func 142) #[.pointer (some ⟨d, 0, none⟩)] #[]) W := fun W => by kernel_rfl
    obtain ⟨y, hy⟩ : ∃ y, x.shut false = y := ⟨_, rfl⟩
    rw [hy] at HT ⊢
    obtain ⟨y1, hy1⟩ : ∃ z, (y.closeW false).1 = z := ⟨_, rfl⟩
    rw [hy1]
    obtain ⟨y2, hy2⟩ : ∃ z, (y1.closeR false).1 = z := ⟨_, rfl⟩
    rw [hy2]
    have HY := Lib.hid (And.intro hy1 hy2)
    clear h hT hb h0 h1 hx hod fs hy hy1 hy2
    go_enter Tryz.func103, Tryz.ntmps103
    go_wp2_with (go_at_call 86; refine HC.out.mono ?_; rintro e w' ⟨rfl, rfl⟩)
    obtain ⟨w0, hw0⟩ : ∃ w0, w.setCell ⟨d, 2, none⟩ (.bool true) = w0 := ⟨_, rfl⟩
    rw [hw0] at HT HFS ⊢
    clear hw0
    go_loopw [32] (fun i wr => ∃ k : Int, i = .int .i64 k ∧ (k = 0 ∧ wr = w0 ∨ k = 1 ∧ DupOut own c d y1 w0 wr ∨ k = 2 ∧ DupOut own c d y2 w0 wr)) (fun i _ => 2 - (intOf i).toNat)
    case atStart => exact ⟨0, rfl, .inl ⟨rfl, rfl⟩⟩
    case round =>
      obtain ⟨k, rfl, ⟨rfl, rfl⟩ | ⟨rfl, t1⟩ | ⟨rfl, t2⟩⟩ := hrel
      · have HW := Lib.hid (dupCW_0 HT.out hc)
        rw [HY.out.1] at HW
        go_wp2_with (go_at_call 141; refine HW.out.mono ?_; rintro e w1 ⟨rfl, t1⟩)
        go_roundw
        case rel => exact ⟨1, rfl, .inr (.inl ⟨rfl, t1⟩)⟩
        case measure => simp [intOf]
      · obtain ⟨o1, x1, d1, f1⟩ := t1
        have HR := Lib.hid (dupCR_0 d1 hc)
        rw [HY.out.2] at HR
        have HX1 := Lib.hid (And.intro x1 f1)
        clear x1 d1 f1
        go_wp2_with (go_at_call 142; refine HR.out.mono ?_; rintro e w1 ⟨rfl, t2⟩)
        go_roundw
        case rel => exact ⟨2, rfl, .inr (.inr ⟨rfl, DupOut.step (y := y1) HX1.out.1 HX1.out.2 t2⟩)⟩
        case measure => simp [intOf]
      · have H2 := Lib.hid t2
        clear t2
        go_wp2
        go_ret
        exact ⟨rfl, DupOut.step (y := y) (Ext.refl _ _) HFS.out H2.out⟩
theorem dupCloseB_1 (h : DupB w own c d x) (hc : c % 4 = 1) :
    Calls Tryz.prog 103 #[.pointer (some ⟨d, 0, none⟩), .int .i64 1] w fun e w' => e = .returned (.int .i64 (x.close true).2) ∧ DupOut own c d (x.close true).1 w w' := by
  have HC := Lib.hid (dupCheckB 1 (.inr rfl) h)
  have HH := Lib.hid h
  obtain ⟨s0, s1, hb, h0, h1⟩ := h.at_
  have c2 : w.cell? ⟨d, 3, none⟩ = some (.bool x.a1) := hb.at 3 _ rfl
  cases ha : x.a1 with
  | true =>
    rw [ha] at c2
    have hx : x.close true = (x, 14) := by unfold CC.close CC.isShut; simp [ha]
    rw [hx]
    clear h hb h0 h1
    go_enter Tryz.func103, Tryz.ntmps103
    go_wp2_with (go_at_call 86; refine HC.out.mono ?_; rintro e w' ⟨rfl, rfl⟩)
    go_ret
    exact ⟨rfl, DupOut.new HH.out (Fr.refl [] _)⟩
  | false =>
    rw [ha] at c2
    have hx : x.close true = ((((x.shut true).closeW true).1.closeR true).1, 0) := by unfold CC.close CC.isShut; simp [ha]
    rw [hx]
    have z2 : w.frozen? ⟨d, 3, none⟩ = false := blk_frozen hb 3
    have fs : Fr [d] w (w.setCell ⟨d, 3, none⟩ (.bool true)) := (Fr.refl _ _).setCell (fun _ => by simp) _
    have hod := h.od
    have hT : DupB (w.setCell ⟨d, 3, none⟩ (.bool true)) own c d (x.shut true) :=
      ⟨h.od, s0, s1, blk_set hb (k := 3) (.bool true), h0.keep fs (fun z hz hl => by rw [List.mem_singleton] at hz; subst hz; rw [hod]; omega), h1.keep fs (fun z hz hl => by rw [List.mem_singleton] at hz; subst hz; rw [hod]; omega)⟩
    have HT := Lib.hid hT
    have HFS := Lib.hid (show FrO own (fun z => z = c ∨ z = c + 4 ∨ z = c + 8) w (w.setCell ⟨d, 3, none⟩ (.bool true)) from FrO.of fs (fun z hz => by rw [List.mem_singleton] at hz; subst hz; exact .inl hod))
    have ix0 : ∀ W : World, (Instr.index 221 (.agg #[.func (.func 141) #[.pointer (some ⟨d, 0, none⟩)] #[], .func (.func 142) #[.pointer (some ⟨d, 0, none⟩)] #[]]) (.int .i64 0)).run Tryz.prog W = .ok (.func (.func 141) #[.pointer (some ⟨d, 0, none⟩)] #[]) W := fun W => by kernel_rfl
    have ix1 : ∀ W : World, (Instr.index 221 (.agg #[.func (.func 141) #[.pointer (some ⟨d, 0, none⟩)] #[], .func (.func 142) #[.pointer (some ⟨d, 0, none⟩)] #[]]) (.int .i64 1)).run Tryz.prog W = .ok (.func (.func 142) #[.pointer (some ⟨d, 0, none⟩)] #[]) W := fun W => by kernel_rfl
    obtain ⟨y, hy⟩ : ∃ y, x.shut true = y := ⟨_, rfl⟩
    rw [hy] at HT ⊢
    obtain ⟨y1, hy1⟩ : ∃ z, (y.closeW true).1 = z := ⟨_, rfl⟩
    rw [hy1]
    obtain ⟨y2, hy2⟩ : ∃ z, (y1.closeR true).1 = z := ⟨_, rfl⟩
    rw [hy2]
    have HY := Lib.hid (And.intro hy1 hy2)
    clear h hT hb h0 h1 hx hod fs hy hy1 hy2
    go_enter Tryz.func103, Tryz.ntmps103
    go_wp2_with (go_at_call 86; refine HC.out.mono ?_; rintro e w' ⟨rfl, rfl⟩)
    obtain ⟨w0, hw0⟩ : ∃ w0, w.setCell ⟨d, 3, none⟩ (.bool true) = w0 := ⟨_, rfl⟩
    rw [hw0] at HT HFS ⊢
    clear hw0
    go_loopw [32] (fun i wr => ∃ k : Int, i = .int .i64 k ∧ (k = 0 ∧ wr = w0 ∨ k = 1 ∧ DupOut own c d y1 w0 wr ∨ k = 2 ∧ DupOut own c d y2 w0 wr)) (fun i _ => 2 - (intOf i).toNat)
    case atStart => exact ⟨0, rfl, .inl ⟨rfl, rfl⟩⟩
    case round =>
      obtain ⟨k, rfl, ⟨rfl, rfl⟩ | ⟨rfl, t1⟩ | ⟨rfl, t2⟩⟩ := hrel
      · have HW := Lib.hid (dupCW_1 HT.out hc)
        rw [HY.out.1] at HW
        go_wp2_with (go_at_call 141; refine HW.out.mono ?_; rintro e w1 ⟨rfl, t1⟩)
        go_roundw
        case rel => exact ⟨1, rfl, .inr (.inl ⟨rfl, t1⟩)⟩
        case measure => simp [intOf]
      · obtain ⟨o1, x1, d1, f1⟩ := t1
        have HR := Lib.hid (dupCR_1 d1 hc)
        rw [HY.out.2] at HR
        have HX1 := Lib.hid (And.intro x1 f1)
        clear x1 d1 f1
        go_wp2_with (go_at_call 142; refine HR.out.mono ?_; rintro e w1 ⟨rfl, t2⟩)
        go_roundw
        case rel => exact ⟨2, rfl, .inr (.inr ⟨rfl, DupOut.step (y := y1) HX1.out.1 HX1.out.2 t2⟩)⟩
        case measure => simp [intOf]
      · have H2 := Lib.hid t2
        clear t2
        go_wp2
        go_ret
        exact ⟨rfl, DupOut.step (y := y) (Ext.refl _ _) HFS.out H2.out⟩
end
end Go.Proofs.YtmdhlodafjpnmaaGreat
namespace Go.Proofs.YtmdhlodafjpnmaaGreat
open Go.RowKit
set_option linter.unusedVariables false
set_option linter.unusedSimpArgs false
set_option maxRecDepth 100000
set_option maxHeartbeats 4000000

def CC.beginD (x : CC) (e : Bool) (dt : List UInt8) : CC × Int := if e then ({ x with s1 := (x.s1.begin dt).1 }, (x.s1.begin dt).2) else ({ x with s0 := (x.s0.begin dt).1 }, (x.s0.begin dt).2)
section
variable {w : World} {own : Nat → Nat} {c d : Nat} {x : CC}
end
end Go.Proofs.YtmdhlodafjpnmaaGreat
namespace Go.Proofs.YtmdhlodafjpnmaaGreat
open Go.RowKit
set_option linter.unusedVariables false
set_option linter.unusedSimpArgs false
set_option maxRecDepth 100000
set_option maxHeartbeats 4000000

theorem fill_codes (y : SS) : y.fill.wr = y.wr ∧ y.fill.rd = y.rd := by unfold SS.fill; split <;> exact ⟨rfl, rfl⟩
theorem takeN_codes (x : SS) (m : Nat) : (x.takeN m).2.wr = x.wr ∧ (x.takeN m).2.rd = x.rd := by unfold SS.takeN; (repeat' split) <;> exact ⟨rfl, rfl⟩
theorem read_codes (x : SS) (m : Int) : (x.read m).1.wr = x.wr ∧ (x.read m).1.rd = x.rd := by
  have h1 := fill_codes (x.takeN m.toNat).2
  have h2 := takeN_codes x m.toNat
  unfold SS.read
  repeat' split
  all_goals first | exact ⟨rfl, rfl⟩ | exact ⟨h1.1.trans h2.1, h1.2.trans h2.2⟩
theorem begin_codes (x : SS) (d : List UInt8) : (x.begin d).1.wr = x.wr ∧ (x.begin d).1.rd = x.rd := by
  unfold SS.begin
  repeat' split
  all_goals first | exact ⟨rfl, rfl⟩ | exact fill_codes _
theorem CcOk.readN {x : CC} (h : CcOk x) (e : Bool) (m : Int) : CcOk (x.readN e m).1 := by
  have k0 := read_codes x.s0 m
  have k1 := read_codes x.s1 m
  cases e with
  | false => exact ⟨h.s0, h.s1.read m, h.w0, h.r0, h.w1.imp (k1.1.trans ·) (k1.1.trans ·), h.r1.imp (k1.2.trans ·) (k1.2.trans ·), fun ha => ⟨(h.c0 ha).1, k1.2.trans (h.c0 ha).2⟩, fun ha => ⟨k1.1.trans (h.c1 ha).1, (h.c1 ha).2⟩⟩
  | true => exact ⟨h.s0.read m, h.s1, h.w0.imp (k0.1.trans ·) (k0.1.trans ·), h.r0.imp (k0.2.trans ·) (k0.2.trans ·), h.w1, h.r1, fun ha => ⟨k0.1.trans (h.c0 ha).1, (h.c0 ha).2⟩, fun ha => ⟨(h.c1 ha).1, k0.2.trans (h.c1 ha).2⟩⟩
theorem CcOk.beginD {x : CC} (h : CcOk x) (e : Bool) {d : List UInt8} (hd : d.length ≤ 65536) : CcOk (x.beginD e d).1 := by
  have k0 := begin_codes x.s0 d
  have k1 := begin_codes x.s1 d
  cases e with
  | true => exact ⟨h.s0, h.s1.begin hd, h.w0, h.r0, h.w1.imp (k1.1.trans ·) (k1.1.trans ·), h.r1.imp (k1.2.trans ·) (k1.2.trans ·), fun ha => ⟨(h.c0 ha).1, k1.2.trans (h.c0 ha).2⟩, fun ha => ⟨k1.1.trans (h.c1 ha).1, (h.c1 ha).2⟩⟩
  | false => exact ⟨h.s0.begin hd, h.s1, h.w0.imp (k0.1.trans ·) (k0.1.trans ·), h.r0.imp (k0.2.trans ·) (k0.2.trans ·), h.w1, h.r1, fun ha => ⟨k0.1.trans (h.c0 ha).1, (h.c0 ha).2⟩, fun ha => ⟨(h.c1 ha).1, k0.2.trans (h.c1 ha).2⟩⟩
theorem cc0_ok {cap : Int} (h : 0 ≤ cap) (h' : cap ≤ 4096) : CcOk (cc0 cap) := ⟨ss0_ok h h', ss0_ok h h', .inl rfl, .inl rfl, .inl rfl, .inl rfl, (fun h => by cases h), (fun h => by cases h)⟩
/-- A connection of a net: its number, what it is, its block. -/
structure CG where
  ref : Nat
  x : CC
  d : Nat
def CG.ent (y : CG) : Value × Value := (.int .i64 y.ref, .pointer (some ⟨y.d, 0, none⟩))
structure ConnG (w : World) (own : Nat → Nat) (y : CG) : Prop where
  dup : DupB w own (16 * y.ref + 1) y.d y.x
  ok : CcOk y.x
  op : (y.x.a0 && y.x.a1) = false
theorem ConnG.keep {S : List Nat} {w w' : World} {own : Nat → Nat} {y : CG} (h : ConnG w own y) (f : Fr S w w') (hS : ∀ z ∈ S, z < w.heap.size → own z ≠ 16 * y.ref + 1 ∧ own z ≠ 16 * y.ref + 5 ∧ own z ≠ 16 * y.ref + 9 ∧ own z ≠ 3) : ConnG w' own y :=
  ⟨h.dup.keep f (fun z hz hl => hS z hz hl), h.ok, h.op⟩
theorem ConnG.ext {w : World} {own own' : Nat → Nat} {y : CG} (h : ConnG w own y) (he : Ext w own own') : ConnG w own' y := ⟨h.dup.ext he, h.ok, h.op⟩
theorem ConnG.new {w w' : World} {own : Nat → Nat} {y : CG} (h : ConnG w own y) (f : Fr [] w w') : ConnG w' own y := ⟨h.dup.new f, h.ok, h.op⟩
end Go.Proofs.YtmdhlodafjpnmaaGreat
namespace Go.Proofs.YtmdhlodafjpnmaaGreat
set_option linter.unusedVariables false
set_option linter.unusedSimpArgs false

theorem closeW_codes (x : SS) (h : x.wr = 0 ∨ x.wr = 13) : (x.closeW 13).1.wr = 13 ∧ (x.closeW 13).1.rd = x.rd := by
  unfold SS.closeW
  split
  · exact ⟨rfl, rfl⟩
  · rename_i hn
    exact ⟨h.resolve_left hn, rfl⟩
theorem closeR_codes (x : SS) (h : x.rd = 0 ∨ x.rd = 14) : (x.closeR 14).1.wr = x.wr ∧ (x.closeR 14).1.rd = 14 := by
  unfold SS.closeR
  split
  · exact ⟨rfl, rfl⟩
  · rename_i hn
    exact ⟨rfl, h.resolve_left hn⟩
theorem CcOk.close {x : CC} (h : CcOk x) (e : Bool) : CcOk (x.close e).1 := by
  unfold CC.close
  split
  · exact h
  · cases e with
    | false =>
      have k0 := closeW_codes x.s0 h.w0
      have k1 := closeR_codes x.s1 h.r1
      show CcOk ⟨(x.s0.closeW 13).1, (x.s1.closeR 14).1, true, x.a1⟩
      exact ⟨h.s0.closeW, h.s1.closeR, .inr k0.1, h.r0.imp (k0.2.trans ·) (k0.2.trans ·), h.w1.imp (k1.1.trans ·) (k1.1.trans ·), .inr k1.2, fun _ => ⟨k0.1, k1.2⟩, fun ha => ⟨k1.1.trans (h.c1 ha).1, k0.2.trans (h.c1 ha).2⟩⟩
    | true =>
      have k0 := closeR_codes x.s0 h.r0
      have k1 := closeW_codes x.s1 h.w1
      show CcOk ⟨(x.s0.closeR 14).1, (x.s1.closeW 13).1, x.a0, true⟩
      exact ⟨h.s0.closeR, h.s1.closeW, h.w0.imp (k0.1.trans ·) (k0.1.trans ·), .inr k0.2, .inr k1.1, h.r1.imp (k1.2.trans ·) (k1.2.trans ·), fun ha => ⟨k0.1.trans (h.c0 ha).1, k1.2.trans (h.c0 ha).2⟩, fun _ => ⟨k1.1, k0.2⟩⟩
end Go.Proofs.YtmdhlodafjpnmaaGreat
namespace Go.Proofs.YtmdhlodafjpnmaaGreat
open Go.RowKit
open Go.Maps (Keyed)
set_option linter.unusedVariables false
set_option maxRecDepth 100000
set_option maxHeartbeats 4000000

structure NetG (w : World) (own : Nat → Nat) (B : NB) (L : List LB) (C : List CG) (G : Nat) : Prop where
  net : NetIs w B.n B.r B.m B.lm B.cm (L.map LB.nm) (L.map LB.ent) (C.map CG.ent)
  on : own B.n = 0 ∧ own B.r = 0 ∧ own B.m = 0 ∧ own B.lm = 0 ∧ own B.cm = 0
  ls : ∀ x ∈ L, ListW w own G x
  cs : ∀ y ∈ C, ConnG w own y
  refs : (L.map (·.ref)).Nodup
  crefs : (C.map (·.ref)).Nodup
  adrs : L.Pairwise fun x y => ¬ (x.s = y.s ∧ x.p = y.p)
  queue : ∀ k ∈ qs L, ∃ y ∈ C, (y.ref : Int) = k ∧ y.x.a1 = false
  vals : (qs L).Nodup
  nl : L.length ≤ 128
  nc : C.length ≤ 128
section
variable {S : List Nat} {w w' : World} {own own' : Nat → Nat} {B : NB} {L : List LB} {C : List CG} {G G' : Nat}
theorem NetG.keep (h : NetG w own B L C G) (hf : Fr S w w') (hS : ∀ z ∈ S, ¬ netO (own z) ∧ own z ≠ 3) : NetG w' own B L C G := by
  obtain ⟨o1, o2, o3, o4, o5⟩ := h.on
  refine ⟨h.net.keep hf ?_ ?_ ?_ ?_ ?_, h.on, fun x hx => (h.ls x hx).keep hf (fun z hz he => (hS z hz).1 (.inr (.inr (by rw [he]; omega)))), fun y hy => (h.cs y hy).keep hf (fun z hz hl => ?_), h.refs, h.crefs, h.adrs, h.queue, h.vals, h.nl, h.nc⟩
  · intro hm; exact (hS _ hm).1 (.inl (by assumption))
  · intro hm; exact (hS _ hm).1 (.inl (by assumption))
  · intro hm; exact (hS _ hm).1 (.inl (by assumption))
  · intro hm; exact (hS _ hm).1 (.inl (by assumption))
  · intro hm; exact (hS _ hm).1 (.inl (by assumption))
  · have h1 := (hS z hz).1
    have h2 := (hS z hz).2
    unfold netO at h1
    omega
theorem NetG.new (h : NetG w own B L C G) (hf : Fr [] w w') : NetG w' own B L C G := h.keep hf (fun z hz => by cases hz)
theorem NetG.ext (h : NetG w own B L C G) (he : Ext w own own') : NetG w own' B L C G := by
  obtain ⟨o1, o2, o3, o4, o5⟩ := h.on
  exact ⟨h.net, ⟨(he _ (cell_lt h.net.c0)).trans o1, (he _ (cell_lt h.net.reg.c0)).trans o2, (he _ h.net.reg.map.lt).trans o3, (he _ h.net.ls.lt).trans o4, (he _ h.net.cs.lt).trans o5⟩, fun x hx => (h.ls x hx).ext he, fun y hy => (h.cs y hy).ext he, h.refs, h.crefs, h.adrs, h.queue, h.vals, h.nl, h.nc⟩
theorem NetG.mono (h : NetG w own B L C G) (hg : G ≤ G') : NetG w own B L C G' :=
  ⟨h.net, h.on, fun x hx => (h.ls x hx).mono hg, h.cs, h.refs, h.crefs, h.adrs, h.queue, h.vals, h.nl, h.nc⟩
end
end Go.Proofs.YtmdhlodafjpnmaaGreat
namespace Go.Proofs.YtmdhlodafjpnmaaGreat
open Go.RowKit
open Go.Maps (Keyed)
set_option linter.unusedVariables false

set_option maxRecDepth 100000 in
set_option maxHeartbeats 4000000 in
theorem netPair_okG (own : Nat → Nat) (c0 : Nat) (hcm : c0 % 4 = 1) (n r m lm cm : Nat) (names ls cs : List (Value × Value)) (c k : Nat) (w : World) (h : NetIs w n r m lm cm names ls cs) (hc : c ≤ 4096) (hk : ∀ j : Nat, j < k → ∃ d', (.int .i64 j, .pointer (some ⟨d', 0, none⟩)) ∈ cs) (hx : ∀ x ∈ cs, x.1 ≠ .int .i64 k) (hk' : k ≤ 100000) (hn : ¬ (128 ≤ (cs.length : Int))) (hocm : own cm = 0) :
    Calls Tryz.prog 33 #[.pointer (some ⟨n, 0, none⟩), .int .i64 c] w fun e w' => ∃ (d : Nat) (own1 : Nat → Nat), e = .returned (.tuple #[.int .i64 k, .int .i64 0]) ∧ NetIs w' n r m lm cm names ls (cs ++ [(.int .i64 k, .pointer (some ⟨d, 0, none⟩))]) ∧ DupB w' own1 c0 d (cc0 c) ∧ Ext w own own1 ∧ Fr [cm] w w' := by
  have c2 := h.c2
  have HK := Lib.hid hk
  have HX := Lib.hid hx
  have hne := h.ne
  have hclt := h.cs.lt
  clear hk hx
  go_enter Tryz.func33, Tryz.ntmps33
  go_wp2_with (first
    | (go_at_call 55; refine (netNone_any _ h).mono ?_; rintro e w' ⟨rfl, rfl⟩)
    | (go_at_call 80; refine (dupNewB own c0 c hc hcm _).mono ?_; rintro e w1 ⟨d, own1, rfl, hd, hx1, f1, hdl⟩; have j2 := f1.keep c2 (by simp); have hlen := (h.cs.keep f1 (by simp)).len (t := 51) (e := 55) Tryz.underlying51)
    | (go_at_call 83; refine (addD cm cs k d _ (h.cs.keep f1 (by simp)) HK.out HX.out hk').mono ?_; rintro e w2 ⟨rfl, hm2, f2⟩))
  go_ret2
  have g2 : Fr [cm] w w2 := (f1.mono (fun x hx => by cases hx)).trans f2 (fun x hx _ => hx)
  have ho1 : own1 cm = 0 := (hx1 cm hclt).trans hocm
  exact ⟨d, own1, rfl, ⟨g2.keep h.c0 (by simp; omega), g2.keep h.c1 (by simp; omega), g2.keep h.c2 (by simp; omega), h.reg.keep g2 (by simp; omega) (by simp; omega), h.ls.keep g2 (by simp; omega), hm2, hne⟩, hd.keep f2 (fun x hx _ => by simp only [List.mem_singleton] at hx; subst hx; rw [ho1]; omega), hx1, g2⟩

section
variable (n r m lm cm : Nat) (names ls cs : List (Value × Value)) (s : ByteArray) (p : Int) (c : Nat) (w : World)

set_option maxRecDepth 100000 in
set_option maxHeartbeats 4000000 in
theorem netConnect_pushG (own : Nat → Nat) (c0 cl : Nat) (hcm : c0 % 4 = 1) (hcl : cl % 4 = 2) (hocm : own cm = 0) (h : NetIs w n r m lm cm names ls cs) (hs : s.size ≤ 1000000) (hv : addrB s.data.toList p = true) (hc : c ≤ 4096) (v : Int) (b q mm t : Nat) (most : Int) (l : List (Nat × Int)) (g k : Nat) (s' : ByteArray) (p' : Int)
    (hx : (addrV s p, .int .i64 v) ∈ names) (hl : (.int .i64 v, qV b s' p') ∈ ls) (hb : BackIs w b q mm t most false l g) (hlen : (l.length : Int) < most) (hnew : ∀ x ∈ l, x.2 ≠ (k : Int)) (hm' : most ≤ 128) (hg : g < 4611686018427387904)
    (hk : ∀ j : Nat, j < k → ∃ d', (.int .i64 j, .pointer (some ⟨d', 0, none⟩)) ∈ cs) (hxk : ∀ x ∈ cs, x.1 ≠ .int .i64 k) (hk' : k ≤ 100000) (hn : ¬ (128 ≤ (cs.length : Int)))
    (hsep : ∀ x ∈ [b, q, mm, t], x ∉ [n, r, m, lm, cm]) (hoq : own q = cl ∧ own mm = cl ∧ own t = cl) :
    Calls Tryz.prog 31 #[.pointer (some ⟨n, 0, none⟩), .agg #[.string s, .int .i64 p], .int .i64 c] w fun e w' => ∃ (d : Nat) (own1 : Nat → Nat), e = .returned (.tuple #[.int .i64 k, .int .i64 0]) ∧ NetIs w' n r m lm cm names ls (cs ++ [(.int .i64 k, .pointer (some ⟨d, 0, none⟩))]) ∧ BackIs w' b q mm t most false (l ++ [(g + 1, (k : Int))]) (g + 1) ∧ DupB w' own1 c0 d (cc0 c) ∧ Ext w own own1 ∧ Fr [cm, q, mm, t] w w' := by
  have f0 : Fr [] w (w.alloc (.cells #[.string s, .int .i64 p] 28)) := (Fr.refl [] w).alloc _
  have h0 := h.new f0
  simp only [List.mem_cons, List.not_mem_nil, or_false, forall_eq_or_imp, forall_eq, not_or] at hsep
  obtain ⟨⟨b1, b2, b3, b4, b5⟩, ⟨q1, q2, q3, q4, q5⟩, ⟨m1, m2, m3, m4, m5⟩, ⟨t1, t2, t3, t4, t5⟩⟩ := hsep
  have z1 := cell_lt hb.c0
  have z2 := cell_lt hb.queue.c0
  obtain ⟨f', hbm, _⟩ := hb.queue.nodes
  obtain ⟨ff, hmt, _⟩ := hb.tickets
  have z3 := hmt.lt
  have z4 := hbm.lt
  clear hmt hbm
  have HX := Lib.hid hx
  have HV := Lib.hid hv
  have HL := Lib.hid hl
  have HB := Lib.hid hb
  have HK := Lib.hid hk
  have HXK := Lib.hid hxk
  clear hx hv hl hb hk hxk
  have hr0 : (most - (l.length : Int) == 0) = false := by rw [beq_eq_false_iff_ne]; omega
  have HN := Lib.hid hnew
  clear hnew
  have hfd : ∀ W : World, (Instr.field 120 (.agg #[.pointer (some ⟨b, 0, none⟩), .string s', .int .i64 p']) 0).run Tryz.prog W = .ok (.pointer (some ⟨b, 0, none⟩)) W := fun W => by kernel_rfl
  go_enter Tryz.func31, Tryz.ntmps31
  go_wp2_with (first
    | (go_at_call 32; refine (netFind_hit s p v _ h0 hs HV.out HX.out).mono ?_; rintro e w1 ⟨rfl, f1⟩)
    | (go_at_call 80; refine (dupNew_ok c hc _).mono ?_; rintro e w2 ⟨d, rfl, hd, f2⟩; have j1 : w2.cell? ⟨n, 1, none⟩ = some (.map (some lm)) := ((h0.new f1).new f2).c1; have hlk : (Instr.lookup 49 (.map (some lm)) (.int .i64 v) false).run Tryz.prog w2 = .ok (.agg #[.pointer (some ⟨b, 0, none⟩), .string s', .int .i64 p']) w2 := ((h0.new f1).new f2).ls.hit keyInt (t := 49) (e := 120) Tryz.underlying49 HL.out false)
    | (go_at_call 81; refine (backRoom_any b q mm t most l g _ (((HB.out.keep f0 (by simp) (by simp) (by simp) (by simp)).keep f1 (by simp) (by simp) (by simp) (by simp)).keep f2 (by simp) (by simp) (by simp) (by simp)) (by omega) hm' (by omega)).mono ?_; rintro e w3 ⟨rfl, nn, rfl⟩)
    | (go_at_call 33; refine (netPair_okG own c0 hcm n r m lm cm names ls cs c k _ (((h0.new f1).new f2).new ((Fr.refl [] w2).drewN nn)) hc HK.out HXK.out hk' (by omega) hocm).mono ?_; rintro e w4 ⟨d4, own4, rfl, n4, hd4, hx4, f4⟩; have j4 : w4.cell? ⟨n, 1, none⟩ = some (.map (some lm)) := n4.c1; have hlk4 : (Instr.lookup 49 (.map (some lm)) (.int .i64 v) false).run Tryz.prog w4 = .ok (.agg #[.pointer (some ⟨b, 0, none⟩), .string s', .int .i64 p']) w4 := n4.ls.hit keyInt (t := 49) (e := 120) Tryz.underlying49 HL.out false)
    | (go_at_call 76; refine (backPush_any b q mm t most l g k _ ((((HB.out.keep f0 (by simp) (by simp) (by simp) (by simp)).keep f1 (by simp) (by simp) (by simp) (by simp)).keep f2 (by simp) (by simp) (by simp) (by simp)).drewN nn |>.keep f4 (by simp; omega) (by simp; omega) (by simp; omega) (by simp; omega)) hlen hm' hg (by omega) (by omega) HN.out).mono ?_; rintro e w5 ⟨rfl, hb5, f5⟩))
  go_ret2
  have e1 := f0.size
  have e2 := f1.size
  have e3 := f2.size
  have gA : Fr [] w (w2.drewN nn) := ((f0.step f1).step f2).drewN nn
  have g4 : Fr [cm, q, mm, t] w w4 := (gA.mono (T := [cm, q, mm, t]) (fun x hx => by cases hx)).trans f4 (fun x hx _ => by simp at hx; simp [hx])
  have g5 := g4.trans f5 (fun x hx _ => by simp at hx; simp; omega)
  have sz4 := gA.size
  have hx : Ext w own own4 := fun z hz => hx4 z (Nat.lt_of_lt_of_le hz sz4)
  refine ⟨d4, own4, rfl, n4.keep f5 (by simp; omega) (by simp; omega) (by simp; omega) (by simp; omega) (by simp; omega), hb5, hd4.keep f5 (fun z hz _ => ?_), hx, g5⟩
  simp only [List.mem_cons, List.not_mem_nil, or_false] at hz
  obtain ⟨y1, y2, y3⟩ := hoq
  rcases hz with rfl | rfl | rfl
  · rw [hx _ (by omega), y1]; omega
  · rw [hx _ (by omega), y2]; omega
  · rw [hx _ (by omega), y3]; omega
end
end Go.Proofs.YtmdhlodafjpnmaaGreat
namespace Go.Proofs.YtmdhlodafjpnmaaGreat
open Go.RowKit
open Go.Maps (Keyed)
set_option linter.unusedVariables false
set_option maxRecDepth 100000
set_option maxHeartbeats 4000000

/-- A net, plain. -/
structure NG where
  L : List PN.PL
  C : List PG
def CG.pg (y : CG) : PG := ⟨y.ref, y.x⟩
def plainG (L : List LB) (C : List CG) : NG := ⟨L.map LB.pl, C.map CG.pg⟩
def NG.pair (N : NG) (c : Nat) : NG × Int × Int :=
  if 128 ≤ N.C.length then (N, 0, 7) else ({ N with C := N.C ++ [⟨PN.free (N.C.map (·.ref)), cc0 c⟩] }, PN.free (N.C.map (·.ref)), 0)
theorem free_factsG (C : List CG) : (∀ j : Nat, j < PN.free (C.map (·.ref)) → ∃ d', (.int .i64 j, .pointer (some ⟨d', 0, none⟩)) ∈ C.map CG.ent) ∧ (∀ x ∈ C.map CG.ent, x.1 ≠ .int .i64 (PN.free (C.map (·.ref)) : Nat)) ∧ PN.free (C.map (·.ref)) ≤ C.length := by
  obtain ⟨h1, h2, h3⟩ := PN.free_spec (C.map (·.ref))
  refine ⟨fun j hj => ?_, fun x hx he => ?_, by simpa using h3⟩
  · obtain ⟨y, hy, rfl⟩ := List.mem_map.1 (h2 j hj)
    exact ⟨y.d, List.mem_map.2 ⟨y, hy, rfl⟩⟩
  · obtain ⟨y, hy, rfl⟩ := List.mem_map.1 hx
    exact h1 (List.mem_map.2 ⟨y, hy, i64_inj he⟩)
theorem netPair_g {own : Nat → Nat} {B : NB} {L : List LB} {C : List CG} {G : Nat} (c : Nat) (w : World) (h : NetG w own B L C G) (hc : c ≤ 4096) :
    Calls Tryz.prog 33 #[.pointer (some ⟨B.n, 0, none⟩), .int .i64 c] w fun e w' => ∃ own' C',
      e = .returned (.tuple #[.int .i64 ((plainG L C).pair c).2.1, .int .i64 ((plainG L C).pair c).2.2]) ∧ plainG L C' = ((plainG L C).pair c).1 ∧ NetG w' own' B L C' G ∧ Ext w own own' ∧ FrO own netO w w' := by
  have hcr : (plainG L C).C.map (·.ref) = C.map (·.ref) := by simp [plainG, CG.pg]
  have hcl : (plainG L C).C.length = C.length := by simp [plainG]
  unfold NG.pair
  rw [hcr, hcl]
  by_cases hnc : 128 ≤ C.length
  · rw [if_pos hnc]
    refine (netPair_full B.n B.r B.m B.lm B.cm _ _ _ c w h.net hc (by simp; omega)).mono ?_
    rintro e w' ⟨rfl, hf⟩
    exact ⟨own, C, rfl, rfl, h.new hf, Ext.refl _ _, FrO.new hf⟩
  · rw [if_neg hnc]
    obtain ⟨k1, k2, k3⟩ := free_factsG C
    obtain ⟨hf1, hf2, hf3⟩ := PN.free_spec (C.map (·.ref))
    obtain ⟨k, hk⟩ : ∃ k, PN.free (C.map (·.ref)) = k := ⟨_, rfl⟩
    rw [hk] at k1 k2 k3 hf1 ⊢
    obtain ⟨o1, o2, o3, o4, o5⟩ := h.on
    refine (netPair_okG own (16 * k + 1) (by omega) B.n B.r B.m B.lm B.cm _ _ _ c k w h.net hc k1 k2 (by omega) (by simp; omega) o5).mono ?_
    rintro e w' ⟨d, own1, rfl, n', d', hE, hf⟩
    refine ⟨own1, C ++ [⟨k, cc0 c, d⟩], rfl, by simp [plainG, CG.pg], ⟨by simpa [CG.ent] using n', ⟨(hE _ (cell_lt h.net.c0)).trans o1, (hE _ (cell_lt h.net.reg.c0)).trans o2, (hE _ h.net.reg.map.lt).trans o3, (hE _ h.net.ls.lt).trans o4, (hE _ h.net.cs.lt).trans o5⟩, ?_, ?_, h.refs, ?_, h.adrs, ?_, h.vals, h.nl, by simp; omega⟩, hE, FrO.of hf (fun z hz => by simp only [List.mem_singleton] at hz; subst hz; exact .inl o5)⟩
    · intro x hx
      refine ((h.ls x hx).ext hE).keep hf (fun z hz he => ?_)
      simp only [List.mem_singleton] at hz
      subst hz
      rw [hE _ h.net.cs.lt, o5] at he
      omega
    · intro y hy
      simp only [List.mem_append, List.mem_singleton] at hy
      rcases hy with hy | rfl
      · refine ((h.cs y hy).ext hE).keep hf (fun z hz hl => ?_)
        simp only [List.mem_singleton] at hz
        subst hz
        rw [hE _ h.net.cs.lt, o5]
        omega
      · exact ⟨d', cc0_ok (by omega) (by omega), rfl⟩
    · rw [List.map_append, List.nodup_append]
      exact ⟨h.crefs, by simp, fun a ha b hb he => hf1 (by simp at hb; subst hb; subst he; exact ha)⟩
    · intro z hz
      obtain ⟨v, hv1, hv2⟩ := h.queue z hz
      exact ⟨v, List.mem_append_left _ hv1, hv2⟩
end Go.Proofs.YtmdhlodafjpnmaaGreat
namespace Go.Proofs.YtmdhlodafjpnmaaGreat
open Go.RowKit
open Go.Maps (Keyed)
set_option linter.unusedVariables false
set_option maxRecDepth 100000
set_option maxHeartbeats 4000000

def NG.connect (N : NG) (s : ByteArray) (p : Int) (c : Nat) : NG × Int × Int :=
  match PN.at? N.L s p with
  | none => (N, 0, 15)
  | some x =>
    if (x.l.length : Int) = x.most then (N, 0, 16)
    else if 128 ≤ N.C.length then (N, 0, 7)
    else (⟨PN.pushL N.L x.ref (PN.free (N.C.map (·.ref)) : Nat), N.C ++ [⟨PN.free (N.C.map (·.ref)), cc0 c⟩]⟩, (PN.free (N.C.map (·.ref)) : Nat), 0)
theorem netConnect_g {own : Nat → Nat} {B : NB} {L : List LB} {C : List CG} {G : Nat} (s : ByteArray) (p : Int) (c : Nat) (w : World) (h : NetG w own B L C G) (hs : s.size ≤ 1000000) (hv : addrB s.data.toList p = true) (hc : c ≤ 4096) (hG : G < 4611686018427387904) :
    Calls Tryz.prog 31 #[.pointer (some ⟨B.n, 0, none⟩), .agg #[.string s, .int .i64 p], .int .i64 c] w fun e w' => ∃ own' L' C',
      e = .returned (.tuple #[.int .i64 ((plainG L C).connect s p c).2.1, .int .i64 ((plainG L C).connect s p c).2.2]) ∧ plainG L' C' = ((plainG L C).connect s p c).1 ∧ NetG w' own' B L' C' (G + 1) ∧ Ext w own own' ∧ FrO own netO w w' := by
  have hcr : (plainG L C).C.map (·.ref) = C.map (·.ref) := by simp [plainG, CG.pg]
  have hcl : (plainG L C).C.length = C.length := by simp [plainG]
  unfold NG.connect
  rw [hcr, hcl]
  rcases hat : PN.at? (plainG L C).L s p with _ | z
  · refine (netConnect_refused B.n B.r B.m B.lm B.cm _ _ _ s p c w h.net hs hv (at_none hat) hc).mono ?_
    rintro e w' ⟨rfl, hf⟩
    exact ⟨own, L, C, rfl, rfl, (h.new hf).mono (by omega), Ext.refl _ _, FrO.new hf⟩
  · obtain ⟨L1, x, L2, rfl, rfl, rfl, rfl⟩ := at_some hat
    have hx := h.ls x (by simp)
    have hn : (addrV x.s x.p, .int .i64 (x.ref : Int)) ∈ (L1 ++ x :: L2).map LB.nm := List.mem_map.2 ⟨x, by simp, rfl⟩
    have hl : (.int .i64 (x.ref : Int), qV x.b x.s x.p) ∈ (L1 ++ x :: L2).map LB.ent := List.mem_map.2 ⟨x, by simp, rfl⟩
    have hlen : (x.pl.l.length : Int) = x.l.length := by simp [LB.pl]
    simp only [hlen, show x.pl.most = x.most from rfl]
    by_cases hfull : (x.l.length : Int) = x.most
    · rw [if_pos hfull]
      refine (netConnect_block B.n B.r B.m B.lm B.cm _ _ _ x.s x.p c w h.net hs hv hc x.ref x.b x.q x.m x.t x.most x.l x.g x.s x.p hn hl hx.back hx.most.1 hx.most.2 hfull.symm).mono ?_
      rintro e w' ⟨rfl, hf⟩
      exact ⟨own, _, C, rfl, rfl, (h.new hf).mono (by omega), Ext.refl _ _, FrO.new hf⟩
    · rw [if_neg hfull]
      have hlt : (x.l.length : Int) < x.most := by have := hx.len; omega
      by_cases hnc : 128 ≤ C.length
      · rw [if_pos hnc]
        refine (netConnect_full B.n B.r B.m B.lm B.cm _ _ _ x.s x.p c w h.net hs hv hc x.ref x.b x.q x.m x.t x.most x.l x.g x.s x.p hn hl hx.back hlt hx.most.2 (by have := hx.g; omega) (by simp; omega)).mono ?_
        rintro e w' ⟨rfl, hf⟩
        exact ⟨own, _, C, rfl, rfl, (h.new hf).mono (by omega), Ext.refl _ _, FrO.new hf⟩
      · rw [if_neg hnc]
        obtain ⟨k1, k2, k3⟩ := free_factsG C
        obtain ⟨hf1, hf2, hf3⟩ := PN.free_spec (C.map (·.ref))
        obtain ⟨k, hk⟩ : ∃ k, PN.free (C.map (·.ref)) = k := ⟨_, rfl⟩
        rw [hk] at k1 k2 k3 hf1 ⊢
        obtain ⟨o1, o2, o3, o4, o5⟩ := h.on
        obtain ⟨x1, x2, x3, x4⟩ := hx.own
        have hnewq : (k : Int) ∉ qs (L1 ++ x :: L2) := fun hm => by
          obtain ⟨y, hy, hy', _⟩ := h.queue k hm
          exact hf1 (List.mem_map.2 ⟨y, hy, by omega⟩)
        have hnew : ∀ z ∈ x.l, z.2 ≠ (k : Int) := fun z hz he => hnewq (by
          rw [qs_mid]
          exact List.mem_append_right _ (List.mem_append_left _ (List.mem_map.2 ⟨z, hz, he⟩)))
        have dif : ∀ a b, own a = 4 * x.ref + 2 → own b = 0 → a ≠ b := fun a b h1 h2 he => by rw [he, h2] at h1; omega
        refine (netConnect_pushG B.n B.r B.m B.lm B.cm _ _ _ x.s x.p c w own (16 * k + 1) (4 * x.ref + 2) (by omega) (by omega) o5 h.net hs hv hc x.ref x.b x.q x.m x.t x.most x.l x.g k x.s x.p hn hl hx.back hlt hnew hx.most.2 (by have := hx.g; omega) k1 k2 (by omega) (by simp; omega) ?_ ⟨x2, x3, x4⟩).mono ?_
        · intro a ha hb
          simp only [List.mem_cons, List.not_mem_nil, or_false] at ha hb
          have ha' : own a = 4 * x.ref + 2 := by rcases ha with rfl | rfl | rfl | rfl <;> assumption
          have hb' : own a = 0 := by rcases hb with rfl | rfl | rfl | rfl | rfl <;> assumption
          omega
        · rintro e w' ⟨d, own1, rfl, n', b', d', hE, hf⟩
          have hS : ∀ z ∈ [B.cm, x.q, x.m, x.t], own z = 0 ∨ own z = 4 * x.ref + 2 := fun z hz => by
            simp only [List.mem_cons, List.not_mem_nil, or_false] at hz
            rcases hz with rfl | rfl | rfl | rfl
            · exact .inl o5
            · exact .inr x2
            · exact .inr x3
            · exact .inr x4
          obtain ⟨g1, g2⟩ := map_one h.refs
          have hlt : ∀ z ∈ [B.cm, x.q, x.m, x.t], z < w.heap.size := fun z hz => by
            obtain ⟨ff, ht, _⟩ := hx.back.tickets
            simp only [List.mem_cons, List.not_mem_nil, or_false] at hz
            rcases hz with rfl | rfl | rfl | rfl
            · exact h.net.cs.lt
            · exact cell_lt hx.back.queue.c0
            · exact map_lt hx.back.queue
            · exact ht.lt
          have keepL : ∀ y ∈ L1 ++ L2, ListW w' (own1) (G + 1) y := fun y hy => by
            have hne : y.ref ≠ x.ref := by rcases List.mem_append.1 hy with hy | hy; exact g1 y hy; exact g2 y hy
            have hyL : y ∈ L1 ++ x :: L2 := by rcases List.mem_append.1 hy with hy | hy <;> simp [hy]
            refine (((h.ls y hyL).mono (Nat.le_succ G)).ext hE).keep hf (fun z hz he => ?_)
            rw [hE z (hlt z hz)] at he
            rcases hS z hz with h0 | h0 <;> omega
          have keepC : ∀ y ∈ C, ConnG w' (own1) y := fun y hy => by
            refine ((h.cs y hy).ext hE).keep hf (fun z hz _ => ?_)
            rw [hE z (hlt z hz)]
            rcases hS z hz with h0 | h0 <;> omega
          have hx' : ListW w' (own1) (G + 1) { x with l := x.l ++ [(x.g + 1, (k : Int))], g := x.g + 1 } := by
            have hxo := (hx.ext hE).own
            exact ⟨b', hxo, hx.adr, hx.sz, hx.port, hx.most, by simp; omega, by have := hx.g; simp; omega⟩
          refine ⟨own1, L1 ++ { x with l := x.l ++ [(x.g + 1, (k : Int))], g := x.g + 1 } :: L2, C ++ [⟨k, cc0 c, d⟩], rfl, ?_, ?_, hE, FrO.of hf (fun z hz => by rcases hS z hz with h0 | h0 <;> rw [h0]; exact .inl rfl; exact .inr (.inr (by omega)))⟩
          · unfold plainG
            congr 1
            · rw [show x.pl.ref = x.ref from rfl, pushL_one h.refs]
              simp [LB.pl]
            · simp [CG.pg]
          · refine ⟨?_, ⟨(hE _ (cell_lt h.net.c0)).trans o1, (hE _ (cell_lt h.net.reg.c0)).trans o2, (hE _ h.net.reg.map.lt).trans o3, (hE _ h.net.ls.lt).trans o4, (hE _ h.net.cs.lt).trans o5⟩, ?_, ?_, ?_, ?_, ?_, ?_, ?_, ?_, ?_⟩
            · have e1 : (L1 ++ { x with l := x.l ++ [(x.g + 1, (k : Int))], g := x.g + 1 } :: L2).map LB.nm = (L1 ++ x :: L2).map LB.nm := by simp [LB.nm]
              have e2 : (L1 ++ { x with l := x.l ++ [(x.g + 1, (k : Int))], g := x.g + 1 } :: L2).map LB.ent = (L1 ++ x :: L2).map LB.ent := by simp [LB.ent]
              rw [e1, e2]
              simpa [CG.ent] using n'
            · intro y hy
              simp only [List.mem_append, List.mem_cons] at hy
              rcases hy with hy | rfl | hy
              · exact keepL y (List.mem_append_left _ hy)
              · exact hx'
              · exact keepL y (List.mem_append_right _ hy)
            · intro y hy
              simp only [List.mem_append, List.mem_singleton] at hy
              rcases hy with hy | rfl
              · exact keepC y hy
              · exact ⟨d', cc0_ok (by omega) (by omega), rfl⟩
            · simpa using h.refs
            · rw [List.map_append, List.nodup_append]
              exact ⟨h.crefs, by simp, fun a ha b hb he => hf1 (by simp at hb; subst hb; subst he; exact ha)⟩
            · have := h.adrs
              simp only [List.pairwise_append, List.pairwise_cons, List.mem_cons, forall_eq_or_imp] at this ⊢
              exact this
            · intro z hz
              rw [qs_mid] at hz
              simp only [List.map_append, List.map_cons, List.map_nil, List.mem_append, List.mem_singleton] at hz
              have old : z ∈ qs (L1 ++ x :: L2) → ∃ v ∈ C ++ [⟨k, cc0 c, d⟩], (v.ref : Int) = z ∧ v.x.a1 = false := fun hz' => by
                obtain ⟨v, hv1, hv2⟩ := h.queue z hz'
                exact ⟨v, List.mem_append_left _ hv1, hv2⟩
              rcases hz with hz | (hz | rfl) | hz
              · exact old (by rw [qs_mid]; exact List.mem_append_left _ hz)
              · exact old (by rw [qs_mid]; exact List.mem_append_right _ (List.mem_append_left _ hz))
              · exact ⟨⟨k, cc0 c, d⟩, by simp, rfl, rfl⟩
              · exact old (by rw [qs_mid]; exact List.mem_append_right _ (List.mem_append_right _ hz))
            · have hv := h.vals
              rw [qs_mid] at hv hnewq ⊢
              simp only [List.map_append, List.map_cons, List.map_nil]
              rw [List.append_assoc (x.l.map (·.2))]
              refine (List.Perm.nodup_iff (l₁ := qs L1 ++ (x.l.map (·.2) ++ ([(k : Int)] ++ qs L2))) (l₂ := (k : Int) :: (qs L1 ++ (x.l.map (·.2) ++ qs L2))) ?_).2 (List.nodup_cons.2 ⟨hnewq, hv⟩)
              rw [← List.append_assoc (qs L1), ← List.append_assoc (qs L1)]
              exact List.perm_middle
            · simpa using h.nl
            · simp; omega
end Go.Proofs.YtmdhlodafjpnmaaGreat
namespace Go.Proofs.YtmdhlodafjpnmaaGreat
open Go.RowKit
open Go.Maps (Keyed)
set_option linter.unusedVariables false
set_option maxRecDepth 100000
set_option maxHeartbeats 4000000

def NG.accept (N : NG) (r : Int) : NG × Int × Int :=
  match PN.byRef N.L r with
  | none => (N, 0, 9)
  | some x => match x.l with
    | [] => (N, 0, 16)
    | k :: _ => ({ N with L := PN.popL N.L x.ref }, k, 0)
theorem netAccept_g {own : Nat → Nat} {B : NB} {L : List LB} {C : List CG} {G : Nat} (ref : Int) (w : World) (h : NetG w own B L C G) (hr : -9223372036854775808 ≤ ref) (hr' : ref ≤ 9223372036854775807) (hG : G < 4611686018427387904) :
    Calls Tryz.prog 34 #[.pointer (some ⟨B.n, 0, none⟩), .int .i64 ref] w fun e w' => ∃ L',
      e = .returned (.tuple #[.int .i64 ((plainG L C).accept ref).2.1, .int .i64 ((plainG L C).accept ref).2.2]) ∧ plainG L' C = ((plainG L C).accept ref).1 ∧ NetG w' own B L' C G ∧ FrO own netO w w' := by
  unfold NG.accept
  rcases hat : PN.byRef (plainG L C).L ref with _ | z
  · refine (netAccept_none ref w h.net hr hr' (by_none hat)).mono ?_
    rintro e w' ⟨rfl, hf⟩
    exact ⟨L, rfl, rfl, h.new hf, FrO.new hf⟩
  · obtain ⟨L1, x, L2, rfl, rfl, rfl⟩ := by_some hat
    have hx := h.ls x (by simp)
    have hl : (.int .i64 (x.ref : Int), qV x.b x.s x.p) ∈ (L1 ++ x :: L2).map LB.ent := List.mem_map.2 ⟨x, by simp, rfl⟩
    obtain ⟨xr, xs, xp, xm, xl, xg, xb, xq, xmm, xt⟩ := x
    cases xl with
    | nil =>
      refine (netAccept_empty xr w h.net xb xq xmm xt xm xg xs xp hl hx.back).mono ?_
      rintro e w' ⟨rfl, hf⟩
      exact ⟨_, rfl, rfl, h.new hf, FrO.new hf⟩
    | cons y l =>
      obtain ⟨tk, v⟩ := y
      refine (netAccept_hit xr w h.net xb xq xmm xt tk xm v l xg xs xp (by have := hx.g; simp only at this; omega) hl hx.back).mono ?_
      rintro e w' ⟨rfl, hb, hf⟩
      obtain ⟨o1, o2, o3, o4, o5⟩ := h.on
      obtain ⟨x1, x2, x3, x4⟩ := hx.own
      simp only at x1 x2 x3 x4
      have hS : ∀ z ∈ [xq, xmm, xt], own z = 4 * xr + 2 := fun z hz => by
        simp only [List.mem_cons, List.not_mem_nil, or_false] at hz
        rcases hz with rfl | rfl | rfl <;> assumption
      obtain ⟨g1, g2⟩ := map_one h.refs
      have n0 : ∀ z, own z = 0 → z ∉ [xq, xmm, xt] := fun z hz hm => by have := hS z hm; omega
      have keepL : ∀ y, y ∈ L1 ∨ y ∈ L2 → ListW w' own G y := fun y hy => by
        have hne : y.ref ≠ xr := by rcases hy with hy | hy; exact g1 y hy; exact g2 y hy
        refine (h.ls y (by rcases hy with hy | hy <;> simp [hy])).keep hf (fun z hz he => ?_)
        have := hS z hz
        omega
      have hxl := hx.len
      simp only [List.length_cons] at hxl
      refine ⟨L1 ++ ⟨xr, xs, xp, xm, l, xg, xb, xq, xmm, xt⟩ :: L2, rfl, ?_, ?_, FrO.of hf (fun z hz => .inr (.inr (by rw [hS z hz]; omega)))⟩
      · unfold plainG
        congr 1
        refine Eq.trans ?_ (popL_one h.refs).symm
        simp [LB.pl]
      · refine ⟨?_, h.on, ?_, fun y hy => (h.cs y hy).keep hf (fun z hz he => by have := hS z hz; omega), by simpa using h.refs, h.crefs, ?_, ?_, ?_, by simpa using h.nl, h.nc⟩
        · have e1 : (L1 ++ ⟨xr, xs, xp, xm, l, xg, xb, xq, xmm, xt⟩ :: L2).map LB.nm = (L1 ++ ⟨xr, xs, xp, xm, (tk, v) :: l, xg, xb, xq, xmm, xt⟩ :: L2).map LB.nm := by simp [LB.nm]
          have e2 : (L1 ++ ⟨xr, xs, xp, xm, l, xg, xb, xq, xmm, xt⟩ :: L2).map LB.ent = (L1 ++ ⟨xr, xs, xp, xm, (tk, v) :: l, xg, xb, xq, xmm, xt⟩ :: L2).map LB.ent := by simp [LB.ent]
          rw [e1, e2]
          exact h.net.keep hf (n0 _ o1) (n0 _ o2) (n0 _ o3) (n0 _ o4) (n0 _ o5)
        · intro y hy
          simp only [List.mem_append, List.mem_cons] at hy
          rcases hy with hy | rfl | hy
          · exact keepL y (.inl hy)
          · exact ⟨hb, hx.own, hx.adr, hx.sz, hx.port, hx.most, by simp; omega, hx.g⟩
          · exact keepL y (.inr hy)
        · have := h.adrs
          simp only [List.pairwise_append, List.pairwise_cons, List.mem_cons, forall_eq_or_imp] at this ⊢
          exact this
        · intro z hz
          refine h.queue z ?_
          rw [qs_mid] at hz ⊢
          simp only [List.map_cons, List.mem_append, List.mem_cons] at hz ⊢
          rcases hz with hz | hz | hz
          · exact .inl hz
          · exact .inr (.inl (.inr hz))
          · exact .inr (.inr hz)
        · have := h.vals
          rw [qs_mid] at this ⊢
          refine this.sublist (List.Sublist.append (List.Sublist.refl _) (List.Sublist.append ?_ (List.Sublist.refl _)))
          exact List.sublist_cons_self _ _
end Go.Proofs.YtmdhlodafjpnmaaGreat
namespace Go.Proofs.YtmdhlodafjpnmaaGreat
open Go.RowKit
open Go.Maps (Keyed)
set_option linter.unusedVariables false
set_option maxRecDepth 100000
set_option maxHeartbeats 4000000

def NG.listen (N : NG) (s : ByteArray) (p most : Int) (ok : Bool) : NG × Int × (ByteArray × Int) × Int :=
  if most < 1 ∨ 128 < most ∨ ok = false then (N, 0, (⟨#[]⟩, 0), 2)
  else if (PN.at? N.L s (PN.portOf N.L s p)).isSome then (N, 0, (⟨#[]⟩, 0), 11)
  else if 128 ≤ N.L.length then (N, 0, (⟨#[]⟩, 0), 7)
  else ({ N with L := N.L ++ [⟨PN.free (N.L.map (·.ref)), s, PN.portOf N.L s p, most, []⟩] }, PN.free (N.L.map (·.ref)), (s, PN.portOf N.L s p), 0)
theorem NetG.add {w w' : World} {own : Nat → Nat} {B : NB} {L : List LB} {C : List CG} {G k : Nat} {s : ByteArray} {pp most : Int} {b q mm t : Nat} (h : NetG w own B L C G) (hk : PN.free (L.map (·.ref)) = k) (hs : s.size ≤ 1000000) (hv : addrB s.data.toList pp = true) (hp : (pp == 0) = false) (hm : 1 ≤ most ∧ most ≤ 128) (hxn : ∀ x ∈ L.map LB.nm, x.1 ≠ addrV s pp) (hln : L.length < 128)
    (hn : NetIs w' B.n B.r B.m B.lm B.cm (L.map LB.nm ++ [(addrV s pp, .int .i64 k)]) (L.map LB.ent ++ [(.int .i64 k, qV b s pp)]) (C.map CG.ent)) (hb : BackIs w' b q mm t most false [] 0) (hf : Fr [B.m, B.lm] w w') (l1 : w.heap.size ≤ b) (l2 : w.heap.size ≤ q) (l3 : w.heap.size ≤ mm) (l4 : w.heap.size ≤ t) :
    NetG w' (ownNew w own (4 * k + 2)) B (L ++ [⟨k, s, pp, most, [], 0, b, q, mm, t⟩]) C G := by
  obtain ⟨o1, o2, o3, o4, o5⟩ := h.on
  have hE := Ext.new w own (4 * k + 2)
  obtain ⟨f1, f2, f3⟩ := PN.free_spec (L.map (·.ref))
  rw [hk] at f1 f2 f3
  have hS : ∀ z ∈ [B.m, B.lm], z < w.heap.size ∧ own z = 0 := fun z hz => by
    simp only [List.mem_cons, List.not_mem_nil, or_false] at hz
    rcases hz with rfl | rfl
    · exact ⟨h.net.reg.map.lt, o3⟩
    · exact ⟨h.net.ls.lt, o4⟩
  have keepS : ∀ c, c ≠ 0 → ∀ z ∈ [B.m, B.lm], ownNew w own (4 * k + 2) z ≠ c := fun c hc z hz he => by
    obtain ⟨h1, h2⟩ := hS z hz
    rw [hE z h1, h2] at he
    exact hc he.symm
  refine ⟨?_, ⟨(hE _ (cell_lt h.net.c0)).trans o1, (hE _ (cell_lt h.net.reg.c0)).trans o2, (hE _ h.net.reg.map.lt).trans o3, (hE _ h.net.ls.lt).trans o4, (hE _ h.net.cs.lt).trans o5⟩, ?_, ?_, ?_, h.crefs, ?_, ?_, ?_, by simp; omega, h.nc⟩
  · simpa [LB.nm, LB.ent] using hn
  · intro y hy
    rcases List.mem_append.1 hy with hy | hy
    · exact ((h.ls y hy).ext hE).keep hf (fun z hz => keepS _ (by omega) z hz)
    · simp only [List.mem_singleton] at hy
      subst hy
      exact ⟨hb, ⟨ownNew_ge l1, ownNew_ge l2, ownNew_ge l3, ownNew_ge l4⟩, hv, hs, hp, hm, by simp; omega, Nat.zero_le _⟩
  · intro y hy
    exact ((h.cs y hy).ext hE).keep hf (fun z hz _ => ⟨keepS (16 * y.ref + 1) (by omega) z hz, keepS (16 * y.ref + 5) (by omega) z hz, keepS (16 * y.ref + 9) (by omega) z hz, keepS 3 (by omega) z hz⟩)
  · rw [List.map_append, List.nodup_append]
    exact ⟨h.refs, by simp, fun a ha b' hb' he => f1 (by simp at hb'; subst hb'; subst he; exact ha)⟩
  · rw [List.pairwise_append]
    refine ⟨h.adrs, by simp, fun a ha b' hb' he => ?_⟩
    simp only [List.mem_singleton] at hb'
    subst hb'
    simp only at he
    exact hxn _ (List.mem_map.2 ⟨a, ha, rfl⟩) (by rw [LB.nm, he.1, he.2])
  · intro z hz
    refine h.queue z ?_
    simpa [qs] using hz
  · have := h.vals
    simpa [qs] using this

theorem netListen_g {own : Nat → Nat} {B : NB} {L : List LB} {C : List CG} {G : Nat} (s : ByteArray) (p most : Int) (w : World) (h : NetG w own B L C G) (hs : s.size ≤ 1000000) :
    Calls Tryz.prog 30 #[.pointer (some ⟨B.n, 0, none⟩), .agg #[.string s, .int .i64 p], .int .i64 most] w fun e w' => ∃ own' L',
      e = .returned (.tuple #[.int .i64 ((plainG L C).listen s p most (addrB s.data.toList p)).2.1, .agg #[.string ((plainG L C).listen s p most (addrB s.data.toList p)).2.2.1.1, .int .i64 ((plainG L C).listen s p most (addrB s.data.toList p)).2.2.1.2], .int .i64 ((plainG L C).listen s p most (addrB s.data.toList p)).2.2.2]) ∧ plainG L' C = ((plainG L C).listen s p most (addrB s.data.toList p)).1 ∧ NetG w' own' B L' C G ∧ Ext w own own' ∧ FrO own netO w w' := by
  have hrefs : (plainG L C).L.map (·.ref) = L.map (·.ref) := by simp [plainG, LB.pl]
  have hlen : (plainG L C).L.length = L.length := by simp [plainG]
  unfold NG.listen
  by_cases hb : most < 1 ∨ 128 < most ∨ addrB s.data.toList p = false
  · rw [if_pos hb]
    refine (netListen_bad B.n B.r B.m B.lm B.cm _ _ _ s p most w h.net hs hb).mono ?_
    rintro e w' ⟨rfl, hf⟩
    exact ⟨own, L, rfl, rfl, h.new hf, Ext.refl _ _, FrO.new hf⟩
  · rw [if_neg hb, hrefs, hlen]
    have hv : addrB s.data.toList p = true := by
      cases hh : addrB s.data.toList p
      · exact absurd (.inr (.inr hh)) hb
      · rfl
    have hm : 1 ≤ most ∧ most ≤ 128 := by omega
    obtain ⟨pb1, pb2⟩ := addrB_port hv
    have hnl := h.nl
    -- the port
    obtain ⟨pp, hpp⟩ : ∃ pp, PN.portOf (plainG L C).L s p = pp := ⟨_, rfl⟩
    rw [hpp]
    have key : (0 ≤ pp ∧ pp ≤ 65535) ∧ (pp == 0) = false ∧ ((∀ x ∈ L.map LB.nm, x.1 ≠ addrV s pp) → ¬ 128 ≤ ((L.map LB.nm).length : Int) → ∀ W, RegIs W B.r B.m (L.map LB.nm) → Calls Tryz.prog 75 #[.pointer (some ⟨B.r, 0, none⟩), .agg #[.string s, .int .i64 p], .int .i64 0] W fun e w' => e = .returned (.tuple #[.agg #[.string s, .int .i64 pp], .int .i64 0]) ∧ RegIs w' B.r B.m (L.map LB.nm ++ [(addrV s pp, .int .i64 0)]) ∧ Fr [B.m] W w') ∧
        ((∀ x ∈ L.map LB.nm, x.1 ≠ addrV s pp) → 128 ≤ ((L.map LB.nm).length : Int) → ∀ W, RegIs W B.r B.m (L.map LB.nm) → Calls Tryz.prog 75 #[.pointer (some ⟨B.r, 0, none⟩), .agg #[.string s, .int .i64 p], .int .i64 0] W fun e w' => e = .returned (.tuple #[.agg #[.string ⟨#[]⟩, .int .i64 0], .int .i64 7]) ∧ Fr [] W w') ∧
        (∀ u, (addrV s pp, .int .i64 u) ∈ L.map LB.nm → ∀ W, RegIs W B.r B.m (L.map LB.nm) → Calls Tryz.prog 75 #[.pointer (some ⟨B.r, 0, none⟩), .agg #[.string s, .int .i64 p], .int .i64 0] W fun e w' => e = .returned (.tuple #[.agg #[.string ⟨#[]⟩, .int .i64 0], .int .i64 11]) ∧ Fr [] W w') := by
      unfold PN.portOf at hpp
      by_cases hp0 : p = 0
      · subst hp0
        rw [if_pos rfl] at hpp
        obtain ⟨f1, f2, f3⟩ := PN.free_spec (PN.ports (L.map LB.pl) s)
        have hpl : (PN.ports (L.map LB.pl) s).length ≤ L.length := by
          unfold PN.ports
          have := List.length_filter_le (fun x : PN.PL => decide (x.s = s ∧ 49152 ≤ x.p)) (L.map LB.pl)
          simpa using this
        obtain ⟨k, hk⟩ : ∃ k, PN.free (PN.ports (L.map LB.pl) s) = k := ⟨_, rfl⟩
        rw [show (plainG L C).L = L.map LB.pl from rfl, hk] at hpp
        rw [hk] at f1 f2 f3
        subst hpp
        have hlow : ∀ j, j < k → ∃ v, (addrV s (49152 + (j : Int)), .int .i64 v) ∈ L.map LB.nm := fun j hj => by
          obtain ⟨x, hx, h1, h2⟩ := mem_ports.1 (f2 j hj)
          exact ⟨x.ref, List.mem_map.2 ⟨x, hx, by rw [LB.nm, h1, h2]⟩⟩
        have hat : ∀ x ∈ L.map LB.nm, x.1 ≠ addrV s (49152 + (k : Int)) := fun x hx he => by
          obtain ⟨y, hy, rfl⟩ := List.mem_map.1 hx
          obtain ⟨h1, h2⟩ := addrV_inj he
          exact f1 (mem_ports.2 ⟨y, hy, h1, h2⟩)
        have hfr : ∀ W, RegIs W B.r B.m (L.map LB.nm) → Calls Tryz.prog 122 #[.pointer (some ⟨B.r, 0, none⟩), .string s] W fun e w' => e = .returned (.int .i64 (49152 + (k : Int))) ∧ W = w' := fun W hW => regFree_any B.r B.m k _ s W hW hs (by omega) hlow hat
        refine ⟨⟨by omega, by omega⟩, by rw [beq_eq_false_iff_ne]; omega, fun hx hn W hW => ?_, fun hx hn W hW => ?_, fun u hu => absurd rfl (hat _ hu)⟩
        · exact regBind0_ok B.r B.m _ s _ 0 W hW hs hv ⟨by omega, by omega⟩ (by omega) hfr hat hn
        · exact regBind0_full B.r B.m _ s _ 0 W hW hs hv ⟨by omega, by omega⟩ (by omega) hfr hat hn
      · rw [if_neg hp0] at hpp
        subst hpp
        have hpb : (p == 0) = false := by rw [beq_eq_false_iff_ne]; exact hp0
        exact ⟨⟨pb1, pb2⟩, hpb, fun hx hn W hW => regBind_ok B.r B.m _ s p 0 W hW hs hv hpb (by omega) hx hn, fun hx hn W hW => regBind_full B.r B.m _ s p 0 W hW hs hv hpb (by omega) hx hn, fun u hu W hW => regBind_busy B.r B.m _ s p 0 W hW hs hv hpb (by omega) u hu⟩
    obtain ⟨⟨q1, q2⟩, q3, kOk, kFull, kBusy⟩ := key
    rcases hat : PN.at? (plainG L C).L s pp with _ | z
    · rw [if_neg (by simp)]
      have hxn := at_none hat
      by_cases hl : 128 ≤ L.length
      · rw [if_pos hl]
        refine (netListen_err B.n B.r B.m B.lm B.cm _ _ _ s p most 7 w h.net hs hv rfl (kFull hxn (by simp; omega)) (by omega) (by omega)).mono ?_
        rintro e w' ⟨rfl, hf⟩
        exact ⟨own, L, rfl, rfl, h.new hf, Ext.refl _ _, FrO.new hf⟩
      · rw [if_neg hl]
        obtain ⟨a1, a2, a3⟩ := listFree L
        obtain ⟨k, hk⟩ : ∃ k, PN.free (L.map (·.ref)) = k := ⟨_, rfl⟩
        rw [hk] at a1 a2 a3 ⊢
        refine (netListen_gen B.n B.r B.m B.lm B.cm _ _ _ s p pp most k w h.net hs hv (addrB_ports hv pp q1 q2) q3 (kOk hxn (by simp; omega)) (by omega) (by omega) hxn (by simp; omega) a1 a2 (by omega)).mono ?_
        rintro e w' ⟨b, q, mm, t, rfl, hn, hb', hf, l1, l2, l3, l4⟩
        obtain ⟨o1, o2, o3, o4, o5⟩ := h.on
        refine ⟨ownNew w own (4 * k + 2), L ++ [⟨k, s, pp, most, [], 0, b, q, mm, t⟩], rfl, by simp [plainG, LB.pl], h.add hk hs (addrB_ports hv pp q1 q2) q3 hm hxn (by omega) hn hb' hf l1 l2 l3 l4, Ext.new _ _ _, FrO.of hf (fun z hz => ?_)⟩
        simp only [List.mem_cons, List.not_mem_nil, or_false] at hz
        rcases hz with rfl | rfl
        · exact .inl o3
        · exact .inl o4
    · rw [if_pos (by simp)]
      obtain ⟨L1, x, L2, hL, rfl, hxs, hxp⟩ := at_some hat
      have hu : (addrV s pp, .int .i64 (x.ref : Int)) ∈ L.map LB.nm := List.mem_map.2 ⟨x, by rw [hL]; simp, by rw [LB.nm, hxs, hxp]⟩
      refine (netListen_err B.n B.r B.m B.lm B.cm _ _ _ s p most 11 w h.net hs hv rfl (kBusy _ hu) (by omega) (by omega)).mono ?_
      rintro e w' ⟨rfl, hf⟩
      exact ⟨own, L, rfl, rfl, h.new hf, Ext.refl _ _, FrO.new hf⟩
end Go.Proofs.YtmdhlodafjpnmaaGreat
