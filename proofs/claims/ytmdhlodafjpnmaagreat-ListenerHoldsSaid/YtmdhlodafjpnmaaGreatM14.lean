/- Streams: Begin. -/
/- Streams: Read. -/
/- Streams closed: drop, shut, CloseWrite, CloseRead. -/
import Derived.Test.YtmdhlodafjpnmaaGreatM15
namespace Go.Proofs.YtmdhlodafjpnmaaGreat
open Go.RowKit
set_option linter.unusedVariables false
set_option linter.unusedSimpArgs false
set_option maxRecDepth 100000
set_option maxHeartbeats 4000000

theorem sizeBool : ∀ w, (sizeOf 4).run Tryz.prog w = .ok 1 w := fun w => by kernel_rfl
end Go.Proofs.YtmdhlodafjpnmaaGreat
namespace Go.Proofs.YtmdhlodafjpnmaaGreat
open List renaming getElem_toArray → qj1, getElem_cons_succ → qj2, getElem_cons_zero → qj3, setIfInBounds_toArray → qj4, set_cons_zero → qj5, set_cons_succ → qj6
open Go.RowKit
set_option linter.unusedVariables false
set_option linter.unusedSimpArgs false
set_option maxRecDepth 100000
set_option maxHeartbeats 4000000

def ReadOut (own : Nat → Nat) (c s : Nat) (y : SS) (bs : List UInt8) (er : Int) (w : World) (e : Ending) (w' : World) : Prop := ∃ v : Sli, e = .returned (.tuple #[slv v, .int .i64 er]) ∧ BsO w' w.heap.size v bs ∧ StrOut own c s y w w'
theorem RopeB.to3 {w w0 : World} {own own' : Nat → Nat} {p : Sli} {l : List UInt8} (h : RopeB w own' p l) (he : Ext w0 own own') : RopeB w (ownNew w0 own 3) p l := by
  have key : ∀ b, own' b = 3 → ownNew w0 own 3 b = 3 := fun b hb => by
    unfold ownNew
    split
    · rename_i hlt
      rw [← he b hlt]
      exact hb
    · rfl
  rcases h with h | ⟨b, off, c, x, h1, h2, h3, h4, h5, h6, h7, h8, h9⟩
  · exact .inl h
  · exact .inr ⟨b, off, c, x, h1, h2, key b h3, h4, h5, h6, h7, h8, fun g hg => key g (h9 g hg)⟩
theorem fill_wr (y : SS) : y.fill.wr = y.wr := by unfold SS.fill; split <;> rfl
theorem takeN_wr (x : SS) (m : Nat) : (x.takeN m).2.wr = x.wr := by unfold SS.takeN; (repeat' split) <;> rfl
theorem strRead {w : World} {own : Nat → Nat} {c s : Nat} {x : SS} (h : StrB w own c s x) (m : Int) (hc3 : c ≠ 3) :
    Calls Tryz.prog 89 #[.pointer (some ⟨s, 0, none⟩), .int .i64 m] w (ReadOut own c s (x.read m).1 (x.read m).2.1 (x.read m).2.2 w) := by
  obtain ⟨ha, ok⟩ := h
  have HA := Lib.hid ha
  have HNO := Lib.hid (strNone ha)
  have HOP := Lib.hid (strOpen ha)
  have HOK := Lib.hid ok
  have HOS := Lib.hid ha.os
  obtain ⟨st, q, hb, hs, hq⟩ := ha.at_
  have HB := Lib.hid hb
  have HR := Lib.hid hq
  have c0 : w.cell? ⟨s, 0, none⟩ = some st := hb.at 0 _ rfl
  have c1 : w.cell? ⟨s, 1, none⟩ = some (.bool x.busy) := hb.at 1 _ rfl
  have c6 : w.cell? ⟨s, 6, none⟩ = some (.int .i64 x.rd) := hb.at 6 _ rfl
  clear ha hb hq ok
  by_cases hm0 : m < 0
  case pos =>
    have hx : x.read m = (x, [], 2) := by unfold SS.read; rw [if_pos (.inl hm0)]
    rw [hx]
    have hd : decide (m < 0) = true := decide_eq_true hm0
    clear hs
    go_enter Tryz.func89, Tryz.ntmps89
    go_wp2_with fail
    refine HNO.out.mono ?_
    rintro e w' ⟨rfl, rfl⟩
    go_wp2
    refine bodyPost_ret (v := .tuple #[.slice none 0 0, .int .i64 2]) (by simp [results, Tryz.results89]) rfl ?_
    exact ⟨(none, 0, 0), rfl, BsO.nil _ _, StrOut.refl HA.out⟩
  by_cases hm1 : 65536 < m
  case pos =>
    have hx : x.read m = (x, [], 2) := by unfold SS.read; rw [if_pos (.inr hm1)]
    rw [hx]
    have hd : decide (m < 0) = false := decide_eq_false hm0
    have hd1 : decide (65536 < m) = true := decide_eq_true hm1
    clear hs
    go_enter Tryz.func89, Tryz.ntmps89
    go_wp2_with fail
    refine HNO.out.mono ?_
    rintro e w' ⟨rfl, rfl⟩
    go_wp2
    refine bodyPost_ret (v := .tuple #[.slice none 0 0, .int .i64 2]) (by simp [results, Tryz.results89]) rfl ?_
    exact ⟨(none, 0, 0), rfl, BsO.nil _ _, StrOut.refl HA.out⟩
  have hd0 : decide (m < 0) = false := decide_eq_false hm0
  have hd1 : decide (65536 < m) = false := decide_eq_false hm1
  by_cases hv : x.rd = 0
  case neg =>
    have hx : x.read m = (x, [], 14) := by unfold SS.read; rw [if_neg (by omega), if_pos hv]
    rw [hx]
    have hvd : decide (x.rd = 0) = false := decide_eq_false hv
    clear hs
    go_enter Tryz.func89, Tryz.ntmps89
    go_wp2_with fail
    refine HNO.out.mono ?_
    rintro e w' ⟨rfl, rfl⟩
    go_wp2
    refine bodyPost_ret (v := .tuple #[.slice none 0 0, .int .i64 14]) (by simp [results, Tryz.results89]) rfl ?_
    exact ⟨(none, 0, 0), rfl, BsO.nil _ _, StrOut.refl HA.out⟩
  rw [hv] at c6
  by_cases hmz : m = 0
  case pos =>
    have hx : x.read m = (x, [], 0) := by unfold SS.read; rw [if_neg (by omega), if_neg (by simpa using hv), if_pos hmz]
    rw [hx]
    subst hmz
    clear hs
    go_enter Tryz.func89, Tryz.ntmps89
    go_wp2_with fail
    refine HNO.out.mono ?_
    rintro e w' ⟨rfl, rfl⟩
    go_wp2
    refine bodyPost_ret (v := .tuple #[.slice none 0 0, .int .i64 0]) (by simp [results, Tryz.results89]) rfl ?_
    exact ⟨(none, 0, 0), rfl, BsO.nil _ _, StrOut.refl HA.out⟩
  obtain ⟨k, rfl⟩ : ∃ k : Nat, m = k := ⟨m.toNat, by omega⟩
  have hmzd : decide ((k : Int) = 0) = false := decide_eq_false hmz
  have hmzb : ((k : Int) == 0) = false := beq_eq_false_iff_ne.2 hmz
  obtain ⟨bs, y, hby⟩ : ∃ bs y, x.takeN k = (bs, y) := ⟨_, _, rfl⟩
  have hread : x.read k = if 0 < bs.length then (y.fill, bs, 0) else (y.fill, [], if x.wr ≠ 0 then x.wr else 16) := by
    unfold SS.read
    rw [if_neg (by omega), if_neg (by simpa using hv), if_neg hmz, Int.toNat_natCast, hby]
  have hyo : StOk0 y := by have := HOK.out.takeN k; rwa [hby] at this
  have hyw : y.wr = x.wr := by have := takeN_wr x k; rwa [hby] at this
  have HK := Lib.hid (show k ≤ 65536 ∧ 0 < k from by omega)
  have HREAD := Lib.hid hread
  have HYO := Lib.hid hyo
  have HYW := Lib.hid hyw
  have HBY := Lib.hid hby
  have HV := Lib.hid hv
  have hwb : IntKind.i64.wrap x.acc = x.acc := IntWalk.i64_in _ (by have := HOK.out.acc0; have := HOK.out.acc1; omega)
  have hwb0 : IntKind.i64.wrap (x.acc + 0) = x.acc := by rw [Int.add_zero]; exact hwb
  obtain ⟨act, hact⟩ : ∃ b, (x.busy && x.isOpen) = b := ⟨_, rfl⟩
  have HACT := Lib.hid hact
  clear hread hyo hyw hby hv hm0 hm1 hmz
  rcases hs with ⟨hcap, hbuf, rfl⟩ | ⟨r, g, l, cp, f, n, h1, h2, h3, h4, h5, h6, h7, h8, h9, rfl⟩
  rotate_left
  · skip
    have hcz : ¬ x.cap = 0 := by have := h9.hf; omega
    have hty : bs = x.buf.take k ∧ y = { x with buf := x.buf.drop k } := by
      have := HBY.out
      unfold SS.takeN at this
      rw [if_neg hcz] at this
      simp only [Prod.mk.injEq] at this
      exact ⟨this.1.symm, this.2.symm⟩
    have hkn := h9.hn
    have hkf := h9.hf
    obtain ⟨j, hj⟩ : ∃ j, min k n = j := ⟨_, rfl⟩
    have hbc : cont l f j = bs := by
      rw [hty.1, ← h7]
      refine List.ext_getElem? fun i => ?_
      rw [cont_get, List.getElem?_take, cont_get]
      by_cases hi : i < j
      · rw [if_pos hi, if_pos (by omega), if_pos (by omega)]
      · rw [if_neg hi]
        by_cases hik : i < k
        · rw [if_pos hik, if_neg (by omega)]
        · rw [if_neg hik]
    have HJ := Lib.hid (show j ≤ n ∧ j = min k n from by omega)
    have HTK := Lib.hid (fun W (fW : Fr [] w W) V => take_ring (h9.new fW) h5 k (by have := HK.out; omega) V j hj)
    have HBC := Lib.hid hbc
    have HTY := Lib.hid hty
    have HRI := Lib.hid (And.intro h1 (And.intro h2 (And.intro h3 (And.intro h4 h5))))
    have HRG := Lib.hid h9
    have HCC := Lib.hid (And.intro h6 (And.intro h7 h8))
    have HCS := Lib.hid (cont_skip (l := l) (f := f) (k := n) (n := j) hkf hkn (by omega))
    clear hcz hty hkn hkf hj hbc h1 h2 h3 h4 h5 h6 h7 h8 h9
    have hm := take_bm r
    cases act with
    | true =>
      have hbz : x.busy = true ∧ x.isOpen = true := by have := HACT.out; simpa using this
      rw [hbz.1] at c1
      rw [hbz.2] at HOP
      have HBO := Lib.hid hbz
      clear hbz
      go_enter Tryz.func89, Tryz.ntmps89
      go_wp2_with fail
      refine HNO.out.mono ?_
      rintro e w' ⟨rfl, rfl⟩
      go_wp2_with fail
      refine HOP.out.mono ?_
      rintro e w' ⟨rfl, rfl⟩
      go_upto_region 12 with fail
      go_wp2_with fail
      refine (HTK.out w (Fr.refl [] w) (.pointer (some ⟨s, 2, none⟩))).mono ?_
      rintro e w2 ⟨v, rfl, hv, hr2, f2⟩
      rw [HBC.out] at hv
      have hvn := (bsO_cap hv).1
      obtain ⟨va, vn, vc⟩ := v
      simp only at hvn
      subst hvn
      simp only [slv]
      have HVS := Lib.hid (hv.base ((Fr.refl [] w).size))
      have HR2 := Lib.hid hr2
      have hf2 : Fr [r, g] w w2 := ((Fr.refl [] w).mono (T := [r, g]) (fun x hx _ => by cases hx)).trans f2 (fun x hx _ => hx)
      have HF2 := Lib.hid hf2
      have HB2 := Lib.hid (HB.out.keep hf2 (by have := HRI.out; simp only [List.mem_cons, List.not_mem_nil, or_false, not_or]; exact ⟨Ne.symm this.2.2.1, Ne.symm this.2.2.2.1⟩))
      have k4 : w2.cell? ⟨s, 4, none⟩ = some (.int .i64 x.acc) := HB2.out.at 4 _ rfl
      clear hv hr2 f2 hf2
      go_upto_region 13 with fail
      refine wp_region_lit ?_
      refine wpList_plain rfl (fun K hK => ?_); go_simp; refine hK _ _ ?_; clear hK K
      refine wpList_plain rfl (fun K hK => ?_); go_simp; refine hK _ _ ?_; clear hK K
      refine wpList_plain rfl (fun K hK => ?_); go_simp; refine hK _ _ ?_; clear hK K
      refine wpList_plain rfl (fun K hK => ?_); go_simp; refine hK _ _ ?_; clear hK K
      refine wpList_plain rfl (fun K hK => ?_); go_simp; refine hK _ _ ?_; clear hK K
      refine wpList_plain rfl (fun K hK => ?_); go_simp; refine hK _ _ ?_; clear hK K
      refine wpList_plain rfl (fun K hK => ?_); go_simp; refine hK _ _ ?_; clear hK K
      refine wpList_plain rfl (fun K hK => ?_); go_simp; refine hK _ _ ?_; clear hK K
      try simp only [Act.put, qj1, qj2, qj3, qj4, qj5, qj6]
      obtain ⟨w3, hst, hb_, hf_⟩ := store_cell (t := 3) (o := 4) (.int .i64 x.acc) size3 rfl rfl HB2.out (by simp [stB])
      refine wpList_skp rfl (w' := w3) ?_ ?_
      · show Sem.run Tryz.prog ((Instr.storeAt 3 (.pointer (some ⟨s, 4, none⟩)) (.int .i64 x.acc)) >>= fun _ => pure Next.skip) _ = _
        rw [Sem.run_bind, hst]
        rfl
      clear hst
      try simp only [Act.put, qj1, qj2, qj3, qj4, qj5, qj6]
      refine wpList_nil ?_
      try simp only [Act.put, qj1, qj2, qj3, qj4, qj5, qj6]
      have HF3 := Lib.hid hf_
      have hb3 : Blk w3 s 209 (stB x (.iface 251 (.agg #[.pointer (some ⟨r, 0, none⟩)])) q) := hb_
      have hri := HRI.out
      have hlen : (ringPut l f 0 (List.replicate j 0)).length = l.length := ringPut_len HRG.out.hf (by rw [List.length_replicate]; have := HRG.out.hn; have := HJ.out; omega)
      have hyy := HTY.out.2
      have hF : Fr [s, r, g] w w3 := (HF2.out.mono (T := [s, r, g]) (fun x hx _ => List.mem_cons_of_mem _ hx)).trans (hf_.mono (T := [s, r, g]) (fun x hx _ => by rw [List.mem_singleton] at hx; subst hx; simp)) (fun x hx _ => hx)
      have hown : ∀ z ∈ [s, r, g], own z = c := fun z hz => by
        simp only [List.mem_cons, List.not_mem_nil, or_false] at hz
        rcases hz with rfl | rfl | rfl
        · exact HOS.out
        · exact hri.1
        · exact hri.2.1
      have hx3 := Ext.new w own 3
      have HA3 := Lib.hid (show StrA w3 (ownNew w own 3) c s y from by
        rw [hyy]
        exact ⟨(hx3 s HB.out.lt).trans HOS.out, _, q, hb3, .inr ⟨r, g, ringPut l f 0 (List.replicate j 0), cp, (f + j) % l.length, n - j, (hx3 r HRG.out.blk.lt).trans hri.1, (hx3 g HRG.out.row.lt).trans hri.2.1, hri.2.2.1, hri.2.2.2.1, hri.2.2.2.2, by rw [hlen]; exact HCC.out.1, by rw [HCS.out, HCC.out.2.1, List.drop_eq_drop_iff]; have := HCC.out.2.2; have := HJ.out; omega, by simp only [List.length_drop]; have := HCC.out.2.2; have := HJ.out; omega, HR2.out.keep hf_ (by simpa using hri.2.2.1) (by simpa using hri.2.2.2.1), rfl⟩, (HR.out.keep hF (fun z hz hl => by rw [hown z hz]; exact hc3)).to3 (Ext.refl _ _)⟩)
      have HFW := Lib.hid (FrO.of (Q := fun z => z = c) hF hown)
      have HVS3 := Lib.hid (show BsO w3 w.heap.size (va, bs.length, vc) bs from bsO_fr HVS.out hf_ (fun z hz => by rw [List.mem_singleton] at hz; subst hz; exact HB.out.lt))
      clear hb_ hf_ hb3 hF hown hlen hyy k4
      go_wp2_with fail
      refine (strRefill HA3.out HYO.out hc3).mono ?_
      rintro e w4 ⟨rfl, own4, hx4, ha4, hf4⟩
      obtain ⟨st4, p4, hb4, _, _⟩ := ha4.at_
      have c5 : w4.cell? ⟨s, 5, none⟩ = some (.int .i64 x.wr) := by rw [← HYW.out, ← fill_wr]; exact hb4.at 5 _ rfl
      have HEND := Lib.hid (show StrOut own c s y.fill w w4 from ⟨own4, fun z hz => (hx4 z (Nat.lt_of_lt_of_le hz HFW.out.size)).trans ((Ext.new w own 3) z hz), ha4, HFW.out.trans hf4 (Ext.new w own 3)⟩)
      have HVE := Lib.hid (show BsO w4 w.heap.size (va, bs.length, vc) bs from by
        obtain ⟨T, k1, k2⟩ := hf4
        exact rowFr' HVS3.out k1 (fun g hg hm => by
          have h1 := bsO_low HVS3.out g hg
          have h2 := k2 g hm h1.2
          rw [ownNew_ge h1.1] at h2
          exact hc3 h2.symm))
      clear hx4 ha4 hf4 hb4
      by_cases hb0 : 0 < bs.length
      · have hbi : (0 : Int) < bs.length := by omega
        have hbd : decide ((0 : Int) < bs.length) = true := decide_eq_true hbi
        go_wp2
        refine bodyPost_ret (v := .tuple #[.slice va bs.length vc, .int .i64 0]) (by simp [results, Tryz.results89]) rfl ?_
        rw [HREAD.out, if_pos hb0]
        exact ⟨(va, bs.length, vc), rfl, HVE.out, HEND.out⟩
      · have hbi : ¬ (0 : Int) < bs.length := by omega
        have hbd : decide ((0 : Int) < bs.length) = false := decide_eq_false hbi
        by_cases hw : x.wr = 0
        · rw [hw] at c5
          go_wp2
          refine bodyPost_ret (v := .tuple #[.slice none 0 0, .int .i64 16]) (by simp [results, Tryz.results89]) rfl ?_
          rw [HREAD.out, if_neg hb0, if_neg (by simpa using hw)]
          exact ⟨(none, 0, 0), rfl, BsO.nil _ _, HEND.out⟩
        · have hwd : decide (x.wr = 0) = false := decide_eq_false hw
          go_wp2
          go_quiet (fail)
          go_wp2
          refine bodyPost_ret (v := .tuple #[.slice none 0 0, .int .i64 x.wr]) (by simp [results, Tryz.results89]) rfl ?_
          rw [HREAD.out, if_neg hb0, if_pos hw]
          exact ⟨(none, 0, 0), rfl, BsO.nil _ _, HEND.out.more ((Fr.refl [] _).drewN _)⟩
    | false =>
      cases hbz' : x.busy with
      | false =>
        have HBZ := Lib.hid hbz'
        clear hbz'
        have hbz : x.busy = false := HBZ.out
        rw [hbz] at c1
        clear hbz
        have hrz := bldRope0
        obtain ⟨X, hX⟩ : ∃ A, w.heap.size = A := ⟨_, rfl⟩
        obtain ⟨wX, hwX⟩ : ∃ z, w.alloc (.cells #[.slice none 0 0, .int .i64 0] 128) = z := ⟨_, rfl⟩
        have hbX : Blk wX X 128 [.slice none 0 0, .int .i64 0] := by rw [← hwX, ← hX]; exact Blk.made w 128 _
        have fX : Fr [] w wX := by rw [← hwX]; exact (Fr.refl [] w).alloc _
        have c0 := fX.keep c0 (by simp)
        have HBX := Lib.hid hbX
        have HFX := Lib.hid fX
        have HWX := Lib.hid hwX
        have HX := Lib.hid hX
        clear hbX fX hwX hX
        go_enter Tryz.func89, Tryz.ntmps89
        go_wp2_with fail
        refine HNO.out.mono ?_
        rintro e w' ⟨rfl, rfl⟩
        go_upto_region 12 with fail
        rw [HWX.out]
        simp only [HX.out]
        go_wp2_with fail
        refine (HTK.out wX HFX.out (.pointer (some ⟨X, 0, none⟩))).mono ?_
        rintro e w2 ⟨v, rfl, hv, hr2, f2⟩
        rw [HBC.out] at hv
        have hvn := (bsO_cap hv).1
        obtain ⟨va, vn, vc⟩ := v
        simp only at hvn
        subst hvn
        simp only [slv]
        have HVS := Lib.hid (hv.base (HFX.out.size))
        have HR2 := Lib.hid hr2
        have hf2 : Fr [r, g] w w2 := (HFX.out.mono (T := [r, g]) (fun x hx _ => by cases hx)).trans f2 (fun x hx _ => hx)
        have HF2 := Lib.hid hf2
        have HB2 := Lib.hid (HB.out.keep hf2 (by have := HRI.out; simp only [List.mem_cons, List.not_mem_nil, or_false, not_or]; exact ⟨Ne.symm this.2.2.1, Ne.symm this.2.2.2.1⟩))
        have k4 : w2.cell? ⟨s, 4, none⟩ = some (.int .i64 x.acc) := HB2.out.at 4 _ rfl
        clear hv hr2 f2 hf2
        go_upto_region 13 with fail
        refine wp_region_lit ?_
        refine wpList_plain rfl (fun K hK => ?_); go_simp; refine hK _ _ ?_; clear hK K
        refine wpList_plain rfl (fun K hK => ?_); go_simp; refine hK _ _ ?_; clear hK K
        refine wpList_plain rfl (fun K hK => ?_); go_simp; refine hK _ _ ?_; clear hK K
        refine wpList_plain rfl (fun K hK => ?_); go_simp; refine hK _ _ ?_; clear hK K
        refine wpList_plain rfl (fun K hK => ?_); go_simp; refine hK _ _ ?_; clear hK K
        refine wpList_plain rfl (fun K hK => ?_); go_simp; refine hK _ _ ?_; clear hK K
        refine wpList_plain rfl (fun K hK => ?_); go_simp; refine hK _ _ ?_; clear hK K
        refine wpList_plain rfl (fun K hK => ?_); go_simp; refine hK _ _ ?_; clear hK K
        try simp only [Act.put, qj1, qj2, qj3, qj4, qj5, qj6]
        obtain ⟨w3, hst, hb_, hf_⟩ := store_cell (t := 3) (o := 4) (.int .i64 x.acc) size3 rfl rfl HB2.out (by simp [stB])
        refine wpList_skp rfl (w' := w3) ?_ ?_
        · show Sem.run Tryz.prog ((Instr.storeAt 3 (.pointer (some ⟨s, 4, none⟩)) (.int .i64 x.acc)) >>= fun _ => pure Next.skip) _ = _
          rw [Sem.run_bind, hst]
          rfl
        clear hst
        try simp only [Act.put, qj1, qj2, qj3, qj4, qj5, qj6]
        refine wpList_nil ?_
        try simp only [Act.put, qj1, qj2, qj3, qj4, qj5, qj6]
        have HF3 := Lib.hid hf_
        have hb3 : Blk w3 s 209 (stB x (.iface 251 (.agg #[.pointer (some ⟨r, 0, none⟩)])) q) := hb_
        have hri := HRI.out
        have hlen : (ringPut l f 0 (List.replicate j 0)).length = l.length := ringPut_len HRG.out.hf (by rw [List.length_replicate]; have := HRG.out.hn; have := HJ.out; omega)
        have hyy := HTY.out.2
        have hF : Fr [s, r, g] w w3 := (HF2.out.mono (T := [s, r, g]) (fun x hx _ => List.mem_cons_of_mem _ hx)).trans (hf_.mono (T := [s, r, g]) (fun x hx _ => by rw [List.mem_singleton] at hx; subst hx; simp)) (fun x hx _ => hx)
        have hown : ∀ z ∈ [s, r, g], own z = c := fun z hz => by
          simp only [List.mem_cons, List.not_mem_nil, or_false] at hz
          rcases hz with rfl | rfl | rfl
          · exact HOS.out
          · exact hri.1
          · exact hri.2.1
        have hx3 := Ext.new w own 3
        have HA3 := Lib.hid (show StrA w3 (ownNew w own 3) c s y from by
          rw [hyy]
          exact ⟨(hx3 s HB.out.lt).trans HOS.out, _, q, hb3, .inr ⟨r, g, ringPut l f 0 (List.replicate j 0), cp, (f + j) % l.length, n - j, (hx3 r HRG.out.blk.lt).trans hri.1, (hx3 g HRG.out.row.lt).trans hri.2.1, hri.2.2.1, hri.2.2.2.1, hri.2.2.2.2, by rw [hlen]; exact HCC.out.1, by rw [HCS.out, HCC.out.2.1, List.drop_eq_drop_iff]; have := HCC.out.2.2; have := HJ.out; omega, by simp only [List.length_drop]; have := HCC.out.2.2; have := HJ.out; omega, HR2.out.keep hf_ (by simpa using hri.2.2.1) (by simpa using hri.2.2.2.1), rfl⟩, (HR.out.keep hF (fun z hz hl => by rw [hown z hz]; exact hc3)).to3 (Ext.refl _ _)⟩)
        have HFW := Lib.hid (FrO.of (Q := fun z => z = c) hF hown)
        have HVS3 := Lib.hid (show BsO w3 w.heap.size (va, bs.length, vc) bs from bsO_fr HVS.out hf_ (fun z hz => by rw [List.mem_singleton] at hz; subst hz; exact HB.out.lt))
        clear hb_ hf_ hb3 hF hown hlen hyy k4
        go_wp2_with fail
        refine (strRefill HA3.out HYO.out hc3).mono ?_
        rintro e w4 ⟨rfl, own4, hx4, ha4, hf4⟩
        obtain ⟨st4, p4, hb4, _, _⟩ := ha4.at_
        have c5 : w4.cell? ⟨s, 5, none⟩ = some (.int .i64 x.wr) := by rw [← HYW.out, ← fill_wr]; exact hb4.at 5 _ rfl
        have HEND := Lib.hid (show StrOut own c s y.fill w w4 from ⟨own4, fun z hz => (hx4 z (Nat.lt_of_lt_of_le hz HFW.out.size)).trans ((Ext.new w own 3) z hz), ha4, HFW.out.trans hf4 (Ext.new w own 3)⟩)
        have HVE := Lib.hid (show BsO w4 w.heap.size (va, bs.length, vc) bs from by
          obtain ⟨T, k1, k2⟩ := hf4
          exact rowFr' HVS3.out k1 (fun g hg hm => by
            have h1 := bsO_low HVS3.out g hg
            have h2 := k2 g hm h1.2
            rw [ownNew_ge h1.1] at h2
            exact hc3 h2.symm))
        clear hx4 ha4 hf4 hb4
        by_cases hb0 : 0 < bs.length
        · have hbi : (0 : Int) < bs.length := by omega
          have hbd : decide ((0 : Int) < bs.length) = true := decide_eq_true hbi
          go_wp2
          refine bodyPost_ret (v := .tuple #[.slice va bs.length vc, .int .i64 0]) (by simp [results, Tryz.results89]) rfl ?_
          rw [HREAD.out, if_pos hb0]
          exact ⟨(va, bs.length, vc), rfl, HVE.out, HEND.out⟩
        · have hbi : ¬ (0 : Int) < bs.length := by omega
          have hbd : decide ((0 : Int) < bs.length) = false := decide_eq_false hbi
          by_cases hw : x.wr = 0
          · rw [hw] at c5
            go_wp2
            refine bodyPost_ret (v := .tuple #[.slice none 0 0, .int .i64 16]) (by simp [results, Tryz.results89]) rfl ?_
            rw [HREAD.out, if_neg hb0, if_neg (by simpa using hw)]
            exact ⟨(none, 0, 0), rfl, BsO.nil _ _, HEND.out⟩
          · have hwd : decide (x.wr = 0) = false := decide_eq_false hw
            go_wp2
            go_quiet (fail)
            go_wp2
            refine bodyPost_ret (v := .tuple #[.slice none 0 0, .int .i64 x.wr]) (by simp [results, Tryz.results89]) rfl ?_
            rw [HREAD.out, if_neg hb0, if_pos hw]
            exact ⟨(none, 0, 0), rfl, BsO.nil _ _, HEND.out.more ((Fr.refl [] _).drewN _)⟩
      | true =>
        have hoz' : x.isOpen = false := by have := HACT.out; rw [hbz'] at this; simpa using this
        have HBZ := Lib.hid hbz'
        have HOZ := Lib.hid hoz'
        clear hbz' hoz'
        have hbz : x.busy = true := HBZ.out
        rw [hbz] at c1
        have hoz : x.isOpen = false := HOZ.out
        rw [hoz] at HOP
        clear hoz
        clear hbz
        have hrz := bldRope0
        obtain ⟨X, hX⟩ : ∃ A, w.heap.size = A := ⟨_, rfl⟩
        obtain ⟨wX, hwX⟩ : ∃ z, w.alloc (.cells #[.slice none 0 0, .int .i64 0] 128) = z := ⟨_, rfl⟩
        have hbX : Blk wX X 128 [.slice none 0 0, .int .i64 0] := by rw [← hwX, ← hX]; exact Blk.made w 128 _
        have fX : Fr [] w wX := by rw [← hwX]; exact (Fr.refl [] w).alloc _
        have c0 := fX.keep c0 (by simp)
        have HBX := Lib.hid hbX
        have HFX := Lib.hid fX
        have HWX := Lib.hid hwX
        have HX := Lib.hid hX
        clear hbX fX hwX hX
        go_enter Tryz.func89, Tryz.ntmps89
        go_wp2_with fail
        refine HNO.out.mono ?_
        rintro e w' ⟨rfl, rfl⟩
        go_wp2_with fail
        refine HOP.out.mono ?_
        rintro e w' ⟨rfl, rfl⟩
        go_upto_region 12 with fail
        rw [HWX.out]
        simp only [HX.out]
        go_wp2_with fail
        refine (HTK.out wX HFX.out (.pointer (some ⟨X, 0, none⟩))).mono ?_
        rintro e w2 ⟨v, rfl, hv, hr2, f2⟩
        rw [HBC.out] at hv
        have hvn := (bsO_cap hv).1
        obtain ⟨va, vn, vc⟩ := v
        simp only at hvn
        subst hvn
        simp only [slv]
        have HVS := Lib.hid (hv.base (HFX.out.size))
        have HR2 := Lib.hid hr2
        have hf2 : Fr [r, g] w w2 := (HFX.out.mono (T := [r, g]) (fun x hx _ => by cases hx)).trans f2 (fun x hx _ => hx)
        have HF2 := Lib.hid hf2
        have HB2 := Lib.hid (HB.out.keep hf2 (by have := HRI.out; simp only [List.mem_cons, List.not_mem_nil, or_false, not_or]; exact ⟨Ne.symm this.2.2.1, Ne.symm this.2.2.2.1⟩))
        have k4 : w2.cell? ⟨s, 4, none⟩ = some (.int .i64 x.acc) := HB2.out.at 4 _ rfl
        clear hv hr2 f2 hf2
        go_upto_region 13 with fail
        refine wp_region_lit ?_
        refine wpList_plain rfl (fun K hK => ?_); go_simp; refine hK _ _ ?_; clear hK K
        refine wpList_plain rfl (fun K hK => ?_); go_simp; refine hK _ _ ?_; clear hK K
        refine wpList_plain rfl (fun K hK => ?_); go_simp; refine hK _ _ ?_; clear hK K
        refine wpList_plain rfl (fun K hK => ?_); go_simp; refine hK _ _ ?_; clear hK K
        refine wpList_plain rfl (fun K hK => ?_); go_simp; refine hK _ _ ?_; clear hK K
        refine wpList_plain rfl (fun K hK => ?_); go_simp; refine hK _ _ ?_; clear hK K
        refine wpList_plain rfl (fun K hK => ?_); go_simp; refine hK _ _ ?_; clear hK K
        refine wpList_plain rfl (fun K hK => ?_); go_simp; refine hK _ _ ?_; clear hK K
        try simp only [Act.put, qj1, qj2, qj3, qj4, qj5, qj6]
        obtain ⟨w3, hst, hb_, hf_⟩ := store_cell (t := 3) (o := 4) (.int .i64 x.acc) size3 rfl rfl HB2.out (by simp [stB])
        refine wpList_skp rfl (w' := w3) ?_ ?_
        · show Sem.run Tryz.prog ((Instr.storeAt 3 (.pointer (some ⟨s, 4, none⟩)) (.int .i64 x.acc)) >>= fun _ => pure Next.skip) _ = _
          rw [Sem.run_bind, hst]
          rfl
        clear hst
        try simp only [Act.put, qj1, qj2, qj3, qj4, qj5, qj6]
        refine wpList_nil ?_
        try simp only [Act.put, qj1, qj2, qj3, qj4, qj5, qj6]
        have HF3 := Lib.hid hf_
        have hb3 : Blk w3 s 209 (stB x (.iface 251 (.agg #[.pointer (some ⟨r, 0, none⟩)])) q) := hb_
        have hri := HRI.out
        have hlen : (ringPut l f 0 (List.replicate j 0)).length = l.length := ringPut_len HRG.out.hf (by rw [List.length_replicate]; have := HRG.out.hn; have := HJ.out; omega)
        have hyy := HTY.out.2
        have hF : Fr [s, r, g] w w3 := (HF2.out.mono (T := [s, r, g]) (fun x hx _ => List.mem_cons_of_mem _ hx)).trans (hf_.mono (T := [s, r, g]) (fun x hx _ => by rw [List.mem_singleton] at hx; subst hx; simp)) (fun x hx _ => hx)
        have hown : ∀ z ∈ [s, r, g], own z = c := fun z hz => by
          simp only [List.mem_cons, List.not_mem_nil, or_false] at hz
          rcases hz with rfl | rfl | rfl
          · exact HOS.out
          · exact hri.1
          · exact hri.2.1
        have hx3 := Ext.new w own 3
        have HA3 := Lib.hid (show StrA w3 (ownNew w own 3) c s y from by
          rw [hyy]
          exact ⟨(hx3 s HB.out.lt).trans HOS.out, _, q, hb3, .inr ⟨r, g, ringPut l f 0 (List.replicate j 0), cp, (f + j) % l.length, n - j, (hx3 r HRG.out.blk.lt).trans hri.1, (hx3 g HRG.out.row.lt).trans hri.2.1, hri.2.2.1, hri.2.2.2.1, hri.2.2.2.2, by rw [hlen]; exact HCC.out.1, by rw [HCS.out, HCC.out.2.1, List.drop_eq_drop_iff]; have := HCC.out.2.2; have := HJ.out; omega, by simp only [List.length_drop]; have := HCC.out.2.2; have := HJ.out; omega, HR2.out.keep hf_ (by simpa using hri.2.2.1) (by simpa using hri.2.2.2.1), rfl⟩, (HR.out.keep hF (fun z hz hl => by rw [hown z hz]; exact hc3)).to3 (Ext.refl _ _)⟩)
        have HFW := Lib.hid (FrO.of (Q := fun z => z = c) hF hown)
        have HVS3 := Lib.hid (show BsO w3 w.heap.size (va, bs.length, vc) bs from bsO_fr HVS.out hf_ (fun z hz => by rw [List.mem_singleton] at hz; subst hz; exact HB.out.lt))
        clear hb_ hf_ hb3 hF hown hlen hyy k4
        go_wp2_with fail
        refine (strRefill HA3.out HYO.out hc3).mono ?_
        rintro e w4 ⟨rfl, own4, hx4, ha4, hf4⟩
        obtain ⟨st4, p4, hb4, _, _⟩ := ha4.at_
        have c5 : w4.cell? ⟨s, 5, none⟩ = some (.int .i64 x.wr) := by rw [← HYW.out, ← fill_wr]; exact hb4.at 5 _ rfl
        have HEND := Lib.hid (show StrOut own c s y.fill w w4 from ⟨own4, fun z hz => (hx4 z (Nat.lt_of_lt_of_le hz HFW.out.size)).trans ((Ext.new w own 3) z hz), ha4, HFW.out.trans hf4 (Ext.new w own 3)⟩)
        have HVE := Lib.hid (show BsO w4 w.heap.size (va, bs.length, vc) bs from by
          obtain ⟨T, k1, k2⟩ := hf4
          exact rowFr' HVS3.out k1 (fun g hg hm => by
            have h1 := bsO_low HVS3.out g hg
            have h2 := k2 g hm h1.2
            rw [ownNew_ge h1.1] at h2
            exact hc3 h2.symm))
        clear hx4 ha4 hf4 hb4
        by_cases hb0 : 0 < bs.length
        · have hbi : (0 : Int) < bs.length := by omega
          have hbd : decide ((0 : Int) < bs.length) = true := decide_eq_true hbi
          go_wp2
          refine bodyPost_ret (v := .tuple #[.slice va bs.length vc, .int .i64 0]) (by simp [results, Tryz.results89]) rfl ?_
          rw [HREAD.out, if_pos hb0]
          exact ⟨(va, bs.length, vc), rfl, HVE.out, HEND.out⟩
        · have hbi : ¬ (0 : Int) < bs.length := by omega
          have hbd : decide ((0 : Int) < bs.length) = false := decide_eq_false hbi
          by_cases hw : x.wr = 0
          · rw [hw] at c5
            go_wp2
            refine bodyPost_ret (v := .tuple #[.slice none 0 0, .int .i64 16]) (by simp [results, Tryz.results89]) rfl ?_
            rw [HREAD.out, if_neg hb0, if_neg (by simpa using hw)]
            exact ⟨(none, 0, 0), rfl, BsO.nil _ _, HEND.out⟩
          · have hwd : decide (x.wr = 0) = false := decide_eq_false hw
            go_wp2
            go_quiet (fail)
            go_wp2
            refine bodyPost_ret (v := .tuple #[.slice none 0 0, .int .i64 x.wr]) (by simp [results, Tryz.results89]) rfl ?_
            rw [HREAD.out, if_neg hb0, if_pos hw]
            exact ⟨(none, 0, 0), rfl, BsO.nil _ _, HEND.out.more ((Fr.refl [] _).drewN _)⟩
  · skip
    have hm := take_dm
    have HCB := Lib.hid (And.intro hcap hbuf)
    have hbl := HOK.out.acc1
    have ha0 := HOK.out.acc0
    cases act with
    | true =>
      have hty : bs = x.rest.take k ∧ y = { x with rest := x.rest.drop k, acc := x.acc + (bs.length : Nat) } := by
        have := HBY.out
        unfold SS.takeN at this
        rw [if_pos hcap, if_pos HACT.out] at this
        simp only [Prod.mk.injEq] at this
        refine ⟨this.1.symm, ?_⟩
        rw [← this.2, ← this.1]
      have hble : bs.length ≤ x.rest.length := by rw [hty.1, List.length_take]; omega
      have hwq : IntKind.i64.wrap (x.acc + (bs.length : Int)) = x.acc + (bs.length : Int) := IntWalk.i64_in _ (by omega)
      have HTK := Lib.hid (take_direct HR.out (by omega) (q := s) (t := 209) (pre := [.iface 246 (.agg #[]), .bool x.busy]) (post := [.int .i64 x.acc, .int .i64 x.wr, .int .i64 x.rd]) HB.out (by rw [HOS.out]; exact hc3) k (by have := HK.out; omega))
      rw [← hty.1] at HTK
      have HTY := Lib.hid hty
      clear hcap hbuf hty
      have hbz : x.busy = true ∧ x.isOpen = true := by have := HACT.out; simpa using this
      rw [hbz.1] at c1
      rw [hbz.2] at HOP
      have HBO := Lib.hid hbz
      clear hbz
      go_enter Tryz.func89, Tryz.ntmps89
      go_wp2_with fail
      refine HNO.out.mono ?_
      rintro e w' ⟨rfl, rfl⟩
      go_wp2_with fail
      refine HOP.out.mono ?_
      rintro e w' ⟨rfl, rfl⟩
      go_upto_region 12 with fail
      go_wp2_with fail
      refine HTK.out.mono ?_
      rintro e w2 ⟨v, p2, own2, rfl, hv, hp2, hq2, hx2, f2⟩
      have hvn := (bsO_cap hv).1
      obtain ⟨va, vn, vc⟩ := v
      simp only at hvn
      subst hvn
      simp only [slv]
      have HVS := Lib.hid hv
      have HP2 := Lib.hid (hp2.to3 hx2)
      have HQ2 := Lib.hid hq2
      have HF2 := Lib.hid f2
      have k4 : w2.cell? ⟨s, 4, none⟩ = some (.int .i64 x.acc) := HQ2.out.at 4 _ rfl
      clear hv hp2 hq2 hx2 f2
      go_upto_region 13 with fail
      refine wp_region_lit ?_
      refine wpList_plain rfl (fun K hK => ?_); go_simp; refine hK _ _ ?_; clear hK K
      refine wpList_plain rfl (fun K hK => ?_); go_simp; refine hK _ _ ?_; clear hK K
      refine wpList_plain rfl (fun K hK => ?_); go_simp; refine hK _ _ ?_; clear hK K
      refine wpList_plain rfl (fun K hK => ?_); go_simp; refine hK _ _ ?_; clear hK K
      refine wpList_plain rfl (fun K hK => ?_); go_simp; refine hK _ _ ?_; clear hK K
      refine wpList_plain rfl (fun K hK => ?_); go_simp; refine hK _ _ ?_; clear hK K
      refine wpList_plain rfl (fun K hK => ?_); go_simp; refine hK _ _ ?_; clear hK K
      refine wpList_plain rfl (fun K hK => ?_); go_simp; refine hK _ _ ?_; clear hK K
      try simp only [Act.put, qj1, qj2, qj3, qj4, qj5, qj6]
      obtain ⟨w3, hst, hb_, hf_⟩ := store_cell (t := 3) (o := 4) (.int .i64 (x.acc + (bs.length : Int))) size3 rfl rfl HQ2.out (by simp [ropeIn])
      refine wpList_skp rfl (w' := w3) ?_ ?_
      · show Sem.run Tryz.prog ((Instr.storeAt 3 (.pointer (some ⟨s, 4, none⟩)) (.int .i64 (x.acc + (bs.length : Int)))) >>= fun _ => pure Next.skip) _ = _
        rw [Sem.run_bind, hst]
        rfl
      clear hst
      try simp only [Act.put, qj1, qj2, qj3, qj4, qj5, qj6]
      refine wpList_nil ?_
      try simp only [Act.put, qj1, qj2, qj3, qj4, qj5, qj6]
      have HF3 := Lib.hid hf_
      have hyy := HTY.out.2
      have hb3 : Blk w3 s 209 (stB y (.iface 246 (.agg #[])) p2) := by rw [hyy]; exact hb_
      have hF : Fr [s] w w3 := HF2.out.trans hf_ (fun x hx _ => hx)
      have hx3 := Ext.new w own 3
      have HA3 := Lib.hid (show StrA w3 (ownNew w own 3) c s y from ⟨(hx3 s HB.out.lt).trans HOS.out, _, p2, hb3, .inl (by rw [hyy]; exact ⟨HCB.out.1, HCB.out.2, rfl⟩), by
        have h1 : y.rest = x.rest.drop k := by rw [hyy]
        rw [h1]
        exact HP2.out.keep hf_ (fun z hz hl => by rw [List.mem_singleton] at hz; subst hz; rw [hx3 z HB.out.lt, HOS.out]; exact hc3)⟩)
      have HFW := Lib.hid (FrO.of (own := own) (Q := fun z => z = c) hF (fun z hz => by rw [List.mem_singleton] at hz; subst hz; exact HOS.out))
      have HVS3 := Lib.hid (show BsO w3 w.heap.size (va, bs.length, vc) bs from bsO_fr HVS.out hf_ (fun z hz => by rw [List.mem_singleton] at hz; subst hz; exact HB.out.lt))
      clear hb_ hf_ hb3 hF hyy k4
      go_wp2_with fail
      refine (strRefill HA3.out HYO.out hc3).mono ?_
      rintro e w4 ⟨rfl, own4, hx4, ha4, hf4⟩
      obtain ⟨st4, p4, hb4, _, _⟩ := ha4.at_
      have c5 : w4.cell? ⟨s, 5, none⟩ = some (.int .i64 x.wr) := by rw [← HYW.out, ← fill_wr]; exact hb4.at 5 _ rfl
      have HEND := Lib.hid (show StrOut own c s y.fill w w4 from ⟨own4, fun z hz => (hx4 z (Nat.lt_of_lt_of_le hz HFW.out.size)).trans ((Ext.new w own 3) z hz), ha4, HFW.out.trans hf4 (Ext.new w own 3)⟩)
      have HVE := Lib.hid (show BsO w4 w.heap.size (va, bs.length, vc) bs from by
        obtain ⟨T, k1, k2⟩ := hf4
        exact rowFr' HVS3.out k1 (fun g hg hm => by
          have h1 := bsO_low HVS3.out g hg
          have h2 := k2 g hm h1.2
          rw [ownNew_ge h1.1] at h2
          exact hc3 h2.symm))
      clear hx4 ha4 hf4 hb4
      by_cases hb0 : 0 < bs.length
      · have hbi : (0 : Int) < bs.length := by omega
        have hbd : decide ((0 : Int) < bs.length) = true := decide_eq_true hbi
        go_wp2
        refine bodyPost_ret (v := .tuple #[.slice va bs.length vc, .int .i64 0]) (by simp [results, Tryz.results89]) rfl ?_
        rw [HREAD.out, if_pos hb0]
        exact ⟨(va, bs.length, vc), rfl, HVE.out, HEND.out⟩
      · have hbi : ¬ (0 : Int) < bs.length := by omega
        have hbd : decide ((0 : Int) < bs.length) = false := decide_eq_false hbi
        by_cases hw : x.wr = 0
        · rw [hw] at c5
          go_wp2
          refine bodyPost_ret (v := .tuple #[.slice none 0 0, .int .i64 16]) (by simp [results, Tryz.results89]) rfl ?_
          rw [HREAD.out, if_neg hb0, if_neg (by simpa using hw)]
          exact ⟨(none, 0, 0), rfl, BsO.nil _ _, HEND.out⟩
        · have hwd : decide (x.wr = 0) = false := decide_eq_false hw
          go_wp2
          go_quiet (fail)
          go_wp2
          refine bodyPost_ret (v := .tuple #[.slice none 0 0, .int .i64 x.wr]) (by simp [results, Tryz.results89]) rfl ?_
          rw [HREAD.out, if_neg hb0, if_pos hw]
          exact ⟨(none, 0, 0), rfl, BsO.nil _ _, HEND.out.more ((Fr.refl [] _).drewN _)⟩
    | false =>
      have hty : bs = [] ∧ y = x := by
        have := HBY.out
        unfold SS.takeN at this
        rw [if_pos hcap, if_neg (by rw [HACT.out]; simp)] at this
        simp only [Prod.mk.injEq] at this
        exact ⟨this.1.symm, this.2.symm⟩
      have HTY := Lib.hid hty
      clear hcap hbuf hty
      cases hbz' : x.busy with
      | false =>
        have HBZ := Lib.hid hbz'
        clear hbz'
        have hbz : x.busy = false := HBZ.out
        rw [hbz] at c1
        clear hbz
        have hrz := bldRope0
        obtain ⟨X, hX⟩ : ∃ A, w.heap.size = A := ⟨_, rfl⟩
        obtain ⟨wX, hwX⟩ : ∃ z, w.alloc (.cells #[.slice none 0 0, .int .i64 0] 128) = z := ⟨_, rfl⟩
        have hbX : Blk wX X 128 [.slice none 0 0, .int .i64 0] := by rw [← hwX, ← hX]; exact Blk.made w 128 _
        have fX : Fr [] w wX := by rw [← hwX]; exact (Fr.refl [] w).alloc _
        have c0 := fX.keep c0 (by simp)
        have HBX := Lib.hid hbX
        have HFX := Lib.hid fX
        have HWX := Lib.hid hwX
        have HX := Lib.hid hX
        clear hbX fX hwX hX
        go_enter Tryz.func89, Tryz.ntmps89
        go_wp2_with fail
        refine HNO.out.mono ?_
        rintro e w' ⟨rfl, rfl⟩
        go_upto_region 12 with fail
        rw [HWX.out]
        simp only [HX.out]
        have htk := take_direct (own := ownNew w own 4) (RopeB.nil wX (ownNew w own 4)) (by simp) (q := X) (t := 128) (pre := []) (post := []) HBX.out (by rw [ownNew_ge (by have := HX.out; omega)]; omega) k (by have := HK.out; omega)
        rw [List.take_nil, List.drop_nil, ← HTY.out.1] at htk
        have HTK := Lib.hid htk
        clear htk
        go_wp2_with fail
        refine HTK.out.mono ?_
        rintro e w2 ⟨v, p2, own2, rfl, hv, hp2, hq2, hx2, f2⟩
        have hvn := (bsO_cap hv).1
        obtain ⟨va, vn, vc⟩ := v
        simp only at hvn
        subst hvn
        simp only [slv]
        have HVS := Lib.hid (hv.base HFX.out.size)
        have hf2 : Fr [] w w2 := HFX.out.trans f2 (fun x hx hl => by rw [List.mem_singleton] at hx; have := HX.out; omega)
        have HF2 := Lib.hid hf2
        have HB2 := Lib.hid (HB.out.keep hf2 (by simp))
        have k4 : w2.cell? ⟨s, 4, none⟩ = some (.int .i64 x.acc) := HB2.out.at 4 _ rfl
        have HBN := Lib.hid (show bs.length = 0 from by rw [HTY.out.1]; rfl)
        clear hv hp2 hq2 hx2 f2 hf2
        go_upto_region 13 with fail
        have hwq : IntKind.i64.wrap (x.acc + (bs.length : Int)) = x.acc := by rw [HBN.out]; simpa using hwb
        refine wp_region_lit ?_
        refine wpList_plain rfl (fun K hK => ?_); go_simp; refine hK _ _ ?_; clear hK K
        refine wpList_plain rfl (fun K hK => ?_); go_simp; refine hK _ _ ?_; clear hK K
        refine wpList_plain rfl (fun K hK => ?_); go_simp; refine hK _ _ ?_; clear hK K
        refine wpList_plain rfl (fun K hK => ?_); go_simp; refine hK _ _ ?_; clear hK K
        refine wpList_plain rfl (fun K hK => ?_); go_simp; refine hK _ _ ?_; clear hK K
        refine wpList_plain rfl (fun K hK => ?_); go_simp; refine hK _ _ ?_; clear hK K
        refine wpList_plain rfl (fun K hK => ?_); go_simp; refine hK _ _ ?_; clear hK K
        refine wpList_plain rfl (fun K hK => ?_); go_simp; refine hK _ _ ?_; clear hK K
        try simp only [Act.put, qj1, qj2, qj3, qj4, qj5, qj6]
        obtain ⟨w3, hst, hb_, hf_⟩ := store_cell (t := 3) (o := 4) (.int .i64 x.acc) size3 rfl rfl HB2.out (by simp [stB])
        refine wpList_skp rfl (w' := w3) ?_ ?_
        · show Sem.run Tryz.prog ((Instr.storeAt 3 (.pointer (some ⟨s, 4, none⟩)) (.int .i64 x.acc)) >>= fun _ => pure Next.skip) _ = _
          rw [Sem.run_bind, hst]
          rfl
        clear hst
        try simp only [Act.put, qj1, qj2, qj3, qj4, qj5, qj6]
        refine wpList_nil ?_
        try simp only [Act.put, qj1, qj2, qj3, qj4, qj5, qj6]
        have HF3 := Lib.hid hf_
        have hb3 : Blk w3 s 209 (stB x (.iface 246 (.agg #[])) q) := hb_
        have hF : Fr [s] w w3 := (HF2.out.mono (T := [s]) (fun x hx _ => by cases hx)).trans hf_ (fun x hx _ => hx)
        have hx3 := Ext.new w own 3
        have HA3 := Lib.hid (show StrA w3 (ownNew w own 3) c s y from by
          rw [HTY.out.2]
          exact ⟨(hx3 s HB.out.lt).trans HOS.out, _, q, hb3, .inl ⟨HCB.out.1, HCB.out.2, rfl⟩, (HR.out.keep hF (fun z hz hl => by rw [List.mem_singleton] at hz; subst hz; rw [HOS.out]; exact hc3)).to3 (Ext.refl _ _)⟩)
        have HFW := Lib.hid (FrO.of (own := own) (Q := fun z => z = c) hF (fun z hz => by rw [List.mem_singleton] at hz; subst hz; exact HOS.out))
        have HVS3 := Lib.hid (show BsO w3 w.heap.size (va, bs.length, vc) bs from bsO_fr HVS.out hf_ (fun z hz => by rw [List.mem_singleton] at hz; subst hz; exact HB.out.lt))
        clear hb_ hf_ hb3 hF k4
        go_wp2_with fail
        refine (strRefill HA3.out HYO.out hc3).mono ?_
        rintro e w4 ⟨rfl, own4, hx4, ha4, hf4⟩
        obtain ⟨st4, p4, hb4, _, _⟩ := ha4.at_
        have c5 : w4.cell? ⟨s, 5, none⟩ = some (.int .i64 x.wr) := by rw [← HYW.out, ← fill_wr]; exact hb4.at 5 _ rfl
        have HEND := Lib.hid (show StrOut own c s y.fill w w4 from ⟨own4, fun z hz => (hx4 z (Nat.lt_of_lt_of_le hz HFW.out.size)).trans ((Ext.new w own 3) z hz), ha4, HFW.out.trans hf4 (Ext.new w own 3)⟩)
        have HVE := Lib.hid (show BsO w4 w.heap.size (va, bs.length, vc) bs from by
          obtain ⟨T, k1, k2⟩ := hf4
          exact rowFr' HVS3.out k1 (fun g hg hm => by
            have h1 := bsO_low HVS3.out g hg
            have h2 := k2 g hm h1.2
            rw [ownNew_ge h1.1] at h2
            exact hc3 h2.symm))
        clear hx4 ha4 hf4 hb4
        by_cases hb0 : 0 < bs.length
        · have hbi : (0 : Int) < bs.length := by omega
          have hbd : decide ((0 : Int) < bs.length) = true := decide_eq_true hbi
          go_wp2
          refine bodyPost_ret (v := .tuple #[.slice va bs.length vc, .int .i64 0]) (by simp [results, Tryz.results89]) rfl ?_
          rw [HREAD.out, if_pos hb0]
          exact ⟨(va, bs.length, vc), rfl, HVE.out, HEND.out⟩
        · have hbi : ¬ (0 : Int) < bs.length := by omega
          have hbd : decide ((0 : Int) < bs.length) = false := decide_eq_false hbi
          by_cases hw : x.wr = 0
          · rw [hw] at c5
            go_wp2
            refine bodyPost_ret (v := .tuple #[.slice none 0 0, .int .i64 16]) (by simp [results, Tryz.results89]) rfl ?_
            rw [HREAD.out, if_neg hb0, if_neg (by simpa using hw)]
            exact ⟨(none, 0, 0), rfl, BsO.nil _ _, HEND.out⟩
          · have hwd : decide (x.wr = 0) = false := decide_eq_false hw
            go_wp2
            go_quiet (fail)
            go_wp2
            refine bodyPost_ret (v := .tuple #[.slice none 0 0, .int .i64 x.wr]) (by simp [results, Tryz.results89]) rfl ?_
            rw [HREAD.out, if_neg hb0, if_pos hw]
            exact ⟨(none, 0, 0), rfl, BsO.nil _ _, HEND.out.more ((Fr.refl [] _).drewN _)⟩
      | true =>
        have hoz' : x.isOpen = false := by have := HACT.out; rw [hbz'] at this; simpa using this
        have HBZ := Lib.hid hbz'
        have HOZ := Lib.hid hoz'
        clear hbz' hoz'
        have hbz : x.busy = true := HBZ.out
        rw [hbz] at c1
        have hoz : x.isOpen = false := HOZ.out
        rw [hoz] at HOP
        clear hoz
        clear hbz
        have hrz := bldRope0
        obtain ⟨X, hX⟩ : ∃ A, w.heap.size = A := ⟨_, rfl⟩
        obtain ⟨wX, hwX⟩ : ∃ z, w.alloc (.cells #[.slice none 0 0, .int .i64 0] 128) = z := ⟨_, rfl⟩
        have hbX : Blk wX X 128 [.slice none 0 0, .int .i64 0] := by rw [← hwX, ← hX]; exact Blk.made w 128 _
        have fX : Fr [] w wX := by rw [← hwX]; exact (Fr.refl [] w).alloc _
        have c0 := fX.keep c0 (by simp)
        have HBX := Lib.hid hbX
        have HFX := Lib.hid fX
        have HWX := Lib.hid hwX
        have HX := Lib.hid hX
        clear hbX fX hwX hX
        go_enter Tryz.func89, Tryz.ntmps89
        go_wp2_with fail
        refine HNO.out.mono ?_
        rintro e w' ⟨rfl, rfl⟩
        go_wp2_with fail
        refine HOP.out.mono ?_
        rintro e w' ⟨rfl, rfl⟩
        go_upto_region 12 with fail
        rw [HWX.out]
        simp only [HX.out]
        have htk := take_direct (own := ownNew w own 4) (RopeB.nil wX (ownNew w own 4)) (by simp) (q := X) (t := 128) (pre := []) (post := []) HBX.out (by rw [ownNew_ge (by have := HX.out; omega)]; omega) k (by have := HK.out; omega)
        rw [List.take_nil, List.drop_nil, ← HTY.out.1] at htk
        have HTK := Lib.hid htk
        clear htk
        go_wp2_with fail
        refine HTK.out.mono ?_
        rintro e w2 ⟨v, p2, own2, rfl, hv, hp2, hq2, hx2, f2⟩
        have hvn := (bsO_cap hv).1
        obtain ⟨va, vn, vc⟩ := v
        simp only at hvn
        subst hvn
        simp only [slv]
        have HVS := Lib.hid (hv.base HFX.out.size)
        have hf2 : Fr [] w w2 := HFX.out.trans f2 (fun x hx hl => by rw [List.mem_singleton] at hx; have := HX.out; omega)
        have HF2 := Lib.hid hf2
        have HB2 := Lib.hid (HB.out.keep hf2 (by simp))
        have k4 : w2.cell? ⟨s, 4, none⟩ = some (.int .i64 x.acc) := HB2.out.at 4 _ rfl
        have HBN := Lib.hid (show bs.length = 0 from by rw [HTY.out.1]; rfl)
        clear hv hp2 hq2 hx2 f2 hf2
        go_upto_region 13 with fail
        have hwq : IntKind.i64.wrap (x.acc + (bs.length : Int)) = x.acc := by rw [HBN.out]; simpa using hwb
        refine wp_region_lit ?_
        refine wpList_plain rfl (fun K hK => ?_); go_simp; refine hK _ _ ?_; clear hK K
        refine wpList_plain rfl (fun K hK => ?_); go_simp; refine hK _ _ ?_; clear hK K
        refine wpList_plain rfl (fun K hK => ?_); go_simp; refine hK _ _ ?_; clear hK K
        refine wpList_plain rfl (fun K hK => ?_); go_simp; refine hK _ _ ?_; clear hK K
        refine wpList_plain rfl (fun K hK => ?_); go_simp; refine hK _ _ ?_; clear hK K
        refine wpList_plain rfl (fun K hK => ?_); go_simp; refine hK _ _ ?_; clear hK K
        refine wpList_plain rfl (fun K hK => ?_); go_simp; refine hK _ _ ?_; clear hK K
        refine wpList_plain rfl (fun K hK => ?_); go_simp; refine hK _ _ ?_; clear hK K
        try simp only [Act.put, qj1, qj2, qj3, qj4, qj5, qj6]
        obtain ⟨w3, hst, hb_, hf_⟩ := store_cell (t := 3) (o := 4) (.int .i64 x.acc) size3 rfl rfl HB2.out (by simp [stB])
        refine wpList_skp rfl (w' := w3) ?_ ?_
        · show Sem.run Tryz.prog ((Instr.storeAt 3 (.pointer (some ⟨s, 4, none⟩)) (.int .i64 x.acc)) >>= fun _ => pure Next.skip) _ = _
          rw [Sem.run_bind, hst]
          rfl
        clear hst
        try simp only [Act.put, qj1, qj2, qj3, qj4, qj5, qj6]
        refine wpList_nil ?_
        try simp only [Act.put, qj1, qj2, qj3, qj4, qj5, qj6]
        have HF3 := Lib.hid hf_
        have hb3 : Blk w3 s 209 (stB x (.iface 246 (.agg #[])) q) := hb_
        have hF : Fr [s] w w3 := (HF2.out.mono (T := [s]) (fun x hx _ => by cases hx)).trans hf_ (fun x hx _ => hx)
        have hx3 := Ext.new w own 3
        have HA3 := Lib.hid (show StrA w3 (ownNew w own 3) c s y from by
          rw [HTY.out.2]
          exact ⟨(hx3 s HB.out.lt).trans HOS.out, _, q, hb3, .inl ⟨HCB.out.1, HCB.out.2, rfl⟩, (HR.out.keep hF (fun z hz hl => by rw [List.mem_singleton] at hz; subst hz; rw [HOS.out]; exact hc3)).to3 (Ext.refl _ _)⟩)
        have HFW := Lib.hid (FrO.of (own := own) (Q := fun z => z = c) hF (fun z hz => by rw [List.mem_singleton] at hz; subst hz; exact HOS.out))
        have HVS3 := Lib.hid (show BsO w3 w.heap.size (va, bs.length, vc) bs from bsO_fr HVS.out hf_ (fun z hz => by rw [List.mem_singleton] at hz; subst hz; exact HB.out.lt))
        clear hb_ hf_ hb3 hF k4
        go_wp2_with fail
        refine (strRefill HA3.out HYO.out hc3).mono ?_
        rintro e w4 ⟨rfl, own4, hx4, ha4, hf4⟩
        obtain ⟨st4, p4, hb4, _, _⟩ := ha4.at_
        have c5 : w4.cell? ⟨s, 5, none⟩ = some (.int .i64 x.wr) := by rw [← HYW.out, ← fill_wr]; exact hb4.at 5 _ rfl
        have HEND := Lib.hid (show StrOut own c s y.fill w w4 from ⟨own4, fun z hz => (hx4 z (Nat.lt_of_lt_of_le hz HFW.out.size)).trans ((Ext.new w own 3) z hz), ha4, HFW.out.trans hf4 (Ext.new w own 3)⟩)
        have HVE := Lib.hid (show BsO w4 w.heap.size (va, bs.length, vc) bs from by
          obtain ⟨T, k1, k2⟩ := hf4
          exact rowFr' HVS3.out k1 (fun g hg hm => by
            have h1 := bsO_low HVS3.out g hg
            have h2 := k2 g hm h1.2
            rw [ownNew_ge h1.1] at h2
            exact hc3 h2.symm))
        clear hx4 ha4 hf4 hb4
        by_cases hb0 : 0 < bs.length
        · have hbi : (0 : Int) < bs.length := by omega
          have hbd : decide ((0 : Int) < bs.length) = true := decide_eq_true hbi
          go_wp2
          refine bodyPost_ret (v := .tuple #[.slice va bs.length vc, .int .i64 0]) (by simp [results, Tryz.results89]) rfl ?_
          rw [HREAD.out, if_pos hb0]
          exact ⟨(va, bs.length, vc), rfl, HVE.out, HEND.out⟩
        · have hbi : ¬ (0 : Int) < bs.length := by omega
          have hbd : decide ((0 : Int) < bs.length) = false := decide_eq_false hbi
          by_cases hw : x.wr = 0
          · rw [hw] at c5
            go_wp2
            refine bodyPost_ret (v := .tuple #[.slice none 0 0, .int .i64 16]) (by simp [results, Tryz.results89]) rfl ?_
            rw [HREAD.out, if_neg hb0, if_neg (by simpa using hw)]
            exact ⟨(none, 0, 0), rfl, BsO.nil _ _, HEND.out⟩
          · have hwd : decide (x.wr = 0) = false := decide_eq_false hw
            go_wp2
            go_quiet (fail)
            go_wp2
            refine bodyPost_ret (v := .tuple #[.slice none 0 0, .int .i64 x.wr]) (by simp [results, Tryz.results89]) rfl ?_
            rw [HREAD.out, if_neg hb0, if_pos hw]
            exact ⟨(none, 0, 0), rfl, BsO.nil _ _, HEND.out.more ((Fr.refl [] _).drewN _)⟩
end Go.Proofs.YtmdhlodafjpnmaaGreat
namespace Go.Proofs.YtmdhlodafjpnmaaGreat
open List renaming getElem_toArray → qj1, getElem_cons_succ → qj2, getElem_cons_zero → qj3, setIfInBounds_toArray → qj4, set_cons_zero → qj5, set_cons_succ → qj6
open Go.RowKit
open Go.Maps (Keyed)
set_option linter.unusedVariables false
set_option linter.unusedSimpArgs false
set_option maxRecDepth 100000
set_option maxHeartbeats 4000000

theorem blk_set {w : World} {b k : Nat} {t : TypeId} {ys : List Value} (h : Blk w b t ys) (v : Value) : Blk (w.setCell ⟨b, k, none⟩ v) b t (ys.set k v) := by
  unfold Blk at h ⊢
  simp [World.setCell, Array.getElem?_modify, h]
theorem blk_frozen {w : World} {b : Nat} {t : TypeId} {ys : List Value} (h : Blk w b t ys) (k : Nat) : w.frozen? ⟨b, k, none⟩ = false := by
  unfold Blk at h
  simp [World.frozen?, h]
theorem StOk.closeW {x : SS} (h : StOk x) : StOk (x.closeW 13).1 := by
  unfold SS.closeW
  split
  rotate_left
  · exact h
  · exact ⟨h.cap0, h.cap1, h.buf, h.acc0, h.acc1, by simp, h.rd, h.shut, h.idle, by simp⟩
theorem StOk.closeR {x : SS} (h : StOk x) : StOk (x.closeR 14).1 := by
  unfold SS.closeR
  split
  rotate_left
  · exact h
  · exact ⟨h.cap0, h.cap1, by simpa using h.cap0, h.acc0, h.acc1, h.wr, by simp, by simp, h.idle, by simp⟩
theorem sizeStore : ∀ w, (sizeOf 206).run Tryz.prog w = .ok 1 w := fun w => by kernel_rfl
theorem strDrop {w : World} {own : Nat → Nat} {c s : Nat} {x : SS} (h : StrA w own c s x) (h1 : x.cap ≤ 4096) (h0 : 0 ≤ x.cap) (hc3 : c ≠ 3) :
    Calls Tryz.prog 182 #[.pointer (some ⟨s, 0, none⟩)] w fun e w' => e = .returned (.tuple #[]) ∧ StrOut own c s { x with buf := [] } w w' := by
  obtain ⟨st, p, hb, hs, hr⟩ := h.at_
  have HOS := Lib.hid h.os
  have HR := Lib.hid hr
  have HB := Lib.hid hb
  have k0 : w.cell? ⟨s, 0, none⟩ = some st := hb.at 0 _ rfl
  have HOF := Lib.hid (fun W => strOf own c x.cap.toNat (by omega) W)
  have hcap : (x.cap.toNat : Int) = x.cap := Int.toNat_of_nonneg h0
  rw [hcap] at HOF
  have HCAP := Lib.hid hcap
  clear h hb hr hcap
  rcases hs with ⟨hc0, hbuf, rfl⟩ | ⟨r, g, l, cp, f, n, q1, q2, q3, q4, q5, q6, q7, q8, q9, rfl⟩
  · have hm := room_dm
    have HRM := Lib.hid (show Calls Tryz.prog 210 #[.agg #[]] w (fun e w' => e = .returned (.int .i64 x.cap) ∧ Fr [] w w') from by rw [hc0]; exact room_zero w)
    clear hc0
    go_enter Tryz.func182, Tryz.ntmps182
    go_upto_region 0 with fail
    refine wp_region_lit ?_
    refine wpList_plain rfl (fun K hK => ?_); go_simp; refine hK _ _ ?_; clear hK K
    refine wpList_plain rfl (fun K hK => ?_); go_simp; refine hK _ _ ?_; clear hK K
    refine wpList_plain rfl (fun K hK => ?_); go_simp; refine hK _ _ ?_; clear hK K
    refine wpList_plain rfl (fun K hK => ?_); go_simp; refine hK _ _ ?_; clear hK K
    refine wpList_plain rfl (fun K hK => ?_); go_simp; refine hK _ _ ?_; clear hK K
    refine wpList_plain rfl (fun K hK => ?_)
    go_simp
    refine HRM.out.mono ?_
    rintro e w1 ⟨rfl, f1⟩
    have HF1 := Lib.hid f1
    clear f1
    refine hK _ _ ?_
    clear hK K
    try simp only [Act.put, qj1, qj2, qj3, qj4, qj5, qj6]
    refine wpList_plain rfl (fun K hK => ?_)
    go_simp
    refine (HOF.out w1).mono ?_
    rintro e w2 ⟨ty, v, rfl, hs2, f2⟩
    have HS2 := Lib.hid hs2
    have HF2 := Lib.hid f2
    clear hs2 f2
    refine hK _ _ ?_
    clear hK K
    try simp only [Act.put, qj1, qj2, qj3, qj4, qj5, qj6]
    refine wpList_plain rfl (fun K hK => ?_); go_simp; refine hK _ _ ?_; clear hK K
    refine wpList_plain rfl (fun K hK => ?_); go_simp; refine hK _ _ ?_; clear hK K
    try simp only [Act.put, qj1, qj2, qj3, qj4, qj5, qj6]
    obtain ⟨w3, hst, hb_, hf_⟩ := store_cell (t := 206) (o := 0) (.iface ty v) sizeStore rfl rfl ((HB.out.keep HF1.out (by simp)).keep HF2.out (by simp)) (by simp [stB])
    refine wpList_skp rfl (w' := w3) ?_ ?_
    · show Sem.run Tryz.prog ((Instr.storeAt 206 (.pointer (some ⟨s, 0, none⟩)) (.iface ty v)) >>= fun _ => pure Next.skip) _ = _
      rw [Sem.run_bind, hst]
      rfl
    clear hst
    try simp only [Act.put, qj1, qj2, qj3, qj4, qj5, qj6]
    refine wpList_nil ?_
    try simp only [Act.put, qj1, qj2, qj3, qj4, qj5, qj6]
    go_end0
    have f12 : Fr [] w w2 := HF1.out.step HF2.out
    have f3 : Fr [s] w w3 := (f12.mono (T := [s]) (fun x hx _ => by cases hx)).trans hf_ (fun x hx _ => hx)
    have hx : Ext w own (ownNew w1 own c) := fun z hz => if_pos (Nat.lt_of_lt_of_le hz HF1.out.size)
    have hos : ownNew w1 own c s = c := (hx s HB.out.lt).trans HOS.out
    have hsl : s < w1.heap.size := Nat.lt_of_lt_of_le HB.out.lt HF1.out.size
    refine ⟨rfl, ownNew w1 own c, hx, ⟨hos, .iface ty v, p, hb_, ?_, ((HR.out.ext hx).new f12).keep hf_ (fun z hz hl => by rw [List.mem_singleton] at hz; subst hz; rw [hos]; exact hc3)⟩, FrO.of f3 (fun z hz => by rw [List.mem_singleton] at hz; subst hz; exact HOS.out)⟩
    have := (HS2.out s (.inl hsl)).keep1 hf_
    rw [HCAP.out] at this
    exact this
  · have hm := room_bm r
    have HRM := Lib.hid (show Calls Tryz.prog 219 #[.agg #[.pointer (some ⟨r, 0, none⟩)]] w (fun e w' => e = .returned (.int .i64 x.cap) ∧ Fr [] w w') from by rw [← q6]; exact room_rings q9)
    clear q1 q2 q3 q4 q5 q6 q7 q8 q9
    go_enter Tryz.func182, Tryz.ntmps182
    go_upto_region 0 with fail
    refine wp_region_lit ?_
    refine wpList_plain rfl (fun K hK => ?_); go_simp; refine hK _ _ ?_; clear hK K
    refine wpList_plain rfl (fun K hK => ?_); go_simp; refine hK _ _ ?_; clear hK K
    refine wpList_plain rfl (fun K hK => ?_); go_simp; refine hK _ _ ?_; clear hK K
    refine wpList_plain rfl (fun K hK => ?_); go_simp; refine hK _ _ ?_; clear hK K
    refine wpList_plain rfl (fun K hK => ?_); go_simp; refine hK _ _ ?_; clear hK K
    refine wpList_plain rfl (fun K hK => ?_)
    go_simp
    refine HRM.out.mono ?_
    rintro e w1 ⟨rfl, f1⟩
    have HF1 := Lib.hid f1
    clear f1
    refine hK _ _ ?_
    clear hK K
    try simp only [Act.put, qj1, qj2, qj3, qj4, qj5, qj6]
    refine wpList_plain rfl (fun K hK => ?_)
    go_simp
    refine (HOF.out w1).mono ?_
    rintro e w2 ⟨ty, v, rfl, hs2, f2⟩
    have HS2 := Lib.hid hs2
    have HF2 := Lib.hid f2
    clear hs2 f2
    refine hK _ _ ?_
    clear hK K
    try simp only [Act.put, qj1, qj2, qj3, qj4, qj5, qj6]
    refine wpList_plain rfl (fun K hK => ?_); go_simp; refine hK _ _ ?_; clear hK K
    refine wpList_plain rfl (fun K hK => ?_); go_simp; refine hK _ _ ?_; clear hK K
    try simp only [Act.put, qj1, qj2, qj3, qj4, qj5, qj6]
    obtain ⟨w3, hst, hb_, hf_⟩ := store_cell (t := 206) (o := 0) (.iface ty v) sizeStore rfl rfl ((HB.out.keep HF1.out (by simp)).keep HF2.out (by simp)) (by simp [stB])
    refine wpList_skp rfl (w' := w3) ?_ ?_
    · show Sem.run Tryz.prog ((Instr.storeAt 206 (.pointer (some ⟨s, 0, none⟩)) (.iface ty v)) >>= fun _ => pure Next.skip) _ = _
      rw [Sem.run_bind, hst]
      rfl
    clear hst
    try simp only [Act.put, qj1, qj2, qj3, qj4, qj5, qj6]
    refine wpList_nil ?_
    try simp only [Act.put, qj1, qj2, qj3, qj4, qj5, qj6]
    go_end0
    have f12 : Fr [] w w2 := HF1.out.step HF2.out
    have f3 : Fr [s] w w3 := (f12.mono (T := [s]) (fun x hx _ => by cases hx)).trans hf_ (fun x hx _ => hx)
    have hx : Ext w own (ownNew w1 own c) := fun z hz => if_pos (Nat.lt_of_lt_of_le hz HF1.out.size)
    have hos : ownNew w1 own c s = c := (hx s HB.out.lt).trans HOS.out
    have hsl : s < w1.heap.size := Nat.lt_of_lt_of_le HB.out.lt HF1.out.size
    refine ⟨rfl, ownNew w1 own c, hx, ⟨hos, .iface ty v, p, hb_, ?_, ((HR.out.ext hx).new f12).keep hf_ (fun z hz hl => by rw [List.mem_singleton] at hz; subst hz; rw [hos]; exact hc3)⟩, FrO.of f3 (fun z hz => by rw [List.mem_singleton] at hz; subst hz; exact HOS.out)⟩
    have := (HS2.out s (.inl hsl)).keep1 hf_
    rw [HCAP.out] at this
    exact this
theorem shutB_write {w : World} {own : Nat → Nat} {c s : Nat} {x : SS} (h : StrA w own c s x) (hc3 : c ≠ 3) :
    Calls Tryz.prog 169 #[.pointer (some ⟨s, 0, none⟩), .int .i64 0, .int .i64 13] w fun e w' => e = .returned (.int .i64 (x.closeW 13).2) ∧ StrOut own c s (x.closeW 13).1 w w' := by
  have HN := Lib.hid (strNone h)
  have HA := Lib.hid h
  obtain ⟨st, p, hb, hs, hr⟩ := h.at_
  have c5 : w.cell? ⟨s, 5, none⟩ = some (.int .i64 x.wr) := hb.at 5 _ rfl
  by_cases hw : x.wr = 0
  case neg =>
    have hx : x.closeW 13 = (x, 14) := by unfold SS.closeW; rw [if_neg hw]
    rw [hx]
    have hwd : decide (x.wr = 0) = false := decide_eq_false hw
    clear h hb hs hr
    go_enter Tryz.func169, Tryz.ntmps169
    go_wp2_with (go_at_call 130; refine HN.out.mono ?_; rintro e w' ⟨rfl, rfl⟩)
    go_ret
    exact ⟨rfl, StrOut.refl HA.out⟩
  have hx : x.closeW 13 = ({ x with wr := 13 }, 0) := by unfold SS.closeW; rw [if_pos hw]
  rw [hx]
  rw [hw] at c5
  have hmm := @run_makeMap Tryz.prog
  have z5 : w.frozen? ⟨s, 5, none⟩ = false := blk_frozen hb 5
  have zs := hb.lt
  have fs : Fr [s] w (w.setCell ⟨s, 5, none⟩ (.int .i64 13)) := (Fr.refl _ _).setCell (fun _ => by simp) _
  have hsz : (w.setCell ⟨s, 5, none⟩ (.int .i64 13)).heap.size = w.heap.size := by simp
  obtain ⟨w2, hrun, hm2, f2⟩ := (MapIs.made Tryz.prog 211 (w.setCell ⟨s, 5, none⟩ (.int .i64 13))).put keyEnd (t := 268) (e := 1) Tryz.underlying268 (x := .int .i64 1) (keyEnd_of 1 (by omega) (by omega)) (by simp) (.func (.func 182) #[.pointer (some ⟨s, 0, none⟩)] #[])
  have hlk := hm2.miss keyEnd (t := 268) (e := 1) Tryz.underlying268 (x := .int .i64 0) (keyEnd_of 0 (by omega) (by omega)) (by simp) (zeroFn w2) false
  simp only [Bool.false_eq_true, if_false] at hlk
  rw [hsz] at hrun hlk f2
  have fm : Fr [] (w.setCell ⟨s, 5, none⟩ (.int .i64 13)) w2 := Fr.trans (S := []) (T := [w.heap.size]) ((Fr.refl [] _).alloc _) f2 (fun x hx hlt => by simp at hx hlt; omega)
  have hnf : ∀ W : World, (binOp .neq 1 .nilFunc .nilFunc).run Tryz.prog W = .ok (.bool false) W := fun W => by kernel_rfl
  have hb2 : Blk w2 s 209 (stB { x with wr := 13 } st p) := (blk_set hb (k := 5) (.int .i64 13)).keep fm (by simp)
  have ft : Fr [s] w w2 := fs.step fm
  have HA2 := Lib.hid (show StrA w2 own c s { x with wr := 13 } from ⟨h.os, st, p, hb2, hs.keep1 ft, hr.keep ft (fun z hz hl => by rw [List.mem_singleton] at hz; subst hz; rw [h.os]; exact hc3)⟩)
  have HFT := Lib.hid (FrO.of (own := own) (Q := fun z => z = c) ft (fun z hz => by rw [List.mem_singleton] at hz; subst hz; exact h.os))
  clear h hm2 hb hs hr hb2 ft HA
  go_enter Tryz.func169, Tryz.ntmps169
  go_wp2_with (go_at_call 130; refine HN.out.mono ?_; rintro e w' ⟨rfl, rfl⟩)
  go_ret
  exact ⟨rfl, own, Ext.refl _ _, HA2.out, HFT.out⟩
theorem shutB_read {w : World} {own : Nat → Nat} {c s : Nat} {x : SS} (h : StrA w own c s x) (h0 : 0 ≤ x.cap) (h1 : x.cap ≤ 4096) (hc3 : c ≠ 3) :
    Calls Tryz.prog 169 #[.pointer (some ⟨s, 0, none⟩), .int .i64 1, .int .i64 14] w fun e w' => e = .returned (.int .i64 (x.closeR 14).2) ∧ StrOut own c s (x.closeR 14).1 w w' := by
  have HN := Lib.hid (strNone h)
  have HA := Lib.hid h
  obtain ⟨st, p, hb, hs, hr⟩ := h.at_
  have c5 : w.cell? ⟨s, 6, none⟩ = some (.int .i64 x.rd) := hb.at 6 _ rfl
  by_cases hw : x.rd = 0
  case neg =>
    have hx : x.closeR 14 = (x, 14) := by unfold SS.closeR; rw [if_neg hw]
    rw [hx]
    have hwd : decide (x.rd = 0) = false := decide_eq_false hw
    clear h hb hs hr
    go_enter Tryz.func169, Tryz.ntmps169
    go_wp2_with (go_at_call 130; refine HN.out.mono ?_; rintro e w' ⟨rfl, rfl⟩)
    go_ret
    exact ⟨rfl, StrOut.refl HA.out⟩
  have hx : x.closeR 14 = ({ x with rd := 14, buf := [] }, 0) := by unfold SS.closeR; rw [if_pos hw]
  rw [hx]
  rw [hw] at c5
  have hmm := @run_makeMap Tryz.prog
  have z5 : w.frozen? ⟨s, 6, none⟩ = false := blk_frozen hb 6
  have zs := hb.lt
  have fs : Fr [s] w (w.setCell ⟨s, 6, none⟩ (.int .i64 14)) := (Fr.refl _ _).setCell (fun _ => by simp) _
  have hsz : (w.setCell ⟨s, 6, none⟩ (.int .i64 14)).heap.size = w.heap.size := by simp
  obtain ⟨w2, hrun, hm2, f2⟩ := (MapIs.made Tryz.prog 211 (w.setCell ⟨s, 6, none⟩ (.int .i64 14))).put keyEnd (t := 268) (e := 1) Tryz.underlying268 (x := .int .i64 1) (keyEnd_of 1 (by omega) (by omega)) (by simp) (.func (.func 182) #[.pointer (some ⟨s, 0, none⟩)] #[])
  have hlk := hm2.hit keyEnd (t := 268) (e := 1) Tryz.underlying268 (x := .int .i64 1) (v := .func (.func 182) #[.pointer (some ⟨s, 0, none⟩)] #[]) (by simp) false
  simp only [Bool.false_eq_true, if_false] at hlk
  rw [hsz] at hrun hlk f2
  have fm : Fr [] (w.setCell ⟨s, 6, none⟩ (.int .i64 14)) w2 := Fr.trans (S := []) (T := [w.heap.size]) ((Fr.refl [] _).alloc _) f2 (fun x hx hlt => by simp at hx hlt; omega)
  have hnf : ∀ W : World, (binOp .neq 1 (.func (.func 182) #[.pointer (some ⟨s, 0, none⟩)] #[]) .nilFunc).run Tryz.prog W = .ok (.bool true) W := fun W => by kernel_rfl
  have hb2 : Blk w2 s 209 (stB { x with rd := 14 } st p) := (blk_set hb (k := 6) (.int .i64 14)).keep fm (by simp)
  have ft : Fr [s] w w2 := fs.step fm
  have HD := Lib.hid (strDrop (w := w2) (x := { x with rd := 14 }) (own := own) (c := c) ⟨h.os, st, p, hb2, hs.keep1 ft, hr.keep ft (fun z hz hl => by rw [List.mem_singleton] at hz; subst hz; rw [h.os]; exact hc3)⟩ h1 h0 hc3)
  have HFT := Lib.hid (FrO.of (own := own) (Q := fun z => z = c) ft (fun z hz => by rw [List.mem_singleton] at hz; subst hz; exact h.os))
  clear h hm2 hb hs hr hb2 ft HA
  go_enter Tryz.func169, Tryz.ntmps169
  go_wp2_with (first
    | (go_at_call 130; refine HN.out.mono ?_; rintro e w' ⟨rfl, rfl⟩)
    | (go_at_call 182; refine HD.out.mono ?_; rintro e w3 ⟨rfl, own3, hx3, ha3, hf3⟩))
  go_ret
  exact ⟨rfl, own3, fun z hz => hx3 z (Nat.lt_of_lt_of_le hz HFT.out.size), ha3, HFT.out.trans hf3 (Ext.refl _ _)⟩
theorem strCloseW {w : World} {own : Nat → Nat} {c s : Nat} {x : SS} (h : StrA w own c s x) (hc3 : c ≠ 3) :
    Calls Tryz.prog 160 #[.pointer (some ⟨s, 0, none⟩), .int .i64 13] w fun e w' => e = .returned (.int .i64 (x.closeW 13).2) ∧ StrOut own c s (x.closeW 13).1 w w' := by
  have HA := Lib.hid h
  clear h
  go_enter Tryz.func160, Tryz.ntmps160
  go_wp2_with (go_at_call 169; refine (shutB_write HA.out hc3).mono ?_; rintro e w1 ⟨rfl, h1⟩)
  go_ret
  exact ⟨rfl, h1⟩
theorem strCloseR {w : World} {own : Nat → Nat} {c s : Nat} {x : SS} (h : StrA w own c s x) (h0 : 0 ≤ x.cap) (h1 : x.cap ≤ 4096) (hc3 : c ≠ 3) :
    Calls Tryz.prog 161 #[.pointer (some ⟨s, 0, none⟩), .int .i64 14] w fun e w' => e = .returned (.int .i64 (x.closeR 14).2) ∧ StrOut own c s (x.closeR 14).1 w w' := by
  have HA := Lib.hid h
  clear h
  go_enter Tryz.func161, Tryz.ntmps161
  go_wp2_with (go_at_call 169; refine (shutB_read HA.out h0 h1 hc3).mono ?_; rintro e w1 ⟨rfl, h1⟩)
  go_ret
  exact ⟨rfl, h1⟩
end Go.Proofs.YtmdhlodafjpnmaaGreat
