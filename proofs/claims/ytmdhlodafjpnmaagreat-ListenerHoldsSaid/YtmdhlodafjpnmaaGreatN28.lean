/- The law ListenerHolds' walk. -/
import Derived.Test.YtmdhlodafjpnmaaGreatN27
import Derived.Test.YtmdhlodafjpnmaaGreatNK
import Derived.Deep.CutRange
import Derived.Deep.CutBlock
namespace Go.Proofs.YtmdhlodafjpnmaaGreat
open List renaming getElem_toArray → qj1, getElem_cons_succ → qj2, getElem_cons_zero → qj3, setIfInBounds_toArray → qj4, set_cons_zero → qj5, set_cons_succ → qj6
open Go.RowKit
open Go.Maps (Keyed)
set_option linter.unusedVariables false
set_option linter.unusedSimpArgs false
set_option maxRecDepth 100000
set_option maxHeartbeats 16000000

theorem aggAct19 : ∀ w, (isAgg 68).run Tryz.prog w = .ok true w := fun w => by kernel_rfl
theorem sizeAct19 : ∀ w, (sizeOf 68).run Tryz.prog w = .ok 7 w := fun w => by kernel_rfl
theorem RowO.rowL {w : World} {B B' : Nat} {v : Value} {D : List PN.PL} (h : RowO 100 5 (ElLO B) w B' v D) : LRow w v D := by
  obtain ⟨Xs, h1, h2⟩ := h
  exact ⟨Xs, h1.mono (fun X y h => h.el), RowV.of_own h2⟩
theorem holds_walk (la : Option Addr) (nl lc : Nat) (g : Nat → A19) (w : World) (hl : A19Row w la nl g) (h2 : nl ≤ maxLen) (hb : ∀ j, j < nl → I64 (g j).what ∧ I64 (g j).p ∧ I64 (g j).ref ∧ I64 (g j).en ∧ I64 (g j).n) :
    Calls Tryz.prog 6 #[.slice la nl lc] w fun e w' => e = .returned (.bool true) ∧ Fr [] w w' := by
  have hmm := @run_makeMap Tryz.prog
  have HF := Lib.hid (fewL_any la nl lc g w hl h2)
  have HL := Lib.hid hl
  have HBD := Lib.hid hb
  clear hl hb h2
  go_enter Tryz.func6, Tryz.ntmps6
  go_wp2_with fail
  refine HF.out.mono ?_
  rintro e w' ⟨r, rfl, rfl, hr⟩
  cases r
  · go_wp2_with fail
    refine (known_true _).mono ?_
    rintro e w' ⟨rfl, hf⟩
    go_wp2
    go_ret
    exact ⟨rfl, hf⟩
  · skip
    obtain ⟨hn, hsz⟩ := hr rfl
    have HSZ := Lib.hid hsz
    clear hr hsz HF
    go_wp2_with fail
    refine (new_lg w).mono ?_
    rintro e w1 ⟨B, rfl, hlv, f1⟩
    obtain ⟨mp, hmp⟩ : ∃ z, w1.heap.size = z := ⟨_, rfl⟩
    have HS0 := Lib.hid (show HolS w (w1.alloc (.map #[] 0)) mp [] B ⟨[], []⟩ 0 from by
      have f2 : Fr [] w1 (w1.alloc (.map #[] 0)) := (Fr.refl [] w1).alloc _
      have z2 : (w1.alloc (.map #[] 0)).heap.size = mp + 1 := by rw [← hmp]; simp
      refine ⟨?_, by rw [← hmp]; exact WaitIs.made w1, SmallG.nil, fun r => rfl, f1.step f2, fun z hz => ?_⟩
      · refine ⟨_, hlv.more f2, fun z hz => ?_⟩
        rcases hz with hz | hz | ⟨y, hy, _⟩
        · exact .inl hz
        · exact .inr ⟨by omega, by omega⟩
        · cases hy
      · rcases hz with hz | ⟨y, hy, _⟩
        · have := f1.size
          omega
        · cases hy)
    clear hlv f1
    go_upto_region 6 with fail
    go_wp2_with fail
    go_loopw [5] (fun i wr => ∃ (wz : World) (q : Nat) (f : List WE) (N : NG), wz = wr ∧ i = .int .i64 q ∧ q ≤ nl ∧ HolS w wr mp f B N q) (fun i _ => nl - (intOf i).toNat)
    case atStart => exact ⟨_, 0, [], _, rfl, rfl, by omega, HS0.out⟩
    case round =>
      clear HS0 hmp
      obtain ⟨wr, q, f, N, hwz, rfl, hq, hs⟩ := hrel
      subst hwz
      have HS := Lib.hid hs
      clear hs
      by_cases hlt : q < nl
      rotate_left
      · obtain rfl : q = nl := by omega
        go_wp2_with fail
        refine (known_true _).mono ?_
        rintro e w' ⟨rfl, hf⟩
        go_wp2
        go_ret
        exact ⟨rfl, HS.out.fr.step hf⟩
      have hlt' : (q : Int) < (nl : Int) := by omega
      have hq0 : (0 : Int) ≤ (q : Int) := by omega
      obtain ⟨x, hx⟩ : ∃ x, g q = x := ⟨_, rfl⟩
      have HX := Lib.hid (show x.s.size ≤ 1000000 ∧ I64 x.what ∧ I64 x.p ∧ I64 x.ref ∧ I64 x.en ∧ I64 x.n from by
        rw [← hx]
        exact ⟨by have := HSZ.out q hlt; omega, HBD.out q hlt⟩)
      obtain ⟨b, off, rfl, hrw⟩ : ∃ b off, la = some ⟨b, off, none⟩ ∧ LiesAt wr b (off + q * 7) (a19C x) := by
        rcases HL.out with h0 | ⟨b, off, he, hbl, hc⟩
        · omega
        · exact ⟨b, off, he, by rw [← hx]; exact (hc q hlt).keep HS.out.fr (by simp)⟩
      have HRW := Lib.hid hrw
      clear hx hrw
      go_upto_region 10 with fail
      refine wp_region_lit ?_
      refine wpList_plain rfl (fun K hK => ?_); go_simp; refine hK _ _ ?_; clear hK K
      refine wpList_plain rfl (fun K hK => ?_); go_simp; refine hK _ _ ?_; clear hK K
      refine wpList_plain rfl (fun K hK => ?_); go_simp; refine hK _ _ ?_; clear hK K
      try simp only [Act.put, qj1, qj2, qj3, qj4, qj5, qj6]
      refine wpList_val rfl (v := .agg (a19C x).toArray) (w' := wr) ?_ ?_
      · show Sem.run Tryz.prog ((Instr.loadAt 68 (.pointer (some ⟨b, off + q * 7, none⟩))) >>= fun x => pure (Next.value x)) wr = _
        rw [Sem.run_bind, load_all aggAct19 sizeAct19 (xs := a19C x) rfl HRW.out]
        rfl
      try simp only [Act.put, qj1, qj2, qj3, qj4, qj5, qj6]
      refine wpList_plain rfl (fun K hK => ?_); go_simp; refine hK _ _ ?_; clear hK K
      try simp only [Act.put, qj1, qj2, qj3, qj4, qj5, qj6]
      obtain ⟨E, hA_⟩ : ∃ A, wr.heap.size = A := ⟨_, rfl⟩
      obtain ⟨wa, hw_⟩ : ∃ z, wr.alloc (.cells #[.int .i64 0, .string ⟨#[]⟩, .int .i64 0, .int .i64 0, .int .i64 0, .int .i64 0, .slice none 0 0] 68) = z := ⟨_, rfl⟩
      have hB_ : Blk wa E 68 [.int .i64 0, .string ⟨#[]⟩, .int .i64 0, .int .i64 0, .int .i64 0, .int .i64 0, .slice none 0 0] := by rw [← hw_, ← hA_]; exact Blk.made wr 68 _
      have hF_ : Fr [] wr wa := by rw [← hw_]; exact (Fr.refl [] wr).alloc _
      rw [hw_]
      simp only [hA_]
      have HE := Lib.hid hA_
      have HBE := Lib.hid hB_
      have HFwa := Lib.hid hF_
      clear hA_ hw_ hB_ hF_
      obtain ⟨w1, hst, hb_, hf_⟩ := store_all (t := 68) (a19C x) sizeAct19 rfl (a19C_one _) HBE.out rfl
      refine wpList_skp rfl (w' := w1) ?_ ?_
      · show Sem.run Tryz.prog ((Instr.storeAt 68 (.pointer (some ⟨E, 0, none⟩)) (.agg (a19C x).toArray)) >>= fun _ => pure Next.skip) _ = _
        rw [Sem.run_bind, hst]
        rfl
      clear hst
      try simp only [Act.put, qj1, qj2, qj3, qj4, qj5, qj6]
      refine wpList_nil ?_
      try simp only [Act.put, qj1, qj2, qj3, qj4, qj5, qj6]
      have HB1 := Lib.hid hb_
      have HF1 := Lib.hid (show Fr [] wr w1 from HFwa.out.trans hf_ (fun z hz hl => by rw [List.mem_singleton] at hz; have := HE.out; omega))
      have hE1 : E < w1.heap.size := hb_.lt
      have hEr : wr.heap.size ≤ E := by have := HE.out; omega
      clear hb_ hf_ HBE HFwa HRW
      have HO1 := Lib.hid (show OneG (fun z => HQ w mp f z ∨ z = E) B N q w1 from HS.out.one.turn HF1.out (fun z hz => by cases hz) (fun z hz => hz.imp id (fun h => by rw [h]; exact ⟨hEr, hE1⟩)))
      have HGD := Lib.hid HO1.out.good
      have HNE := Lib.hid (show ¬ WQ mp f E from fun h => by have := HS.out.wt.lt h; omega)
      clear hE1 hEr
      obtain ⟨D, hD⟩ := rel_ex PN.PL.ref N.L HGD.out.lr
      obtain ⟨Cs, hC⟩ := rel_ex PG.ref N.C HGD.out.cr
      have HDD := Lib.hid hD
      have HCC := Lib.hid hC
      have HNR := Lib.hid (show Near ⟨D, Cs⟩ N from ⟨hD.1, hC.1⟩)
      clear hD hC
      obtain ⟨K, hK, hKQ⟩ := HO1.out
      have HK := Lib.hid hK
      have HKQ := Lib.hid hKQ
      clear hK hKQ
      go_upto_region 11 with fail
      refine wp_region_lit ?_
      refine wpList_plain rfl (fun K hK => ?_); go_simp; refine hK _ _ ?_; clear hK K
      try simp only [Act.put, qj1, qj2, qj3, qj4, qj5, qj6]
      refine wpList_plain rfl (fun K hK => ?_)
      go_simp
      refine (listeners_lg D HK.out HDD.out (by omega)).mono ?_
      rintro e w2 ⟨sL, rfl, hrl, f2⟩
      have HF2 := Lib.hid f2
      have HRL := Lib.hid hrl
      clear f2 hrl
      refine hK _ _ ?_
      clear hK K
      try simp only [Act.put, qj1, qj2, qj3, qj4, qj5, qj6]
      refine wpList_plain rfl (fun K hK => ?_); go_simp; refine hK _ _ ?_; clear hK K
      try simp only [Act.put, qj1, qj2, qj3, qj4, qj5, qj6]
      refine wpList_plain rfl (fun K hK => ?_)
      go_simp
      refine (conns_lg Cs (HK.out.new HF2.out) HCC.out).mono ?_
      rintro e w3 ⟨sC, rfl, hrc, f3⟩
      have HF3 := Lib.hid f3
      have HRC := Lib.hid hrc
      clear f3 hrc
      refine hK _ _ ?_
      clear hK K
      try simp only [Act.put, qj1, qj2, qj3, qj4, qj5, qj6]
      refine wpList_plain rfl (fun K hK => ?_)
      go_simp
      refine (restore_lg _ _ D Cs _ (LRow.next (RowO.rowL HRL.out) HF3.out) HRC.out.row (HGD.out.near HNR.out) HCC.out.2 HDD.out.2 (fun y hy => HS.out.sm.cr y (HNR.out.C.mem_iff.1 hy)) (fun y hy => HS.out.sm.lr y (HNR.out.L.mem_iff.1 hy))).mono ?_
      rintro e w4 ⟨B2, rfl, hl2, f4⟩
      have HF4 := Lib.hid f4
      have HL2 := Lib.hid hl2
      clear f4 hl2
      refine hK _ _ ?_
      clear hK K
      try simp only [Act.put, qj1, qj2, qj3, qj4, qj5, qj6]
      refine wpList_plain rfl (fun K hK => ?_); go_simp; refine hK _ _ ?_; clear hK K
      refine wpList_plain rfl (fun K hK => ?_); go_simp; refine hK _ _ ?_; clear hK K
      refine wpList_plain rfl (fun K hK => ?_); go_simp; refine hK _ _ ?_; clear hK K
      refine wpList_plain rfl (fun K hK => ?_); go_simp; refine hK _ _ ?_; clear hK K
      refine wpList_plain rfl (fun K hK => ?_); go_simp; refine hK _ _ ?_; clear hK K
      refine wpList_nil ?_
      try simp only [Act.put, qj1, qj2, qj3, qj4, qj5, qj6]
      have HT := Lib.hid (show HolT w w4 mp f E x (fun _ => False) B N q B2 ⟨D, Cs⟩ 200 from by
        have f13 := HF2.out.step HF3.out
        have o3 := OneG.new HO1.out f13
        refine ⟨?_, HS.out.wt.new (HF1.out.step (f13.step HF4.out)), (HB1.out.keep f13 (by simp)).keep HF4.out (by simp), HS.out.fr.step (HF1.out.step (f13.step HF4.out)), HS.out.far, HNE.out⟩
        obtain ⟨K1, K2, h1, h2, h3, h4⟩ := o3.two HF4.out HL2.out
        exact ⟨K1, K2, h1, h2, h3, fun z hz => h4 z (by
          rcases hz with hz | hz | hz
          · exact .inl hz
          · exact .inr hz
          · exact hz.elim)⟩)
      have HNR2 := Lib.hid HNR.out.symm
      have HSM := Lib.hid HS.out.sm
      have HEQ := Lib.hid HS.out.eq
      clear HF1 HB1 HO1 HDD HCC HNR HK HKQ HF2 HRL HF3 HRC HF4 HL2 HS
      have c0 := HT.out.eb.at 0 _ rfl
      have c0 : w4.cell? ⟨E, 0, none⟩ = some (.int .i64 x.what) := c0
      have HCU := Lib.hid (show ∀ W, HolU w W mp E x B B2 (q + 1) → HolU w W mp E x B B2 (q + 1) from fun W h => h)
      clear HCU
      go_upto_block 2 with fail
      go_cut [] from 64 to 302 (fun wc => HolU w wc mp E x B B2 (q + 1))
      case first =>
        by_cases e0 : x.what = 0
        · skip
          as_aux_lemma =>
          have hb0 : (x.what == 0) = true := by simp [e0]
          clear e0
          try clear k1
          try clear k2
          try clear k3
          try clear k4
          try clear k5
          have k1 : w4.cell? ⟨E, 1, none⟩ = some (.string x.s) := HT.out.eb.at 1 _ rfl
          have k2 : w4.cell? ⟨E, 2, none⟩ = some (.int .i64 x.p) := HT.out.eb.at 2 _ rfl
          have k3 : w4.cell? ⟨E, 3, none⟩ = some (.int .i64 x.ref) := HT.out.eb.at 3 _ rfl
          have k4 : w4.cell? ⟨E, 4, none⟩ = some (.int .i64 x.en) := HT.out.eb.at 4 _ rfl
          have k5 : w4.cell? ⟨E, 5, none⟩ = some (.int .i64 x.n) := HT.out.eb.at 5 _ rfl
          obtain ⟨N', N2', r, s1, p1, er, hc1, hc2, hnr, hsm, hwt, hz, hr0, hr1⟩ := b_listen w mp E f x (fun _ => False) B B2 HNR2.out HGD.out HSM.out (show q ≤ 1000 by omega) (show 200 ≤ 1000 by omega) HX.out.1
          have HC1 := Lib.hid hc1
          have HC2 := Lib.hid hc2
          have HP := Lib.hid (And.intro hnr (And.intro hsm (And.intro hwt hz)))
          clear hc1 hc2 hnr hsm hwt hz
          go_upto_region 16 with fail
          refine wp_region_lit ?_
          refine wpList_plain rfl (fun K hK => ?_); go_simp; refine hK _ _ ?_; clear hK K
          refine wpList_plain rfl (fun K hK => ?_); go_simp; refine hK _ _ ?_; clear hK K
          try simp only [Act.put, qj1, qj2, qj3, qj4, qj5, qj6]
          refine wpList_val rfl (v := .agg ([.string x.s, .int .i64 x.p]).toArray) (w' := w4) ?_ ?_
          · show Sem.run Tryz.prog ((Instr.loadAt 28 (.pointer (some ⟨E, 1, none⟩))) >>= fun x => pure (Next.value x)) w4 = _
            rw [Sem.run_bind, load_all agg28 size28 (xs := [.string x.s, .int .i64 x.p]) rfl (by have := HT.out.eb.at.part (k := 1) (n := 2) (ys := [.string x.s, .int .i64 x.p]) rfl; rwa [Nat.zero_add] at this)]
            rfl
          try simp only [Act.put, qj1, qj2, qj3, qj4, qj5, qj6]
          refine wpList_plain rfl (fun K hK => ?_); go_simp; refine hK _ _ ?_; clear hK K
          refine wpList_plain rfl (fun K hK => ?_); go_simp; refine hK _ _ ?_; clear hK K
          try simp only [Act.put, qj1, qj2, qj3, qj4, qj5, qj6]
          refine wpList_plain rfl (fun K hK => ?_)
          go_simp
          refine (HC1.out _ HT.out).mono ?_
          rintro e w5 ⟨rfl, ht⟩
          have HT5 := Lib.hid ht
          clear ht
          refine hK _ _ ?_
          clear hK K
          try simp only [Act.put, qj1, qj2, qj3, qj4, qj5, qj6]
          refine wpList_plain rfl (fun K hK => ?_); go_simp; refine hK _ _ ?_; clear hK K
          refine wpList_plain rfl (fun K hK => ?_); go_simp; refine hK _ _ ?_; clear hK K
          refine wpList_plain rfl (fun K hK => ?_); go_simp; refine hK _ _ ?_; clear hK K
          refine wpList_plain rfl (fun K hK => ?_); go_simp; refine hK _ _ ?_; clear hK K
          try simp only [Act.put, qj1, qj2, qj3, qj4, qj5, qj6]
          refine wpList_plain rfl (fun K hK => ?_); go_simp; refine hK _ _ ?_; clear hK K
          try simp only [Act.put, qj1, qj2, qj3, qj4, qj5, qj6]
          obtain ⟨A, hA_⟩ : ∃ A, w5.heap.size = A := ⟨_, rfl⟩
          obtain ⟨w6, hw_⟩ : ∃ z, w5.alloc (.cells #[.string ⟨#[]⟩, .int .i64 0] 28) = z := ⟨_, rfl⟩
          have hB_ : Blk w6 A 28 [.string ⟨#[]⟩, .int .i64 0] := by rw [← hw_, ← hA_]; exact Blk.made w5 28 _
          have hF_ : Fr [] w5 w6 := by rw [← hw_]; exact (Fr.refl [] w5).alloc _
          rw [hw_]
          simp only [hA_]
          have HA := Lib.hid hA_
          have HBA := Lib.hid hB_
          have HFw6 := Lib.hid hF_
          clear hA_ hw_ hB_ hF_
          refine wpList_plain rfl (fun K hK => ?_); go_simp; refine hK _ _ ?_; clear hK K
          try simp only [Act.put, qj1, qj2, qj3, qj4, qj5, qj6]
          obtain ⟨w7, hst, hb_, hf_⟩ := store_all (t := 28) [.string s1, .int .i64 p1] size28 rfl (fun u hu => by simp only [List.mem_cons, List.not_mem_nil, or_false] at hu; rcases hu with rfl | rfl <;> rfl) HBA.out rfl
          refine wpList_skp rfl (w' := w7) ?_ ?_
          · show Sem.run Tryz.prog ((Instr.storeAt 28 (.pointer (some ⟨A, 0, none⟩)) (.agg ([.string s1, .int .i64 p1] : List Value).toArray)) >>= fun _ => pure Next.skip) _ = _
            rw [Sem.run_bind, hst]
            rfl
          clear hst
          try simp only [Act.put, qj1, qj2, qj3, qj4, qj5, qj6]
          refine wpList_plain rfl (fun K hK => ?_); go_simp; refine hK _ _ ?_; clear hK K
          refine wpList_nil ?_
          try simp only [Act.put, qj1, qj2, qj3, qj4, qj5, qj6]
          have HT7 := Lib.hid (HT5.out.new (HFw6.out.trans hf_ (fun z hz hl => by rw [List.mem_singleton] at hz; have := HA.out; omega)))
          have a0 : w7.cell? ⟨A, 0, none⟩ = some (.string s1) := hb_.at 0 _ rfl
          have a1 : w7.cell? ⟨A, 1, none⟩ = some (.int .i64 p1) := hb_.at 1 _ rfl
          clear hb_ hf_ HBA HFw6
          try clear k1
          try clear k2
          try clear k3
          try clear k4
          try clear k5
          have k1 : w7.cell? ⟨E, 1, none⟩ = some (.string x.s) := HT7.out.eb.at 1 _ rfl
          have k2 : w7.cell? ⟨E, 2, none⟩ = some (.int .i64 x.p) := HT7.out.eb.at 2 _ rfl
          have k3 : w7.cell? ⟨E, 3, none⟩ = some (.int .i64 x.ref) := HT7.out.eb.at 3 _ rfl
          have k4 : w7.cell? ⟨E, 4, none⟩ = some (.int .i64 x.en) := HT7.out.eb.at 4 _ rfl
          have k5 : w7.cell? ⟨E, 5, none⟩ = some (.int .i64 x.n) := HT7.out.eb.at 5 _ rfl
          go_wp2_with fail
          refine (HC2.out _ HT7.out).mono ?_
          rintro e w8 ⟨rfl, ht⟩
          have HT8 := Lib.hid ht
          clear ht
          clear a0 a1
          try clear k1
          try clear k2
          try clear k3
          try clear k4
          try clear k5
          have k1 : w8.cell? ⟨E, 1, none⟩ = some (.string x.s) := HT8.out.eb.at 1 _ rfl
          have k2 : w8.cell? ⟨E, 2, none⟩ = some (.int .i64 x.p) := HT8.out.eb.at 2 _ rfl
          have k3 : w8.cell? ⟨E, 3, none⟩ = some (.int .i64 x.ref) := HT8.out.eb.at 3 _ rfl
          have k4 : w8.cell? ⟨E, 4, none⟩ = some (.int .i64 x.en) := HT8.out.eb.at 4 _ rfl
          have k5 : w8.cell? ⟨E, 5, none⟩ = some (.int .i64 x.n) := HT8.out.eb.at 5 _ rfl
          obtain ⟨v, hlk, hvr, _, _⟩ := lookupSl HT8.out.wt r (by omega) (by omega)
          by_cases he : er = 0
          · skip
            as_aux_lemma =>
            have hbe : (er == 0) = true := by simp [he]
            have hwr : Wf f r = [] := by rw [HEQ.out]; exact HP.out.2.2.2 he
            rw [hwr] at hvr
            obtain ⟨va, vc, rfl⟩ : ∃ a c, v = .slice a 0 c := by
              rcases hvr.row with ⟨_, a, c, h⟩ | ⟨_, _, _, h, _⟩
              · exact ⟨a, c, h⟩
              · exact ⟨_, _, h⟩
            clear hvr hwr he
            go_wp2
            go_meet
            exact ⟨f, _, _, _, HT8.out.monoG (by omega) (by omega), HP.out.1, HP.out.2.1, fun q => by rw [HEQ.out, HP.out.2.2.1]⟩
          · skip
            as_aux_lemma =>
            have hbe : (er == 0) = false := by simp [he]
            clear he hlk hvr
            go_wp2
            go_meet
            exact ⟨f, _, _, _, HT8.out.monoG (by omega) (by omega), HP.out.1, HP.out.2.1, fun q => by rw [HEQ.out, HP.out.2.2.1]⟩
        by_cases e1 : x.what = 1
        · skip
          as_aux_lemma =>
          have hb0 : (x.what == 0) = false := by simp [e0]
          have hb1 : (x.what == 1) = true := by simp [e1]
          clear e0 e1
          try clear k1
          try clear k2
          try clear k3
          try clear k4
          try clear k5
          have k1 : w4.cell? ⟨E, 1, none⟩ = some (.string x.s) := HT.out.eb.at 1 _ rfl
          have k2 : w4.cell? ⟨E, 2, none⟩ = some (.int .i64 x.p) := HT.out.eb.at 2 _ rfl
          have k3 : w4.cell? ⟨E, 3, none⟩ = some (.int .i64 x.ref) := HT.out.eb.at 3 _ rfl
          have k4 : w4.cell? ⟨E, 4, none⟩ = some (.int .i64 x.en) := HT.out.eb.at 4 _ rfl
          have k5 : w4.cell? ⟨E, 5, none⟩ = some (.int .i64 x.n) := HT.out.eb.at 5 _ rfl
          obtain ⟨N', N2', k, er, hc1, hc2, hc3, hnr, hsm, hwt, hk⟩ := b_connect w mp E f x (fun _ => False) B B2 HNR2.out HGD.out HSM.out (show q ≤ 1000 by omega) (show 200 ≤ 1000 by omega) HX.out.1
          have HC1 := Lib.hid hc1
          have HC2 := Lib.hid hc2
          have HC3 := Lib.hid hc3
          have HP := Lib.hid (And.intro hnr (And.intro hsm hwt))
          clear hc1 hc2 hc3 hnr hsm hwt
          go_wp2_with fail
          refine (HC1.out _ HT.out).mono ?_
          rintro e w5 ⟨rfl, ht⟩
          have HT5 := Lib.hid ht
          clear ht
          try clear k1
          try clear k2
          try clear k3
          try clear k4
          try clear k5
          have k1 : w5.cell? ⟨E, 1, none⟩ = some (.string x.s) := HT5.out.eb.at 1 _ rfl
          have k2 : w5.cell? ⟨E, 2, none⟩ = some (.int .i64 x.p) := HT5.out.eb.at 2 _ rfl
          have k3 : w5.cell? ⟨E, 3, none⟩ = some (.int .i64 x.ref) := HT5.out.eb.at 3 _ rfl
          have k4 : w5.cell? ⟨E, 4, none⟩ = some (.int .i64 x.en) := HT5.out.eb.at 4 _ rfl
          have k5 : w5.cell? ⟨E, 5, none⟩ = some (.int .i64 x.n) := HT5.out.eb.at 5 _ rfl
          go_wp2_with fail
          refine (HC2.out _ HT5.out).mono ?_
          rintro e w6 ⟨rfl, ht⟩
          have HT6 := Lib.hid ht
          clear ht
          try clear k1
          try clear k2
          try clear k3
          try clear k4
          try clear k5
          have k1 : w6.cell? ⟨E, 1, none⟩ = some (.string x.s) := HT6.out.eb.at 1 _ rfl
          have k2 : w6.cell? ⟨E, 2, none⟩ = some (.int .i64 x.p) := HT6.out.eb.at 2 _ rfl
          have k3 : w6.cell? ⟨E, 3, none⟩ = some (.int .i64 x.ref) := HT6.out.eb.at 3 _ rfl
          have k4 : w6.cell? ⟨E, 4, none⟩ = some (.int .i64 x.en) := HT6.out.eb.at 4 _ rfl
          have k5 : w6.cell? ⟨E, 5, none⟩ = some (.int .i64 x.n) := HT6.out.eb.at 5 _ rfl
          go_wp2_with fail
          refine (HC3.out _ HT6.out).mono ?_
          rintro e w7 ⟨r, c, rfl, f7, hfr⟩
          have HT7 := Lib.hid (HT6.out.new f7)
          clear f7
          try clear k1
          try clear k2
          try clear k3
          try clear k4
          try clear k5
          have k1 : w7.cell? ⟨E, 1, none⟩ = some (.string x.s) := HT7.out.eb.at 1 _ rfl
          have k2 : w7.cell? ⟨E, 2, none⟩ = some (.int .i64 x.p) := HT7.out.eb.at 2 _ rfl
          have k3 : w7.cell? ⟨E, 3, none⟩ = some (.int .i64 x.ref) := HT7.out.eb.at 3 _ rfl
          have k4 : w7.cell? ⟨E, 4, none⟩ = some (.int .i64 x.en) := HT7.out.eb.at 4 _ rfl
          have k5 : w7.cell? ⟨E, 5, none⟩ = some (.int .i64 x.n) := HT7.out.eb.at 5 _ rfl
          by_cases he : er = 0
          · skip
            as_aux_lemma =>
            have hbe : (er == 0) = true := by simp [he]
            obtain ⟨rfl, hr0, hr1, hwt⟩ := hfr he
            have HWT := Lib.hid hwt
            obtain ⟨v, hlk, hvr, hvq, hvl⟩ := lookupSl HT7.out.wt r (by omega) (by omega)
            obtain ⟨w8, hw8⟩ : ∃ z, w7.alloc (.cells #[.int .i64 k] 3) = z := ⟨_, rfl⟩
            obtain ⟨E8, hE8⟩ : ∃ z, w7.heap.size = z := ⟨_, rfl⟩
            have hb8 : w8.cell? ⟨E8, 0, none⟩ = some (.int .i64 k) := by rw [← hw8, ← hE8]; exact netCell w7 _ _ 0 rfl rfl rfl
            have f8 : Fr [] w7 w8 := by rw [← hw8]; exact (Fr.refl [] w7).alloc _
            have HLK := Lib.hid hlk
            obtain ⟨v', w9, hap, hr9, f9, hb9⟩ := IRow.push (hvr.new f8) k E8 hb8 hvl 75
            obtain ⟨w10, f', hup, hw10, f10, hwf, hq10⟩ := (HT7.out.wt.new f8).put r (by omega) (by omega) (v' := v') (l' := Wf f r ++ [k]) f9 (fun z hz => by
              have hz' : v.ownBlock = some z := by simpa using hz
              exact (lookupSl_own HT7.out.wt r (by omega) (by omega) hlk hz')) hr9 (fun g hg => by
              rcases hb9 with h | ⟨g', h, hge⟩
              · rw [h] at hg
                exact .inl (lookupSl_own HT7.out.wt r (by omega) (by omega) hlk hg)
              · rw [h] at hg
                simp only [Option.some.injEq] at hg
                subst hg
                exact .inr hge) (by
              rw [List.length_append, HEQ.out]
              have := wait_len HGD.out r
              simp only [List.length_singleton]
              omega)
            have HAP := Lib.hid hap
            have HUP := Lib.hid hup
            have HTN := Lib.hid (show HolT w w10 mp f' E x (fun _ => False) B N' (q + 1) B2 N2' (200 + 1) from (HT7.out.new f8).turn (S := v.ownBlock.toList ++ [mp]) ((f9.mono (fun z hz _ => List.mem_append_left _ hz)).trans f10 (fun z hz _ => List.mem_append_right _ hz)) (fun z hz _ => by
              rcases List.mem_append.1 hz with hz | hz
              · exact hvq z (by simpa using hz)
              · rw [List.mem_singleton] at hz; exact .inl hz) hw10 hq10)
            have HWN := Lib.hid (show ∀ q, Wf f' q = N'.wait q from fun q => by
              rw [hwf, HWT.out]
              by_cases hq : q = r
              · rw [if_pos hq, if_pos hq, hq, HEQ.out]
              · rw [if_neg hq, if_neg hq, HEQ.out])
            clear hlk hvr hvq hvl hap hr9 f9 hb9 hup hw10 f10 hwf hq10 hwt hfr he
            go_upto_region 27 with fail
            refine wp_region_lit ?_
            refine wpList_plain rfl (fun K hK => ?_); go_simp; refine hK _ _ ?_; clear hK K
            refine wpList_plain rfl (fun K hK => ?_); go_simp; refine hK _ _ ?_; clear hK K
            refine wpList_plain rfl (fun K hK => ?_); go_simp; refine hK _ _ ?_; clear hK K
            refine wpList_plain rfl (fun K hK => ?_); go_simp; refine hK _ _ ?_; clear hK K
            try simp only [Act.put, qj1, qj2, qj3, qj4, qj5, qj6]
            refine wpList_val rfl (v := v) (w' := w7) (exec_lookup (M := .map (some mp)) (X := .int .i64 r) rfl rfl rfl HLK.out) ?_
            try simp only [Act.put, qj1, qj2, qj3, qj4, qj5, qj6]
            refine wpList_plain rfl (fun K hK => ?_); go_simp; refine hK _ _ ?_; clear hK K
            try simp only [Act.put, qj1, qj2, qj3, qj4, qj5, qj6]
            refine wpList_val rfl (v := .slice (some ⟨E8, 0, none⟩) 1 1) (w' := w8) ?_ ?_
            · refine exec_bsl (V := .int .i64 k) rfl rfl ?_
              rw [bslI, hw8, hE8]
            try simp only [Act.put, qj1, qj2, qj3, qj4, qj5, qj6]
            refine wpList_appendI rfl _ _ rfl (v := v) (X := .slice (some ⟨E8, 0, none⟩) 1 1) rfl rfl HAP.out ?_
            try simp only [Act.put, qj1, qj2, qj3, qj4, qj5, qj6]
            refine wpList_skp rfl (w' := w10) ?_ ?_
            · show Sem.run Tryz.prog ((Instr.mapUpdate 70 (.map (some mp)) (.int .i64 r) v') >>= fun _ => pure Next.skip) _ = _
              rw [Sem.run_bind, HUP.out]
              rfl
            try simp only [Act.put, qj1, qj2, qj3, qj4, qj5, qj6]
            refine wpList_nil ?_
            try simp only [Act.put, qj1, qj2, qj3, qj4, qj5, qj6]
            clear hb8 f8 hw8 hE8 k1 k2 k3 k4 k5
            go_wp2
            go_meet
            exact ⟨f', _, _, _, HTN.out.monoG (by omega) (by omega), HP.out.1, HP.out.2.1, HWN.out⟩
          · skip
            as_aux_lemma =>
            have hbe : (er == 0) = false := by simp [he]
            have HHE := Lib.hid he
            clear hfr he
            go_wp2
            go_meet
            exact ⟨f, _, _, _, HT7.out.monoG (by omega) (by omega), HP.out.1, HP.out.2.1, fun q => by rw [HEQ.out, HP.out.2.2 HHE.out]⟩
        by_cases e2 : x.what = 2
        · skip
          as_aux_lemma =>
          have hb0 : (x.what == 0) = false := by simp [e0]
          have hb1 : (x.what == 1) = false := by simp [e1]
          have hb2 : (x.what == 2) = true := by simp [e2]
          clear e0 e1 e2
          try clear k1
          try clear k2
          try clear k3
          try clear k4
          try clear k5
          have k1 : w4.cell? ⟨E, 1, none⟩ = some (.string x.s) := HT.out.eb.at 1 _ rfl
          have k2 : w4.cell? ⟨E, 2, none⟩ = some (.int .i64 x.p) := HT.out.eb.at 2 _ rfl
          have k3 : w4.cell? ⟨E, 3, none⟩ = some (.int .i64 x.ref) := HT.out.eb.at 3 _ rfl
          have k4 : w4.cell? ⟨E, 4, none⟩ = some (.int .i64 x.en) := HT.out.eb.at 4 _ rfl
          have k5 : w4.cell? ⟨E, 5, none⟩ = some (.int .i64 x.n) := HT.out.eb.at 5 _ rfl
          obtain ⟨N', N2', k, er, hc1, hc2, hnr, hsm, hwt⟩ := b_pair w mp E f x (fun _ => False) B B2 HNR2.out HGD.out HSM.out (show q ≤ 1000 by omega) (show 200 ≤ 1000 by omega)
          have HC1 := Lib.hid hc1
          have HC2 := Lib.hid hc2
          have HP := Lib.hid (And.intro hnr (And.intro hsm hwt))
          clear hc1 hc2 hnr hsm hwt
          go_wp2_with fail
          refine (HC1.out _ HT.out).mono ?_
          rintro e w5 ⟨rfl, ht⟩
          have HT5 := Lib.hid ht
          clear ht
          try clear k1
          try clear k2
          try clear k3
          try clear k4
          try clear k5
          have k1 : w5.cell? ⟨E, 1, none⟩ = some (.string x.s) := HT5.out.eb.at 1 _ rfl
          have k2 : w5.cell? ⟨E, 2, none⟩ = some (.int .i64 x.p) := HT5.out.eb.at 2 _ rfl
          have k3 : w5.cell? ⟨E, 3, none⟩ = some (.int .i64 x.ref) := HT5.out.eb.at 3 _ rfl
          have k4 : w5.cell? ⟨E, 4, none⟩ = some (.int .i64 x.en) := HT5.out.eb.at 4 _ rfl
          have k5 : w5.cell? ⟨E, 5, none⟩ = some (.int .i64 x.n) := HT5.out.eb.at 5 _ rfl
          go_wp2_with fail
          refine (HC2.out _ HT5.out).mono ?_
          rintro e w6 ⟨rfl, ht⟩
          have HT6 := Lib.hid ht
          clear ht
          try clear k1
          try clear k2
          try clear k3
          try clear k4
          try clear k5
          have k1 : w6.cell? ⟨E, 1, none⟩ = some (.string x.s) := HT6.out.eb.at 1 _ rfl
          have k2 : w6.cell? ⟨E, 2, none⟩ = some (.int .i64 x.p) := HT6.out.eb.at 2 _ rfl
          have k3 : w6.cell? ⟨E, 3, none⟩ = some (.int .i64 x.ref) := HT6.out.eb.at 3 _ rfl
          have k4 : w6.cell? ⟨E, 4, none⟩ = some (.int .i64 x.en) := HT6.out.eb.at 4 _ rfl
          have k5 : w6.cell? ⟨E, 5, none⟩ = some (.int .i64 x.n) := HT6.out.eb.at 5 _ rfl
          go_wp2
          go_meet
          exact ⟨f, _, _, _, HT6.out.monoG (by omega) (by omega), HP.out.1, HP.out.2.1, fun q => by rw [HEQ.out, HP.out.2.2]⟩
        by_cases e3 : x.what = 3
        · skip
          as_aux_lemma =>
          have hb0 : (x.what == 0) = false := by simp [e0]
          have hb1 : (x.what == 1) = false := by simp [e1]
          have hb2 : (x.what == 2) = false := by simp [e2]
          have hb3 : (x.what == 3) = true := by simp [e3]
          clear e0 e1 e2 e3
          try clear k1
          try clear k2
          try clear k3
          try clear k4
          try clear k5
          have k1 : w4.cell? ⟨E, 1, none⟩ = some (.string x.s) := HT.out.eb.at 1 _ rfl
          have k2 : w4.cell? ⟨E, 2, none⟩ = some (.int .i64 x.p) := HT.out.eb.at 2 _ rfl
          have k3 : w4.cell? ⟨E, 3, none⟩ = some (.int .i64 x.ref) := HT.out.eb.at 3 _ rfl
          have k4 : w4.cell? ⟨E, 4, none⟩ = some (.int .i64 x.en) := HT.out.eb.at 4 _ rfl
          have k5 : w4.cell? ⟨E, 5, none⟩ = some (.int .i64 x.n) := HT.out.eb.at 5 _ rfl
          obtain ⟨N', N2', k, er, hc1, hc2, hnr, hsm, hwy, hwn⟩ := b_accept w mp E f x (fun _ => False) B B2 HNR2.out HGD.out HSM.out (show q ≤ 1000 by omega) (show 200 ≤ 1000 by omega) HX.out.2.2.2.1
          have HC1 := Lib.hid hc1
          have HC2 := Lib.hid hc2
          have HP := Lib.hid (And.intro hnr (And.intro hsm (And.intro hwy hwn)))
          clear hc1 hc2 hnr hsm hwy hwn
          go_wp2_with fail
          refine (HC1.out _ HT.out).mono ?_
          rintro e w5 ⟨rfl, ht⟩
          have HT5 := Lib.hid ht
          clear ht
          try clear k1
          try clear k2
          try clear k3
          try clear k4
          try clear k5
          have k1 : w5.cell? ⟨E, 1, none⟩ = some (.string x.s) := HT5.out.eb.at 1 _ rfl
          have k2 : w5.cell? ⟨E, 2, none⟩ = some (.int .i64 x.p) := HT5.out.eb.at 2 _ rfl
          have k3 : w5.cell? ⟨E, 3, none⟩ = some (.int .i64 x.ref) := HT5.out.eb.at 3 _ rfl
          have k4 : w5.cell? ⟨E, 4, none⟩ = some (.int .i64 x.en) := HT5.out.eb.at 4 _ rfl
          have k5 : w5.cell? ⟨E, 5, none⟩ = some (.int .i64 x.n) := HT5.out.eb.at 5 _ rfl
          go_wp2_with fail
          refine (HC2.out _ HT5.out).mono ?_
          rintro e w6 ⟨rfl, ht⟩
          have HT6 := Lib.hid ht
          clear ht
          try clear k1
          try clear k2
          try clear k3
          try clear k4
          try clear k5
          have k1 : w6.cell? ⟨E, 1, none⟩ = some (.string x.s) := HT6.out.eb.at 1 _ rfl
          have k2 : w6.cell? ⟨E, 2, none⟩ = some (.int .i64 x.p) := HT6.out.eb.at 2 _ rfl
          have k3 : w6.cell? ⟨E, 3, none⟩ = some (.int .i64 x.ref) := HT6.out.eb.at 3 _ rfl
          have k4 : w6.cell? ⟨E, 4, none⟩ = some (.int .i64 x.en) := HT6.out.eb.at 4 _ rfl
          have k5 : w6.cell? ⟨E, 5, none⟩ = some (.int .i64 x.n) := HT6.out.eb.at 5 _ rfl
          by_cases he : er = 0
          · skip
            as_aux_lemma =>
            have hbe : (er == 0) = true := by simp [he]
            obtain ⟨hw1, hw2⟩ := HP.out.2.2.1 he
            obtain ⟨v, hlk, hvr, hvq, hvl⟩ := lookupSl HT6.out.wt x.ref HX.out.2.2.2.1.1 HX.out.2.2.2.1.2
            rw [HEQ.out, hw1] at hvr
            obtain ⟨v', hsl, hr', hbo⟩ := hvr.tail
            obtain ⟨l, hl⟩ : ∃ l, N'.wait x.ref = l := ⟨_, rfl⟩
            rw [hl] at hvr hr' hw1
            obtain ⟨vg, vo, vc, rfl, hc0⟩ : ∃ g o c, v = .slice (some ⟨g, o, none⟩) (l.length + 1) c ∧ w6.cell? ⟨g, o, none⟩ = some (.int .i64 k) := by
              rcases hvr with ⟨_, h0⟩ | ⟨g, o, c, hv, _, _, _, _, hc⟩
              · cases h0
              · exact ⟨g, o, c, by simpa using hv, by have := hc 0 k rfl; rwa [Nat.add_zero] at this⟩
            obtain ⟨w7, hw7⟩ : ∃ z, w6.drew = z := ⟨_, rfl⟩
            have f7 : Fr [] w6 w7 := by rw [← hw7]; exact (Fr.refl [] w6).drew
            have hlk7 := lookup_same HT6.out.wt f7 x.ref HX.out.2.2.2.1.1 HX.out.2.2.2.1.2 hlk
            obtain ⟨w8, f', hup, hw8, f8, hwf, hq8⟩ := (HT6.out.wt.new f7).put x.ref HX.out.2.2.2.1.1 HX.out.2.2.2.1.2 (v' := v') (l' := l) (Fr.refl [] w7) (fun z hz => by cases hz) (hr'.new f7) (fun g hg => by
              rw [hbo] at hg
              exact .inl (lookupSl_own HT6.out.wt x.ref HX.out.2.2.2.1.1 HX.out.2.2.2.1.2 hlk hg)) (by
              have h1 := wait_len HGD.out x.ref
              rw [hw1, List.length_cons] at h1
              omega)
            have HUP := Lib.hid hup
            have HLK7 := Lib.hid hlk7
            have HSL := Lib.hid hsl
            have HW7 := Lib.hid hw7
            have HTN := Lib.hid (show HolT w w8 mp f' E x (fun _ => False) B N' q B2 N2' 200 from (HT6.out.new f7).turn f8 (fun z hz _ => by rw [List.mem_singleton] at hz; exact .inl hz) hw8 hq8)
            have HWN := Lib.hid (show ∀ q, Wf f' q = N'.wait q from fun q => by
              rw [hwf]
              by_cases hq : q = x.ref
              · rw [if_pos hq, hq, hl]
              · rw [if_neg hq, hw2 q hq, HEQ.out])
            have HK7 := Lib.hid (show w7.cell? ⟨E, 3, none⟩ = some (.int .i64 x.ref) from (HT6.out.new f7).eb.at 3 _ rfl)
            have hln : (((l.length + 1 : Nat) : Int) == 0) = false := by simp; omega
            have hl0 : (0 : Int) < ((l.length + 1 : Nat) : Int) := by omega
            have hkk : (k != k) = false := by simp
            clear hvr hvq hvl hr' hbo hup hw8 f8 hwf hq8 hlk7 hsl hw7 f7 he hw1 hw2 hl
            go_upto_region 37 with fail
            refine wp_region_held_drew (S := fun W => W.cell? ⟨E, 3, none⟩ = some (.int .i64 x.ref)) (by kernel_rfl) (by rw [HW7.out]; exact HK7.out) (fun hHeld => ?_)
            rw [HW7.out] at hHeld ⊢
            refine wpAnyH_take (i := 0) (oi := _) (v := ?_) rfl (by kernel_rfl) (by kernel_rfl) (by kernel_rfl) (fun _ _ _ h => h) (Or.inl ⟨by rfl, ?_⟩) (by first | assumption | trivial) ?_
            rotate_left
            · intro w hSw; (try dsimp only at hSw); go_simp; try with_reducible rfl
            try simp only [Act.put, qj1, qj2, qj3, qj4, qj5, qj6]
            refine wpAnyH_take (i := 1) (oi := _) (v := ?_) rfl (by kernel_rfl) (by kernel_rfl) (by kernel_rfl) (fun _ _ _ h => h) (Or.inl ⟨by rfl, ?_⟩) (by first | assumption | trivial) ?_
            rotate_left
            · intro w hSw; (try dsimp only at hSw); go_simp; try with_reducible rfl
            try simp only [Act.put, qj1, qj2, qj3, qj4, qj5, qj6]
            refine wpAnyH_take (i := 2) (oi := _) (v := ?_) rfl (by kernel_rfl) (by kernel_rfl) (by kernel_rfl) (fun _ _ _ h => h) (Or.inl ⟨by rfl, ?_⟩) (by first | assumption | trivial) ?_
            rotate_left
            · intro w hSw; (try dsimp only at hSw); go_simp; try with_reducible rfl
            try simp only [Act.put, qj1, qj2, qj3, qj4, qj5, qj6]
            refine wpAnyH_take (i := 3) (oi := _) (v := ?_) rfl (by kernel_rfl) (by kernel_rfl) (by kernel_rfl) (fun _ _ _ h => h) (Or.inl ⟨by rfl, ?_⟩) (by first | assumption | trivial) ?_
            rotate_left
            · intro w hSw; (try dsimp only at hSw); go_simp; try with_reducible rfl
            try simp only [Act.put, qj1, qj2, qj3, qj4, qj5, qj6]
            refine wpAnyH_take (i := 4) (oi := _) (v := ?_) rfl (by kernel_rfl) (by kernel_rfl) (by kernel_rfl) (fun _ _ _ h => h) (Or.inl ⟨by rfl, ?_⟩) (by first | assumption | trivial) ?_
            rotate_left
            · intro w hSw; (try dsimp only at hSw); go_simp; try with_reducible rfl
            try simp only [Act.put, qj1, qj2, qj3, qj4, qj5, qj6]
            refine wpAnyH_take (i := 5) (oi := _) (v := ?_) rfl (by kernel_rfl) (by kernel_rfl) (by kernel_rfl) (fun _ _ _ h => h) (Or.inl ⟨by rfl, ?_⟩) (by first | assumption | trivial) ?_
            rotate_left
            · intro w hSw; (try dsimp only at hSw); go_simp; try with_reducible rfl
            try simp only [Act.put, qj1, qj2, qj3, qj4, qj5, qj6]
            refine wpAnyH_ready (rs := [6]) (by kernel_rfl) (by simp) ?_
            refine AllReadyH.cons (o := _) rfl (fun K hK => ?_) AllReadyH.nil
            split
            rotate_left
            · rename_i hno
              exact absurd rfl hno
            refine wp_vl (v := .slice (some ⟨vg, vo, none⟩) (l.length + 1) vc) (w' := w7) (exec_lookup (M := .map (some mp)) (X := .int .i64 x.ref) rfl rfl rfl HLK7.out) ?_
            refine hK.out _ _ (hHeld) (fun hHeld => ?_)
            clear hK K
            try simp only [Act.put, qj1, qj2, qj3, qj4, qj5, qj6]
            refine wpAnyH_take (i := 7) (oi := _) (v := v') rfl (by kernel_rfl) (by kernel_rfl) (by kernel_rfl) (fun _ _ _ h => h) (Or.inl ⟨by rfl, ?_⟩) (by first | assumption | trivial) ?_
            · intro w hSw
              try dsimp only at hSw
              exact exec_slice1 (V := .slice (some ⟨vg, vo, none⟩) (l.length + 1) vc) rfl rfl rfl (by kernel_rfl) (HSL.out w)
            try simp only [Act.put, qj1, qj2, qj3, qj4, qj5, qj6]
            refine wpAnyH_ready (rs := [8]) (by kernel_rfl) (by simp) ?_
            refine AllReadyH.cons (o := _) rfl (fun K hK => ?_) AllReadyH.nil
            split
            rotate_left
            · rename_i hno
              exact absurd rfl hno
            refine wp_skp (w' := w8) ?_ ?_
            · show Sem.run Tryz.prog ((Instr.mapUpdate 70 (.map (some mp)) (.int .i64 x.ref) v') >>= fun _ => pure Next.skip) _ = _
              rw [Sem.run_bind, HUP.out]
              rfl
            refine hK.out _ _ (HTN.out.eb.at 3 _ rfl) (fun hHeld => ?_)
            clear hK K
            try simp only [Act.put, qj1, qj2, qj3, qj4, qj5, qj6]
            refine wpAnyH_done (by kernel_rfl) ?_ _
            clear hHeld k1 k2 k3 k4 k5 hc0 hlk
            go_wp2
            go_meet
            exact ⟨f', _, _, _, HTN.out.monoG (by omega) (by omega), HP.out.1, HP.out.2.1, HWN.out⟩
          · skip
            as_aux_lemma =>
            have hbe : (er == 0) = false := by simp [he]
            have HHE := Lib.hid he
            clear he
            go_wp2
            go_meet
            exact ⟨f, _, _, _, HT6.out.monoG (by omega) (by omega), HP.out.1, HP.out.2.1, fun q => by rw [HEQ.out, HP.out.2.2.2 HHE.out]⟩
        by_cases e4 : x.what = 4
        · skip
          as_aux_lemma =>
          have hb0 : (x.what == 0) = false := by simp [e0]
          have hb1 : (x.what == 1) = false := by simp [e1]
          have hb2 : (x.what == 2) = false := by simp [e2]
          have hb3 : (x.what == 3) = false := by simp [e3]
          have hb4 : (x.what == 4) = true := by simp [e4]
          clear e0 e1 e2 e3 e4
          try clear k1
          try clear k2
          try clear k3
          try clear k4
          try clear k5
          have k1 : w4.cell? ⟨E, 1, none⟩ = some (.string x.s) := HT.out.eb.at 1 _ rfl
          have k2 : w4.cell? ⟨E, 2, none⟩ = some (.int .i64 x.p) := HT.out.eb.at 2 _ rfl
          have k3 : w4.cell? ⟨E, 3, none⟩ = some (.int .i64 x.ref) := HT.out.eb.at 3 _ rfl
          have k4 : w4.cell? ⟨E, 4, none⟩ = some (.int .i64 x.en) := HT.out.eb.at 4 _ rfl
          have k5 : w4.cell? ⟨E, 5, none⟩ = some (.int .i64 x.n) := HT.out.eb.at 5 _ rfl
          obtain ⟨N', N2', l, er, hc1, hc2, hnr, hsm, hwl, hwq, hwa, hll, hlk⟩ := b_close w mp E f x (fun _ => False) B B2 HNR2.out HGD.out HSM.out (show q ≤ 1000 by omega) (show 200 ≤ 1000 by omega) HX.out.2.2.2.1
          have HC1 := Lib.hid hc1
          have HC2 := Lib.hid hc2
          have HP := Lib.hid (And.intro hnr (And.intro hsm (And.intro hwl (And.intro hwq (And.intro hwa hlk)))))
          clear hc1 hc2 hnr hsm hwl hwq hwa hlk
          go_wp2_with fail
          refine (HC1.out _ HT.out).mono ?_
          rintro e w5 ⟨v, ⟨rfl, hiv⟩, ht⟩
          have HT5 := Lib.hid ht
          clear ht
          try clear k1
          try clear k2
          try clear k3
          try clear k4
          try clear k5
          have k1 : w5.cell? ⟨E, 1, none⟩ = some (.string x.s) := HT5.out.eb.at 1 _ rfl
          have k2 : w5.cell? ⟨E, 2, none⟩ = some (.int .i64 x.p) := HT5.out.eb.at 2 _ rfl
          have k3 : w5.cell? ⟨E, 3, none⟩ = some (.int .i64 x.ref) := HT5.out.eb.at 3 _ rfl
          have k4 : w5.cell? ⟨E, 4, none⟩ = some (.int .i64 x.en) := HT5.out.eb.at 4 _ rfl
          have k5 : w5.cell? ⟨E, 5, none⟩ = some (.int .i64 x.n) := HT5.out.eb.at 5 _ rfl
          obtain ⟨n, hn⟩ : ∃ n, l.length = n := ⟨_, rfl⟩
          obtain ⟨va, vc, rfl⟩ : ∃ a c, v = .slice a n c := by
            rcases hiv with ⟨h0, a, c, h⟩ | ⟨g, o, c, h, _, _⟩
            · exact ⟨a, c, by rw [h, ← hn, h0]; rfl⟩
            · exact ⟨_, _, by rw [h, hn]⟩
          have HNN := Lib.hid hn
          have hn1 : n ≤ 128 := by omega
          have HIV := Lib.hid hiv
          clear hiv hn hll
          go_wp2_with fail
          refine (HC2.out _ _ HIV.out HT5.out).mono ?_
          rintro e w6 ⟨rfl, ht, hiv6⟩
          have HT6 := Lib.hid ht
          clear ht
          have HIV6 := Lib.hid hiv6
          clear hiv6
          try clear k1
          try clear k2
          try clear k3
          try clear k4
          try clear k5
          have k1 : w6.cell? ⟨E, 1, none⟩ = some (.string x.s) := HT6.out.eb.at 1 _ rfl
          have k2 : w6.cell? ⟨E, 2, none⟩ = some (.int .i64 x.p) := HT6.out.eb.at 2 _ rfl
          have k3 : w6.cell? ⟨E, 3, none⟩ = some (.int .i64 x.ref) := HT6.out.eb.at 3 _ rfl
          have k4 : w6.cell? ⟨E, 4, none⟩ = some (.int .i64 x.en) := HT6.out.eb.at 4 _ rfl
          have k5 : w6.cell? ⟨E, 5, none⟩ = some (.int .i64 x.n) := HT6.out.eb.at 5 _ rfl
          obtain ⟨v2, hlk, hvr, _, _⟩ := lookupSl HT6.out.wt x.ref HX.out.2.2.2.1.1 HX.out.2.2.2.1.2
          have HV2 := Lib.hid (show IntRow w6 v2 l from by rw [HP.out.2.2.1, ← HEQ.out]; exact hvr.row)
          clear hvr
          go_wp2_with fail
          refine (ints_t _ _ l w6 HIV6.out HV2.out).mono ?_
          rintro e w7 ⟨rfl, f7⟩
          have HT7 := Lib.hid (HT6.out.new f7)
          have HIV7 := Lib.hid (HIV6.out.newF f7)
          clear f7 hlk
          try clear k1
          try clear k2
          try clear k3
          try clear k4
          try clear k5
          have k3 : w7.cell? ⟨E, 3, none⟩ = some (.int .i64 x.ref) := HT7.out.eb.at 3 _ rfl
          go_wp2_with fail
          go_loopw [22] (fun i wz => ∃ (wq : World) (j : Nat), wq = wz ∧ i = .int .i64 j ∧ j ≤ n ∧ HolT w wz mp f E x (fun z => (Value.slice va n vc).ownBlock = some z) B N' q B2 N2' 200 ∧ IntRow wz (.slice va n vc) l) (fun i _ => n - (intOf i).toNat)
          case atStart => exact ⟨_, 0, rfl, rfl, by omega, HT7.out, HIV7.out⟩
          case round =>
            clear k3 HT5 HT6 HT7 HIV HIV6 HIV7 HV2
            obtain ⟨wz, j, hwz, rfl, hj, hth, hih⟩ := hrel
            subst hwz
            have HTZ := Lib.hid hth
            have HIZ := Lib.hid hih
            clear hth hih
            by_cases hlt3 : j < n
            · skip
              as_aux_lemma =>
              have hlt4 : (j : Int) < (n : Int) := by omega
              have hj0 : (0 : Int) ≤ (j : Int) := by omega
              obtain ⟨kj, hkj⟩ : ∃ kj, l[j]? = some kj := ⟨_, List.getElem?_eq_getElem (by rw [HNN.out]; exact hlt3)⟩
              obtain ⟨g, o, rfl, hcj⟩ : ∃ g o, va = some ⟨g, o, none⟩ ∧ wz.cell? ⟨g, o + j, none⟩ = some (.int .i64 kj) := by
                rcases HIZ.out with ⟨h0, _⟩ | ⟨g, o, c, h, _, hc⟩
                · have := HNN.out
                  rw [h0] at this
                  simp at this
                  omega
                · simp only [Value.slice.injEq] at h
                  exact ⟨g, o, h.1, hc j kj hkj⟩
              have hkm := List.mem_of_getElem? hkj
              have HKB := Lib.hid (HP.out.2.2.2.2.2 kj hkm)
              have HKA := Lib.hid (HP.out.2.2.2.2.1 kj hkm)
              clear hkm
              obtain ⟨K1, K2, hk1, _⟩ := HTZ.out.two
              have HK1 := Lib.hid hk1
              clear hk1
              rcases hby : byG N'.C kj with _ | y
              · skip
                as_aux_lemma =>
                go_wp2_with fail
                refine (conn_miss kj HK1.out HKB.out.1 HKB.out.2 hby).mono ?_
                rintro e w8 ⟨rfl, rfl⟩
                go_wp2
                go_roundw
                case rel => exact ⟨_, j + 1, rfl, by go_num, by omega, HTZ.out, HIZ.out⟩
                case measure => simp [intOf]; omega
              · skip
                as_aux_lemma =>
                have hyC : y ∈ N'.C := List.mem_of_find?_eq_some hby
                have HY := Lib.hid (show CcOk y.c ∧ Emp y.c ∧ y.c.a1 = true from ⟨HK1.out.good.ok y hyC, HP.out.2.1.emp y hyC, HKA.out y hby⟩)
                go_wp2_with fail
                refine (conn_hit kj HK1.out hby).mono ?_
                rintro e w8 ⟨d, own, c, rfl, rfl, hd, hc4⟩
                have HD := Lib.hid hd
                clear hd hby hyC
                go_wp2_with fail
                refine (copy_lg HD.out).mono ?_
                rintro e w8 ⟨d2, c2, own2, rfl, hd2, hc2, f8, hn2⟩
                have HRD := Lib.hid (read_copy hd2 hc2 HY.out.1 HY.out.2.1 HY.out.2.2 f8 hn2)
                clear hd2 f8 hn2
                go_wp2_with fail
                refine HRD.out.mono ?_
                rintro e w9 ⟨ra, rc, rr, rfl, hrr, f9⟩
                have HF9 := Lib.hid f9
                clear f9
                rcases hrr with rfl | rfl
                · as_aux_lemma =>
                  go_wp2
                  go_roundw
                  case rel => exact ⟨_, j + 1, rfl, by go_num, by omega, HTZ.out.new HF9.out, HIZ.out.newF HF9.out⟩
                  case measure => simp [intOf]; omega
                · as_aux_lemma =>
                  go_wp2
                  go_roundw
                  case rel => exact ⟨_, j + 1, rfl, by go_num, by omega, HTZ.out.new HF9.out, HIZ.out.newF HF9.out⟩
                  case measure => simp [intOf]; omega
            · skip
              as_aux_lemma =>
              obtain rfl : j = n := by omega
              have k3 : wz.cell? ⟨E, 3, none⟩ = some (.int .i64 x.ref) := HTZ.out.eb.at 3 _ rfl
              go_upto_region 52 with fail
              obtain ⟨w8, f', hdl, hw8, f8, hwf, hq8⟩ := HTZ.out.wt.del x.ref HX.out.2.2.2.1.1 HX.out.2.2.2.1.2 0
              have HDL := Lib.hid hdl
              have HTN := Lib.hid (show HolT w w8 mp f' E x (fun z => (Value.slice va j vc).ownBlock = some z) B N' q B2 N2' 200 from HTZ.out.turn f8 (fun z hz _ => by rw [List.mem_singleton] at hz; exact .inl hz) hw8 (fun z hz => .inl (hq8 z hz)))
              have HWN := Lib.hid (show ∀ q, Wf f' q = N'.wait q from fun q => by rw [hwf, HP.out.2.2.2.1, HEQ.out])
              clear hdl hw8 f8 hwf hq8
              refine wp_region_lit ?_
              refine wpList_plain rfl (fun K hK => ?_); go_simp; refine hK _ _ ?_; clear hK K
              refine wpList_plain rfl (fun K hK => ?_); go_simp; refine hK _ _ ?_; clear hK K
              refine wpList_plain rfl (fun K hK => ?_); go_simp; refine hK _ _ ?_; clear hK K
              try simp only [Act.put, qj1, qj2, qj3, qj4, qj5, qj6]
              refine wpList_deleteI rfl _ _ rfl (v := .map (some mp)) (X := .int .i64 x.ref) rfl rfl HDL.out ?_
              try simp only [Act.put, qj1, qj2, qj3, qj4, qj5, qj6]
              refine wpList_nil ?_
              try simp only [Act.put, qj1, qj2, qj3, qj4, qj5, qj6]
              clear k3
              go_wp2
              go_meet
              exact ⟨f', _, _, _, HTN.out.monoG (by omega) (by omega), HP.out.1, HP.out.2.1, HWN.out⟩
        by_cases e5 : x.what = 5
        · skip
          as_aux_lemma =>
          have hb0 : (x.what == 0) = false := by simp [e0]
          have hb1 : (x.what == 1) = false := by simp [e1]
          have hb2 : (x.what == 2) = false := by simp [e2]
          have hb3 : (x.what == 3) = false := by simp [e3]
          have hb4 : (x.what == 4) = false := by simp [e4]
          have hb5 : (x.what == 5) = true := by simp [e5]
          clear e0 e1 e2 e3 e4 e5
          try clear k1
          try clear k2
          try clear k3
          try clear k4
          try clear k5
          have k1 : w4.cell? ⟨E, 1, none⟩ = some (.string x.s) := HT.out.eb.at 1 _ rfl
          have k2 : w4.cell? ⟨E, 2, none⟩ = some (.int .i64 x.p) := HT.out.eb.at 2 _ rfl
          have k3 : w4.cell? ⟨E, 3, none⟩ = some (.int .i64 x.ref) := HT.out.eb.at 3 _ rfl
          have k4 : w4.cell? ⟨E, 4, none⟩ = some (.int .i64 x.en) := HT.out.eb.at 4 _ rfl
          have k5 : w4.cell? ⟨E, 5, none⟩ = some (.int .i64 x.n) := HT.out.eb.at 5 _ rfl
          obtain ⟨N', N2', er, hc1, hc2, hnr, hsm, hwt, h8⟩ := b_hang w mp E f x (fun _ => False) B B2 HNR2.out HGD.out HSM.out (show q ≤ 1000 by omega) (show 200 ≤ 1000 by omega) HX.out.2.2.2.1
          have HC1 := Lib.hid hc1
          have HC2 := Lib.hid hc2
          have HP := Lib.hid (And.intro hnr (And.intro hsm hwt))
          have H8 := Lib.hid (show x.en = 1 → (∃ y ∈ f, x.ref ∈ y.l) → er = 8 from fun he ⟨y, hy, hm⟩ => h8 he y.k (by rw [← HEQ.out, Wf_at HT.out.wt.keys hy]; exact hm))
          clear hc1 hc2 hnr hsm hwt h8
          by_cases hen : x.en = 1
          · skip
            as_aux_lemma =>
            have hbn : (x.en == 1) = true := by simp [hen]
            by_cases hP : ∃ y ∈ f, x.ref ∈ y.l
            · skip
              as_aux_lemma =>
              obtain rfl : er = 8 := H8.out hen hP
              have HDP := Lib.hid (show decide (∃ y ∈ f, x.ref ∈ y.l) = true from decide_eq_true hP)
              clear hP hen
              go_wp2_with fail
              refine (HC1.out _ HT.out).mono ?_
              rintro e w5 ⟨rfl, ht⟩
              have HT5 := Lib.hid ht
              clear ht
              try clear k1
              try clear k2
              try clear k3
              try clear k4
              try clear k5
              have k1 : w5.cell? ⟨E, 1, none⟩ = some (.string x.s) := HT5.out.eb.at 1 _ rfl
              have k2 : w5.cell? ⟨E, 2, none⟩ = some (.int .i64 x.p) := HT5.out.eb.at 2 _ rfl
              have k3 : w5.cell? ⟨E, 3, none⟩ = some (.int .i64 x.ref) := HT5.out.eb.at 3 _ rfl
              have k4 : w5.cell? ⟨E, 4, none⟩ = some (.int .i64 x.en) := HT5.out.eb.at 4 _ rfl
              have k5 : w5.cell? ⟨E, 5, none⟩ = some (.int .i64 x.n) := HT5.out.eb.at 5 _ rfl
              go_wp2_with fail
              refine (HC2.out _ HT5.out).mono ?_
              rintro e w6 ⟨rfl, ht⟩
              have HT6 := Lib.hid ht
              clear ht
              try clear k1
              try clear k2
              try clear k3
              try clear k4
              try clear k5
              have k1 : w6.cell? ⟨E, 1, none⟩ = some (.string x.s) := HT6.out.eb.at 1 _ rfl
              have k2 : w6.cell? ⟨E, 2, none⟩ = some (.int .i64 x.p) := HT6.out.eb.at 2 _ rfl
              have k3 : w6.cell? ⟨E, 3, none⟩ = some (.int .i64 x.ref) := HT6.out.eb.at 3 _ rfl
              have k4 : w6.cell? ⟨E, 4, none⟩ = some (.int .i64 x.en) := HT6.out.eb.at 4 _ rfl
              have k5 : w6.cell? ⟨E, 5, none⟩ = some (.int .i64 x.n) := HT6.out.eb.at 5 _ rfl
              go_wp2_with fail
              refine (waitsL_any x.ref w6 HT6.out.wt).mono ?_
              rintro e w7 ⟨rfl, f7⟩
              have HT7 := Lib.hid (HT6.out.new f7)
              clear f7
              rw [HDP.out]
              try clear k1
              try clear k2
              try clear k3
              try clear k4
              try clear k5
              have k3 : w7.cell? ⟨E, 3, none⟩ = some (.int .i64 x.ref) := HT7.out.eb.at 3 _ rfl
              have k4 : w7.cell? ⟨E, 4, none⟩ = some (.int .i64 x.en) := HT7.out.eb.at 4 _ rfl
              go_wp2
              go_meet
              exact ⟨f, _, _, _, HT7.out.monoG (by omega) (by omega), HP.out.1, HP.out.2.1, fun q => by rw [HEQ.out, HP.out.2.2]⟩
            · skip
              as_aux_lemma =>
              have hbr : (er != er) = false := by simp
              have HDP := Lib.hid (show decide (∃ y ∈ f, x.ref ∈ y.l) = false from decide_eq_false hP)
              clear hP hen
              go_wp2_with fail
              refine (HC1.out _ HT.out).mono ?_
              rintro e w5 ⟨rfl, ht⟩
              have HT5 := Lib.hid ht
              clear ht
              try clear k1
              try clear k2
              try clear k3
              try clear k4
              try clear k5
              have k1 : w5.cell? ⟨E, 1, none⟩ = some (.string x.s) := HT5.out.eb.at 1 _ rfl
              have k2 : w5.cell? ⟨E, 2, none⟩ = some (.int .i64 x.p) := HT5.out.eb.at 2 _ rfl
              have k3 : w5.cell? ⟨E, 3, none⟩ = some (.int .i64 x.ref) := HT5.out.eb.at 3 _ rfl
              have k4 : w5.cell? ⟨E, 4, none⟩ = some (.int .i64 x.en) := HT5.out.eb.at 4 _ rfl
              have k5 : w5.cell? ⟨E, 5, none⟩ = some (.int .i64 x.n) := HT5.out.eb.at 5 _ rfl
              go_wp2_with fail
              refine (HC2.out _ HT5.out).mono ?_
              rintro e w6 ⟨rfl, ht⟩
              have HT6 := Lib.hid ht
              clear ht
              try clear k1
              try clear k2
              try clear k3
              try clear k4
              try clear k5
              have k1 : w6.cell? ⟨E, 1, none⟩ = some (.string x.s) := HT6.out.eb.at 1 _ rfl
              have k2 : w6.cell? ⟨E, 2, none⟩ = some (.int .i64 x.p) := HT6.out.eb.at 2 _ rfl
              have k3 : w6.cell? ⟨E, 3, none⟩ = some (.int .i64 x.ref) := HT6.out.eb.at 3 _ rfl
              have k4 : w6.cell? ⟨E, 4, none⟩ = some (.int .i64 x.en) := HT6.out.eb.at 4 _ rfl
              have k5 : w6.cell? ⟨E, 5, none⟩ = some (.int .i64 x.n) := HT6.out.eb.at 5 _ rfl
              go_wp2_with fail
              refine (waitsL_any x.ref w6 HT6.out.wt).mono ?_
              rintro e w7 ⟨rfl, f7⟩
              have HT7 := Lib.hid (HT6.out.new f7)
              clear f7
              rw [HDP.out]
              try clear k1
              try clear k2
              try clear k3
              try clear k4
              try clear k5
              have k3 : w7.cell? ⟨E, 3, none⟩ = some (.int .i64 x.ref) := HT7.out.eb.at 3 _ rfl
              have k4 : w7.cell? ⟨E, 4, none⟩ = some (.int .i64 x.en) := HT7.out.eb.at 4 _ rfl
              go_wp2
              go_meet
              exact ⟨f, _, _, _, HT7.out.monoG (by omega) (by omega), HP.out.1, HP.out.2.1, fun q => by rw [HEQ.out, HP.out.2.2]⟩
          · skip
            as_aux_lemma =>
            have hbn : (x.en == 1) = false := by simp [hen]
            have hbr : (er != er) = false := by simp
            clear hen
            go_wp2_with fail
            refine (HC1.out _ HT.out).mono ?_
            rintro e w5 ⟨rfl, ht⟩
            have HT5 := Lib.hid ht
            clear ht
            try clear k1
            try clear k2
            try clear k3
            try clear k4
            try clear k5
            have k1 : w5.cell? ⟨E, 1, none⟩ = some (.string x.s) := HT5.out.eb.at 1 _ rfl
            have k2 : w5.cell? ⟨E, 2, none⟩ = some (.int .i64 x.p) := HT5.out.eb.at 2 _ rfl
            have k3 : w5.cell? ⟨E, 3, none⟩ = some (.int .i64 x.ref) := HT5.out.eb.at 3 _ rfl
            have k4 : w5.cell? ⟨E, 4, none⟩ = some (.int .i64 x.en) := HT5.out.eb.at 4 _ rfl
            have k5 : w5.cell? ⟨E, 5, none⟩ = some (.int .i64 x.n) := HT5.out.eb.at 5 _ rfl
            go_wp2_with fail
            refine (HC2.out _ HT5.out).mono ?_
            rintro e w6 ⟨rfl, ht⟩
            have HT6 := Lib.hid ht
            clear ht
            try clear k1
            try clear k2
            try clear k3
            try clear k4
            try clear k5
            have k1 : w6.cell? ⟨E, 1, none⟩ = some (.string x.s) := HT6.out.eb.at 1 _ rfl
            have k2 : w6.cell? ⟨E, 2, none⟩ = some (.int .i64 x.p) := HT6.out.eb.at 2 _ rfl
            have k3 : w6.cell? ⟨E, 3, none⟩ = some (.int .i64 x.ref) := HT6.out.eb.at 3 _ rfl
            have k4 : w6.cell? ⟨E, 4, none⟩ = some (.int .i64 x.en) := HT6.out.eb.at 4 _ rfl
            have k5 : w6.cell? ⟨E, 5, none⟩ = some (.int .i64 x.n) := HT6.out.eb.at 5 _ rfl
            go_wp2
            go_meet
            exact ⟨f, _, _, _, HT6.out.monoG (by omega) (by omega), HP.out.1, HP.out.2.1, fun q => by rw [HEQ.out, HP.out.2.2]⟩
        as_aux_lemma =>
        have hb0 : (x.what == 0) = false := by simp [e0]
        have hb1 : (x.what == 1) = false := by simp [e1]
        have hb2 : (x.what == 2) = false := by simp [e2]
        have hb3 : (x.what == 3) = false := by simp [e3]
        have hb4 : (x.what == 4) = false := by simp [e4]
        have hb5 : (x.what == 5) = false := by simp [e5]
        clear e0 e1 e2 e3 e4 e5
        go_wp2
        go_meet
        exact ⟨f, _, _, _, HT.out.monoG (by omega) (by omega), HNR2.out, HSM.out, HEQ.out⟩
      case rest =>
        as_aux_lemma =>
        clear HNR2 HSM HEQ HT HGD HX HNE
        obtain ⟨f', X, N', N2', ht, hnr, hsm, heq⟩ := hcut
        have HT := Lib.hid ht
        have HNR := Lib.hid hnr
        have HSM := Lib.hid hsm
        have HEQ := Lib.hid heq
        clear ht hnr hsm heq
        obtain ⟨K1, K2, hk1, hk2, _⟩ := HT.out.two
        have HK1 := Lib.hid hk1
        have HK2 := Lib.hid hk2
        have HGD := Lib.hid hk1.good
        clear hk1 hk2
        obtain ⟨D', hD⟩ := rel_ex PN.PL.ref N'.L HGD.out.lr
        obtain ⟨C', hC⟩ := rel_ex PG.ref N'.C HGD.out.cr
        have HDD := Lib.hid (show PN.RelL N'.L D' ∧ PN.RelL N2'.L D' from ⟨hD, hD.1.trans HNR.out.L, hD.2⟩)
        have HCC := Lib.hid (show RelG N'.C C' ∧ RelG N2'.C C' from ⟨hC, hC.1.trans HNR.out.C, hC.2⟩)
        have HSZ2 := Lib.hid (show D'.length ≤ 1000 ∧ C'.length ≤ 1000 ∧ ∀ x ∈ D', x.l.length ≤ 100000 from ⟨by rw [hD.1.length_eq]; have := HGD.out.nl; omega, by rw [hC.1.length_eq]; have := HGD.out.nc; omega, fun x hx => by have := HGD.out.ls x (hD.1.mem_iff.1 hx); omega⟩)
        clear hD hC
        go_wp2_with fail
        refine (listeners_lg D' HK1.out HDD.out.1 (by omega)).mono ?_
        rintro e w5 ⟨s1, rfl, hr1, f1⟩
        have HR1 := Lib.hid (RowO.rowL hr1)
        have HF1 := Lib.hid f1
        clear hr1 f1
        go_wp2_with fail
        refine (listeners_lg D' (HK2.out.new HF1.out) HDD.out.2 (by omega)).mono ?_
        rintro e w6 ⟨s2, rfl, hr2, f2⟩
        have HR2 := Lib.hid (RowO.rowL hr2)
        have HF2 := Lib.hid f2
        clear hr2 f2
        go_wp2_with fail
        refine (listeners_t _ _ D' w6 (HR1.out.next HF2.out) HR2.out HSZ2.out.1 HSZ2.out.2.2).mono ?_
        rintro e w7 ⟨rfl, f3⟩
        have HF3 := Lib.hid ((HF1.out.step HF2.out).step f3)
        clear f3 HR1 HR2 HF1 HF2
        go_wp2_with fail
        refine (conns_lg C' (HK1.out.new HF3.out) HCC.out.1).mono ?_
        rintro e w8 ⟨s3, rfl, hr3, f4⟩
        have HR3 := Lib.hid hr3.row
        have HF4 := Lib.hid (HF3.out.step f4)
        clear hr3 f4
        go_wp2_with fail
        refine (conns_lg C' (HK2.out.new HF4.out) HCC.out.2).mono ?_
        rintro e w9 ⟨s4, rfl, hr4, f5⟩
        have HR4 := Lib.hid hr4.row
        have HF5 := Lib.hid f5
        clear hr4 f5
        go_wp2_with fail
        refine (conns_t _ _ C' w9 (HR3.out.next HF5.out) HR4.out HSZ2.out.2.1).mono ?_
        rintro e w10 ⟨rfl, f6⟩
        have HF6 := Lib.hid ((HF4.out.step HF5.out).step f6)
        clear f6 HR3 HR4 HF3 HF4 HF5
        go_wp2_with fail
        refine (conns_lg C' (HK1.out.new HF6.out) HCC.out.1).mono ?_
        rintro e w11 ⟨s5, rfl, hr5, f7⟩
        have HR5 := Lib.hid hr5.row
        have HF7 := Lib.hid (HF6.out.step f7)
        clear hr5 f7 HF6
        obtain ⟨m, hm⟩ : ∃ m, C'.length = m := ⟨_, rfl⟩
        obtain ⟨ca, cc, hs5⟩ := HR5.out.val
        rw [hm] at hs5
        have HM := Lib.hid hm
        have HS5 := Lib.hid hs5
        have hm1 : m ≤ 1000 := by rw [← hm]; exact HSZ2.out.2.1
        rw [hs5]
        clear hm hs5
        go_wp2_with fail
        go_loopw [29] (fun i wz => ∃ j : Nat, i = .int .i64 j ∧ j ≤ m ∧ w11 = wz) (fun i _ => m - (intOf i).toNat)
        case atStart => exact ⟨0, rfl, by omega, rfl⟩
        case round =>
          obtain ⟨j, rfl, hj, hwz⟩ := hrel
          subst hwz
          by_cases hlt3 : j < m
          · skip
            as_aux_lemma =>
            have hlt4 : (j : Int) < (m : Int) := by omega
            have hj0 : (0 : Int) ≤ (j : Int) := by omega
            have hy := List.getElem?_eq_getElem (l := C') (i := j) (by rw [HM.out]; exact hlt3)
            obtain ⟨y, hye⟩ : ∃ y, C'[j]'(by rw [HM.out]; exact hlt3) = y := ⟨_, rfl⟩
            rw [hye] at hy
            have hop := HGD.out.op y (HCC.out.1.1.mem_iff.1 (List.mem_of_getElem? hy))
            obtain ⟨g, off, cap, Y, hv, hg, hX, hl, q0, rfl, _⟩ := HR5.out.lies hy
            rw [HS5.out, HM.out] at hv
            simp only [Value.slice.injEq] at hv
            obtain ⟨rfl, _, rfl⟩ := hv
            have z0 : w11.cell? ⟨g, off + j * 17 + 15, none⟩ = some (.bool y.c.a0) := hl 15 _ rfl
            have z1 : w11.cell? ⟨g, off + j * 17 + 16, none⟩ = some (.bool y.c.a1) := hl 16 _ rfl
            have z0' : w11.cell? ⟨g, off + j * 17 + 1 + 14, none⟩ = some (.bool y.c.a0) := z0
            have z1' : w11.cell? ⟨g, off + j * 17 + 1 + 14 + 1, none⟩ = some (.bool y.c.a1) := z1
            clear hy hye hg hX hl
            obtain ⟨b0, hb0⟩ : ∃ b, y.c.a0 = b := ⟨_, rfl⟩
            obtain ⟨b1, hb1⟩ : ∃ b, y.c.a1 = b := ⟨_, rfl⟩
            rw [hb0] at z0 z0' hop
            rw [hb1] at z1 z1' hop
            clear hb0 hb1
            cases b0
            · as_aux_lemma =>
              go_wp2
              go_roundw
              case rel => exact ⟨j + 1, by go_num, by omega, (by first | rfl | trivial)⟩
              case measure => simp [intOf]; omega
            · cases b1
              · as_aux_lemma =>
                go_wp2
                go_roundw
                case rel => exact ⟨j + 1, by go_num, by omega, (by first | rfl | trivial)⟩
                case measure => simp [intOf]; omega
              · cases hop
          · skip
            as_aux_lemma =>
            obtain rfl : j = m := by omega
            have HSN := Lib.hid (show HolS w w11 mp f' B N' (q + 1) from by
              have h := HT.out.new HF7.out
              exact ⟨h.two.one.less (fun z hz => .inl hz), h.wt, HSM.out, HEQ.out, h.fr, h.far⟩)
            clear HT HNR HSM HEQ HK1 HK2 HGD HDD HCC HSZ2 HR5 HF7
            go_wp2
            go_roundw
            case rel => exact ⟨_, q + 1, f', N', rfl, by go_num, by omega, HSN.out⟩
            case measure => simp [intOf]; omega
end Go.Proofs.YtmdhlodafjpnmaaGreat
