/- The walk of All over a net in memory. -/
import Derived.Test.YtgbmenfmaphciaaAllW
namespace Go.Proofs.Ytgbmenfmaphciaa
open Go.RowKit
open Go.Maps (Keyed)
set_option linter.unusedVariables false
set_option maxRecDepth 100000
set_option maxHeartbeats 8000000

/-- Between two rounds of All: k more than enough are to come; T tries so far. -/
structure AllR (w0 : World) (own0 : Nat → Nat) (B : NB) (ids : Nat → Nat × Nat) (now : Int) (D0 : List PN.PD) (N0 : PN.Net) (G T0 : Nat) (k : Nat) (T : Int) (w : World) (own : Nat → Nat) (L : List LB) (C : List CB) (D : List PN.PD) : Prop where
  t0 : 0 ≤ T ∧ T ≤ 2000 * (((PN.trying D0 + 1 : Nat) : Int) - k)
  len : D.length = D0.length
  net : NetW w own B L C (G + 2000 * (PN.trying D0 + 1 - k))
  dials : DialsW w own ids D
  more : PN.trying D < k ∧ k ≤ PN.trying D0 + 1
  trs : ∀ x ∈ D, x.tr ≤ T0 + (((PN.trying D0 + 1 : Nat) : Int) - k)
  ext : Ext w0 own0 own
  fro : FrO own0 allO w0 w
  eq : PN.allD now (PN.trying D0 + 1) D0 N0 = ((PN.allD now k D (plainN L C)).1, (PN.allD now k D (plainN L C)).2.1, T + (PN.allD now k D (plainN L C)).2.2)

/-- Within a round: j have been tried, with s tries. -/
structure RndR (w0 : World) (own0 : Nat → Nat) (B : NB) (ids : Nat → Nat × Nat) (now : Int) (D : List PN.PD) (N : PN.Net) (G : Nat) (j : Nat) (s : Int) (w : World) (own : Nat → Nat) (L : List LB) (C : List CB) (P : List PN.PD) : Prop where
  s0 : 0 ≤ s ∧ s ≤ j
  len : P.length = j ∧ j ≤ D.length
  net : NetW w own B L C (G + j)
  dials : DialsW w own ids (P ++ D.drop j)
  trs : ∀ (T : Int), (∀ x ∈ D, x.tr ≤ T) → ∀ x ∈ P, x.tr ≤ T + 1
  ext : Ext w0 own0 own
  fro : FrO own0 allO w0 w
  eq : PN.roundD now D N = (P ++ (PN.roundD now (D.drop j) (plainN L C)).1, (PN.roundD now (D.drop j) (plainN L C)).2.1, s + (PN.roundD now (D.drop j) (plainN L C)).2.2)

theorem tryD_tr (now : Int) (d : PN.PD) (N : PN.Net) : d.tr ≤ (PN.tryD now d N).1.tr ∧ (PN.tryD now d N).1.tr ≤ d.tr + 1 := by
  unfold PN.tryD
  split
  · simp only; omega
  · split <;> (simp only; omega)

theorem all_w {own : Nat → Nat} {B : NB} {L : List LB} {C : List CB} {G T0 : Nat} {ids : Nat → Nat × Nat} {D : List PN.PD} (b cap : Nat) (now : Int) (w : World) (h : NetW w own B L C G) (hd : DialsW w own ids D) (hlen : D.length ≤ 1000) (hG : G ≤ 1000000000000) (hT : ∀ x ∈ D, x.tr ≤ T0) (hT0 : T0 ≤ 1000000)
    (hc : ∀ i, i < D.length → w.cell? ⟨b, i, none⟩ = some (.pointer (some ⟨(ids i).1, 0, none⟩))) (hb : own b % 4 = 0 ∧ own b ≠ 0) (hbl : b < w.heap.size) :
    Calls Try.prog 20 #[.slice (some ⟨b, 0, none⟩) D.length cap, .pointer (some ⟨B.n, 0, none⟩), .int .u64 now] w fun e w' => ∃ own' L' C' D' r, r = PN.allD now (PN.trying D + 1) D (plainN L C) ∧
      e = .returned (.tuple #[.int .i64 r.2.2, .int .i64 0]) ∧ D' = r.1 ∧ plainN L' C' = r.2.1 ∧ D'.length = D.length ∧ NetW w' own' B L' C' (G + 2000 * (PN.trying D + 1)) ∧ DialsW w' own' ids D' ∧ (∀ x ∈ D', x.tr ≤ T0 + 1001) ∧ Ext w own own' ∧ FrO own allO w w' := by
  have HC := Lib.hid hc
  have hm' : ¬ 1000 < (D.length : Int) := by omega
  have hkt : decide (D.length = D.length) = true := by simp
  have hkf : decide (D.length < D.length) = false := by simp
  have H := Lib.hid h
  have HD := Lib.hid hd
  have htl : PN.trying D ≤ D.length := by unfold PN.trying; exact List.length_filter_le _ _
  have hnb : ∀ z, allO (own z) → z ≠ b := fun z hz he => by rw [he] at hz; unfold allO netO at hz; omega
  have HNB := Lib.hid hnb
  have HT := Lib.hid hT
  clear hc h hd hnb hT
  obtain ⟨n, hn⟩ : ∃ n, D.length = n := ⟨_, rfl⟩
  have HN := Lib.hid hn
  rw [hn] at HC hm' hkt hkf htl hlen ⊢
  clear hn
  go_enter Try.func20, Try.ntmps20
  go_wp2_with fail
  go_step3
  go_wp2_with fail
  refine (dead_ok _ H.out.net).mono ?_
  rintro e w1 ⟨rfl, f1⟩
  go_wp2_with fail
  have dNone : ∀ i, i < n → ∀ W, Fr [] w W → Calls Try.prog 35 #[.pointer (some ⟨(ids i).1, 0, none⟩)] W fun e w' => e = .returned (.bool false) ∧ W = w' := fun i hi W hW => by
    have hx := (HD.out i _ (List.getElem?_eq_getElem (by rw [HN.out]; exact hi))).cells
    exact dialNone_any _ _ _ _ _ _ _ _ _ _ W (hx.new hW)
  refine (containsNone b 0 n cap n (fun i => .pointer (some ⟨(ids i).1, 0, none⟩)) w1 (by omega) (by omega) (fun i hi => by simpa using f1.keep (HC.out i hi) (by simp)) (fun i hi => dNone i hi w1 f1) (fun h => absurd h (by omega))).mono ?_
  rintro e w' ⟨rfl, rfl⟩
  rw [hkf]
  clear dNone
  go_wp2_with fail
  go_step3
  go_wp2_with fail
  have hR0 : AllR w own B ids now D (plainN L C) G T0 (PN.trying D + 1) 0 w1 own L C D := ⟨⟨Int.le_refl _, by omega⟩, rfl, (H.out.new f1).mono (by omega), HD.out.new f1, ⟨by omega, Nat.le_refl _⟩, fun x hx => by have := HT.out x hx; omega, Ext.refl _ _, FrO.new f1, by simp⟩
  have HR0 := Lib.hid hR0
  clear hR0 f1
  go_loopg [8] (PN.trying D + 1) (fun k t wr => ∃ (T : Int) (own' : Nat → Nat) (L' : List LB) (C' : List CB) (D' : List PN.PD), t = .int .i64 T ∧ AllR w own B ids now D (plainN L C) G T0 k T wr own' L' C' D')
  case atStart => exact ⟨0, own, L, C, D, rfl, HR0.out⟩
  case round =>
    obtain ⟨T, own1, L1, C1, D1, rfl, hR⟩ := hrel
    have hl1 : D1.length = n := hR.len.trans HN.out
    have hk1 := hR.more
    have ht1 := hR.t0
    have hcell : ∀ i, i < n → wr.cell? ⟨b, i, none⟩ = some (.pointer (some ⟨(ids i).1, 0, none⟩)) := fun i hi => by
      obtain ⟨S, f1, f2⟩ := hR.fro.list
      exact f1.keep (HC.out i hi) (fun hm => HNB.out b (f2 b hm).2 rfl)
    have dState : ∀ (W0 : World) (own' : Nat → Nat) (D' : List PN.PD), DialsW W0 own' ids D' → D'.length = n → ∀ i, i < n → ∀ W, Fr [] W0 W → Calls Try.prog 25 #[.pointer (some ⟨(ids i).1, 0, none⟩)] W fun e w' => (∃ x y, e = .returned (.tuple #[.int .i64 (stA D' i), x, y])) ∧ Fr [] W w' := fun W0 own' D' hD' hl' i hi W hW => by
      have hx := (hD' i _ (List.getElem?_eq_getElem (by rw [hl']; exact hi))).cells
      rw [stA_lt (by rw [hl']; exact hi)]
      exact (dialState_any _ _ _ _ _ _ _ _ _ _ W (hx.new hW)).mono (fun e w' q => ⟨⟨_, _, q.1⟩, q.2⟩)
    have DST := Lib.hid dState
    have HR := Lib.hid hR
    have HCL := Lib.hid hcell
    clear dState hR hcell
    obtain ⟨wo, hwo⟩ : ∃ wo : World, wo = wr := ⟨_, rfl⟩
    subst hwo
    go_wp2_with fail
    refine (states_any b 0 n cap (fun i => .pointer (some ⟨(ids i).1, 0, none⟩)) (stA D1) wo (by omega) (fun i hi => by simpa using HCL.out i hi) (DST.out wo own1 D1 HR.out.dials hl1)).mono ?_
    rintro e w2 ⟨b1, rfl, lb1, hb1, f2⟩
    have hz2 := f2.size
    -- new blocks belong to nobody
    have hE1 : Ext wo own1 (ownNew wo own1 4) := Ext.new _ _ _
    have hRn : RndR w2 (ownNew wo own1 4) B ids now D1 (plainN L1 C1) (G + 2000 * (PN.trying D + 1 - gk)) 0 0 w2 (ownNew wo own1 4) L1 C1 [] :=
      ⟨⟨Int.le_refl _, Int.le_refl _⟩, ⟨rfl, Nat.zero_le _⟩, (HR.out.net.ext hE1).new f2, (HR.out.dials.ext hE1).new f2, (fun T hT x hx => by cases hx), Ext.refl _ _, FrO.new (Fr.refl _ _), by simp⟩
    have HRn := Lib.hid hRn
    have HB1 := Lib.hid hb1
    have HF2 := Lib.hid f2
    have ob1 : ownNew wo own1 4 b1 = 4 := ownNew_ge lb1
    have OB1 := Lib.hid ob1
    have OWB := Lib.hid (show ownNew wo own1 4 b = own b from (hE1 b (Nat.lt_of_lt_of_le hbl HR.out.fro.size)).trans (HR.out.ext b hbl))
    clear hRn hb1 f2 ob1 hE1
    go_wp2_with fail
    go_loopw [28, 8] (fun i t wr => ∃ (j : Nat) (s : Int) (own' : Nat → Nat) (L' : List LB) (C' : List CB) (P : List PN.PD), i = .int .i64 j ∧ t = .int .i64 (T + s) ∧ j ≤ n ∧ RndR w2 (ownNew wo own1 4) B ids now D1 (plainN L1 C1) (G + 2000 * (PN.trying D + 1 - gk)) j s wr own' L' C' P) (fun i _ _ => n - (intOf i).toNat)
    case atStart => exact ⟨0, 0, _, L1, C1, [], rfl, by simp, by omega, HRn.out⟩
    case round =>
      obtain ⟨j, s, own2, L2, C2, P, rfl, rfl, hj, hr⟩ := hrel
      have hs0 := hr.s0
      have hPl := hr.len.1
      have HRR := Lib.hid hr
      clear hr
      by_cases hl : j < n
      · have hl' : (j : Int) < (n : Int) := by omega
        have hjd : j < D1.length := by omega
        have hdrop : D1.drop j = D1[j] :: D1.drop (j + 1) := List.drop_eq_getElem_cons hjd
        obtain ⟨x, hx⟩ : ∃ x, D1[j] = x := ⟨_, rfl⟩
        rw [hx] at hdrop
        have hxd : DialW wr own2 j (ids j).1 (ids j).2 x := HRR.out.dials j x (by
          rw [List.getElem?_append_right (by omega), hPl, Nat.sub_self, hdrop]
          rfl)
        have hcj : wr.cell? ⟨b, j, none⟩ = some (.pointer (some ⟨(ids j).1, 0, none⟩)) := by
          obtain ⟨S, f3, f4⟩ := HRR.out.fro.list
          refine f3.keep (HF2.out.keep (HCL.out j hl) (by simp)) (fun hm => ?_)
          have hm2 := (f4 b hm).2
          rw [OWB.out] at hm2
          exact HNB.out b hm2 rfl
        have htr := HR.out.trs x (by rw [← hx]; exact List.getElem_mem hjd)
        have htr0 := hxd.tr
        obtain ⟨g1, g2⟩ := tryD_tr now x (plainN L2 C2)
        have HT := Lib.hid (dialTry_w now wr HRR.out.net hxd (by omega) (by omega))
        have c8 := hxd.cells.c8
        have HXD := Lib.hid hxd
        have HDR := Lib.hid hdrop
        clear hxd hdrop
        go_wp2_with fail
        refine HT.out.mono ?_
        rintro e w3 ⟨own3, L3, C3, rfl, hp3, hn3, hd3, he3, hf3⟩
        obtain ⟨x', hx'⟩ : ∃ x', (PN.tryD now x (plainN L2 C2)).1 = x' := ⟨_, rfl⟩
        rw [hx'] at hd3 g1 g2
        have c8' := hd3.cells.c8
        have H3 := Lib.hid (And.intro hp3 (And.intro hn3 (And.intro hd3 (And.intro he3 hf3))))
        have HX' := Lib.hid hx'
        clear hp3 hn3 hd3 he3 hf3 hx'
        go_wp2_with fail
        go_roundw
        case rel =>
          obtain ⟨hp3, hn3, hd3, he3, hf3⟩ := H3.out
          refine ⟨j + 1, s + (x'.tr - x.tr), own3, L3, C3, P ++ [x'], by go_num, by rw [Int.add_assoc], by omega, ⟨⟨by omega, by push_cast; omega⟩, ⟨by simp [hPl], by omega⟩, by rw [← Nat.add_assoc]; exact hn3, ?_, ?_, HRR.out.ext.step he3 HRR.out.fro.size, HRR.out.fro.trans (hf3.mono (fun c hc => tryO_all hc)) HRR.out.ext, ?_⟩⟩
          · have h0 := HRR.out.dials
            rw [HDR.out] at h0
            have h1 := DialsW.set (x' := x') h0 (by rw [hPl]; exact hd3) he3 (by rw [hPl]; exact hf3)
            simpa using h1
          · intro T' hT' y hy
            rcases List.mem_append.1 hy with hy | hy
            · exact HRR.out.trs T' hT' y hy
            · simp only [List.mem_singleton] at hy
              subst hy
              have := hT' x (by rw [← hx]; exact List.getElem_mem hjd)
              omega
          · have h0 := HRR.out.eq
            rw [HDR.out] at h0
            simp only [PN.roundD, HX'.out, ← hp3] at h0
            rw [h0]
            simp [Int.add_assoc]
        case measure => simp [intOf]; omega
      · obtain rfl : j = n := by omega
        have hl' : ¬ (j : Int) < (j : Int) := by omega
        have hdr : D1.drop j = [] := List.drop_of_length_le (by omega)
        have hdl : DialsW wr own2 ids P := by
          have := HRR.out.dials
          rw [hdr, List.append_nil] at this
          exact this
        have hreq : PN.roundD now D1 (plainN L1 C1) = (P, plainN L2 C2, s) := by
          have := HRR.out.eq
          rw [hdr] at this
          simpa [PN.roundD] using this
        have HDL := Lib.hid hdl
        have HRQ := Lib.hid hreq
        have hcl2 : ∀ i, i < j → wr.cell? ⟨b, i, none⟩ = some (.pointer (some ⟨(ids i).1, 0, none⟩)) := fun i hi => by
          obtain ⟨S, f3, f4⟩ := HRR.out.fro.list
          refine f3.keep (HF2.out.keep (HCL.out i hi) (by simp)) (fun hm => ?_)
          have hm2 := (f4 b hm).2
          rw [OWB.out] at hm2
          exact HNB.out b hm2 rfl
        have hb12 : ∀ i, i < j → wr.cell? ⟨b1, i, none⟩ = some (.int .i64 (stA D1 i)) := fun i hi => by
          obtain ⟨S, f3, f4⟩ := HRR.out.fro.list
          refine f3.keep (HB1.out i hi) (fun hm => ?_)
          have hm2 := (f4 b1 hm).2
          rw [OB1.out] at hm2
          unfold allO netO at hm2
          omega
        have HC2 := Lib.hid hcl2
        have HB12 := Lib.hid hb12
        clear hdr hdl hreq hcl2 hb12
        go_wp2_with fail
        refine (states_any b 0 j cap (fun i => .pointer (some ⟨(ids i).1, 0, none⟩)) (stA P) wr (by omega) (fun i hi => by simpa using HC2.out i hi) (DST.out wr own2 P HDL.out hPl)).mono ?_
        rintro e w3 ⟨b2, rfl, lb2, hb2, f3⟩
        obtain ⟨k, hk1', hk2, hk3⟩ := firstDiff (stA D1) (stA P) j
        have HF3 := Lib.hid f3
        have HB2 := Lib.hid hb2
        clear hb2 f3
        go_wp2_with fail
        refine (equalStates b1 b2 j j j (stA D1) (stA P) k _ hk1' (by omega) (fun i hi => HF3.out.keep (HB12.out i hi) (by simp)) HB2.out hk2 hk3).mono ?_
        rintro e w4 ⟨rfl, nq, rfl⟩
        have hF4 : Fr [] wr (w3.drewN nq) := HF3.out.drewN nq
        have heq : PN.sts P = PN.sts D1 ↔ k = j := by
          rw [eq_comm, sts_eq (by omega)]
          constructor
          · intro h
            rcases Nat.lt_or_ge k j with h1 | h1
            · exact absurd (h k (by omega)) (hk3 h1)
            · omega
          · rintro rfl i hi
            exact hk2 i (by omega)
        have HEQ := Lib.hid heq
        have HF4 := Lib.hid hF4
        clear heq hF4 hk2 hk3
        obtain ⟨g, rfl⟩ : ∃ g, gk = g + 1 := ⟨gk - 1, by omega⟩
        have hX : Ext w own own2 := (HR.out.ext.step (Ext.new wo own1 4) HR.out.fro.size).step HRR.out.ext (Nat.le_trans HR.out.fro.size hz2)
        have hF : FrO own allO w (w3.drewN nq) := ((HR.out.fro.trans (FrO.new (own := own1) HF2.out) HR.out.ext).trans HRR.out.fro (HR.out.ext.step (Ext.new wo own1 4) HR.out.fro.size)).trans (FrO.new (own := own) HF4.out) (Ext.refl _ _)
        have HX := Lib.hid hX
        have HF := Lib.hid hF
        clear hX hF
        by_cases hkj : k = j
        · rw [decide_eq_true hkj]
          go_wp2_with fail
          rw [Exit.noGoto_ret]
          go_ret2
          have hst := HEQ.out.2 hkj
          have hall : PN.allD now (g + 1) D1 (plainN L1 C1) = (P, plainN L2 C2, s) := by
            unfold PN.allD
            rw [HRQ.out, if_pos hst]
          have hfin := HR.out.eq
          rw [hall] at hfin
          refine ⟨own2, L2, C2, P, _, rfl, ?_, ?_, ?_, hPl, (HRR.out.net.new HF4.out).mono ?_, HDL.out.new HF4.out, ?_, HX.out, HF.out⟩
          · rw [hfin]; rfl
          · rw [hfin]
          · rw [hfin]
          · omega
          · intro y hy
            have := HRR.out.trs _ HR.out.trs y hy
            omega
        · rw [decide_eq_false hkj]
          go_wp2_with fail
          go_roundg g
          case measure => omega
          case rel =>
            have hst : PN.sts P ≠ PN.sts D1 := fun h => hkj (HEQ.out.1 h)
            have htr := (PN.round_trying (now := now) D1 (plainN L1 C1)).2
            rw [HRQ.out] at htr
            have htr2 := htr hst
            have hall : PN.allD now (g + 1) D1 (plainN L1 C1) = ((PN.allD now g P (plainN L2 C2)).1, (PN.allD now g P (plainN L2 C2)).2.1, s + (PN.allD now g P (plainN L2 C2)).2.2) := by
              conv => lhs; unfold PN.allD
              rw [HRQ.out, if_neg hst]
            have hfin := HR.out.eq
            rw [hall] at hfin
            simp only at htr2
            refine ⟨T + s, own2, L2, C2, P, rfl, ⟨⟨by omega, by omega⟩, hPl.trans HN.out.symm, (HRR.out.net.new HF4.out).mono (by omega), HDL.out.new HF4.out, ⟨by omega, by omega⟩, fun y hy => ?_, HX.out, HF.out, ?_⟩⟩
            · have := HRR.out.trs _ HR.out.trs y hy
              omega
            · rw [hfin]
              simp [Int.add_assoc]
end Go.Proofs.Ytgbmenfmaphciaa
