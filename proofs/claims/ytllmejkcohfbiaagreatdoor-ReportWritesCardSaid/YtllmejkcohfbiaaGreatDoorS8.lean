/- ReportWrites answers true. -/
import Derived.Test.YtllmejkcohfbiaaGreatDoorS7
namespace Go.Proofs.YtllmejkcohfbiaaGreatDoor
open Go.RowKit Go.Shelf Go.Sort Go.Lib
set_option linter.unusedVariables false
set_option linter.unusedSimpArgs false
set_option maxRecDepth 100000
set_option maxHeartbeats 16000000

theorem writes_big (sa : Option Addr) (sc : Nat) (ta : Option Addr) (tc : Nat) (ua : Option Addr) (uc : Nat) (n1 n2 n3 : Nat) (many : Int) (w : World) (he : EnvR w) (hb : 20 < n1 ∨ 20 < n2 ∨ 20 < n3) :
    Calls Tryz.prog 4 #[.slice sa n1 sc, .slice ta n2 tc, .slice ua n3 uc, .int .i64 many] w fun e w' => e = .returned (.bool true) ∧ Fr [] w w' := by
  have HK := Lib.hid (known_any w he)
  clear he
  by_cases h1 : 20 < n1
  · have d1 : decide ((20 : Int) < (n1 : Int)) = true := decide_eq_true (by omega)
    clear hb h1
    go_enter Tryz.func4, Tryz.ntmps4
    go_wp2_with fail
    refine HK.out.mono ?_
    rintro e w1 ⟨rfl, f1⟩
    go_wp2
    go_ret
    exact ⟨rfl, f1⟩
  have d1 : decide ((20 : Int) < (n1 : Int)) = false := decide_eq_false (by omega)
  by_cases h2 : 20 < n2
  · have d2 : decide ((20 : Int) < (n2 : Int)) = true := decide_eq_true (by omega)
    clear hb h1 h2
    go_enter Tryz.func4, Tryz.ntmps4
    go_wp2_with fail
    refine HK.out.mono ?_
    rintro e w1 ⟨rfl, f1⟩
    go_wp2
    go_ret
    exact ⟨rfl, f1⟩
  have d2 : decide ((20 : Int) < (n2 : Int)) = false := decide_eq_false (by omega)
  have d3 : decide ((20 : Int) < (n3 : Int)) = true := decide_eq_true (by omega)
  clear hb h1 h2
  go_enter Tryz.func4, Tryz.ntmps4
  go_wp2_with fail
  refine HK.out.mono ?_
  rintro e w1 ⟨rfl, f1⟩
  go_wp2
  go_ret
  exact ⟨rfl, f1⟩
theorem writes_main (sa : Option Addr) (sc : Nat) (ta : Option Addr) (tc : Nat) (ua : Option Addr) (uc : Nat) (xa : List Tk) (cs : List Cd) (ks : List Bk) (many : Int) (w : World) (he : EnvR w)
    (ha : TkRow w (.slice sa xa.length sc) xa) (hc : CdRow w (.slice ta cs.length tc) cs) (hk : BkRow w (.slice ua ks.length uc) ks) (wa : ∀ x ∈ xa, x.wf) (wc : ∀ x ∈ cs, x.wf) (wk : ∀ x ∈ ks, x.wf) (la : xa.length ≤ 20) (lc : cs.length ≤ 20) (lk : ks.length ≤ 20) :
    Calls Tryz.prog 4 #[.slice sa xa.length sc, .slice ta cs.length tc, .slice ua ks.length uc, .int .i64 many] w fun e w' => e = .returned (.bool true) ∧ Fr [] w w' := by
  have HE := Lib.hid he
  have RA := Lib.hid ha
  have RC := Lib.hid hc
  have RK := Lib.hid hk
  have WA := Lib.hid wa
  have WC := Lib.hid wc
  have WK := Lib.hid wk
  have SA := Lib.hid (tk_says xa la)
  have SC := Lib.hid (cd_says cs lc)
  have SK := Lib.hid (bk_says ks lk)
  have TA := Lib.hid (fun W (f : Fr [] w W) => Tasks_any (.slice sa xa.length sc) xa (by omega) W (he.new f).tab (ha.new f) wa)
  have TC := Lib.hid (fun W (f : Fr [] w W) => Codes_any (.slice ta cs.length tc) cs (by omega) W (he.new f).tab (hc.new f) wc)
  have TK := Lib.hid (fun W (f : Fr [] w W) => Blocked_any (.slice ua ks.length uc) ks (by omega) W (he.new f).tab (hk.new f) wk)
  obtain ⟨n1, hn1⟩ : ∃ n, xa.length = n := ⟨_, rfl⟩
  obtain ⟨n2, hn2⟩ : ∃ n, cs.length = n := ⟨_, rfl⟩
  obtain ⟨n3, hn3⟩ : ∃ n, ks.length = n := ⟨_, rfl⟩
  rw [hn1] at RA TA la ⊢
  rw [hn2] at RC TC lc ⊢
  rw [hn3] at RK TK lk ⊢
  have M1 := Lib.hid hn1
  have M2 := Lib.hid hn2
  have M3 := Lib.hid hn3
  have d1 : decide ((20 : Int) < (n1 : Int)) = false := decide_eq_false (by omega)
  have d2 : decide ((20 : Int) < (n2 : Int)) = false := decide_eq_false (by omega)
  have d3 : decide ((20 : Int) < (n3 : Int)) = false := decide_eq_false (by omega)
  clear he ha hc hk wa wc wk hn1 hn2 hn3
  go_enter Tryz.func4, Tryz.ntmps4
  go_wp2
  go_loopw [9, 10, 11] (fun s9 s10 i wr => ∃ (wz : World) (q : Nat), wz = wr ∧ i = .int .i64 q ∧ q ≤ n1 ∧ s9 = .string (bs (textOf taskB (xa.take q))) ∧ s10 = .bool ((xa.take q).all Tk.ok) ∧ Fr [] w wr) (fun _ _ i _ => n1 - (intOf i).toNat)
  case atStart => exact ⟨_, 0, rfl, rfl, by omega, by simp [textOf]; rfl, rfl, Fr.refl _ _⟩
  case round =>
    obtain ⟨wr, q, hwz, rfl, hq, rfl, rfl, hF⟩ := hrel
    subst hwz
    have HF := Lib.hid hF
    have hsz : (bs (textOf taskB (xa.take q))).size ≤ 6000 := by
      have h1 := textOf_max taskB 300 (xa.take q) (fun o ho => (taskB_len (WA.out o (List.mem_of_mem_take ho))).1)
      rw [List.length_take] at h1
      rw [bs_size]
      exact Nat.le_trans h1 (Nat.mul_le_mul_left 300 (by have := M1.out; omega : min q xa.length ≤ 20))
    obtain ⟨so, hso⟩ : ∃ z, bs (textOf taskB (xa.take q)) = z := ⟨_, rfl⟩
    rw [hso] at hsz
    simp only [hso]
    have HSO := Lib.hid hso
    obtain ⟨fq, hfq⟩ : ∃ z, (xa.take q).all Tk.ok = z := ⟨_, rfl⟩
    simp only [hfq]
    have HFQ := Lib.hid hfq
    clear hF hso hfq
    by_cases hlt : q < n1
    · have hx := List.getElem?_eq_getElem (l := xa) (i := q) (by rw [M1.out]; exact hlt)
      obtain ⟨o, hoe⟩ : ∃ o, xa[q]'(by rw [M1.out]; exact hlt) = o := ⟨_, rfl⟩
      rw [hoe] at hx
      have how := WA.out o (List.mem_of_getElem? hx)
      rcases RA.out.new HF.out with ⟨h1, _⟩ | ⟨g, off, cap', hv, hg, hcells⟩
      · rw [h1] at hx
        simp at hx
      rw [M1.out] at hv
      simp only [Value.slice.injEq] at hv
      obtain ⟨rfl, _, rfl⟩ := hv
      obtain ⟨c0, c1, c2, c3, c4, c5, c6, c7⟩ := hcells q o hx
      have htk : textOf taskB (xa.take (q + 1)) = textOf taskB (xa.take q) ++ taskB o := by
        rw [List.take_add_one, hx, textOf_app]
        simp [textOf]
      have hal : (xa.take (q + 1)).all Tk.ok = (fq && o.ok) := by
        rw [List.take_add_one, hx, List.all_append, HFQ.out]
        simp
      have hzl : (bs (taskB o)).size ≤ 300 := by rw [bs_size]; exact (taskB_len how).1
      have HTK := Lib.hid htk
      have HAL := Lib.hid hal
      have HLINE := Lib.hid (taskLineL_any o how)
      obtain ⟨lb, hlb⟩ : ∃ z, bs (taskB o) = z := ⟨_, rfl⟩
      rw [hlb] at hzl HLINE
      have HLB := Lib.hid hlb
      obtain ⟨ok, hok⟩ : ∃ z, o.ok = z := ⟨_, rfl⟩
      rw [hok] at HLINE HAL
      clear hx hoe how hcells htk hal hlb hok
      go_wp2_with fail
      refine (HLINE.out _).mono ?_
      rintro e1 w1 ⟨rfl, f1⟩
      have F1 := Lib.hid (HF.out.step f1)
      clear f1 HLINE
      cases fq with
      | false =>
        go_wp2
        go_roundw
        case rel => exact ⟨_, q + 1, rfl, by go_num, by omega, by rw [HTK.out, ← bs_append, HSO.out, HLB.out], by rw [HAL.out]; rfl, F1.out⟩
        case measure => simp [intOf]; omega
      | true =>
        go_wp2
        go_roundw
        case rel => exact ⟨_, q + 1, rfl, by go_num, by omega, by rw [HTK.out, ← bs_append, HSO.out, HLB.out], by rw [HAL.out]; rfl, F1.out⟩
        case measure => simp [intOf]; omega
    · have hqm : q = n1 := by omega
      subst hqm
      have htt : xa.take q = xa := List.take_of_length_le (by rw [M1.out]; omega)
      rw [htt] at HSO HFQ
      clear htt hlt
      go_wp2_with fail
      refine (TA.out _ HF.out).mono ?_
      rintro e2 w2 ⟨rfl, f2⟩
      have G1 := Lib.hid (HF.out.step f2)
      clear f2
      have hsay := SA.out
      rw [HFQ.out] at hsay
      have HSAY := Lib.hid hsay
      clear hsay
      go_wp2_with fail
      rw [← HSO.out]
      refine (says_any _ _ _ _ _).mono ?_
      rintro e3 w3 ⟨rfl, hw3⟩
      subst hw3
      rw [HSAY.out]
      clear HSAY HSO HFQ
      go_wp2
      go_loopw [9, 10, 16] (fun s9 s10 i wr => ∃ (wz : World) (q : Nat), wz = wr ∧ i = .int .i64 q ∧ q ≤ n2 ∧ s9 = .string (bs (textOf cdB (cs.take q))) ∧ s10 = .bool ((cs.take q).all Cd.ok) ∧ Fr [] w wr) (fun _ _ i _ => n2 - (intOf i).toNat)
      case atStart => exact ⟨_, 0, rfl, rfl, by omega, by simp [textOf]; rfl, rfl, G1.out⟩
      case round =>
        obtain ⟨wr, q, hwz, rfl, hq, rfl, rfl, hF⟩ := hrel
        subst hwz
        have HF := Lib.hid hF
        have hsz : (bs (textOf cdB (cs.take q))).size ≤ 2000 := by
          have h1 := textOf_max cdB 100 (cs.take q) (fun o ho => cdB_len (WC.out o (List.mem_of_mem_take ho)))
          rw [List.length_take] at h1
          rw [bs_size]
          exact Nat.le_trans h1 (Nat.mul_le_mul_left 100 (by have := M2.out; omega : min q cs.length ≤ 20))
        obtain ⟨so, hso⟩ : ∃ z, bs (textOf cdB (cs.take q)) = z := ⟨_, rfl⟩
        rw [hso] at hsz
        simp only [hso]
        have HSO := Lib.hid hso
        obtain ⟨fq, hfq⟩ : ∃ z, (cs.take q).all Cd.ok = z := ⟨_, rfl⟩
        simp only [hfq]
        have HFQ := Lib.hid hfq
        clear hF hso hfq
        by_cases hlt : q < n2
        · have hx := List.getElem?_eq_getElem (l := cs) (i := q) (by rw [M2.out]; exact hlt)
          obtain ⟨o, hoe⟩ : ∃ o, cs[q]'(by rw [M2.out]; exact hlt) = o := ⟨_, rfl⟩
          rw [hoe] at hx
          have how := WC.out o (List.mem_of_getElem? hx)
          rcases RC.out.new HF.out with ⟨h1, _⟩ | ⟨g, off, cap', hv, hg, hcells⟩
          · rw [h1] at hx
            simp at hx
          rw [M2.out] at hv
          simp only [Value.slice.injEq] at hv
          obtain ⟨rfl, _, rfl⟩ := hv
          obtain ⟨c0, c1, c2⟩ := hcells q o hx
          have htk : textOf cdB (cs.take (q + 1)) = textOf cdB (cs.take q) ++ cdB o := by
            rw [List.take_add_one, hx, textOf_app]
            simp [textOf]
          have hal : (cs.take (q + 1)).all Cd.ok = (fq && o.ok) := by
            rw [List.take_add_one, hx, List.all_append, HFQ.out]
            simp
          have hzl : (bs (cdB o)).size ≤ 100 := by rw [bs_size]; exact cdB_len how
          have HTK := Lib.hid htk
          have HAL := Lib.hid hal
          have HLINE := Lib.hid (codeLineL_any o how)
          obtain ⟨lb, hlb⟩ : ∃ z, bs (cdB o) = z := ⟨_, rfl⟩
          rw [hlb] at hzl HLINE
          have HLB := Lib.hid hlb
          obtain ⟨ok, hok⟩ : ∃ z, o.ok = z := ⟨_, rfl⟩
          rw [hok] at HLINE HAL
          clear hx hoe how hcells htk hal hlb hok
          go_wp2_with fail
          refine (HLINE.out _).mono ?_
          rintro e1 w1 ⟨rfl, f1⟩
          have F1 := Lib.hid (HF.out.step f1)
          clear f1 HLINE
          cases fq with
          | false =>
            go_wp2
            go_roundw
            case rel => exact ⟨_, q + 1, rfl, by go_num, by omega, by rw [HTK.out, ← bs_append, HSO.out, HLB.out], by rw [HAL.out]; rfl, F1.out⟩
            case measure => simp [intOf]; omega
          | true =>
            go_wp2
            go_roundw
            case rel => exact ⟨_, q + 1, rfl, by go_num, by omega, by rw [HTK.out, ← bs_append, HSO.out, HLB.out], by rw [HAL.out]; rfl, F1.out⟩
            case measure => simp [intOf]; omega
        · have hqm : q = n2 := by omega
          subst hqm
          have htt : cs.take q = cs := List.take_of_length_le (by rw [M2.out]; omega)
          rw [htt] at HSO HFQ
          clear htt hlt
          go_wp2_with fail
          refine (TC.out _ HF.out).mono ?_
          rintro e2 w2 ⟨rfl, f2⟩
          have G2 := Lib.hid (HF.out.step f2)
          clear f2
          have hsay := SC.out
          rw [HFQ.out] at hsay
          have HSAY := Lib.hid hsay
          clear hsay
          go_wp2_with fail
          rw [← HSO.out]
          refine (says_any _ _ _ _ _).mono ?_
          rintro e3 w4 ⟨rfl, hw3⟩
          subst hw3
          rw [HSAY.out]
          clear HSAY HSO HFQ
          go_wp2
          go_loopw [9, 10, 21] (fun s9 s10 i wr => ∃ (wz : World) (q : Nat), wz = wr ∧ i = .int .i64 q ∧ q ≤ n3 ∧ s9 = .string (bs (textOf bkL (ks.take q))) ∧ s10 = .bool ((ks.take q).all Bk.ok) ∧ Fr [] w wr) (fun _ _ i _ => n3 - (intOf i).toNat)
          case atStart => exact ⟨_, 0, rfl, rfl, by omega, by simp [textOf]; rfl, rfl, G2.out⟩
          case round =>
            obtain ⟨wr, q, hwz, rfl, hq, rfl, rfl, hF⟩ := hrel
            subst hwz
            have HF := Lib.hid hF
            have hsz : (bs (textOf bkL (ks.take q))).size ≤ 2000 := by
              have h1 := textOf_max bkL 100 (ks.take q) (fun o ho => bkL_len (WK.out o (List.mem_of_mem_take ho)))
              rw [List.length_take] at h1
              rw [bs_size]
              exact Nat.le_trans h1 (Nat.mul_le_mul_left 100 (by have := M3.out; omega : min q ks.length ≤ 20))
            obtain ⟨so, hso⟩ : ∃ z, bs (textOf bkL (ks.take q)) = z := ⟨_, rfl⟩
            rw [hso] at hsz
            simp only [hso]
            have HSO := Lib.hid hso
            obtain ⟨fq, hfq⟩ : ∃ z, (ks.take q).all Bk.ok = z := ⟨_, rfl⟩
            simp only [hfq]
            have HFQ := Lib.hid hfq
            clear hF hso hfq
            by_cases hlt : q < n3
            · have hx := List.getElem?_eq_getElem (l := ks) (i := q) (by rw [M3.out]; exact hlt)
              obtain ⟨o, hoe⟩ : ∃ o, ks[q]'(by rw [M3.out]; exact hlt) = o := ⟨_, rfl⟩
              rw [hoe] at hx
              have how := WK.out o (List.mem_of_getElem? hx)
              rcases RK.out.new HF.out with ⟨h1, _⟩ | ⟨g, off, cap', hv, hg, hcells⟩
              · rw [h1] at hx
                simp at hx
              rw [M3.out] at hv
              simp only [Value.slice.injEq] at hv
              obtain ⟨rfl, _, rfl⟩ := hv
              obtain ⟨c0, c1, c2⟩ := hcells q o hx
              have htk : textOf bkL (ks.take (q + 1)) = textOf bkL (ks.take q) ++ bkL o := by
                rw [List.take_add_one, hx, textOf_app]
                simp [textOf]
              have hal : (ks.take (q + 1)).all Bk.ok = (fq && o.ok) := by
                rw [List.take_add_one, hx, List.all_append, HFQ.out]
                simp
              have hzl : (bs (bkL o)).size ≤ 100 := by rw [bs_size]; exact bkL_len how
              have HTK := Lib.hid htk
              have HAL := Lib.hid hal
              have HLINE := Lib.hid (blockedLineL_any o how)
              obtain ⟨lb, hlb⟩ : ∃ z, bs (bkL o) = z := ⟨_, rfl⟩
              rw [hlb] at hzl HLINE
              have HLB := Lib.hid hlb
              obtain ⟨ok, hok⟩ : ∃ z, o.ok = z := ⟨_, rfl⟩
              rw [hok] at HLINE HAL
              clear hx hoe how hcells htk hal hlb hok
              go_wp2_with fail
              refine (HLINE.out _).mono ?_
              rintro e1 w1 ⟨rfl, f1⟩
              have F1 := Lib.hid (HF.out.step f1)
              clear f1 HLINE
              cases fq with
              | false =>
                go_wp2
                go_roundw
                case rel => exact ⟨_, q + 1, rfl, by go_num, by omega, by rw [HTK.out, ← bs_append, HSO.out, HLB.out], by rw [HAL.out]; rfl, F1.out⟩
                case measure => simp [intOf]; omega
              | true =>
                go_wp2
                go_roundw
                case rel => exact ⟨_, q + 1, rfl, by go_num, by omega, by rw [HTK.out, ← bs_append, HSO.out, HLB.out], by rw [HAL.out]; rfl, F1.out⟩
                case measure => simp [intOf]; omega
            · have hqm : q = n3 := by omega
              subst hqm
              have htt : ks.take q = ks := List.take_of_length_le (by rw [M3.out]; omega)
              rw [htt] at HSO HFQ
              clear htt hlt
              go_wp2_with fail
              refine (TK.out _ HF.out).mono ?_
              rintro e2 w2 ⟨rfl, f2⟩
              have G3 := Lib.hid (HF.out.step f2)
              clear f2
              have hsay := SK.out
              rw [HFQ.out] at hsay
              have HSAY := Lib.hid hsay
              clear hsay
              go_wp2_with fail
              rw [← HSO.out]
              refine (says_any _ _ _ _ _).mono ?_
              rintro e3 w5 ⟨rfl, hw3⟩
              subst hw3
              rw [HSAY.out]
              clear HSAY HSO
              by_cases hm1 : many < 995
              · have e1 := decide_eq_true hm1
                have HK := Lib.hid (known_any _ (HE.out.new G3.out))
                go_wp2_with fail
                refine HK.out.mono ?_
                rintro e6 w6 ⟨rfl, f6⟩
                go_wp2
                go_ret
                exact ⟨rfl, G3.out.step f6⟩
              have e1 := decide_eq_false hm1
              by_cases hm2 : 1005 < many
              · have e2 := decide_eq_true hm2
                have HK := Lib.hid (known_any _ (HE.out.new G3.out))
                go_wp2_with fail
                refine HK.out.mono ?_
                rintro e6 w6 ⟨rfl, f6⟩
                go_wp2
                go_ret
                exact ⟨rfl, G3.out.step f6⟩
              have e2 := decide_eq_false hm2
              cases fq with
              | false =>
                have HK := Lib.hid (known_any _ (HE.out.new G3.out))
                go_wp2_with fail
                refine HK.out.mono ?_
                rintro e6 w6 ⟨rfl, f6⟩
                go_wp2
                go_ret
                exact ⟨rfl, G3.out.step f6⟩
              | true =>
                by_cases hq0 : q = 0
                · subst hq0
                  have HK := Lib.hid (known_any _ (HE.out.new G3.out))
                  go_wp2_with fail
                  refine HK.out.mono ?_
                  rintro e6 w6 ⟨rfl, f6⟩
                  go_wp2
                  go_ret
                  exact ⟨rfl, G3.out.step f6⟩
                have e3 : ((q : Int) == 0) = false := by rw [beq_eq_false_iff_ne]; omega
                obtain ⟨M, rfl⟩ : ∃ M : Nat, many = M := ⟨many.toNat, by omega⟩
                have hx := List.getElem?_eq_getElem (l := ks) (i := 0) (by rw [M3.out]; omega)
                obtain ⟨o, hoe⟩ : ∃ o, ks[0]'(by rw [M3.out]; omega) = o := ⟨_, rfl⟩
                rw [hoe] at hx
                have how := WK.out o (List.mem_of_getElem? hx)
                have hok : o.ok = true := List.all_eq_true.1 HFQ.out o (List.mem_of_getElem? hx)
                have ROW5 := RK.out.new G3.out
                have RKK := Lib.hid RK.out
                rcases ROW5 with ⟨h1, _⟩ | ⟨g, off, cap', hv, hg, hcells⟩
                · rw [h1] at hx
                  simp at hx
                rw [M3.out] at hv
                simp only [Value.slice.injEq] at hv
                obtain ⟨rfl, _, rfl⟩ := hv
                obtain ⟨c0, c1, c2⟩ := hcells 0 o hx
                simp only [Nat.zero_mul, Nat.add_zero] at c0 c1 c2
                have hq1 : 0 < q := by omega
                have HLINE := Lib.hid (blockedLineL_any o how)
                have hbl : bkL o = bkB o := by unfold bkL; rw [if_pos hok]
                rw [hbl, hok] at HLINE
                have hzl : (bs (bkB o)).size ≤ 60 := by
                  rw [bs_size]
                  exact bkB_len60 how hok
                have HOW := Lib.hid how
                have HOK := Lib.hid hok
                have C0 := Lib.hid c0
                have C1 := Lib.hid c1
                have C2 := Lib.hid c2
                obtain ⟨lb, hlb⟩ : ∃ z, bs (bkB o) = z := ⟨_, rfl⟩
                rw [hlb] at hzl HLINE
                have HLB := Lib.hid hlb
                have hM1 : 995 ≤ M := by omega
                have hM2 : M ≤ 1005 := by omega
                clear hx hoe how hok hcells hbl hlb hq0 hm1 hm2
                go_wp2_with fail
                refine (HLINE.out _).mono ?_
                rintro e6 w6 ⟨rfl, f6⟩
                have G6 := Lib.hid (G3.out.step f6)
                have D0 := Lib.hid (f6.keep C0.out (by simp))
                have D1 := Lib.hid (f6.keep C1.out (by simp))
                have D2 := Lib.hid (f6.keep C2.out (by simp))
                clear f6 HLINE c0 c1 c2
                go_wp2
                obtain ⟨i0, hi, hz0, hz1, hz2⟩ := info_parts infoBk
                go_loopw [26, 9, 29] (fun s26 s9 i wr => ∃ (wz : World) (k : Nat) (av : Option Addr) (cv : Nat), wz = wr ∧ i = .int .i64 k ∧ k ≤ M ∧ s26 = .slice av k cv ∧ wr.ownsRow w6.heap.size 67 3 (.slice av k cv) k (bkCells (List.replicate k o)) ∧ s9 = .string (bs (textOf bkB (List.replicate k o))) ∧ Fr [] w6 wr) (fun _ _ i _ => M - (intOf i).toNat)
                case atStart => exact ⟨_, 0, none, 0, rfl, rfl, by omega, rfl, World.ownsRow_nil _ _ _ _, by simp [textOf]; rfl, Fr.refl _ _⟩
                case round =>
                  obtain ⟨wr, k, av, cv, hwz, rfl, hk, rfl, hown, rfl, hF⟩ := hrel
                  subst hwz
                  have HF6 := Lib.hid hF
                  have hsz : (bs (textOf bkB (List.replicate k o))).size ≤ 60300 := by
                    have h1 := textOf_max bkB 60 (List.replicate k o) (fun y hy => by
                      rw [List.eq_of_mem_replicate hy]
                      have := hzl
                      rw [← HLB.out, bs_size] at this
                      exact this)
                    rw [List.length_replicate] at h1
                    rw [bs_size]
                    exact Nat.le_trans h1 (Nat.mul_le_mul_left 60 (by omega : k ≤ 1005))
                  obtain ⟨so, hso⟩ : ∃ z, bs (textOf bkB (List.replicate k o)) = z := ⟨_, rfl⟩
                  rw [hso] at hsz
                  simp only [hso]
                  have HSO := Lib.hid hso
                  have HOWN := Lib.hid hown
                  clear hso hF hown
                  by_cases hlt : k < M
                  · have c0 := HF6.out.keep D0.out (by simp)
                    have c1 := HF6.out.keep D1.out (by simp)
                    have c2 := HF6.out.keep D2.out (by simp)
                    have gA : Fr [] wr (wr.alloc (.cells #[.int .i64 o.t, .int .i64 o.why, .int .u64 o.till] 67)) := (Fr.refl [] wr).alloc _
                    have hrs := List.replicate_succ' (n := k) (a := o)
                    have HRS := Lib.hid hrs
                    have hsz6 := HF6.out.size
                    clear hrs
                    go_wp2_with (at_builtin; refine wpList_append_own _ rfl _ _ 54 rfl w6.heap.size 67 i0 _ 3 24 Tryz.underlying54 hi hz0 hz1 hz2 rfl (by omega) _ _ _ rfl (row_fr HOWN.out gA) ⟨wr.heap.size, 0, none⟩ 1 1 (bkVals o) rfl rfl (bkVals_new wr o) (bkVals_one o) (by unfold maxLen; omega) (by omega) (by have := gA.size; omega) ?_)
                    intro v' w7 hown' hgrow hnil
                    obtain ⟨a', c', rfl⟩ := row_val hown'
                    have F7 := Lib.hid (show Fr [] w6 w7 from (HF6.out.step gA).trans (grownFr (S := (Value.slice av k cv).ownBlock.toList) hgrow (fun b e => by simp [e])) (fun b hb hl => by
                      rw [Option.mem_toList] at hb
                      have := ((row_fr HOWN.out gA).lt b hb).1
                      omega))
                    have HO7 := Lib.hid hown'
                    clear hown' hgrow hnil gA
                    go_wp2
                    go_roundw
                    case rel => exact ⟨_, k + 1, _, _, rfl, by go_num, by omega, rfl, by rw [HRS.out, bkCells_app]; simpa only [bkCells, List.append_nil] using HO7.out, by rw [HRS.out, textOf_app, ← bs_append, HSO.out]; simp only [textOf, List.map_cons, List.map_nil, List.flatten_cons, List.flatten_nil, List.append_nil]; rw [HLB.out], F7.out⟩
                    case measure => simp [intOf]; omega
                  · have hkM : k = M := by omega
                    subst hkM
                    have hlen : (bkCells (List.replicate k o)).length = (bkCells (List.replicate k o)).length := rfl
                    have hrow : BkRow wr (.slice av k cv) (List.replicate k o) := (BkRow.of (xs := List.replicate k o) (by rw [List.length_replicate]; exact HOWN.out)).1
                    have hq8 := Blocked_any (.slice av k cv) (List.replicate k o) (by rw [List.length_replicate]; omega) wr (HE.out.new (G6.out.step HF6.out)).tab hrow (fun y hy => by rw [List.eq_of_mem_replicate hy]; exact HOW.out)
                    rw [text_copies o HOK.out k] at hq8
                    have htl : (textOf bkB (List.replicate k o)).length ≤ 60300 := by
                      have := hsz
                      rw [← HSO.out, bs_size] at this
                      exact this
                    have HRD := Lib.hid (fun W (f : Fr [] wr W) => ReadBlocked_any (textOf bkB (List.replicate k o)) (by omega) W (HE.out.new ((G6.out.step HF6.out).step f)))
                    rw [HSO.out] at HRD
                    clear hlen
                    by_cases hk0 : k ≤ 1000
                    · rw [if_pos hk0] at hq8
                      simp only [HSO.out] at hq8
                      have HQ8 := Lib.hid hq8
                      have HRD1 := HRD
                      rw [read_copies o HOK.out HOW.out k, if_pos hk0] at HRD1
                      have hd : ¬ (1000 : Int) < (k : Int) := by omega
                      have hsy : saysB (textOf bkB (List.replicate k o)) 0 (textOf bkB (List.replicate k o)) true = true := by unfold saysB; simp
                      have HSY := Lib.hid hsy
                      clear hq8 HRD htl hrow hk0 hsy
                      go_wp2_with fail
                      refine HQ8.out.mono ?_
                      rintro e9 w9 ⟨rfl, f9⟩
                      have F9 := Lib.hid f9
                      clear f9 HQ8
                      go_wp2_with fail
                      refine (HRD1.out _ F9.out).mono ?_
                      rintro e10 w10 ⟨v10, rfl, hr10, f10⟩
                      simp only at hr10
                      obtain ⟨a10, c10, hv10⟩ := hr10.val
                      rw [List.length_replicate] at hv10
                      subst hv10
                      have F10 := Lib.hid (G6.out.step (HF6.out.step (F9.out.step f10)))
                      clear f10 hr10 HRD1
                      go_wp2_with fail
                      rw [← HSO.out]
                      refine (says_any _ _ _ _ _).mono ?_
                      rintro e11 w11 ⟨rfl, hw11⟩
                      subst hw11
                      rw [HSY.out]
                      go_wp2_with fail
                      refine (known_any _ (HE.out.new F10.out)).mono ?_
                      rintro e12 w12 ⟨rfl, f12⟩
                      go_wp2
                      go_ret
                      exact ⟨rfl, F10.out.step f12⟩
                    · rw [if_neg hk0] at hq8
                      have HQ8 := Lib.hid hq8
                      have hd : (1000 : Int) < (k : Int) := by omega
                      have HRD2 := HRD
                      rw [read_copies o HOK.out HOW.out k, if_neg hk0] at HRD2
                      have hsy : saysB [] 2 [] false = true := rfl
                      have HSY := Lib.hid hsy
                      clear hq8 HRD htl hrow hk0 hsy
                      go_wp2_with fail
                      refine HQ8.out.mono ?_
                      rintro e9 w9 ⟨rfl, f9⟩
                      have F9 := Lib.hid f9
                      clear f9 HQ8
                      go_wp2_with fail
                      refine (HRD2.out _ F9.out).mono ?_
                      rintro e10 w10 ⟨v10, rfl, hr10, f10⟩
                      simp only at hr10
                      obtain ⟨a10, c10, hv10⟩ := hr10.val
                      simp only [List.length_nil] at hv10
                      subst hv10
                      have F10 := Lib.hid (G6.out.step (HF6.out.step (F9.out.step f10)))
                      clear f10 hr10 HRD2
                      go_wp2_with fail
                      refine (says_any [] 2 [] false _).mono ?_
                      rintro e11 w11 ⟨rfl, hw11⟩
                      subst hw11
                      rw [HSY.out]
                      go_wp2_with fail
                      refine (known_any _ (HE.out.new F10.out)).mono ?_
                      rintro e12 w12 ⟨rfl, f12⟩
                      go_wp2
                      go_ret
                      exact ⟨rfl, F10.out.step f12⟩
end Go.Proofs.YtllmejkcohfbiaaGreatDoor
