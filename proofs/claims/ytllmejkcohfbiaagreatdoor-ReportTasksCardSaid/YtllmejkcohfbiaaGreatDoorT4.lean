/- ReportTasks answers true. -/
import Derived.Test.YtllmejkcohfbiaaGreatDoorT3
import Derived.Test.YtllmejkcohfbiaaGreatDoorR26
import Derived.BigQuiet
namespace Go.Proofs.YtllmejkcohfbiaaGreatDoor
open Go.RowKit Go.Maps Go.Shelf Go.Sort Go.Lib
set_option linter.unusedVariables false
set_option linter.unusedSimpArgs false
set_option maxRecDepth 100000
set_option maxHeartbeats 16000000

theorem TkRow.cells {w : World} {v : Value} {xs : List Tk} (h : TkRow w v xs) {i : Nat} {x : Tk} (hx : xs[i]? = some x) : ∃ g off cap, v = .slice (some ⟨g, off, none⟩) xs.length cap ∧ g < w.heap.size ∧
    w.cell? ⟨g, off + i * 8, none⟩ = some (.int .i64 x.t) ∧ w.cell? ⟨g, off + i * 8 + 1, none⟩ = some (.int .i64 x.calls) ∧ w.cell? ⟨g, off + i * 8 + 2, none⟩ = some (.int .i64 x.refused) ∧ w.cell? ⟨g, off + i * 8 + 3, none⟩ = some (.int .i64 x.steps) ∧ w.cell? ⟨g, off + i * 8 + 4, none⟩ = some (.int .i64 x.ended) ∧ w.cell? ⟨g, off + i * 8 + 5, none⟩ = some (.int .i64 x.failed) ∧ w.cell? ⟨g, off + i * 8 + 6, none⟩ = some (.int .i64 x.read) ∧ w.cell? ⟨g, off + i * 8 + 7, none⟩ = some (.int .i64 x.written) := by
  rcases h with ⟨rfl, _⟩ | ⟨g, off, cap, rfl, h1, h2⟩
  · simp at hx
  · exact ⟨g, off, cap, rfl, h1, h2 i x hx⟩
theorem dn_t (n : Int) (l : List Ev) : (dnOf n l).t = n := by
  have h1 : ∀ (v : Ev) (x : Tk), (dnStep n x v).t = x.t := by
    intro v x
    unfold dnStep
    repeat' split
    · exact upT_t v x
    · rfl
    · rfl
  have : ∀ (l : List Ev) x, (l.foldl (dnStep n) x).t = x.t := by
    intro l
    induction l with
    | nil => intro x; rfl
    | cons v r ih => intro x; rw [List.foldl_cons, ih, h1]
  rw [dnOf, this]
  rfl
theorem tasks_big (v : Value) (xs : List Ev) (w : World) (he : EnvR w) (h : EvRow w v xs) (hb : lightB xs = false) :
    Calls Tryz.prog 7 #[v] w fun e w' => e = .returned (.bool true) ∧ Fr [] w w' := by
  have HLI := Lib.hid (light_any v xs w h)
  rw [hb] at HLI
  have HK := Lib.hid (known_any w he)
  obtain ⟨a, cap, rfl⟩ := h.val
  clear he h hb
  go_enter Tryz.func7, Tryz.ntmps7
  go_wp2_with fail
  refine HLI.out.mono ?_
  rintro e w1 ⟨rfl, rfl⟩
  go_wp2_with fail
  refine HK.out.mono ?_
  rintro e w1 ⟨rfl, f1⟩
  go_wp2
  go_ret
  exact ⟨rfl, f1⟩
/-- The best so far, and whether there is one. -/
def BestV (b : Option Int) (v1 v2 : Value) : Prop := (b = none ∧ v1 = .int .i64 0 ∧ v2 = .bool false) ∨ ∃ t, b = some t ∧ v1 = .int .i64 t ∧ v2 = .bool true
theorem tasks_main (v : Value) (xs : List Ev) (w : World) (he : EnvR w) (h : EvRow w v xs) (hb : lightB xs = true) (hok : ∀ x ∈ xs, I64 x.task ∧ I64 x.eN) :
    Calls Tryz.prog 7 #[v] w fun e w' => e = .returned (.bool true) ∧ Fr [] w w' := by
  have hlen : xs.length ≤ 60 := by
    unfold lightB at hb
    exact of_decide_eq_true (Bool.and_eq_true_iff.1 hb).2
  have hsl : ∀ x ∈ xs, x.eD.2.1 ≤ 300 := by
    unfold lightB at hb
    have := (Bool.and_eq_true_iff.1 hb).1
    rw [List.take_of_length_le hlen] at this
    unfold slim at this
    rw [List.all_eq_true] at this
    exact fun x hx => of_decide_eq_true (this x hx)
  have hev : ∀ x ∈ xs, evOk x := fun x hx => ⟨(hok x hx).1, (hok x hx).2, by have := hsl x hx; omega⟩
  have HLI := Lib.hid (light_any v xs w h)
  rw [hb] at HLI
  have HE := Lib.hid he
  have HR := Lib.hid h
  have HOF := Lib.hid (ofTasks_any v xs w h (by omega) hev)
  rw [tasksOf_dn] at HOF
  have HDN := Lib.hid (fun (k : Int) (hk : I64 k) (W : World) (f : Fr [] w W) => done_any v xs k hk W (h.new f) (by omega) hev)
  have HOK := Lib.hid hok
  obtain ⟨a, cap, rfl⟩ := h.val
  obtain ⟨n, hnl⟩ : ∃ n, xs.length = n := ⟨_, rfl⟩
  have HM := Lib.hid hnl
  rw [hnl] at HLI HOF HDN HR hlen ⊢
  have hsn : (taskS xs).length ≤ n := by rw [← hnl]; exact taskS_len xs
  obtain ⟨m, hm⟩ : ∃ m, (taskS xs).length = m := ⟨_, rfl⟩
  rw [hm] at hsn
  have HMM := Lib.hid hm
  clear he h hb hok hsl hev hnl hm
  go_enter Tryz.func7, Tryz.ntmps7
  go_wp2_with fail
  refine HLI.out.mono ?_
  rintro e w1 ⟨rfl, rfl⟩
  clear HLI
  go_wp2_with fail
  refine HOF.out.mono ?_
  rintro e w2 ⟨v', rfl, hrow, f2⟩
  obtain ⟨a', c', rfl⟩ := hrow.val
  rw [List.length_map, HMM.out] at hrow ⊢
  have HRW := Lib.hid hrow
  have HF2 := Lib.hid f2
  clear hrow f2 HOF
  go_wp2
  go_loopw [5, 6] (fun s5 s6 wr => ∃ (wz : World) (p : Nat), wz = wr ∧ s5 = .int .i64 p ∧ s6 = .int .i64 p ∧ p ≤ n ∧ p ≤ m ∧ Fr [] w2 wr) (fun _ s6 _ => n - (intOf s6).toNat)
  case atStart => exact ⟨_, 0, rfl, rfl, rfl, by omega, by omega, Fr.refl _ _⟩
  case round =>
    obtain ⟨wr, p, hwz, rfl, rfl, hpn, hpm, hF⟩ := hrel
    subst hwz
    have HF := Lib.hid hF
    clear hF
    obtain ⟨lo, hlo⟩ : ∃ lo, loOf xs p = lo := ⟨_, rfl⟩
    have hbest := best_at xs p (by rw [HMM.out]; exact hpm)
    rw [hlo] at hbest
    have HLO := Lib.hid hlo
    have HBEST := Lib.hid hbest
    clear hlo hbest
    by_cases hlt : p < n
    · go_wp2
      go_loopw [7, 8, 9] (fun s7 s8 s9 wq => ∃ (wz : World) (q : Nat), wz = wq ∧ s9 = .int .i64 q ∧ q ≤ n ∧ BestV (bestOf lo (xs.take q)) s7 s8 ∧ Fr [] w2 wq) (fun _ _ s9 _ => n - (intOf s9).toNat)
      case atStart => exact ⟨_, 0, rfl, rfl, by omega, .inl ⟨rfl, rfl, rfl⟩, HF.out⟩
      case round =>
        obtain ⟨wq, q, hwz, rfl, hq, hbv, hF⟩ := hrel
        subst hwz
        have HFq := Lib.hid hF
        clear hF
        by_cases hlq : q < n
        · have hx := List.getElem?_eq_getElem (l := xs) (i := q) (by rw [HM.out]; exact hlq)
          obtain ⟨o, hoe⟩ : ∃ o, xs[q]'(by rw [HM.out]; exact hlq) = o := ⟨_, rfl⟩
          rw [hoe] at hx
          rcases HR.out.new (HF2.out.step HFq.out) with ⟨e1, _⟩ | ⟨g, off, cap', hv, hg, hcells⟩
          · rw [e1] at hx
            simp at hx
          rw [HM.out] at hv
          simp only [Value.slice.injEq] at hv
          obtain ⟨rfl, _, rfl⟩ := hv
          have hld := ev_load (hcells q o hx)
          obtain ⟨w5, hst, hblk, hfr⟩ := ev_store (w := wq.alloc (.cells #[.int .i64 0, .int .i64 0, .int .i64 0, .int .i64 0, .int .i64 0, .int .i64 0, .int .i64 0, .string ⟨#[]⟩, .int .i64 0, .slice none 0 0, .int .i64 0, .int .i64 0, .int .i64 0, .int .u64 0, .int .i64 0, .bool false, .int .i64 0, .int .i64 0, .int .i64 0, .int .i64 0, .slice none 0 0, .int .i64 0, .int .i64 0, .int .i64 0, .int .i64 0, .string ⟨#[]⟩, .int .i64 0, .int .u64 0, .slice none 0 0, .int .u64 0] 103)) (b := wq.heap.size) o (World.alloc_heap_new wq _) rfl
          have f5 : Fr [] wq w5 := ((Fr.refl [] wq).alloc _).trans hfr (fun x hx hl => by
            rw [List.mem_singleton] at hx
            omega)
          have HF5 := Lib.hid (HFq.out.step f5)
          have HBS := Lib.hid (bestOf_succ lo xs q o hx)
          have HLD := Lib.hid hld
          have HST := Lib.hid hst
          have HBK := Lib.hid hblk
          have HBV := Lib.hid hbv
          obtain ⟨V, hV⟩ : ∃ V, evV o = V := ⟨_, rfl⟩
          rw [hV] at HLD HST
          clear hx hoe hcells hld hst hblk hfr hV f5 hbv
          go_upto_region 14 with fail
          refine wp_region_lit ?_
          refine wpList_plain rfl (fun K hK => ?_)
          go_simp
          refine hK _ _ ?_
          clear hK K
          refine wpList_plain rfl (fun K hK => ?_)
          go_simp
          refine hK _ _ ?_
          clear hK K
          refine wpList_plain rfl (fun K hK => ?_)
          go_simp
          refine hK _ _ ?_
          clear hK K
          refine wpList_val rfl (v := V) (w' := wq) ?_ ?_
          · show Sem.run Tryz.prog ((Instr.loadAt 103 (.pointer (some ⟨g, off + q * 30, none⟩))) >>= fun x => pure (Next.value x)) wq = _
            rw [Sem.run_bind, HLD.out]
            rfl
          refine wpList_plain rfl (fun K hK => ?_)
          go_simp
          refine hK _ _ ?_
          clear hK K
          refine wpList_skp rfl (w' := w5) ?_ ?_
          · show Sem.run Tryz.prog ((Instr.storeAt 103 (.pointer (some ⟨wq.heap.size, 0, none⟩)) V) >>= fun _ => pure Next.skip) _ = _
            rw [Sem.run_bind, HST.out]
            rfl
          refine wpList_nil ?_
          try simp only [Act.put, List.getElem_toArray, List.getElem_cons_succ, List.getElem_cons_zero, List.setIfInBounds_toArray, List.set_cons_zero, List.set_cons_succ]
          obtain ⟨E, hE⟩ : ∃ E, wq.heap.size = E := ⟨_, rfl⟩
          rw [hE] at HBK
          simp only [hE]
          have HG := Lib.hid hg
          clear hE HLD HST hg
          have e0 := HBK.out.c 0 _ rfl
          have e14 := HBK.out.c 14 _ rfl
          go_upto_region 15 with fail
          go_cut [11] from 39 to 51 (fun s wz => s = .bool o.counts ∧ wz = w5)
          case first =>
            cases h1 : (o.kind == 1) with
            | true =>
              have n1 : o.kind = 1 := beq_iff_eq.1 h1
              have HK := Lib.hid (show o.counts = true from by unfold Ev.counts; rw [h1]; rfl)
              go_wp2
              go_meet
              exact ⟨by rw [HK.out], rfl⟩
            | false =>
              have n1 : ¬ o.kind = 1 := beq_eq_false_iff_ne.1 h1
              have d1 : decide (o.kind = 1) = false := decide_eq_false n1
              cases h2 : (o.kind == 2) with
              | false =>
                have n2 : ¬ o.kind = 2 := beq_eq_false_iff_ne.1 h2
                have d2 : decide (o.kind = 2) = false := decide_eq_false n2
                have HK := Lib.hid (show o.counts = false from by unfold Ev.counts; rw [h1, h2]; rfl)
                go_wp2
                go_meet
                exact ⟨by rw [HK.out], rfl⟩
              | true =>
                have n2 : o.kind = 2 := beq_iff_eq.1 h2
                cases h3 : (o.err == 0) with
                | true =>
                  have n3 : o.err = 0 := beq_iff_eq.1 h3
                  have HK := Lib.hid (show o.counts = true from by unfold Ev.counts; rw [h1, h2, h3]; rfl)
                  go_wp2
                  go_meet
                  exact ⟨by rw [HK.out], rfl⟩
                | false =>
                  have n3 : ¬ o.err = 0 := beq_eq_false_iff_ne.1 h3
                  have HK := Lib.hid (show o.counts = false from by unfold Ev.counts; rw [h1, h2, h3]; rfl)
                  go_wp2
                  go_meet
                  exact ⟨by rw [HK.out], rfl⟩
          case rest =>
            obtain ⟨rfl, hwc⟩ := hcut
            subst wc
            have e1 := HBK.out.c 1 _ rfl
            obtain ⟨cb, hcb⟩ : ∃ z, o.counts = z := ⟨_, rfl⟩
            rw [hcb]
            have HCB := Lib.hid hcb
            clear hcb e0 e14
            go_upto_region 16 with fail
            go_cut [77] from 52 to 77 (fun s wz => s = .bool (candB lo o && lessB (bestOf lo (xs.take q)) o) ∧ Fr [] w5 wz)
            case first =>
              rcases HBV.out with ⟨hbn, rfl, rfl⟩ | ⟨t, hbn, rfl, rfl⟩
              all_goals have HBN := Lib.hid hbn
              all_goals clear hbn
              · cases cb with
                | false =>
                  have HK := Lib.hid (show (candB lo o && lessB (bestOf lo (xs.take q)) o) = false from by unfold candB; rw [HCB.out]; rfl)
                  go_quiet (fail)
                  go_wp2
                  go_meet
                  exact ⟨by rw [HK.out], (Fr.refl [] w5).drewN _⟩
                | true =>
                  by_cases h0 : p = 0
                  · have hlo : lo = none := by rw [← HLO.out, h0]; rfl
                    have HCA := Lib.hid (show candB lo o = true from by unfold candB; rw [HCB.out, hlo]; rfl)
                    have z1 : ((p : Int) == 0) = true := beq_iff_eq.2 (by omega)
                    clear hlo
                    have HK := Lib.hid (show (candB lo o && lessB (bestOf lo (xs.take q)) o) = true from by rw [HBN.out, HCA.out]; rfl)
                    go_quiet (fail)
                    go_wp2
                    go_meet
                    exact ⟨by rw [HK.out], (Fr.refl [] w5).drewN _⟩
                  · have hp1 : p - 1 < (taskS xs).length := by rw [HMM.out]; omega
                    have hS := List.getElem?_eq_getElem hp1
                    obtain ⟨t0, ht0⟩ : ∃ z, (taskS xs)[p - 1]'hp1 = z := ⟨_, rfl⟩
                    rw [ht0] at hS
                    have hlo : lo = some t0 := by rw [← HLO.out]; unfold loOf; rw [if_neg h0, hS]
                    obtain ⟨g2, off2, cap2, hv, hg2, c0, _⟩ := (HRW.out.keep HF5.out (fun _ _ _ _ _ => by simp)).cells (i := p - 1) (x := dnOf t0 xs) (by rw [List.getElem?_map, hS]; rfl)
                    rw [dn_t] at c0
                    rw [List.length_map, HMM.out] at hv
                    simp only [Value.slice.injEq] at hv
                    obtain ⟨rfl, _, rfl⟩ := hv
                    have z1 : ((p : Int) == 0) = false := beq_eq_false_iff_ne.2 (by omega)
                    have z2 : decide ((p : Int) = 0) = false := decide_eq_false (by omega)
                    have z3 : ((p : Int) - 1).toNat = p - 1 := by omega
                    have z4 : (0 : Int) ≤ (p : Int) - 1 := by omega
                    have z5 : (p : Int) - 1 < (m : Int) := by omega
                    have HCX := Lib.hid (show candB lo o = decide (t0 < o.task) from by unfold candB; rw [HCB.out, hlo]; rfl)
                    clear hp1 hS ht0 hlo hg2
                    cases hg : decide (t0 < o.task) with
                    | false =>
                      have ng := of_decide_eq_false hg
                      have HK := Lib.hid (show (candB lo o && lessB (bestOf lo (xs.take q)) o) = false from by rw [HCX.out, hg]; rfl)
                      go_quiet (fail)
                      go_wp2
                      go_meet
                      exact ⟨by rw [HK.out], (Fr.refl [] w5).drewN _⟩
                    | true =>
                      have ng := of_decide_eq_true hg
                      have HCA := Lib.hid (show candB lo o = true from by rw [HCX.out, hg])
                      have HK := Lib.hid (show (candB lo o && lessB (bestOf lo (xs.take q)) o) = true from by rw [HBN.out, HCA.out]; rfl)
                      go_quiet (fail)
                      go_wp2
                      go_meet
                      exact ⟨by rw [HK.out], (Fr.refl [] w5).drewN _⟩
              · cases cb with
                | false =>
                  have HK := Lib.hid (show (candB lo o && lessB (bestOf lo (xs.take q)) o) = false from by unfold candB; rw [HCB.out]; rfl)
                  go_quiet (fail)
                  go_wp2
                  go_meet
                  exact ⟨by rw [HK.out], (Fr.refl [] w5).drewN _⟩
                | true =>
                  by_cases h0 : p = 0
                  · have hlo : lo = none := by rw [← HLO.out, h0]; rfl
                    have HCA := Lib.hid (show candB lo o = true from by unfold candB; rw [HCB.out, hlo]; rfl)
                    have z1 : ((p : Int) == 0) = true := beq_iff_eq.2 (by omega)
                    clear hlo
                    cases hl : decide (o.task < t) with
                    | true =>
                      have HK := Lib.hid (show (candB lo o && lessB (bestOf lo (xs.take q)) o) = true from by rw [HBN.out, HCA.out]; exact hl)
                      have nl := of_decide_eq_true hl
                      go_quiet (fail)
                      go_wp2
                      go_meet
                      exact ⟨by rw [HK.out], (Fr.refl [] w5).drewN _⟩
                    | false =>
                      have HK := Lib.hid (show (candB lo o && lessB (bestOf lo (xs.take q)) o) = false from by rw [HBN.out, HCA.out]; exact hl)
                      go_quiet (fail)
                      go_wp2
                      go_meet
                      exact ⟨by rw [HK.out], (Fr.refl [] w5).drewN _⟩
                  · have hp1 : p - 1 < (taskS xs).length := by rw [HMM.out]; omega
                    have hS := List.getElem?_eq_getElem hp1
                    obtain ⟨t0, ht0⟩ : ∃ z, (taskS xs)[p - 1]'hp1 = z := ⟨_, rfl⟩
                    rw [ht0] at hS
                    have hlo : lo = some t0 := by rw [← HLO.out]; unfold loOf; rw [if_neg h0, hS]
                    obtain ⟨g2, off2, cap2, hv, hg2, c0, _⟩ := (HRW.out.keep HF5.out (fun _ _ _ _ _ => by simp)).cells (i := p - 1) (x := dnOf t0 xs) (by rw [List.getElem?_map, hS]; rfl)
                    rw [dn_t] at c0
                    rw [List.length_map, HMM.out] at hv
                    simp only [Value.slice.injEq] at hv
                    obtain ⟨rfl, _, rfl⟩ := hv
                    have z1 : ((p : Int) == 0) = false := beq_eq_false_iff_ne.2 (by omega)
                    have z2 : decide ((p : Int) = 0) = false := decide_eq_false (by omega)
                    have z3 : ((p : Int) - 1).toNat = p - 1 := by omega
                    have z4 : (0 : Int) ≤ (p : Int) - 1 := by omega
                    have z5 : (p : Int) - 1 < (m : Int) := by omega
                    have HCX := Lib.hid (show candB lo o = decide (t0 < o.task) from by unfold candB; rw [HCB.out, hlo]; rfl)
                    clear hp1 hS ht0 hlo hg2
                    cases hg : decide (t0 < o.task) with
                    | false =>
                      have ng := of_decide_eq_false hg
                      have HK := Lib.hid (show (candB lo o && lessB (bestOf lo (xs.take q)) o) = false from by rw [HCX.out, hg]; rfl)
                      go_quiet (fail)
                      go_wp2
                      go_meet
                      exact ⟨by rw [HK.out], (Fr.refl [] w5).drewN _⟩
                    | true =>
                      have ng := of_decide_eq_true hg
                      have HCA := Lib.hid (show candB lo o = true from by rw [HCX.out, hg])
                      cases hl : decide (o.task < t) with
                      | true =>
                        have HK := Lib.hid (show (candB lo o && lessB (bestOf lo (xs.take q)) o) = true from by rw [HBN.out, HCA.out]; exact hl)
                        have nl := of_decide_eq_true hl
                        go_quiet (fail)
                        go_wp2
                        go_meet
                        exact ⟨by rw [HK.out], (Fr.refl [] w5).drewN _⟩
                      | false =>
                        have HK := Lib.hid (show (candB lo o && lessB (bestOf lo (xs.take q)) o) = false from by rw [HBN.out, HCA.out]; exact hl)
                        go_quiet (fail)
                        go_wp2
                        go_meet
                        exact ⟨by rw [HK.out], (Fr.refl [] w5).drewN _⟩
            case rest =>
              obtain ⟨rfl, hFw⟩ := hcut
              have HFW := Lib.hid (HF5.out.step hFw)
              have HB6 := Lib.hid (HBK.out.keep hFw (by simp))
              have f1 := HB6.out.c 1 _ rfl
              obtain ⟨r, hr⟩ : ∃ z, (candB lo o && lessB (bestOf lo (xs.take q)) o) = z := ⟨_, rfl⟩
              rw [hr]
              have HRR := Lib.hid hr
              clear hr hFw e1
              cases r with
              | true =>
                have HNB := Lib.hid (show BestV (bestOf lo (xs.take (q + 1))) (.int .i64 o.task) (.bool true) from by rw [HBS.out]; unfold bestStep; rw [if_pos HRR.out]; exact .inr ⟨_, rfl, rfl, rfl⟩)
                go_wp2
                go_roundw
                case rel => exact ⟨_, q + 1, rfl, by go_num, by omega, HNB.out, HFW.out⟩
                case measure => simp [intOf]; omega
              | false =>
                have hsame : bestOf lo (xs.take (q + 1)) = bestOf lo (xs.take q) := by rw [HBS.out]; unfold bestStep; rw [if_neg (by rw [HRR.out]; simp)]
                have hnb := HBV.out
                rw [← hsame] at hnb
                have HNB := Lib.hid hnb
                clear hsame hnb
                go_wp2
                go_roundw
                case rel => exact ⟨_, q + 1, rfl, by go_num, by omega, HNB.out, HFW.out⟩
                case measure => simp [intOf]; omega
        · have hqn : q = n := by omega
          subst hqn
          rw [List.take_of_length_le (by rw [HM.out]; exact Nat.le_refl _)] at hbv
          rw [HBEST.out] at hbv
          by_cases hlm : p < m
          · have hS : (taskS xs)[p]? = some ((taskS xs)[p]'(by rw [HMM.out]; exact hlm)) := List.getElem?_eq_getElem _
            obtain ⟨t, ht⟩ : ∃ t, (taskS xs)[p]'(by rw [HMM.out]; exact hlm) = t := ⟨_, rfl⟩
            rw [ht] at hS
            rw [hS] at hbv
            rcases hbv with ⟨h1, _, _⟩ | ⟨t', h1, rfl, rfl⟩
            · cases h1
            cases h1
            have hti : I64 t := by
              obtain ⟨u, hu, _, rfl⟩ := (taskS_mem xs t).1 (List.mem_of_getElem? hS)
              exact (HOK.out u hu).1
            obtain ⟨g, off, cap', hv, hg, c0, c1, c2, c3, c4, c5, c6, c7⟩ := (HRW.out.keep HFq.out (fun _ _ _ _ _ => by simp)).cells (i := p) (x := dnOf t xs) (by rw [List.getElem?_map, hS]; rfl)
            rw [List.length_map, HMM.out] at hv
            simp only [Value.slice.injEq] at hv
            obtain ⟨rfl, _, rfl⟩ := hv
            have HD := Lib.hid (fun W (f : Fr [] wq W) => HDN.out t hti W (HF2.out.step (HFq.out.step f)))
            obtain ⟨y, hy⟩ : ∃ y, dnOf t xs = y := ⟨_, rfl⟩
            rw [hy] at c0 c1 c2 c3 c4 c5 c6 c7 HD
            have hge : decide ((m : Int) ≤ (p : Int)) = false := decide_eq_false (by omega)
            have hge2 : decide (m ≤ p) = false := decide_eq_false (by omega)
            have hlp : (p : Int) < (m : Int) := by omega
            have hp0 : (0 : Int) ≤ (p : Int) := Int.natCast_nonneg _
            clear ht hS hti hg hy HBEST HLO HDN
            go_upto_region 19 with fail
            go_cut [95] from 82 to 95 (fun s wz => s = .bool false ∧ Fr [] w2 wz)
            case first =>
              refine wp_region_held_drew (S := fun w' => w'.cell? ⟨g, off + p * 8, none⟩ = some (.int .i64 y.t) ∧ w'.cell? ⟨g, off + p * 8 + 1, none⟩ = some (.int .i64 y.calls) ∧ w'.cell? ⟨g, off + p * 8 + 2, none⟩ = some (.int .i64 y.refused) ∧ w'.cell? ⟨g, off + p * 8 + 3, none⟩ = some (.int .i64 y.steps) ∧ w'.cell? ⟨g, off + p * 8 + 4, none⟩ = some (.int .i64 y.ended) ∧ w'.cell? ⟨g, off + p * 8 + 5, none⟩ = some (.int .i64 y.failed) ∧ w'.cell? ⟨g, off + p * 8 + 6, none⟩ = some (.int .i64 y.read) ∧ w'.cell? ⟨g, off + p * 8 + 7, none⟩ = some (.int .i64 y.written)) (by kernel_rfl) (⟨c0, c1, c2, c3, c4, c5, c6, c7⟩) (fun hHeld => ?_)
              refine wpAnyH_take (i := 0) (oi := _) (v := ?_) rfl (by kernel_rfl) (by kernel_rfl) (by kernel_rfl) (fun _ _ _ h => h) (Or.inl ⟨by rfl, ?_⟩) (by assumption) ?_
              rotate_left
              · intro w hSw
                try dsimp only at hSw
                go_simp
                try with_reducible rfl
              try simp only [Act.put, List.getElem_toArray, List.getElem_cons_succ, List.getElem_cons_zero, List.setIfInBounds_toArray, List.set_cons_zero, List.set_cons_succ]
              refine wpAnyH_take (i := 1) (oi := _) (v := ?_) rfl (by kernel_rfl) (by kernel_rfl) (by kernel_rfl) (fun _ _ _ h => h) (Or.inl ⟨by rfl, ?_⟩) (by assumption) ?_
              rotate_left
              · intro w hSw
                try dsimp only at hSw
                go_simp
                try with_reducible rfl
              try simp only [Act.put, List.getElem_toArray, List.getElem_cons_succ, List.getElem_cons_zero, List.setIfInBounds_toArray, List.set_cons_zero, List.set_cons_succ]
              refine wpAnyH_take (i := 2) (oi := _) (v := ?_) rfl (by kernel_rfl) (by kernel_rfl) (by kernel_rfl) (fun _ _ _ h => h) (Or.inl ⟨by rfl, ?_⟩) (by assumption) ?_
              rotate_left
              · intro w hSw
                try dsimp only at hSw
                go_simp
                try with_reducible rfl
              try simp only [Act.put, List.getElem_toArray, List.getElem_cons_succ, List.getElem_cons_zero, List.setIfInBounds_toArray, List.set_cons_zero, List.set_cons_succ]
              refine wpAnyH_take (i := 3) (oi := _) (v := ?_) rfl (by kernel_rfl) (by kernel_rfl) (by kernel_rfl) (fun _ _ _ h => h) (Or.inl ⟨by rfl, ?_⟩) (by assumption) ?_
              rotate_left
              · intro w hSw
                try dsimp only at hSw
                go_simp
                try with_reducible rfl
              try simp only [Act.put, List.getElem_toArray, List.getElem_cons_succ, List.getElem_cons_zero, List.setIfInBounds_toArray, List.set_cons_zero, List.set_cons_succ]
              refine wpAnyH_take (i := 4) (oi := _) (v := ?_) rfl (by kernel_rfl) (by kernel_rfl) (by kernel_rfl) (fun _ _ _ h => h) (Or.inl ⟨by rfl, ?_⟩) (by assumption) ?_
              rotate_left
              · intro w hSw
                try dsimp only at hSw
                go_simp
                try with_reducible rfl
              try simp only [Act.put, List.getElem_toArray, List.getElem_cons_succ, List.getElem_cons_zero, List.setIfInBounds_toArray, List.set_cons_zero, List.set_cons_succ]
              refine wpAnyH_take (i := 5) (oi := _) (v := ?_) rfl (by kernel_rfl) (by kernel_rfl) (by kernel_rfl) (fun _ _ _ h => h) (Or.inl ⟨by rfl, ?_⟩) (by assumption) ?_
              rotate_left
              · intro w hSw
                try dsimp only at hSw
                go_simp
                try with_reducible rfl
              try simp only [Act.put, List.getElem_toArray, List.getElem_cons_succ, List.getElem_cons_zero, List.setIfInBounds_toArray, List.set_cons_zero, List.set_cons_succ]
              refine wpAnyH_take (i := 6) (oi := _) (v := ?_) rfl (by kernel_rfl) (by kernel_rfl) (by kernel_rfl) (fun _ _ _ h => h) (Or.inl ⟨by rfl, ?_⟩) (by assumption) ?_
              rotate_left
              · intro w hSw
                try dsimp only at hSw
                go_simp
                try with_reducible rfl
              try simp only [Act.put, List.getElem_toArray, List.getElem_cons_succ, List.getElem_cons_zero, List.setIfInBounds_toArray, List.set_cons_zero, List.set_cons_succ]
              refine wpAnyH_take (i := 7) (oi := _) (v := ?_) rfl (by kernel_rfl) (by kernel_rfl) (by kernel_rfl) (fun _ _ _ h => h) (Or.inl ⟨by rfl, ?_⟩) (by assumption) ?_
              rotate_left
              · intro w hSw
                try dsimp only at hSw
                go_simp
                try with_reducible rfl
              try simp only [Act.put, List.getElem_toArray, List.getElem_cons_succ, List.getElem_cons_zero, List.setIfInBounds_toArray, List.set_cons_zero, List.set_cons_succ]
              refine wpAnyH_take (i := 8) (oi := _) (v := ?_) rfl (by kernel_rfl) (by kernel_rfl) (by kernel_rfl) (fun _ _ _ h => h) (Or.inl ⟨by rfl, ?_⟩) (by assumption) ?_
              rotate_left
              · intro w hSw
                try dsimp only at hSw
                go_simp
                try with_reducible rfl
              try simp only [Act.put, List.getElem_toArray, List.getElem_cons_succ, List.getElem_cons_zero, List.setIfInBounds_toArray, List.set_cons_zero, List.set_cons_succ]
              refine wpAnyH_take (i := 9) (oi := _) (v := ?_) rfl (by kernel_rfl) (by kernel_rfl) (by kernel_rfl) (fun _ _ _ h => h) (Or.inl ⟨by rfl, ?_⟩) (by assumption) ?_
              rotate_left
              · intro w hSw
                try dsimp only at hSw
                go_simp
                try with_reducible rfl
              try simp only [Act.put, List.getElem_toArray, List.getElem_cons_succ, List.getElem_cons_zero, List.setIfInBounds_toArray, List.set_cons_zero, List.set_cons_succ]
              refine wpAnyH_take (i := 10) (oi := _) (v := ?_) rfl (by kernel_rfl) (by kernel_rfl) (by kernel_rfl) (fun _ _ _ h => h) (Or.inl ⟨by rfl, ?_⟩) (by assumption) ?_
              rotate_left
              · intro w hSw
                try dsimp only at hSw
                go_simp
                try with_reducible rfl
              try simp only [Act.put, List.getElem_toArray, List.getElem_cons_succ, List.getElem_cons_zero, List.setIfInBounds_toArray, List.set_cons_zero, List.set_cons_succ]
              refine wpAnyH_ready (rs := [11]) (by kernel_rfl) (by simp) ?_
              refine AllReadyH.cons (o := _) rfl (fun K hK => ?_) AllReadyH.nil
              go_simp
              refine (HD.out _ ((Fr.refl [] wq).drew)).mono ?_
              rintro e w9 ⟨rfl, f9⟩
              replace f9 : Fr [] wq w9 := ((Fr.refl [] wq).drew).step f9
              refine hK.out _ _ (⟨f9.keep c0 (by simp), f9.keep c1 (by simp), f9.keep c2 (by simp), f9.keep c3 (by simp), f9.keep c4 (by simp), f9.keep c5 (by simp), f9.keep c6 (by simp), f9.keep c7 (by simp)⟩) (fun hHeld => ?_)
              clear hK K
              try simp only [Act.put, List.getElem_toArray, List.getElem_cons_succ, List.getElem_cons_zero, List.setIfInBounds_toArray, List.set_cons_zero, List.set_cons_succ]
              refine wpAnyH_take (i := 12) (oi := _) (v := ?_) rfl (by kernel_rfl) (by kernel_rfl) (by kernel_rfl) (fun _ _ _ h => h) (Or.inl ⟨by rfl, ?_⟩) (by assumption) ?_
              rotate_left
              · intro w hSw
                try dsimp only at hSw
                go_simp
                try with_reducible rfl
              try simp only [Act.put, List.getElem_toArray, List.getElem_cons_succ, List.getElem_cons_zero, List.setIfInBounds_toArray, List.set_cons_zero, List.set_cons_succ]
              refine wpAnyH_take (i := 13) (oi := _) (v := ?_) rfl (by kernel_rfl) (by kernel_rfl) (by kernel_rfl) (fun _ _ _ h => h) (Or.inl ⟨by rfl, ?_⟩) (by assumption) ?_
              rotate_left
              · intro w hSw
                try dsimp only at hSw
                go_simp
                try with_reducible rfl
              try simp only [Act.put, List.getElem_toArray, List.getElem_cons_succ, List.getElem_cons_zero, List.setIfInBounds_toArray, List.set_cons_zero, List.set_cons_succ]
              refine wpAnyH_done (by kernel_rfl) ?_ _
              go_wp2
              go_meet
              exact ⟨rfl, HFq.out.step f9⟩
            case rest =>
              obtain ⟨rfl, hFz⟩ := hcut
              have HFZ := Lib.hid hFz
              clear hFz c0 c1 c2 c3 c4 c5 c6 c7 HD
              go_wp2
              go_roundw
              case rel => exact ⟨_, p + 1, rfl, by go_num, by go_num, by omega, by omega, HFZ.out⟩
              case measure => simp [intOf]; omega
          · have hpm2 : p = m := by omega
            have hS : (taskS xs)[p]? = none := by
              rw [List.getElem?_eq_none_iff, HMM.out]
              omega
            rw [hS] at hbv
            rcases hbv with ⟨_, rfl, rfl⟩ | ⟨t', h1, _, _⟩
            · have HK := Lib.hid (known_any wq (HE.out.new (HF2.out.step HFq.out)))
              subst hpm2
              clear hS
              go_wp2_with fail
              refine HK.out.mono ?_
              rintro e w9 ⟨rfl, f9⟩
              go_wp2
              go_ret
              exact ⟨rfl, HF2.out.step (HFq.out.step f9)⟩
            · cases h1
    · have hpe : p = m := by omega
      have HK := Lib.hid (known_any wr (HE.out.new (HF2.out.step HF.out)))
      have hnp : n = p := by omega
      subst hnp
      subst hpe
      go_wp2_with fail
      refine HK.out.mono ?_
      rintro e w9 ⟨rfl, f9⟩
      go_wp2
      go_ret
      exact ⟨rfl, HF2.out.step (HF.out.step f9)⟩
end Go.Proofs.YtllmejkcohfbiaaGreatDoor
