/- Report: the law's own done. -/
import Derived.Test.YtllmejkcohfbiaaGreatDoorT1
import Derived.Deep.CutRange
namespace Go.Proofs.YtllmejkcohfbiaaGreatDoor
open Go.RowKit Go.Maps Go.Shelf Go.Sort Go.Lib
set_option linter.unusedVariables false
set_option linter.unusedSimpArgs false
set_option maxRecDepth 100000
set_option maxHeartbeats 16000000

/-- One event of a task's. -/
def dnStep (n : Int) (x : Tk) (v : Ev) : Tk := if v.task = n then (if v.counts = true then upT v x else x) else x
def dnOf (n : Int) (l : List Ev) : Tk := l.foldl (dnStep n) (tk0 n)
def lawA (v : Ev) (x : Tk) : Tk := if (v.kind == 1) = true then (if (v.err == 0) = true then { x with calls := x.calls + 1 } else { x with refused := x.refused + 1 }) else x
def lawB (v : Ev) (x : Tk) : Tk := if ((v.kind == 2) && (v.err == 0)) = true then { x with steps := x.steps + 1 } else x
theorem lawAB (v : Ev) (x : Tk) : lawB v (lawA v x) = if v.counts = true then upA v x else x := by
  unfold lawA lawB upA Ev.counts
  cases h1 : (v.kind == 1) with
  | true =>
    have : (v.kind == 2) = false := by
      rw [beq_eq_false_iff_ne, beq_iff_eq.1 h1]
      decide
    rw [this]
    cases (v.err == 0) <;> rfl
  | false => cases (v.kind == 2) <;> cases (v.err == 0) <;> rfl
theorem ended_counts {v : Ev} (h : v.ended = true) : v.counts = true := by
  unfold Ev.ended at h
  unfold Ev.counts
  simp only [Bool.and_eq_true, Bool.or_eq_true] at *
  exact .inr ⟨h.1, h.2.1⟩
theorem dn_end {n : Int} {v : Ev} {x : Tk} (ht : v.task = n) (h : v.ended = true) : dnStep n x v = upE v (upD v (upC v (upB v (lawB v (lawA v x))))) := by
  unfold dnStep
  rw [if_pos ht, if_pos (ended_counts h), lawAB, if_pos (ended_counts h)]
  unfold upT
  rw [if_pos h]
theorem dn_not {n : Int} {v : Ev} {x : Tk} (ht : v.task = n) (h : v.ended = false) : dnStep n x v = lawB v (lawA v x) := by
  unfold dnStep
  rw [if_pos ht, lawAB]
  unfold upT
  rw [h]
  rfl
theorem dn_lim {n : Int} {v : Ev} {x : Tk} {q : Nat} (h : x.lim q) (hv : v.eD.2.1 ≤ 100000) : (dnStep n x v).lim (q + 1) := by
  unfold dnStep
  repeat' split
  · exact upT_lim v h hv
  · exact h.up
  · exact h.up
theorem lawA_e (v : Ev) (x : Tk) : (lawA v x).steps = x.steps ∧ (lawA v x).ended = x.ended ∧ (lawA v x).failed = x.failed ∧ (lawA v x).read = x.read ∧ (lawA v x).written = x.written := by
  unfold lawA; repeat' split
  all_goals exact ⟨rfl, rfl, rfl, rfl, rfl⟩
theorem lawB_e (v : Ev) (x : Tk) : (lawB v x).ended = x.ended ∧ (lawB v x).failed = x.failed ∧ (lawB v x).read = x.read ∧ (lawB v x).written = x.written := by
  unfold lawB; repeat' split
  all_goals exact ⟨rfl, rfl, rfl, rfl⟩
theorem lupC_e (v : Ev) (x : Tk) : (upC v x).read = x.read ∧ (upC v x).written = x.written := by
  unfold upC; repeat' split
  all_goals exact ⟨rfl, rfl⟩
theorem lupD_e (v : Ev) (x : Tk) : (upD v x).written = x.written := by
  unfold upD; repeat' split
  all_goals rfl
/-- A write of nothing adds nothing. -/
theorem upE_pos (v : Ev) (x : Tk) : upE v x = if ((v.eKind == 6) && (decide (0 < v.eN) && decide (v.eN ≤ 65536))) = true then { x with written := x.written + v.eN } else x := by
  unfold upE
  by_cases h0 : v.eN = 0
  · rw [h0]
    cases (v.eKind == 6)
    · rfl
    · simp
  · have : decide (0 ≤ v.eN) = decide (0 < v.eN) := by
      by_cases h : 0 < v.eN
      · rw [decide_eq_true h, decide_eq_true (by omega)]
      · rw [decide_eq_false h, decide_eq_false (by omega)]
    rw [this]
theorem dnOf_succ (n : Int) (l : List Ev) (q : Nat) (v : Ev) (h : l[q]? = some v) : dnOf n (l.take (q + 1)) = dnStep n (dnOf n (l.take q)) v := by
  unfold dnOf
  rw [List.take_add_one, h, List.foldl_append]
  rfl
def evW (x : Ev) : Prop := I64 x.task ∧ I64 x.eN ∧ x.eD.2.1 ≤ 100000
theorem done_any (v : Value) (xs : List Ev) (k : Int) (hk : I64 k) (w : World) (h : EvRow w v xs) (hn : xs.length ≤ 5000) (hok : ∀ x ∈ xs, evW x) :
    Calls Tryz.prog 37 #[v, .int .i64 k] w fun e w' => e = .returned (.agg #[.int .i64 (dnOf k xs).t, .int .i64 (dnOf k xs).calls, .int .i64 (dnOf k xs).refused, .int .i64 (dnOf k xs).steps, .int .i64 (dnOf k xs).ended, .int .i64 (dnOf k xs).failed, .int .i64 (dnOf k xs).read, .int .i64 (dnOf k xs).written]) ∧ Fr [] w w' := by
  obtain ⟨a, cap, rfl⟩ := h.val
  obtain ⟨n, hnl⟩ : ∃ n, xs.length = n := ⟨_, rfl⟩
  have HM := Lib.hid hnl
  have HR := Lib.hid h
  have HI := Lib.hid hok
  rw [hnl] at hn HR ⊢
  obtain ⟨w1, hw1⟩ : ∃ z, (w.alloc (.cells #[.int .i64 0, .int .i64 0, .int .i64 0, .int .i64 0, .int .i64 0, .int .i64 0, .int .i64 0, .int .i64 0] 58)).alloc (.cells #[.int .i64 k, .int .i64 0, .int .i64 0, .int .i64 0, .int .i64 0, .int .i64 0, .int .i64 0, .int .i64 0] 58) = z := ⟨_, rfl⟩
  have HA0 := Lib.hid (show TkAt w1 w.heap.size (tk0 0) from by rw [← hw1]; exact (TkAt.made w (tk0 0)).keep ((Fr.refl [] _).alloc _) (by simp))
  have HA1 := Lib.hid (show TkAt w1 (w.heap.size + 1) (tk0 k) from by rw [← hw1]; have := TkAt.made (w.alloc (.cells #[.int .i64 0, .int .i64 0, .int .i64 0, .int .i64 0, .int .i64 0, .int .i64 0, .int .i64 0, .int .i64 0] 58)) (tk0 k); rwa [show (w.alloc (.cells #[.int .i64 0, .int .i64 0, .int .i64 0, .int .i64 0, .int .i64 0, .int .i64 0, .int .i64 0, .int .i64 0] 58)).heap.size = w.heap.size + 1 from by simp] at this)
  have HF1 := Lib.hid (show Fr [] w w1 from by rw [← hw1]; exact ((Fr.refl [] w).alloc _).alloc _)
  have HW1 := Lib.hid hw1
  clear h hok hnl hw1
  go_enter Tryz.func37, Tryz.ntmps37
  go_upto_region 2 with fail
  rw [HW1.out]
  obtain ⟨B4, hB4⟩ : ∃ z, w.heap.size = z := ⟨_, rfl⟩
  rw [hB4] at HA0 HA1
  simp only [hB4]
  obtain ⟨B5, hB5⟩ : ∃ z, B4 + 1 = z := ⟨_, rfl⟩
  rw [hB5] at HA1
  simp only [hB5]
  have hlt1 : B5 < w1.heap.size := HA1.out.lt
  have HB4 := Lib.hid hB4
  have HB5 := Lib.hid hB5
  clear HW1 hB4 hB5
  go_wp2
  go_loopw [6] (fun i wr => ∃ (wz : World) (q : Nat), wz = wr ∧ i = .int .i64 q ∧ q ≤ n ∧ TkAt wr B5 (dnOf k (xs.take q)) ∧ (dnOf k (xs.take q)).lim q ∧ Fr [B5] w1 wr) (fun i _ => n - (intOf i).toNat)
  case atStart => exact ⟨_, 0, rfl, rfl, by omega, HA1.out, lim0 k 0, Fr.refl _ _⟩
  case round =>
    obtain ⟨wr, q, hwz, rfl, hq, hX, hl, hF⟩ := hrel
    subst hwz
    have HXq := Lib.hid hX
    have HL := Lib.hid hl
    have HF := Lib.hid hF
    clear hX hl hF
    by_cases hlt : q < n
    · have hx := List.getElem?_eq_getElem (l := xs) (i := q) (by rw [HM.out]; exact hlt)
      obtain ⟨o, hoe⟩ : ∃ o, xs[q]'(by rw [HM.out]; exact hlt) = o := ⟨_, rfl⟩
      rw [hoe] at hx
      have hoo := HI.out o (List.mem_of_getElem? hx)
      have hfw : Fr [] w wr := HF1.out.trans HF.out (fun x hx hl => by
        rw [List.mem_singleton] at hx
        have h1 := HB4.out
        have h2 := HB5.out
        omega)
      rcases HR.out.new hfw with ⟨e1, _⟩ | ⟨g, off, cap', hv, hg, hcells⟩
      · rw [e1] at hx
        simp at hx
      rw [HM.out] at hv
      simp only [Value.slice.injEq] at hv
      obtain ⟨rfl, _, rfl⟩ := hv
      have hld := ev_load (hcells q o hx)
      obtain ⟨w5, hst, hblk, hfr⟩ := ev_store (w := wr.alloc (.cells #[.int .i64 0, .int .i64 0, .int .i64 0, .int .i64 0, .int .i64 0, .int .i64 0, .int .i64 0, .string ⟨#[]⟩, .int .i64 0, .slice none 0 0, .int .i64 0, .int .i64 0, .int .i64 0, .int .u64 0, .int .i64 0, .bool false, .int .i64 0, .int .i64 0, .int .i64 0, .int .i64 0, .slice none 0 0, .int .i64 0, .int .i64 0, .int .i64 0, .int .i64 0, .string ⟨#[]⟩, .int .i64 0, .int .u64 0, .slice none 0 0, .int .u64 0] 103)) (b := wr.heap.size) o (World.alloc_heap_new wr _) rfl
      have f5 : Fr [] wr w5 := ((Fr.refl [] wr).alloc _).trans hfr (fun x hx hl => by
        rw [List.mem_singleton] at hx
        omega)
      have hBE : B5 < wr.heap.size := HXq.out.lt
      have HX5 := Lib.hid (HXq.out.keep f5 (by simp))
      have HF5 := Lib.hid (HF.out.trans (f5.mono (fun _ h => by cases h)) (fun k hk _ => hk) : Fr [B5] w1 w5)
      have HSU := Lib.hid (dnOf_succ k xs q o hx)
      have HLD := Lib.hid hld
      have HST := Lib.hid hst
      have HBK := Lib.hid hblk
      have HOO := Lib.hid hoo
      obtain ⟨V, hV⟩ : ∃ V, evV o = V := ⟨_, rfl⟩
      have HEV := Lib.hid hV
      rw [hV] at HLD HST
      have HEN := Lib.hid (fun W => (show Calls Tryz.prog 35 #[V] W fun e w' => e = .returned (.bool o.ended) ∧ Fr [] W w' from by
        have h := endedL_any o W
        rw [← HEV.out]
        exact h))
      have HLE := Lib.hid (fun W (hb : EvBlk W wr.heap.size o) => (show (Instr.loadAt 103 (.pointer (some ⟨wr.heap.size, 0, none⟩))).run Tryz.prog W = .ok V W from by
        have h := ev_load hb.at
        rw [HEV.out] at h
        exact h))
      clear hx hoe hcells hld hst hblk hfr hV hoo f5 hfw
      go_upto_region 5 with fail
      refine wp_region_lit ?_
      refine wpList_plain rfl (fun K hK => ?_)
      go_simp
      refine hK _ _ ?_
      clear hK K
      refine wpList_plain rfl (fun K hK => ?_)
      go_simp
      refine hK _ _ ?_
      clear hK K
      refine wpList_plain rfl (fun K hK => ?_)
      go_simp
      refine hK _ _ ?_
      clear hK K
      refine wpList_val rfl (v := V) (w' := wr) ?_ ?_
      · show Sem.run Tryz.prog ((Instr.loadAt 103 (.pointer (some ⟨g, off + q * 30, none⟩))) >>= fun x => pure (Next.value x)) wr = _
        rw [Sem.run_bind, HLD.out]
        rfl
      refine wpList_plain rfl (fun K hK => ?_)
      go_simp
      refine hK _ _ ?_
      clear hK K
      refine wpList_skp rfl (w' := w5) ?_ ?_
      · show Sem.run Tryz.prog ((Instr.storeAt 103 (.pointer (some ⟨wr.heap.size, 0, none⟩)) V) >>= fun _ => pure Next.skip) _ = _
        rw [Sem.run_bind, HST.out]
        rfl
      refine wpList_nil ?_
      try simp only [Act.put, List.getElem_toArray, List.getElem_cons_succ, List.getElem_cons_zero, List.setIfInBounds_toArray, List.set_cons_zero, List.set_cons_succ]
      obtain ⟨E, hE⟩ : ∃ E, wr.heap.size = E := ⟨_, rfl⟩
      rw [hE] at HBK HLE hBE
      simp only [hE]
      have HBE := Lib.hid (show B5 ≠ E from by omega)
      clear hE HLD HST hBE
      obtain ⟨x, hx⟩ : ∃ x, dnOf k (xs.take q) = x := ⟨_, rfl⟩
      rw [hx] at HX5 HL HSU
      clear hx
      have HG := Lib.hid hg
      clear hg
      have e1 := HBK.out.c 1 _ rfl
      by_cases htk : o.task = k
      · have bt : (o.task != k) = false := by rw [bne, htk]; simp
        go_upto_region 7 with fail
        have e0 := HBK.out.c 0 _ rfl
        have e14 := HBK.out.c 14 _ rfl
        have HTK := Lib.hid htk
        clear htk bt e1
        go_cut [31] from 24 to 31 (fun s wz => s = .bool ((o.kind == 1) && (o.err == 0)) ∧ wz = w5)
        case first =>
          cases h1 : (o.kind == 1) with
          | true =>
            have n1 : o.kind = 1 := beq_iff_eq.1 h1
            cases h3 : (o.err == 0) with
            | true =>
              have n3 : o.err = 0 := beq_iff_eq.1 h3
              have HK := Lib.hid (show ((o.kind == 1) && (o.err == 0)) = true from by rw [h1, h3]; rfl)
              go_wp2
              go_meet
              exact ⟨by rw [HK.out], rfl⟩
            | false =>
              have n3 : ¬ o.err = 0 := beq_eq_false_iff_ne.1 h3
              have d3 : decide (o.err = 0) = false := decide_eq_false n3
              have HK := Lib.hid (show ((o.kind == 1) && (o.err == 0)) = false from by rw [h1, h3]; rfl)
              go_wp2
              go_meet
              exact ⟨by rw [HK.out], rfl⟩
          | false =>
            have n1 : ¬ o.kind = 1 := beq_eq_false_iff_ne.1 h1
            have d1 : decide (o.kind = 1) = false := decide_eq_false n1
            have HK := Lib.hid (show ((o.kind == 1) && (o.err == 0)) = false from by rw [h1]; rfl)
            go_wp2
            go_meet
            exact ⟨by rw [HK.out], rfl⟩
        case rest =>
          obtain ⟨rfl, hwc⟩ := hcut
          subst wc
          go_upto_if 31 with fail
          have x1 := HX5.out.c1
          have x2 := HX5.out.c2
          have xz := HX5.out.fz
          go_cut [] from 31 to 42 (fun wz => TkAt wz B5 (lawA o x) ∧ Fr [B5] w5 wz)
          case first =>
            have qa := HL.out.a
            have qb := HL.out.b
            cases h31 : ((o.kind == 1) && (o.err == 0)) with
            | true =>
              have h1 := (Bool.and_eq_true_iff.1 h31).1
              have h3 := (Bool.and_eq_true_iff.1 h31).2
              have HU := Lib.hid (show lawA o x = { x with calls := x.calls + 1 } from by unfold lawA; rw [if_pos h1, if_pos h3])
              clear h1 h3
              go_wp2
              go_meet
              exact ⟨by rw [HU.out]; exact HX5.out.set1 _, (Fr.refl _ _).setCell (fun _ => by simp) _⟩
            | false =>
              cases h1 : (o.kind == 1) with
              | true =>
                have h3 : (o.err == 0) = false := by rw [h1] at h31; exact h31
                have n1 : o.kind = 1 := beq_iff_eq.1 h1
                have HU := Lib.hid (show lawA o x = { x with refused := x.refused + 1 } from by unfold lawA; rw [if_pos h1, if_neg (by rw [h3]; simp)])
                clear h3 h31
                go_wp2
                go_meet
                exact ⟨by rw [HU.out]; exact HX5.out.set2 _, (Fr.refl _ _).setCell (fun _ => by simp) _⟩
              | false =>
                have n1 : ¬ o.kind = 1 := beq_eq_false_iff_ne.1 h1
                have d1 : decide (o.kind = 1) = false := decide_eq_false n1
                have HU := Lib.hid (show lawA o x = x from by unfold lawA; rw [if_neg (by rw [h1]; simp)])
                clear h31
                go_wp2
                go_meet
                exact ⟨by rw [HU.out]; exact HX5.out, Fr.refl _ _⟩
          case rest =>
            obtain ⟨hXa, hFa⟩ := hcut
            obtain ⟨w6, rfl⟩ : ∃ z, z = wc := ⟨wc, rfl⟩
            have HX6 := Lib.hid hXa
            have HB6 := Lib.hid (HBK.out.keep hFa (by simpa using HBE.out.symm))
            have HF6 := Lib.hid (HF5.out.trans hFa (fun k hk _ => hk))
            clear hXa hFa x1 x2 xz e0 e14
            go_upto_region 11 with fail
            have e0 := HB6.out.c 0 _ rfl
            have e14 := HB6.out.c 14 _ rfl
            go_cut [50] from 43 to 50 (fun s wz => s = .bool ((o.kind == 2) && (o.err == 0)) ∧ wz = w6)
            case first =>
              cases h1 : (o.kind == 2) with
              | true =>
                have n1 : o.kind = 2 := beq_iff_eq.1 h1
                cases h3 : (o.err == 0) with
                | true =>
                  have n3 : o.err = 0 := beq_iff_eq.1 h3
                  have HK := Lib.hid (show ((o.kind == 2) && (o.err == 0)) = true from by rw [h1, h3]; rfl)
                  go_wp2
                  go_meet
                  exact ⟨by rw [HK.out], rfl⟩
                | false =>
                  have n3 : ¬ o.err = 0 := beq_eq_false_iff_ne.1 h3
                  have d3 : decide (o.err = 0) = false := decide_eq_false n3
                  have HK := Lib.hid (show ((o.kind == 2) && (o.err == 0)) = false from by rw [h1, h3]; rfl)
                  go_wp2
                  go_meet
                  exact ⟨by rw [HK.out], rfl⟩
              | false =>
                have n1 : ¬ o.kind = 2 := beq_eq_false_iff_ne.1 h1
                have d1 : decide (o.kind = 2) = false := decide_eq_false n1
                have HK := Lib.hid (show ((o.kind == 2) && (o.err == 0)) = false from by rw [h1]; rfl)
                go_wp2
                go_meet
                exact ⟨by rw [HK.out], rfl⟩
            case rest =>
              obtain ⟨rfl, hwc⟩ := hcut
              subst wc
              go_upto_if 50 with fail
              have x3 := HX6.out.c3
              have xz := HX6.out.fz
              rw [(lawA_e o x).1] at x3
              go_cut [] from 50 to 54 (fun wz => TkAt wz B5 (lawB o (lawA o x)) ∧ Fr [B5] w6 wz)
              case first =>
                have qc := HL.out.c
                cases h1 : ((o.kind == 2) && (o.err == 0)) with
                | true =>
                  have HU := Lib.hid (show lawB o (lawA o x) = { lawA o x with steps := x.steps + 1 } from by unfold lawB; rw [if_pos h1, (lawA_e o x).1])
                  go_wp2
                  go_meet
                  exact ⟨by rw [HU.out]; exact HX6.out.set3 _, (Fr.refl _ _).setCell (fun _ => by simp) _⟩
                | false =>
                  have HU := Lib.hid (show lawB o (lawA o x) = lawA o x from by unfold lawB; rw [if_neg (by rw [h1]; simp)])
                  go_wp2
                  go_meet
                  exact ⟨by rw [HU.out]; exact HX6.out, Fr.refl _ _⟩
              case rest =>
                obtain ⟨hXa, hFa⟩ := hcut
                obtain ⟨w7, rfl⟩ : ∃ z, z = wc := ⟨wc, rfl⟩
                have HXA := Lib.hid hXa
                have hBa := HB6.out.keep hFa (by simpa using HBE.out.symm)
                have HBA := Lib.hid hBa
                have HFA := Lib.hid (HF6.out.trans hFa (fun k hk _ => hk))
                have HLA := Lib.hid (HLE.out _ hBa)
                clear hXa hFa hBa x3 xz e0 e14
                go_upto_region 13 with fail
                refine wp_region_lit ?_
                refine wpList_val rfl (v := V) (w' := w7) ?_ ?_
                · show Sem.run Tryz.prog ((Instr.loadAt 103 (.pointer (some ⟨E, 0, none⟩))) >>= fun x => pure (Next.value x)) w7 = _
                  rw [Sem.run_bind, HLA.out]
                  rfl
                try simp only [Act.put, List.getElem_toArray, List.getElem_cons_succ, List.getElem_cons_zero, List.setIfInBounds_toArray, List.set_cons_zero, List.set_cons_succ]
                go_wp2_with fail
                refine (HEN.out _).mono ?_
                rintro e w8 ⟨rfl, f8⟩
                have HXE := Lib.hid (HXA.out.keep f8 (by simp))
                have HBD := Lib.hid (HBA.out.keep f8 (by simp))
                have HFE := Lib.hid (HFA.out.trans (f8.mono (fun _ h => by cases h)) (fun k hk _ => hk) : Fr [B5] w1 w8)
                clear f8
                obtain ⟨en, hen⟩ : ∃ z, o.ended = z := ⟨_, rfl⟩
                rw [hen]
                have HED := Lib.hid hen
                clear hen HXA HFA HBA HLA HEN HLE
                cases en with
                | false =>
                  have HY := Lib.hid (show dnOf k (xs.take (q + 1)) = lawB o (lawA o x) from by rw [HSU.out]; exact dn_not HTK.out HED.out)
                  have HYL := Lib.hid (show (dnOf k (xs.take (q + 1))).lim (q + 1) from by rw [HSU.out]; exact dn_lim HL.out HOO.out.2.2)
                  go_wp2
                  go_roundw
                  case rel => exact ⟨_, q + 1, rfl, by go_num, by omega, by rw [HY.out]; exact HXE.out, HYL.out, HFE.out⟩
                  case measure => simp [intOf]; omega
                | true =>
                  have qd := HL.out.d
                  have y4 := HXE.out.c4
                  have yz := HXE.out.fz
                  rw [(lawB_e o (lawA o x)).1, (lawA_e o x).2.1] at y4
                  go_upto_region 15 with fail
                  obtain ⟨w9, hw9⟩ : ∃ z, w8.setCell ⟨B5, 4, none⟩ (.int .i64 (x.ended + 1)) = z := ⟨_, rfl⟩
                  obtain ⟨y, hy⟩ : ∃ y, upB o (lawB o (lawA o x)) = y := ⟨_, rfl⟩
                  have he4 : (lawB o (lawA o x)).ended = x.ended := by rw [(lawB_e o (lawA o x)).1, (lawA_e o x).2.1]
                  have HX9 := Lib.hid (show TkAt w9 B5 y from by rw [← hw9, ← hy]; have := HXE.out.set4 (x.ended + 1); rw [← he4] at this ⊢; exact this)
                  have HF9 := Lib.hid (show Fr [B5] w1 w9 from by rw [← hw9]; exact HFE.out.setCell (fun _ => by simp) _)
                  have HB9 := Lib.hid (show EvBlk w9 E o from by rw [← hw9]; exact HBD.out.keep ((Fr.refl [B5] w8).setCell (fun _ => by simp) _) (by simpa using HBE.out.symm))
                  have HY := Lib.hid (show y.failed = x.failed ∧ y.read = x.read ∧ y.written = x.written from by
                    have h1 := (lawB_e o (lawA o x)).2
                    have h2 := (lawA_e o x).2.2
                    rw [← hy]
                    exact ⟨h1.1.trans h2.1, h1.2.1.trans h2.2.1, h1.2.2.trans h2.2.2⟩)
                  have HUT := Lib.hid (show dnOf k (xs.take (q + 1)) = upE o (upD o (upC o y)) from by rw [← hy, HSU.out]; exact dn_end HTK.out HED.out)
                  have HYL := Lib.hid (show (dnOf k (xs.take (q + 1))).lim (q + 1) from by rw [HSU.out]; exact dn_lim HL.out HOO.out.2.2)
                  rw [hw9]
                  clear hw9 hy HXE HFE HBD y4 yz qd he4
                  have g18 := HB9.out.c 18 _ rfl
                  have y5 := HX9.out.c5
                  have yz := HX9.out.fz
                  have qe := HL.out.e
                  rw [HY.out.1] at y5
                  go_upto_if 65 with fail
                  go_cut [] from 62 to 69 (fun wz => TkAt wz B5 (upC o y) ∧ Fr [B5] w9 wz)
                  case first =>
                    cases h1 : (o.eErr == 0) with
                    | true =>
                      have n1 : o.eErr = 0 := beq_iff_eq.1 h1
                      have HU := Lib.hid (show upC o y = y from by unfold upC; rw [if_pos h1])
                      go_wp2
                      go_meet
                      exact ⟨by rw [HU.out]; exact HX9.out, Fr.refl _ _⟩
                    | false =>
                      have n1 : ¬ o.eErr = 0 := beq_eq_false_iff_ne.1 h1
                      have b1 : (o.eErr != 0) = true := by rw [bne, h1]; rfl
                      have HU := Lib.hid (show upC o y = { y with failed := x.failed + 1 } from by unfold upC; rw [if_neg (by rw [h1]; simp), HY.out.1])
                      go_wp2
                      go_meet
                      exact ⟨by rw [HU.out]; exact HX9.out.set5 _, (Fr.refl _ _).setCell (fun _ => by simp) _⟩
                  case rest =>
                    obtain ⟨hXc, hFc⟩ := hcut
                    obtain ⟨wA, rfl⟩ : ∃ z, z = wc := ⟨wc, rfl⟩
                    have HXC := Lib.hid hXc
                    have HFC := Lib.hid (HF9.out.trans hFc (fun k hk _ => hk))
                    have HBC := Lib.hid (HB9.out.keep hFc (by simpa using HBE.out.symm))
                    clear hXc hFc g18 y5 yz qe
                    have g17 := HBC.out.c 17 _ rfl
                    have g20 := HBC.out.c 20 _ rfl
                    have y6 := HXC.out.c6
                    have yz := HXC.out.fz
                    have qf := HL.out.f
                    have hoo := HOO.out.2.2
                    rw [(lupC_e o y).1, HY.out.2.1] at y6
                    go_upto_if 73 with fail
                    go_cut [] from 70 to 81 (fun wz => TkAt wz B5 (upD o (upC o y)) ∧ Fr [B5] wA wz)
                    case first =>
                      cases h1 : (o.eKind == 5) with
                      | false =>
                        have n1 : ¬ o.eKind = 5 := beq_eq_false_iff_ne.1 h1
                        have HU := Lib.hid (show upD o (upC o y) = upC o y from by unfold upD; rw [if_neg (by rw [h1]; simp)])
                        go_wp2
                        go_meet
                        exact ⟨by rw [HU.out]; exact HXC.out, Fr.refl _ _⟩
                      | true =>
                        have n1 : o.eKind = 5 := beq_iff_eq.1 h1
                        have HU := Lib.hid (show upD o (upC o y) = { upC o y with read := x.read + (o.eD.2.1 : Int) } from by unfold upD; rw [if_pos h1, (lupC_e o y).1, HY.out.2.1])
                        go_wp2
                        go_meet
                        exact ⟨by rw [HU.out]; exact HXC.out.set6 _, (Fr.refl _ _).setCell (fun _ => by simp) _⟩
                    case rest =>
                      obtain ⟨hXd, hFd⟩ := hcut
                      obtain ⟨wB, rfl⟩ : ∃ z, z = wc := ⟨wc, rfl⟩
                      have HXD := Lib.hid hXd
                      have HFD := Lib.hid (HFC.out.trans hFd (fun k hk _ => hk))
                      have HBD := Lib.hid (HBC.out.keep hFd (by simpa using HBE.out.symm))
                      clear hXd hFd g17 g20 y6 yz qf hoo
                      have g17 := HBD.out.c 17 _ rfl
                      have g19 := HBD.out.c 19 _ rfl
                      have y7 := HXD.out.c7
                      have yz := HXD.out.fz
                      have qg := HL.out.g
                      rw [lupD_e, (lupC_e o y).2, HY.out.2.2] at y7
                      obtain ⟨Y, hY⟩ : ∃ Y, upD o (upC o y) = Y := ⟨_, rfl⟩
                      have hYw : Y.written = x.written := by rw [← hY, lupD_e, (lupC_e o y).2, HY.out.2.2]
                      rw [hY, upE_pos] at HUT
                      rw [hY] at HXD
                      have HYW := Lib.hid hYw
                      clear hYw hY
                      go_upto_region 19 with fail
                      go_cut [97] from 82 to 97 (fun s wz => s = .bool ((o.eKind == 6) && (decide (0 < o.eN) && decide (o.eN ≤ 65536))) ∧ wz = wB)
                      case first =>
                        cases h1 : (o.eKind == 6) with
                        | false =>
                          have n1 : ¬ o.eKind = 6 := beq_eq_false_iff_ne.1 h1
                          have d1 : decide (o.eKind = 6) = false := decide_eq_false n1
                          have HK := Lib.hid (show ((o.eKind == 6) && (decide (0 < o.eN) && decide (o.eN ≤ 65536))) = false from by rw [h1]; rfl)
                          go_wp2
                          go_meet
                          exact ⟨by rw [HK.out], rfl⟩
                        | true =>
                          have n1 : o.eKind = 6 := beq_iff_eq.1 h1
                          cases h2 : decide (0 < o.eN) with
                          | false =>
                            have n2 : ¬ 0 < o.eN := of_decide_eq_false h2
                            have HK := Lib.hid (show ((o.eKind == 6) && (decide (0 < o.eN) && decide (o.eN ≤ 65536))) = false from by rw [h1, h2]; rfl)
                            go_wp2
                            go_meet
                            exact ⟨by rw [HK.out], rfl⟩
                          | true =>
                            have n2 : 0 < o.eN := of_decide_eq_true h2
                            cases h3 : decide (o.eN ≤ 65536) with
                            | false =>
                              have n3 : ¬ o.eN ≤ 65536 := of_decide_eq_false h3
                              have HK := Lib.hid (show ((o.eKind == 6) && (decide (0 < o.eN) && decide (o.eN ≤ 65536))) = false from by rw [h1, h2, h3]; rfl)
                              go_wp2
                              go_meet
                              exact ⟨by rw [HK.out], rfl⟩
                            | true =>
                              have n3 : o.eN ≤ 65536 := of_decide_eq_true h3
                              have HK := Lib.hid (show ((o.eKind == 6) && (decide (0 < o.eN) && decide (o.eN ≤ 65536))) = true from by rw [h1, h2, h3]; rfl)
                              go_wp2
                              go_meet
                              exact ⟨by rw [HK.out], rfl⟩
                      case rest =>
                        obtain ⟨rfl, hwc⟩ := hcut
                        subst wc
                        go_upto_if 97 with fail
                        obtain ⟨wr6, hwr6⟩ : ∃ z, ((o.eKind == 6) && (decide (0 < o.eN) && decide (o.eN ≤ 65536))) = z := ⟨_, rfl⟩
                        rw [hwr6] at HUT ⊢
                        have hn6 : wr6 = true → 0 ≤ o.eN ∧ o.eN ≤ 65536 := by
                          rw [← hwr6]
                          simp only [Bool.and_eq_true, decide_eq_true_eq]
                          exact fun h => ⟨Int.le_of_lt h.2.1, h.2.2⟩
                        clear hwr6
                        cases wr6 with
                        | false =>
                          have HXE := Lib.hid (show TkAt wB B5 (dnOf k (xs.take (q + 1))) from by rw [HUT.out]; exact HXD.out)
                          clear g17 g19 y7 yz qg
                          go_wp2
                          go_roundw
                          case rel => exact ⟨_, q + 1, rfl, by go_num, by omega, HXE.out, HYL.out, HFD.out⟩
                          case measure => simp [intOf]; omega
                        | true =>
                          have hn7 := hn6 rfl
                          have HXE := Lib.hid (show TkAt (wB.setCell ⟨B5, 7, none⟩ (.int .i64 (x.written + o.eN))) B5 (dnOf k (xs.take (q + 1))) from by rw [HUT.out, if_pos rfl, HYW.out]; exact HXD.out.set7 _)
                          have HFZ := Lib.hid (show Fr [B5] w1 (wB.setCell ⟨B5, 7, none⟩ (.int .i64 (x.written + o.eN))) from HFD.out.setCell (fun _ => by simp) _)
                          clear hn6
                          go_wp2
                          go_roundw
                          case rel => exact ⟨_, q + 1, rfl, by go_num, by omega, HXE.out, HYL.out, HFZ.out⟩
                          case measure => simp [intOf]; omega
      · have bt : (o.task != k) = true := by rw [bne, beq_eq_false_iff_ne.2 htk]; rfl
        have HY := Lib.hid (show dnOf k (xs.take (q + 1)) = x from by rw [HSU.out]; unfold dnStep; rw [if_neg htk])
        have HYL := Lib.hid (show (dnOf k (xs.take (q + 1))).lim (q + 1) from by rw [HSU.out]; exact dn_lim HL.out HOO.out.2.2)
        go_wp2
        go_roundw
        case rel => exact ⟨_, q + 1, rfl, by go_num, by omega, by rw [HY.out]; exact HX5.out, HYL.out, HF5.out⟩
        case measure => simp [intOf]; omega
    · have hqn : q = n := by omega
      subst hqn
      have hD := HXq.out
      rw [List.take_of_length_le (by rw [HM.out]; exact Nat.le_refl _)] at hD
      obtain ⟨y, hy⟩ : ∃ y, dnOf k xs = y := ⟨_, rfl⟩
      rw [hy] at hD
      have HYY := Lib.hid hy
      have HD := Lib.hid hD
      have hne : B4 ≠ B5 := by
        have := HB5.out
        omega
      have h4 := HA0.out.keep HF.out (by simpa using hne)
      have HA4 := Lib.hid h4
      have HS := Lib.hid (h4.setAll y)
      have z4 := h4.fz
      have a0 := h4.c0
      have a1 := h4.c1
      have a2 := h4.c2
      have a3 := h4.c3
      have a4 := h4.c4
      have a5 := h4.c5
      have a6 := h4.c6
      have a7 := h4.c7
      have y0 := HD.out.c0
      have y1 := HD.out.c1
      have y2 := HD.out.c2
      have y3 := HD.out.c3
      have y4 := HD.out.c4
      have y5 := HD.out.c5
      have y6 := HD.out.c6
      have y7 := HD.out.c7
      have HNE := Lib.hid hne
      clear hy hD h4 hne
      go_wp2
      have s0 := HS.out.c0
      have s1 := HS.out.c1
      have s2 := HS.out.c2
      have s3 := HS.out.c3
      have s4 := HS.out.c4
      have s5 := HS.out.c5
      have s6 := HS.out.c6
      have s7 := HS.out.c7
      refine bodyPost_ret (v := .agg #[.int .i64 y.t, .int .i64 y.calls, .int .i64 y.refused, .int .i64 y.steps, .int .i64 y.ended, .int .i64 y.failed, .int .i64 y.read, .int .i64 y.written]) ?_ rfl ?_
      · simp [results, Tryz.f37]
        go_simp
      refine ⟨by rw [HYY.out], (HF1.out.trans HF.out (fun x hx hl => ?_)).trans ((((((((((Fr.refl [B4] wr).setCell (fun _ => by simp) _).setCell (fun _ => by simp) _).setCell (fun _ => by simp) _).setCell (fun _ => by simp) _).setCell (fun _ => by simp) _).setCell (fun _ => by simp) _).setCell (fun _ => by simp) _).setCell (fun _ => by simp) _)) (fun x hx hl => ?_)⟩
      · rw [List.mem_singleton] at hx
        have h1 := HB4.out
        have h2 := HB5.out
        omega
      · rw [List.mem_singleton] at hx
        have h1 := HB4.out
        omega
end Go.Proofs.YtllmejkcohfbiaaGreatDoor
