/- Report: OfTasks, walked. -/
/- ReportTasks answers true. -/
/- ReportHolds answers true. -/
import Derived.Test.YtllmejkcohfbiaaGreatDoorR25K
import Derived.Test.YtllmejkcohfbiaaGreatDoorT3
import Derived.BigQuiet
import Derived.Test.YtllmejkcohfbiaaGreatDoorVS
import Derived.Test.YtllmejkcohfbiaaGreatDoorV6
import Derived.Test.YtllmejkcohfbiaaGreatDoorU4
namespace Go.Proofs.YtllmejkcohfbiaaGreatDoor
open Go.RowKit Go.Maps Go.Shelf Go.Sort Go.Lib
set_option linter.unusedVariables false
set_option linter.unusedSimpArgs false
set_option maxRecDepth 100000
set_option maxHeartbeats 16000000

/-- The task is in the map; what its events so far make, and this one. -/
def TaskIn (w wz : World) (M q E : Nat) (o : Ev) (P : List (Int × Tk)) (s7 : Value) : Prop :=
  ∃ A b x B, s7 = .pointer (some ⟨b, 0, none⟩) ∧ TdS w wz M q (A ++ (o.task, b, x) :: B) ∧ b ≠ E ∧ EvBlk wz E o ∧ tdStep P o = tdPlain (A ++ (o.task, b, upT o x) :: B)
theorem upA_e (v : Ev) (x : Tk) : (upA v x).ended = x.ended ∧ (upA v x).failed = x.failed ∧ (upA v x).read = x.read ∧ (upA v x).written = x.written := by
  unfold upA; repeat' split
  all_goals exact ⟨rfl, rfl, rfl, rfl⟩
theorem upC_e (v : Ev) (x : Tk) : (upC v x).read = x.read ∧ (upC v x).written = x.written := by
  unfold upC; repeat' split
  all_goals exact ⟨rfl, rfl⟩
theorem upD_e (v : Ev) (x : Tk) : (upD v x).written = x.written := by
  unfold upD; repeat' split
  all_goals rfl
def evOk (x : Ev) : Prop := I64 x.task ∧ I64 x.eN ∧ x.eD.2.1 ≤ 100000
theorem ofTasks_any (v : Value) (xs : List Ev) (w : World) (h : EvRow w v xs) (hn : xs.length ≤ 5000) (hok : ∀ x ∈ xs, evOk x) :
    Calls Tryz.prog 36 #[v] w fun e w' => ∃ v', e = .returned (.tuple #[v', .int .i64 0]) ∧ TkRow w' v' (tasksOf (tdOf xs)) ∧ Fr [] w w' := by
  obtain ⟨a, cap, rfl⟩ := h.val
  obtain ⟨n, hnl⟩ : ∃ n, xs.length = n := ⟨_, rfl⟩
  have HM := Lib.hid hnl
  have HR := Lib.hid h
  have HI := Lib.hid hok
  rw [hnl] at hn HR ⊢
  have hn' : ¬ (5000 : Int) < (n : Int) := by omega
  have F0 := Lib.hid (show Fr [] w (w.alloc (.map #[] 0)) from (Fr.refl [] w).alloc _)
  have HS0 := Lib.hid (show TdS w (w.alloc (.map #[] 0)) w.heap.size 0 [] from ⟨⟨MapIs.made Tryz.prog 3 w, (fun p hp => by cases hp), by simp, (fun p hp => by cases hp)⟩, (fun p hp => by cases hp), (fun p hp => by cases hp), (fun p hp => by cases hp), (Fr.refl [] w).alloc _⟩)
  have hM0 : w.heap.size ≤ w.heap.size := Nat.le_refl _
  clear h hok hnl
  have hmm := @run_makeMap Tryz.prog
  go_enter Tryz.func36, Tryz.ntmps36
  go_wp2
  obtain ⟨w0, hw0⟩ : ∃ z, w.alloc (.map #[] 0) = z := ⟨_, rfl⟩
  rw [hw0] at HS0 F0
  rw [hw0]
  obtain ⟨M, hM⟩ : ∃ M, w.heap.size = M := ⟨_, rfl⟩
  have HMW := Lib.hid hM
  rw [hM] at HS0
  simp only [hM]
  clear hw0 hM hM0
  go_loopw [17] (fun i wr => ∃ (wz : World) (q : Nat) (D : TD), wz = wr ∧ i = .int .i64 q ∧ q ≤ n ∧ TdS w wr M q D ∧ tdPlain D = tdOf (xs.take q)) (fun i _ => n - (intOf i).toNat)
  case atStart => exact ⟨_, 0, [], rfl, rfl, by omega, HS0.out, rfl⟩
  case round =>
    obtain ⟨wr, q, D, hwz, rfl, hq, hS, hD⟩ := hrel
    subst hwz
    have HS := Lib.hid hS
    have HD := Lib.hid hD
    clear hS hD
    by_cases hlt : q < n
    · have hx := List.getElem?_eq_getElem (l := xs) (i := q) (by rw [HM.out]; exact hlt)
      obtain ⟨o, hoe⟩ : ∃ o, xs[q]'(by rw [HM.out]; exact hlt) = o := ⟨_, rfl⟩
      rw [hoe] at hx
      have hoo := HI.out o (List.mem_of_getElem? hx)
      rcases HR.out.new HS.out.fr with ⟨e1, _⟩ | ⟨g, off, cap', hv, hg, hcells⟩
      · rw [e1] at hx
        simp at hx
      rw [HM.out] at hv
      simp only [Value.slice.injEq] at hv
      obtain ⟨rfl, _, rfl⟩ := hv
      have hld := ev_load (hcells q o hx)
      obtain ⟨w5, hst, hblk, hfr⟩ := ev_store (w := wr.alloc (.cells #[.int .i64 0, .int .i64 0, .int .i64 0, .int .i64 0, .int .i64 0, .int .i64 0, .int .i64 0, .string ⟨#[]⟩, .int .i64 0, .slice none 0 0, .int .i64 0, .int .i64 0, .int .i64 0, .int .u64 0, .int .i64 0, .bool false, .int .i64 0, .int .i64 0, .int .i64 0, .int .i64 0, .slice none 0 0, .int .i64 0, .int .i64 0, .int .i64 0, .int .i64 0, .string ⟨#[]⟩, .int .i64 0, .int .u64 0, .slice none 0 0, .int .u64 0] 103)) (b := wr.heap.size) o (World.alloc_heap_new wr _) rfl
      have f5 : Fr [] wr w5 := ((Fr.refl [] wr).alloc _).trans hfr (fun x hx hl => by
        rw [List.mem_singleton] at hx
        omega)
      have HS5 := Lib.hid (HS.out.new f5)
      have HSU := Lib.hid (tdOf_succ xs q o hx)
      have hME : M < wr.heap.size := HS.out.r.map.lt
      have hDE : ∀ p ∈ D, p.2.1 < wr.heap.size := fun p hp => (Array.getElem?_eq_some_iff.1 (HS.out.r.at' p hp)).1
      have HLD := Lib.hid hld
      have HST := Lib.hid hst
      have HBK := Lib.hid hblk
      have HOO := Lib.hid hoo
      obtain ⟨V, hV⟩ : ∃ V, evV o = V := ⟨_, rfl⟩
      have HEV := Lib.hid hV
      rw [hV] at HLD HST
      have HEN := Lib.hid (fun W => (show Calls Tryz.prog 68 #[V] W fun e w' => e = .returned (.bool o.ended) ∧ Fr [] W w' from by
        have h := ended_any o W
        rw [← HEV.out]
        exact h))
      have HLE := Lib.hid (fun W (hb : EvBlk W wr.heap.size o) => (show (Instr.loadAt 103 (.pointer (some ⟨wr.heap.size, 0, none⟩))).run Tryz.prog W = .ok V W from by
        have h := ev_load hb.at
        rw [HEV.out] at h
        exact h))
      clear hx hoe hcells hld hst hblk hfr hV hoo f5
      go_upto_region 6 with fail
      refine wp_region_lit ?_
      refine wpList_plain rfl (fun K hK => ?_)
      go_simp
      refine hK _ _ ?_
      clear hK K
      refine wpList_val rfl (v := V) (w' := wr) ?_ ?_
      · show Sem.run Tryz.prog ((Instr.loadAt 103 (.pointer (some ⟨g, off + q * 30, none⟩))) >>= fun x => pure (Next.value x)) wr = _
        rw [Sem.run_bind, HLD.out]
        rfl
      refine wpList_plain rfl (fun K hK => ?_)
      go_simp
      refine hK _ _ ?_
      clear hK K
      refine wpList_skp rfl (w' := w5) ?_ ?_
      · show Sem.run Tryz.prog ((Instr.storeAt 103 (.pointer (some ⟨wr.heap.size, 0, none⟩)) V) >>= fun _ => pure Next.skip) _ = _
        rw [Sem.run_bind, HST.out]
        rfl
      refine wpList_nil ?_
      try simp only [Act.put, List.getElem_toArray, List.getElem_cons_succ, List.getElem_cons_zero, List.setIfInBounds_toArray, List.set_cons_zero, List.set_cons_succ]
      obtain ⟨E, hE⟩ : ∃ E, wr.heap.size = E := ⟨_, rfl⟩
      have hEw : w.heap.size ≤ E := by rw [← hE]; exact HS.out.fr.size
      rw [hE] at HBK HLE hME hDE
      have HDE := Lib.hid hDE
      clear hDE
      simp only [hE]
      clear hE HLD HST
      have HG := Lib.hid hg
      clear hg
      have e0 := HBK.out.c 0 _ rfl
      have e14 := HBK.out.c 14 _ rfl
      obtain ⟨cb, hcb⟩ : ∃ z, o.counts = z := ⟨_, rfl⟩
      have hcd : cb = ((o.kind == 1) || ((o.kind == 2) && (o.err == 0))) := hcb.symm
      have HCB := Lib.hid hcb
      have HCD := Lib.hid hcd
      clear hcb hcd
      go_upto_region 7 with fail
      go_cut [33] from 21 to 33 (fun s33 wz => s33 = .bool (!cb) ∧ wz = w5)
      case first =>
        cases h1 : (o.kind == 1) with
        | true =>
          rw [h1] at HCD
          have n1 : o.kind = 1 := beq_iff_eq.1 h1
          have b1 : (o.kind != 1) = false := by rw [bne, h1]; rfl
          go_wp2
          go_meet
          exact ⟨by rw [HCD.out]; rfl, rfl⟩
        | false =>
          rw [h1] at HCD
          have n1 : ¬ o.kind = 1 := beq_eq_false_iff_ne.1 h1
          have d1 : decide (o.kind = 1) = false := decide_eq_false n1
          have b1 : (o.kind != 1) = true := by rw [bne, h1]; rfl
          cases h2 : (o.kind == 2) with
          | false =>
            rw [h2] at HCD
            have n2 : ¬ o.kind = 2 := beq_eq_false_iff_ne.1 h2
            have d2 : decide (o.kind = 2) = false := decide_eq_false n2
            have b2 : (o.kind != 2) = true := by rw [bne, h2]; rfl
            go_wp2
            go_meet
            exact ⟨by rw [HCD.out]; rfl, rfl⟩
          | true =>
            rw [h2] at HCD
            have n2 : o.kind = 2 := beq_iff_eq.1 h2
            have b2 : (o.kind != 2) = false := by rw [bne, h2]; rfl
            have b2d : decide (o.kind = 2) = true := decide_eq_true n2
            cases h3 : (o.err == 0) with
            | true =>
              rw [h3] at HCD
              have n3 : o.err = 0 := beq_iff_eq.1 h3
              have b3 : (o.err != 0) = false := by rw [bne, h3]; rfl
              go_wp2
              go_meet
              exact ⟨by rw [HCD.out]; rfl, rfl⟩
            | false =>
              rw [h3] at HCD
              have n3 : ¬ o.err = 0 := beq_eq_false_iff_ne.1 h3
              have b3 : (o.err != 0) = true := by rw [bne, h3]; rfl
              go_wp2
              go_meet
              exact ⟨by rw [HCD.out]; rfl, rfl⟩
      case rest =>
        obtain ⟨rfl, hwc⟩ := hcut
        subst wc
        cases cb with
        | false =>
          go_wp2
          go_roundw
          case rel => exact ⟨_, q + 1, D, rfl, by go_num, by omega, HS5.out.up, by rw [HSU.out, step_idle HCB.out, HD.out]⟩
          case measure => simp [intOf]; omega
        | true =>
          have e1 := HBK.out.c 1 _ rfl
          obtain ⟨pb, hrun, hcase⟩ := HS5.out.look HOO.out.1
          have HCASE := Lib.hid hcase
          clear hcase
          go_upto_if 39 with fail
          go_cut [7] from 39 to 47 (fun s7 wz => TaskIn w wz M q E o (tdPlain D) s7)
          case first =>
            rcases HCASE.out with ⟨A, b, x, B, hD, rfl⟩ | ⟨rfl, hne⟩
            · subst hD
              have hst : tdStep (tdPlain (A ++ (o.task, b, x) :: B)) o = tdPlain (A ++ (o.task, b, upT o x) :: B) := step_here HCB.out HS5.out.r.others.1 HS5.out.r.others.2
              have hbE : b ≠ E := by
                have := HDE.out (o.task, b, x) (by simp)
                dsimp only at this
                omega
              have HP := Lib.hid (show TaskIn w w5 M q E o (tdPlain (A ++ (o.task, b, x) :: B)) (.pointer (some ⟨b, 0, none⟩)) from ⟨A, b, x, B, rfl, HS5.out, hbE, HBK.out, hst⟩)
              clear hst hbE
              go_wp2
              go_meet
              exact HP.out
            · obtain ⟨W', hput, hT, hf⟩ := HS5.out.put HOO.out.1 hne (by rw [HMW.out]; exact Nat.le_refl _)
              have hst := step_new (b := w5.heap.size) HCB.out hne
              have hEl := HBK.out.lt
              have hEM : E ≠ M := by omega
              have HP := Lib.hid (show TaskIn w W' M q E o (tdPlain D) (.pointer (some ⟨w5.heap.size, 0, none⟩)) from ⟨D, w5.heap.size, tk0 o.task, [], rfl, hT, by omega, HBK.out.keep hf (by simpa using hEM), hst⟩)
              have e1' : (w5.alloc (.cells #[.int .i64 o.task, .int .i64 0, .int .i64 0, .int .i64 0, .int .i64 0, .int .i64 0, .int .i64 0, .int .i64 0] 58)).cell? ⟨E, 1, none⟩ = some (.int .i64 o.task) := (HBK.out.keep ((Fr.refl [] w5).alloc _) (by simp)).c 1 _ rfl
              clear hT hf hst hEl hEM hne
              go_wp2
              go_meet
              exact HP.out
          case rest =>
            obtain ⟨A, b, x, B, rfl, hT, hbE, hB, hst⟩ := hcut
            obtain ⟨w6, rfl⟩ : ∃ z, z = wc := ⟨wc, rfl⟩
            have hlim := hT.lim (o.task, b, x) (by simp)
            have hX := hT.r.at' (o.task, b, x) (by simp)
            dsimp only at hlim hX
            have HT := Lib.hid hT
            have HX := Lib.hid hX
            have HB := Lib.hid hB
            have HSTEP := Lib.hid hst
            have HLIM := Lib.hid hlim
            have hNE : b ∉ ([] : List Nat) := by simp
            have HBE := Lib.hid hbE
            have x1 := HX.out.c1
            have x2 := HX.out.c2
            have x3 := HX.out.c3
            have xz := HX.out.fz
            have hb0 := HB.out.c 0 _ rfl
            have hb3 := HB.out.c 14 _ rfl
            clear hT hX hB hst hlim hbE hNE e0 e14 e1 hrun HCASE
            go_step
            go_step
            go_cut [] from 48 to 81 (fun wz => TkAt wz b (upA o x) ∧ Fr [b] w6 wz)
            case first =>
              have qa := HLIM.out.a
              have qb := HLIM.out.b
              have qc := HLIM.out.c
              cases h1 : (o.kind == 1) with
              | true =>
                have n1 : o.kind = 1 := beq_iff_eq.1 h1
                cases h3 : (o.err == 0) with
                | true =>
                  have n3 : o.err = 0 := beq_iff_eq.1 h3
                  have HU := Lib.hid (show upA o x = { x with calls := x.calls + 1 } from by unfold upA; rw [if_pos h1, if_pos h3])
                  go_wp2
                  go_meet
                  exact ⟨by rw [HU.out]; exact HX.out.set1 _, (Fr.refl _ _).setCell (fun _ => by simp) _⟩
                | false =>
                  have n3 : ¬ o.err = 0 := beq_eq_false_iff_ne.1 h3
                  have d3 : decide (o.err = 0) = false := decide_eq_false n3
                  have HU := Lib.hid (show upA o x = { x with refused := x.refused + 1 } from by unfold upA; rw [if_pos h1, if_neg (by rw [h3]; simp)])
                  go_wp2
                  go_meet
                  exact ⟨by rw [HU.out]; exact HX.out.set2 _, (Fr.refl _ _).setCell (fun _ => by simp) _⟩
              | false =>
                have n1 : ¬ o.kind = 1 := beq_eq_false_iff_ne.1 h1
                have d1 : decide (o.kind = 1) = false := decide_eq_false n1
                have HU := Lib.hid (show upA o x = { x with steps := x.steps + 1 } from by unfold upA; rw [if_neg (by rw [h1]; simp)])
                go_wp2
                go_meet
                exact ⟨by rw [HU.out]; exact HX.out.set3 _, (Fr.refl _ _).setCell (fun _ => by simp) _⟩
            case rest =>
              obtain ⟨hXa, hFa⟩ := hcut
              obtain ⟨w7, rfl⟩ : ∃ z, z = wc := ⟨wc, rfl⟩
              have HXA := Lib.hid hXa
              have HFA := Lib.hid hFa
              have hBa := HB.out.keep hFa (by simpa using HBE.out.symm)
              have HLA := Lib.hid (HLE.out _ hBa)
              have HBA := Lib.hid hBa
              clear hXa hFa hBa x1 x2 x3 xz hb0 hb3
              go_upto_region 17 with fail
              refine wp_region_lit ?_
              refine wpList_val rfl (v := V) (w' := w7) ?_ ?_
              · show Sem.run Tryz.prog ((Instr.loadAt 103 (.pointer (some ⟨E, 0, none⟩))) >>= fun x => pure (Next.value x)) w7 = _
                rw [Sem.run_bind, HLA.out]
                rfl
              try simp only [Act.put, List.getElem_toArray, List.getElem_cons_succ, List.getElem_cons_zero, List.setIfInBounds_toArray, List.set_cons_zero, List.set_cons_succ]
              go_wp2_with fail
              refine (HEN.out _).mono ?_
              rintro e w8 ⟨rfl, f8⟩
              have HXE := Lib.hid (HXA.out.keep f8 (by simp))
              have HBD := Lib.hid (HBA.out.keep f8 (by simp))
              have HFE := Lib.hid (HFA.out.trans (f8.mono (fun _ h => by cases h)) (fun k hk _ => hk) : Fr [b] w6 w8)
              clear f8
              obtain ⟨en, hen⟩ : ∃ z, o.ended = z := ⟨_, rfl⟩
              rw [hen]
              have HED := Lib.hid hen
              clear hen HXA HFA HBA HLA HEN HLE
              cases en with
              | false =>
                go_wp2
                go_roundw
                case rel => exact ⟨_, q + 1, _, rfl, by go_num, by omega, HT.out.turn HFE.out (by rw [show upA o x = upT o x from by unfold upT; rw [if_neg (by rw [HED.out]; simp)]] at HXE; exact HXE.out) (upT_lim o HLIM.out HOO.out.2.2), by rw [HSU.out, ← HD.out, HSTEP.out]⟩
                case measure => simp [intOf]; omega
              | true =>
                have hue := upA_e o x
                have qd := HLIM.out.d
                have y4 := HXE.out.c4
                have yz := HXE.out.fz
                rw [hue.1] at y4
                clear hue
                go_upto_region 19 with fail
                obtain ⟨w9, hw9⟩ : ∃ z, w8.setCell ⟨b, 4, none⟩ (.int .i64 (x.ended + 1)) = z := ⟨_, rfl⟩
                obtain ⟨y, hy⟩ : ∃ y, upB o (upA o x) = y := ⟨_, rfl⟩
                have HX9 := Lib.hid (show TkAt w9 b y from by rw [← hw9, ← hy]; have := HXE.out.set4 (x.ended + 1); rw [← (upA_e o x).1] at this ⊢; exact this)
                have HF9 := Lib.hid (show Fr [b] w6 w9 from by rw [← hw9]; exact HFE.out.setCell (fun _ => by simp) _)
                have HB9 := Lib.hid (show EvBlk w9 E o from by rw [← hw9]; exact HBD.out.keep ((Fr.refl [b] w8).setCell (fun _ => by simp) _) (by simpa using HBE.out.symm))
                have HY := Lib.hid (show y.failed = x.failed ∧ y.read = x.read ∧ y.written = x.written from by rw [← hy]; exact (upA_e o x).2)
                have HUT := Lib.hid (show upT o x = upE o (upD o (upC o y)) from by rw [← hy]; unfold upT; rw [if_pos HED.out])
                rw [hw9]
                clear hw9 hy HXE HFE HBD y4 yz qd
                have g18 := HB9.out.c 18 _ rfl
                have y5 := HX9.out.c5
                have yz := HX9.out.fz
                have qe := HLIM.out.e
                rw [HY.out.1] at y5
                go_upto_if 95 with fail
                go_cut [] from 92 to 102 (fun wz => TkAt wz b (upC o y) ∧ Fr [b] w9 wz)
                case first =>
                  cases h1 : (o.eErr == 0) with
                  | true =>
                    have n1 : o.eErr = 0 := beq_iff_eq.1 h1
                    have HU := Lib.hid (show upC o y = y from by unfold upC; rw [if_pos h1])
                    go_wp2
                    go_meet
                    exact ⟨by rw [HU.out]; exact HX9.out, Fr.refl _ _⟩
                  | false =>
                    have n1 : ¬ o.eErr = 0 := beq_eq_false_iff_ne.1 h1
                    have b1 : (o.eErr != 0) = true := by rw [bne, h1]; rfl
                    have HU := Lib.hid (show upC o y = { y with failed := x.failed + 1 } from by unfold upC; rw [if_neg (by rw [h1]; simp), HY.out.1])
                    go_wp2
                    go_meet
                    exact ⟨by rw [HU.out]; exact HX9.out.set5 _, (Fr.refl _ _).setCell (fun _ => by simp) _⟩
                case rest =>
                  obtain ⟨hXc, hFc⟩ := hcut
                  obtain ⟨wA, rfl⟩ : ∃ z, z = wc := ⟨wc, rfl⟩
                  have HXC := Lib.hid hXc
                  have HFC := Lib.hid hFc
                  have HBC := Lib.hid (HB9.out.keep hFc (by simpa using HBE.out.symm))
                  clear hXc hFc g18 y5 yz qe
                  have g17 := HBC.out.c 17 _ rfl
                  have g20 := HBC.out.c 20 _ rfl
                  have y6 := HXC.out.c6
                  have yz := HXC.out.fz
                  have qf := HLIM.out.f
                  have hoo := HOO.out.2.2
                  rw [(upC_e o y).1, HY.out.2.1] at y6
                  go_upto_if 106 with fail
                  go_cut [] from 103 to 117 (fun wz => TkAt wz b (upD o (upC o y)) ∧ Fr [b] wA wz)
                  case first =>
                    cases h1 : (o.eKind == 5) with
                    | false =>
                      have n1 : ¬ o.eKind = 5 := beq_eq_false_iff_ne.1 h1
                      have HU := Lib.hid (show upD o (upC o y) = upC o y from by unfold upD; rw [if_neg (by rw [h1]; simp)])
                      go_wp2
                      go_meet
                      exact ⟨by rw [HU.out]; exact HXC.out, Fr.refl _ _⟩
                    | true =>
                      have n1 : o.eKind = 5 := beq_iff_eq.1 h1
                      have HU := Lib.hid (show upD o (upC o y) = { upC o y with read := x.read + (o.eD.2.1 : Int) } from by unfold upD; rw [if_pos h1, (upC_e o y).1, HY.out.2.1])
                      obtain ⟨Y, hY⟩ : ∃ Y, upC o y = Y := ⟨_, rfl⟩
                      have HYE := Lib.hid hY
                      rw [hY] at HU HXC
                      clear hY
                      go_upto_region 22 with fail
                      go_region
                      all_goals go_wp2
                      all_goals go_meet
                      case' rel => skip
                      all_goals exact ⟨by rw [HYE.out, HU.out]; exact HXC.out.set6 _, ((Fr.refl [b] wA).setCell (fun _ => by simp) _).drew⟩
                  case rest =>
                    obtain ⟨hXd, hFd⟩ := hcut
                    obtain ⟨wB, rfl⟩ : ∃ z, z = wc := ⟨wc, rfl⟩
                    have HXD := Lib.hid hXd
                    have HFD := Lib.hid hFd
                    have HBD := Lib.hid (HBC.out.keep hFd (by simpa using HBE.out.symm))
                    clear hXd hFd g17 g20 y6 yz qf hoo
                    have g17 := HBD.out.c 17 _ rfl
                    have g19 := HBD.out.c 19 _ rfl
                    have y7 := HXD.out.c7
                    have yz := HXD.out.fz
                    have qg := HLIM.out.g
                    rw [upD_e, (upC_e o y).2, HY.out.2.2] at y7
                    obtain ⟨Y, hY⟩ : ∃ Y, upD o (upC o y) = Y := ⟨_, rfl⟩
                    have hYw : Y.written = x.written := by rw [← hY, upD_e, (upC_e o y).2, HY.out.2.2]
                    rw [hY] at HUT HXD
                    have HYW := Lib.hid hYw
                    clear hYw hY
                    go_upto_region 23 with fail
                    go_cut [133] from 118 to 133 (fun s wz => s = .bool ((o.eKind == 6) && (decide (0 ≤ o.eN) && decide (o.eN ≤ 65536))) ∧ wz = wB)
                    case first =>
                      cases h1 : (o.eKind == 6) with
                      | false =>
                        have n1 : ¬ o.eKind = 6 := beq_eq_false_iff_ne.1 h1
                        have d1 : decide (o.eKind = 6) = false := decide_eq_false n1
                        have HK := Lib.hid (show ((o.eKind == 6) && (decide (0 ≤ o.eN) && decide (o.eN ≤ 65536))) = false from by rw [h1]; rfl)
                        go_wp2
                        go_meet
                        exact ⟨by rw [HK.out], rfl⟩
                      | true =>
                        have n1 : o.eKind = 6 := beq_iff_eq.1 h1
                        cases h2 : decide (0 ≤ o.eN) with
                        | false =>
                          have n2 : ¬ 0 ≤ o.eN := of_decide_eq_false h2
                          have HK := Lib.hid (show ((o.eKind == 6) && (decide (0 ≤ o.eN) && decide (o.eN ≤ 65536))) = false from by rw [h1, h2]; rfl)
                          go_wp2
                          go_meet
                          exact ⟨by rw [HK.out], rfl⟩
                        | true =>
                          have n2 : 0 ≤ o.eN := of_decide_eq_true h2
                          cases h3 : decide (o.eN ≤ 65536) with
                          | false =>
                            have n3 : ¬ o.eN ≤ 65536 := of_decide_eq_false h3
                            have HK := Lib.hid (show ((o.eKind == 6) && (decide (0 ≤ o.eN) && decide (o.eN ≤ 65536))) = false from by rw [h1, h2, h3]; rfl)
                            go_wp2
                            go_meet
                            exact ⟨by rw [HK.out], rfl⟩
                          | true =>
                            have n3 : o.eN ≤ 65536 := of_decide_eq_true h3
                            have HK := Lib.hid (show ((o.eKind == 6) && (decide (0 ≤ o.eN) && decide (o.eN ≤ 65536))) = true from by rw [h1, h2, h3]; rfl)
                            go_wp2
                            go_meet
                            exact ⟨by rw [HK.out], rfl⟩
                    case rest =>
                      obtain ⟨rfl, hwc⟩ := hcut
                      subst wc
                      go_upto_if 133 with fail
                      obtain ⟨wr6, hwr6⟩ : ∃ z, ((o.eKind == 6) && (decide (0 ≤ o.eN) && decide (o.eN ≤ 65536))) = z := ⟨_, rfl⟩
                      rw [hwr6]
                      have hn6 : wr6 = true → 0 ≤ o.eN ∧ o.eN ≤ 65536 := by
                        rw [← hwr6]
                        simp only [Bool.and_eq_true, decide_eq_true_eq]
                        exact fun h => h.2
                      have HW6 := Lib.hid hwr6
                      clear hwr6
                      cases wr6 with
                      | false =>
                        have HU := Lib.hid (show upE o Y = Y from by unfold upE; rw [if_neg (by rw [HW6.out]; simp)])
                        have hFF : Fr [b] w6 wB := (((HF9.out.trans HFC.out (fun _ h _ => h)).trans HFD.out (fun _ h _ => h)).trans (Fr.refl _ _) (fun _ h _ => h))
                        have HFF := Lib.hid hFF
                        have HXE := Lib.hid (show TkAt wB b (upE o Y) from by rw [HU.out]; exact HXD.out)
                        clear hFF g17 g19 y7 yz qg
                        go_wp2
                        go_roundw
                        case rel => exact ⟨_, q + 1, _, rfl, by go_num, by omega, HT.out.turn HFF.out (by rw [HUT.out]; exact HXE.out) (upT_lim o HLIM.out HOO.out.2.2), by rw [HSU.out, ← HD.out, HSTEP.out]⟩
                        case measure => simp [intOf]; omega
                      | true =>
                        have hn7 := hn6 rfl
                        have HU := Lib.hid (show upE o Y = { Y with written := x.written + o.eN } from by unfold upE; rw [if_pos HW6.out, HYW.out])
                        clear hn6
                        go_upto_region 24 with fail
                        go_region
                        have hFF : Fr [b] w6 (wB.setCell ⟨b, 7, none⟩ (.int .i64 (x.written + o.eN))).drew := (((HF9.out.trans HFC.out (fun _ h _ => h)).trans HFD.out (fun _ h _ => h)).trans (((Fr.refl [b] wB).setCell (fun _ => by simp) _).drew) (fun _ h _ => h))
                        have HFF := Lib.hid hFF
                        have HXE := Lib.hid (show TkAt (wB.setCell ⟨b, 7, none⟩ (.int .i64 (x.written + o.eN))).drew b (upE o Y) from by rw [HU.out]; exact HXD.out.set7 _)
                        clear hFF g17 g19 y7 yz qg
                        go_wp2
                        go_roundw
                        case rel => exact ⟨_, q + 1, _, rfl, by go_num, by omega, HT.out.turn HFF.out (by rw [HUT.out]; exact HXE.out) (upT_lim o HLIM.out HOO.out.2.2), by rw [HSU.out, ← HD.out, HSTEP.out]⟩
                        case measure => simp [intOf]; omega
    · have hqn : q = n := by omega
      subst hqn
      have hDx : tdPlain D = tdOf xs := by
        have := HD.out
        rwa [List.take_of_length_le (by rw [HM.out]; exact Nat.le_refl _)] at this
      have hDl : D.length ≤ 5000 := by
        have h1 := tdOf_len xs
        rw [← hDx, HM.out] at h1
        simp only [tdPlain, List.length_map] at h1
        omega
      have HDX := Lib.hid hDx
      have f1 : Fr [] wr (wr.alloc (.cells #[.map (some M)] 140)) := (Fr.refl [] wr).alloc _
      have HS1 := Lib.hid (HS.out.new f1)
      obtain ⟨D0, hown, hperm, hsize⟩ := MapIs.ownsKeys (D.map (·.1)) HS1.out.r.map (tdPairs_keys D) (fun k hk => by
        obtain ⟨y, hy, rfl⟩ := List.mem_map.1 hk
        exact HS.out.keys y hy) (by rw [List.length_map]; omega)
      rw [List.length_map] at hsize
      have hS := sorted_any (H := Unit) M _ wr.heap.size D0 (fun _ => some (.nil, [])) _ (by simp) (by simp) hown (by rw [hsize]; unfold maxLen; omega) (by rw [hsize]; omega)
      have HSO := Lib.hid hS
      have HPM := Lib.hid hperm
      have HDL := Lib.hid hDl
      clear hown hS f1 hperm hsize hDl hDx HD
      go_wp2_with fail
      refine (keys_any _ _).mono ?_
      rintro e w2 ⟨rfl, rfl⟩
      go_wp2_with fail
      refine HSO.out.mono ?_
      rintro e w3 ⟨v3, ss, rfl, hp, hrow, -, hb⟩
      obtain ⟨L, hL⟩ : ∃ L, ss.mergeSort (fun x y => decide (x ≤ y)) = L := ⟨_, rfl⟩
      rw [hL] at hrow
      have hLk : (D.map (·.1)).mergeSort (fun x y => decide (x ≤ y)) = L := by
        rw [← hL]
        exact mergeSort_of_perm_i (hp.trans HPM.out).symm
      have hLl : L.length = ss.length := by rw [← hL, List.length_mergeSort]
      have hsl : ss.length = D.length := by rw [(hp.trans HPM.out).length_eq, List.length_map]
      have hmem : ∀ k ∈ L, ∃ A b x B, D = A ++ (k, b, x) :: B := by
        intro k hk
        rw [← hLk, List.mem_mergeSort] at hk
        rcases td_split D k with h | h
        · exact h
        · obtain ⟨y, hy, rfl⟩ := List.mem_map.1 hk
          exact absurd rfl (h y hy)
      have HTO := Lib.hid (show tasksOf (tdPlain D) = L.map (tkOf (tdPlain D)) from by unfold tasksOf; rw [tdPlain_keys, hLk])
      have HMEM := Lib.hid hmem
      have hb3 : Fr [] (wr.alloc (.cells #[.map (some M)] 140)) w3 := Fr.of_below hb
      have HS3 := Lib.hid (HS1.out.new hb3)
      obtain ⟨m, hm⟩ : ∃ m, ss.length = m := ⟨_, rfl⟩
      rw [hm] at hrow hLl hsl
      have HLL := Lib.hid hLl
      have HML := Lib.hid (show m ≤ 5000 from by rw [hsl]; exact HDL.out)
      have HRW := Lib.hid hrow
      obtain ⟨a3, c3, rfl⟩ : ∃ a c, v3 = .slice a m c := row_val hrow
      clear hp hrow hb hL hLk hLl hsl hmem hm hb3 HSO HPM HS1 HDL
      obtain ⟨Z, hZ⟩ : ∃ Z, w3.heap.size = Z := ⟨_, rfl⟩
      have HZ := Lib.hid hZ
      clear hZ
      obtain ⟨i0, hi, hz0, hz1, hz2⟩ := info_parts infoTk
      have hu52 := Tryz.underlying52
      go_wp2
      go_loopw [8, 149] (fun v i wz => ∃ (wzz : World) (p : Nat) (aw : Option Addr) (cw : Nat), wzz = wz ∧ i = .int .i64 p ∧ p ≤ m ∧ v = .slice aw p cw ∧ wz.ownsRow Z 58 8 (.slice aw p cw) p (tkCells ((L.take p).map (tkOf (tdPlain D)))) ∧ Fr [] w3 wz) (fun _ i _ => m - (intOf i).toNat)
      case atStart => exact ⟨_, 0, none, 0, rfl, rfl, by omega, rfl, World.ownsRow_nil _ _ _ _, Fr.refl _ _⟩
      case round =>
        obtain ⟨wz, p, aw, cw, hwz, rfl, hp, rfl, hR, hF⟩ := hrel
        subst hwz
        have HR2 := Lib.hid hR
        have HF2 := Lib.hid hF
        clear hR hF
        by_cases hlt : p < m
        · have hx := List.getElem?_eq_getElem (l := L) (i := p) (by rw [HLL.out]; exact hlt)
          obtain ⟨k, hk⟩ : ∃ k, L[p]'(by rw [HLL.out]; exact hlt) = k := ⟨_, rfl⟩
          rw [hk] at hx
          obtain ⟨A, b, x, B, hDe⟩ := HMEM.out k (List.mem_of_getElem? hx)
          have HSZ := Lib.hid (HS3.out.new HF2.out)
          have hmap := HSZ.out.r
          rw [hDe] at hmap
          have hX := hmap.at' (k, b, x) (by simp)
          dsimp only at hX
          have hlk := hmap.map.hit keyInt (t := 140) (e := 141) Tryz.underlying140 (x := .int .i64 k) (v := .pointer (some ⟨b, 0, none⟩)) (by simp [tdPairs]) false
          have hov : tkOf (tdPlain D) k = x := by
            unfold tkOf
            rw [hDe, td_lookup hmap.others.1]
            rfl
          have hcell : ∃ g, a3 = some ⟨g, 0, none⟩ ∧ wz.cell? ⟨g, p, none⟩ = some (.int .i64 k) := by
            have h3 := row_fr HRW.out HF2.out
            rcases h3.2 with ⟨h1, h2⟩ | ⟨g, cap, cur, h1, h2, h3', _⟩
            · omega
            · simp only [Value.slice.injEq] at h1
              refine ⟨g, h1.1, ?_⟩
              have := World.ownsRow.cells h3 (g := g) (by rw [h1.1]; rfl) p (.int .i64 k) (by rw [List.getElem?_map, hx]; rfl)
              rw [Addr.add_lit] at this
              simpa using this
          obtain ⟨g, rfl, hcell⟩ := hcell
          have x0 := hX.c0
          have x1 := hX.c1
          have x2 := hX.c2
          have x3 := hX.c3
          have x4 := hX.c4
          have x5 := hX.c5
          have x6 := hX.c6
          have x7 := hX.c7
          have HTK := Lib.hid (show tkCells ((L.take (p + 1)).map (tkOf (tdPlain D))) = tkCells ((L.take p).map (tkOf (tdPlain D))) ++ tkVals x from by
            rw [List.take_add_one, hx]
            simp only [Option.toList_some, List.map_append, List.map_cons, List.map_nil, tkCells_app, tkCells, hov, List.append_nil])
          have HP := Lib.hid hp
          have fA : Fr [] wz (wz.alloc (.cells #[.int .i64 x.t, .int .i64 x.calls, .int .i64 x.refused, .int .i64 x.steps, .int .i64 x.ended, .int .i64 x.failed, .int .i64 x.read, .int .i64 x.written] 58)) := (Fr.refl [] wz).alloc _
          have HRA := Lib.hid (row_fr HR2.out fA)
          have HOB := Lib.hid (show ∀ k, (Value.slice aw p cw).ownBlock = some k → Z ≤ k from fun k e => by
            rcases HR2.out.2 with ⟨h1, h2⟩ | ⟨gg, cp, cur, h1, h2, h3, _⟩
            · rw [h1] at e
              cases e
            · rw [h1] at e
              cases e
              exact h2)
          have hZs : Z ≤ (wz.alloc (.cells #[.int .i64 x.t, .int .i64 x.calls, .int .i64 x.refused, .int .i64 x.steps, .int .i64 x.ended, .int .i64 x.failed, .int .i64 x.read, .int .i64 x.written] 58)).heap.size := by
            have h1 := (HF2.out.step fA).size
            rw [HZ.out] at h1
            exact h1
          have HZS := Lib.hid hZs
          have HFA := Lib.hid (HF2.out.step fA)
          have hml := HML.out
          clear hX hmap hx hk hDe hov fA hZs
          go_wp2_with (first
            | (at_builtin; refine wpList_append_own _ rfl _ _ 52 rfl Z 58 i0 _ 8 64 Tryz.underlying52 hi hz0 hz1 hz2 rfl (by omega) _ _ _ rfl HRA.out ⟨wz.heap.size, 0, none⟩ 1 1 (tkVals x) rfl rfl (tkVals_new wz x) (tkVals_one x) (by unfold maxLen; omega) (by omega) HZS.out ?_; intro v' w4 hown' hgrow hnil; obtain ⟨a', cap', rfl⟩ := row_val' hown'; have HGR := Lib.hid hgrow; have HOW := Lib.hid hown'; clear hgrow hown' hnil)
            | fail)
          go_roundw
          case rel => exact ⟨_, p + 1, a', cap', rfl, by go_num, by omega, rfl, by rw [HTK.out]; exact HOW.out, HFA.out.trans (grownFr (S := (Value.slice aw p cw).ownBlock.toList) HGR.out (fun k e => by have e' : (Value.slice aw p cw).ownBlock = some k := e; rw [e']; simp)) (fun k hk hl => by
            have := HOB.out k (by simpa using hk)
            rw [HZ.out] at hl
            omega)⟩
          case measure => simp [intOf]; omega
        · have hpm : p = m := by omega
          subst hpm
          have HTR := Lib.hid (show TkRow wz (.slice aw p cw) (L.map (tkOf (tdPlain D))) from by
            have h1 := HR2.out
            rw [List.take_of_length_le (by rw [HLL.out]; exact Nat.le_refl _)] at h1
            refine (TkRow.of (lo := Z) ?_).1
            rw [List.length_map, HLL.out]
            exact h1)
          have HFZ := Lib.hid (HS3.out.fr.step HF2.out)
          go_wp2
          go_ret2
          exact ⟨_, rfl, by rw [← HDX.out, HTO.out]; exact HTR.out, HFZ.out⟩
end Go.Proofs.YtllmejkcohfbiaaGreatDoor
namespace Go.Proofs.YtllmejkcohfbiaaGreatDoor
open Go.RowKit Go.Maps Go.Shelf Go.Sort Go.Lib
set_option linter.unusedVariables false
set_option linter.unusedSimpArgs false
set_option maxRecDepth 100000
set_option maxHeartbeats 16000000

theorem TkRow.cells {w : World} {v : Value} {xs : List Tk} (h : TkRow w v xs) {i : Nat} {x : Tk} (hx : xs[i]? = some x) : ∃ g off cap, v = .slice (some ⟨g, off, none⟩) xs.length cap ∧ g < w.heap.size ∧
    w.cell? ⟨g, off + i * 8, none⟩ = some (.int .i64 x.t) ∧ w.cell? ⟨g, off + i * 8 + 1, none⟩ = some (.int .i64 x.calls) ∧ w.cell? ⟨g, off + i * 8 + 2, none⟩ = some (.int .i64 x.refused) ∧ w.cell? ⟨g, off + i * 8 + 3, none⟩ = some (.int .i64 x.steps) ∧ w.cell? ⟨g, off + i * 8 + 4, none⟩ = some (.int .i64 x.ended) ∧ w.cell? ⟨g, off + i * 8 + 5, none⟩ = some (.int .i64 x.failed) ∧ w.cell? ⟨g, off + i * 8 + 6, none⟩ = some (.int .i64 x.read) ∧ w.cell? ⟨g, off + i * 8 + 7, none⟩ = some (.int .i64 x.written) := by
  rcases h with ⟨rfl, _⟩ | ⟨g, off, cap, rfl, h1, h2⟩
  · simp at hx
  · exact ⟨g, off, cap, rfl, h1, h2 i x hx⟩
theorem dn_t (n : Int) (l : List Ev) : (dnOf n l).t = n := by
  have h1 : ∀ (v : Ev) (x : Tk), (dnStep n x v).t = x.t := by
    intro v x
    unfold dnStep
    repeat' split
    · exact upT_t v x
    · rfl
    · rfl
  have : ∀ (l : List Ev) x, (l.foldl (dnStep n) x).t = x.t := by
    intro l
    induction l with
    | nil => intro x; rfl
    | cons v r ih => intro x; rw [List.foldl_cons, ih, h1]
  rw [dnOf, this]
  rfl
theorem tasks_big (v : Value) (xs : List Ev) (w : World) (he : EnvR w) (h : EvRow w v xs) (hb : lightB xs = false) :
    Calls Tryz.prog 7 #[v] w fun e w' => e = .returned (.bool true) ∧ Fr [] w w' := by
  have HLI := Lib.hid (light_any v xs w h)
  rw [hb] at HLI
  have HK := Lib.hid (known_any w he)
  obtain ⟨a, cap, rfl⟩ := h.val
  clear he h hb
  go_enter Tryz.func7, Tryz.ntmps7
  go_wp2_with fail
  refine HLI.out.mono ?_
  rintro e w1 ⟨rfl, rfl⟩
  go_wp2_with fail
  refine HK.out.mono ?_
  rintro e w1 ⟨rfl, f1⟩
  go_wp2
  go_ret
  exact ⟨rfl, f1⟩
/-- The best so far, and whether there is one. -/
def BestV (b : Option Int) (v1 v2 : Value) : Prop := (b = none ∧ v1 = .int .i64 0 ∧ v2 = .bool false) ∨ ∃ t, b = some t ∧ v1 = .int .i64 t ∧ v2 = .bool true
theorem tasks_main (v : Value) (xs : List Ev) (w : World) (he : EnvR w) (h : EvRow w v xs) (hb : lightB xs = true) (hok : ∀ x ∈ xs, I64 x.task ∧ I64 x.eN) :
    Calls Tryz.prog 7 #[v] w fun e w' => e = .returned (.bool true) ∧ Fr [] w w' := by
  have hlen : xs.length ≤ 60 := by
    unfold lightB at hb
    exact of_decide_eq_true (Bool.and_eq_true_iff.1 hb).2
  have hsl : ∀ x ∈ xs, x.eD.2.1 ≤ 300 := by
    unfold lightB at hb
    have := (Bool.and_eq_true_iff.1 hb).1
    rw [List.take_of_length_le hlen] at this
    unfold slim at this
    rw [List.all_eq_true] at this
    exact fun x hx => of_decide_eq_true (this x hx)
  have hev : ∀ x ∈ xs, evOk x := fun x hx => ⟨(hok x hx).1, (hok x hx).2, by have := hsl x hx; omega⟩
  have HLI := Lib.hid (light_any v xs w h)
  rw [hb] at HLI
  have HE := Lib.hid he
  have HR := Lib.hid h
  have HOF := Lib.hid (ofTasks_any v xs w h (by omega) hev)
  rw [tasksOf_dn] at HOF
  have HDN := Lib.hid (fun (k : Int) (hk : I64 k) (W : World) (f : Fr [] w W) => done_any v xs k hk W (h.new f) (by omega) hev)
  have HOK := Lib.hid hok
  obtain ⟨a, cap, rfl⟩ := h.val
  obtain ⟨n, hnl⟩ : ∃ n, xs.length = n := ⟨_, rfl⟩
  have HM := Lib.hid hnl
  rw [hnl] at HLI HOF HDN HR hlen ⊢
  have hsn : (taskS xs).length ≤ n := by rw [← hnl]; exact taskS_len xs
  obtain ⟨m, hm⟩ : ∃ m, (taskS xs).length = m := ⟨_, rfl⟩
  rw [hm] at hsn
  have HMM := Lib.hid hm
  clear he h hb hok hsl hev hnl hm
  go_enter Tryz.func7, Tryz.ntmps7
  go_wp2_with fail
  refine HLI.out.mono ?_
  rintro e w1 ⟨rfl, rfl⟩
  clear HLI
  go_wp2_with fail
  refine HOF.out.mono ?_
  rintro e w2 ⟨v', rfl, hrow, f2⟩
  obtain ⟨a', c', rfl⟩ := hrow.val
  rw [List.length_map, HMM.out] at hrow ⊢
  have HRW := Lib.hid hrow
  have HF2 := Lib.hid f2
  clear hrow f2 HOF
  go_wp2
  go_loopw [5, 6] (fun s5 s6 wr => ∃ (wz : World) (p : Nat), wz = wr ∧ s5 = .int .i64 p ∧ s6 = .int .i64 p ∧ p ≤ n ∧ p ≤ m ∧ Fr [] w2 wr) (fun _ s6 _ => n - (intOf s6).toNat)
  case atStart => exact ⟨_, 0, rfl, rfl, rfl, by omega, by omega, Fr.refl _ _⟩
  case round =>
    obtain ⟨wr, p, hwz, rfl, rfl, hpn, hpm, hF⟩ := hrel
    subst hwz
    have HF := Lib.hid hF
    clear hF
    obtain ⟨lo, hlo⟩ : ∃ lo, loOf xs p = lo := ⟨_, rfl⟩
    have hbest := best_at xs p (by rw [HMM.out]; exact hpm)
    rw [hlo] at hbest
    have HLO := Lib.hid hlo
    have HBEST := Lib.hid hbest
    clear hlo hbest
    by_cases hlt : p < n
    · go_wp2
      go_loopw [7, 8, 9] (fun s7 s8 s9 wq => ∃ (wz : World) (q : Nat), wz = wq ∧ s9 = .int .i64 q ∧ q ≤ n ∧ BestV (bestOf lo (xs.take q)) s7 s8 ∧ Fr [] w2 wq) (fun _ _ s9 _ => n - (intOf s9).toNat)
      case atStart => exact ⟨_, 0, rfl, rfl, by omega, .inl ⟨rfl, rfl, rfl⟩, HF.out⟩
      case round =>
        obtain ⟨wq, q, hwz, rfl, hq, hbv, hF⟩ := hrel
        subst hwz
        have HFq := Lib.hid hF
        clear hF
        by_cases hlq : q < n
        · have hx := List.getElem?_eq_getElem (l := xs) (i := q) (by rw [HM.out]; exact hlq)
          obtain ⟨o, hoe⟩ : ∃ o, xs[q]'(by rw [HM.out]; exact hlq) = o := ⟨_, rfl⟩
          rw [hoe] at hx
          rcases HR.out.new (HF2.out.step HFq.out) with ⟨e1, _⟩ | ⟨g, off, cap', hv, hg, hcells⟩
          · rw [e1] at hx
            simp at hx
          rw [HM.out] at hv
          simp only [Value.slice.injEq] at hv
          obtain ⟨rfl, _, rfl⟩ := hv
          have hld := ev_load (hcells q o hx)
          obtain ⟨w5, hst, hblk, hfr⟩ := ev_store (w := wq.alloc (.cells #[.int .i64 0, .int .i64 0, .int .i64 0, .int .i64 0, .int .i64 0, .int .i64 0, .int .i64 0, .string ⟨#[]⟩, .int .i64 0, .slice none 0 0, .int .i64 0, .int .i64 0, .int .i64 0, .int .u64 0, .int .i64 0, .bool false, .int .i64 0, .int .i64 0, .int .i64 0, .int .i64 0, .slice none 0 0, .int .i64 0, .int .i64 0, .int .i64 0, .int .i64 0, .string ⟨#[]⟩, .int .i64 0, .int .u64 0, .slice none 0 0, .int .u64 0] 103)) (b := wq.heap.size) o (World.alloc_heap_new wq _) rfl
          have f5 : Fr [] wq w5 := ((Fr.refl [] wq).alloc _).trans hfr (fun x hx hl => by
            rw [List.mem_singleton] at hx
            omega)
          have HF5 := Lib.hid (HFq.out.step f5)
          have HBS := Lib.hid (bestOf_succ lo xs q o hx)
          have HLD := Lib.hid hld
          have HST := Lib.hid hst
          have HBK := Lib.hid hblk
          have HBV := Lib.hid hbv
          obtain ⟨V, hV⟩ : ∃ V, evV o = V := ⟨_, rfl⟩
          rw [hV] at HLD HST
          clear hx hoe hcells hld hst hblk hfr hV f5 hbv
          go_upto_region 14 with fail
          refine wp_region_lit ?_
          refine wpList_plain rfl (fun K hK => ?_)
          go_simp
          refine hK _ _ ?_
          clear hK K
          refine wpList_plain rfl (fun K hK => ?_)
          go_simp
          refine hK _ _ ?_
          clear hK K
          refine wpList_plain rfl (fun K hK => ?_)
          go_simp
          refine hK _ _ ?_
          clear hK K
          refine wpList_val rfl (v := V) (w' := wq) ?_ ?_
          · show Sem.run Tryz.prog ((Instr.loadAt 103 (.pointer (some ⟨g, off + q * 30, none⟩))) >>= fun x => pure (Next.value x)) wq = _
            rw [Sem.run_bind, HLD.out]
            rfl
          refine wpList_plain rfl (fun K hK => ?_)
          go_simp
          refine hK _ _ ?_
          clear hK K
          refine wpList_skp rfl (w' := w5) ?_ ?_
          · show Sem.run Tryz.prog ((Instr.storeAt 103 (.pointer (some ⟨wq.heap.size, 0, none⟩)) V) >>= fun _ => pure Next.skip) _ = _
            rw [Sem.run_bind, HST.out]
            rfl
          refine wpList_nil ?_
          try simp only [Act.put, List.getElem_toArray, List.getElem_cons_succ, List.getElem_cons_zero, List.setIfInBounds_toArray, List.set_cons_zero, List.set_cons_succ]
          obtain ⟨E, hE⟩ : ∃ E, wq.heap.size = E := ⟨_, rfl⟩
          rw [hE] at HBK
          simp only [hE]
          have HG := Lib.hid hg
          clear hE HLD HST hg
          have e0 := HBK.out.c 0 _ rfl
          have e14 := HBK.out.c 14 _ rfl
          go_upto_region 15 with fail
          go_cut [11] from 39 to 51 (fun s wz => s = .bool o.counts ∧ wz = w5)
          case first =>
            cases h1 : (o.kind == 1) with
            | true =>
              have n1 : o.kind = 1 := beq_iff_eq.1 h1
              have HK := Lib.hid (show o.counts = true from by unfold Ev.counts; rw [h1]; rfl)
              go_wp2
              go_meet
              exact ⟨by rw [HK.out], rfl⟩
            | false =>
              have n1 : ¬ o.kind = 1 := beq_eq_false_iff_ne.1 h1
              have d1 : decide (o.kind = 1) = false := decide_eq_false n1
              cases h2 : (o.kind == 2) with
              | false =>
                have n2 : ¬ o.kind = 2 := beq_eq_false_iff_ne.1 h2
                have d2 : decide (o.kind = 2) = false := decide_eq_false n2
                have HK := Lib.hid (show o.counts = false from by unfold Ev.counts; rw [h1, h2]; rfl)
                go_wp2
                go_meet
                exact ⟨by rw [HK.out], rfl⟩
              | true =>
                have n2 : o.kind = 2 := beq_iff_eq.1 h2
                cases h3 : (o.err == 0) with
                | true =>
                  have n3 : o.err = 0 := beq_iff_eq.1 h3
                  have HK := Lib.hid (show o.counts = true from by unfold Ev.counts; rw [h1, h2, h3]; rfl)
                  go_wp2
                  go_meet
                  exact ⟨by rw [HK.out], rfl⟩
                | false =>
                  have n3 : ¬ o.err = 0 := beq_eq_false_iff_ne.1 h3
                  have HK := Lib.hid (show o.counts = false from by unfold Ev.counts; rw [h1, h2, h3]; rfl)
                  go_wp2
                  go_meet
                  exact ⟨by rw [HK.out], rfl⟩
          case rest =>
            obtain ⟨rfl, hwc⟩ := hcut
            subst wc
            have e1 := HBK.out.c 1 _ rfl
            obtain ⟨cb, hcb⟩ : ∃ z, o.counts = z := ⟨_, rfl⟩
            rw [hcb]
            have HCB := Lib.hid hcb
            clear hcb e0 e14
            go_upto_region 16 with fail
            go_cut [77] from 52 to 77 (fun s wz => s = .bool (candB lo o && lessB (bestOf lo (xs.take q)) o) ∧ Fr [] w5 wz)
            case first =>
              rcases HBV.out with ⟨hbn, rfl, rfl⟩ | ⟨t, hbn, rfl, rfl⟩
              all_goals have HBN := Lib.hid hbn
              all_goals clear hbn
              · cases cb with
                | false =>
                  have HK := Lib.hid (show (candB lo o && lessB (bestOf lo (xs.take q)) o) = false from by unfold candB; rw [HCB.out]; rfl)
                  go_quiet (fail)
                  go_wp2
                  go_meet
                  exact ⟨by rw [HK.out], (Fr.refl [] w5).drewN _⟩
                | true =>
                  by_cases h0 : p = 0
                  · have hlo : lo = none := by rw [← HLO.out, h0]; rfl
                    have HCA := Lib.hid (show candB lo o = true from by unfold candB; rw [HCB.out, hlo]; rfl)
                    have z1 : ((p : Int) == 0) = true := beq_iff_eq.2 (by omega)
                    clear hlo
                    have HK := Lib.hid (show (candB lo o && lessB (bestOf lo (xs.take q)) o) = true from by rw [HBN.out, HCA.out]; rfl)
                    go_quiet (fail)
                    go_wp2
                    go_meet
                    exact ⟨by rw [HK.out], (Fr.refl [] w5).drewN _⟩
                  · have hp1 : p - 1 < (taskS xs).length := by rw [HMM.out]; omega
                    have hS := List.getElem?_eq_getElem hp1
                    obtain ⟨t0, ht0⟩ : ∃ z, (taskS xs)[p - 1]'hp1 = z := ⟨_, rfl⟩
                    rw [ht0] at hS
                    have hlo : lo = some t0 := by rw [← HLO.out]; unfold loOf; rw [if_neg h0, hS]
                    obtain ⟨g2, off2, cap2, hv, hg2, c0, _⟩ := (HRW.out.keep HF5.out (fun _ _ _ _ _ => by simp)).cells (i := p - 1) (x := dnOf t0 xs) (by rw [List.getElem?_map, hS]; rfl)
                    rw [dn_t] at c0
                    rw [List.length_map, HMM.out] at hv
                    simp only [Value.slice.injEq] at hv
                    obtain ⟨rfl, _, rfl⟩ := hv
                    have z1 : ((p : Int) == 0) = false := beq_eq_false_iff_ne.2 (by omega)
                    have z2 : decide ((p : Int) = 0) = false := decide_eq_false (by omega)
                    have z3 : ((p : Int) - 1).toNat = p - 1 := by omega
                    have z4 : (0 : Int) ≤ (p : Int) - 1 := by omega
                    have z5 : (p : Int) - 1 < (m : Int) := by omega
                    have HCX := Lib.hid (show candB lo o = decide (t0 < o.task) from by unfold candB; rw [HCB.out, hlo]; rfl)
                    clear hp1 hS ht0 hlo hg2
                    cases hg : decide (t0 < o.task) with
                    | false =>
                      have ng := of_decide_eq_false hg
                      have HK := Lib.hid (show (candB lo o && lessB (bestOf lo (xs.take q)) o) = false from by rw [HCX.out, hg]; rfl)
                      go_quiet (fail)
                      go_wp2
                      go_meet
                      exact ⟨by rw [HK.out], (Fr.refl [] w5).drewN _⟩
                    | true =>
                      have ng := of_decide_eq_true hg
                      have HCA := Lib.hid (show candB lo o = true from by rw [HCX.out, hg])
                      have HK := Lib.hid (show (candB lo o && lessB (bestOf lo (xs.take q)) o) = true from by rw [HBN.out, HCA.out]; rfl)
                      go_quiet (fail)
                      go_wp2
                      go_meet
                      exact ⟨by rw [HK.out], (Fr.refl [] w5).drewN _⟩
              · cases cb with
                | false =>
                  have HK := Lib.hid (show (candB lo o && lessB (bestOf lo (xs.take q)) o) = false from by unfold candB; rw [HCB.out]; rfl)
                  go_quiet (fail)
                  go_wp2
                  go_meet
                  exact ⟨by rw [HK.out], (Fr.refl [] w5).drewN _⟩
                | true =>
                  by_cases h0 : p = 0
                  · have hlo : lo = none := by rw [← HLO.out, h0]; rfl
                    have HCA := Lib.hid (show candB lo o = true from by unfold candB; rw [HCB.out, hlo]; rfl)
                    have z1 : ((p : Int) == 0) = true := beq_iff_eq.2 (by omega)
                    clear hlo
                    cases hl : decide (o.task < t) with
                    | true =>
                      have HK := Lib.hid (show (candB lo o && lessB (bestOf lo (xs.take q)) o) = true from by rw [HBN.out, HCA.out]; exact hl)
                      have nl := of_decide_eq_true hl
                      go_quiet (fail)
                      go_wp2
                      go_meet
                      exact ⟨by rw [HK.out], (Fr.refl [] w5).drewN _⟩
                    | false =>
                      have HK := Lib.hid (show (candB lo o && lessB (bestOf lo (xs.take q)) o) = false from by rw [HBN.out, HCA.out]; exact hl)
                      go_quiet (fail)
                      go_wp2
                      go_meet
                      exact ⟨by rw [HK.out], (Fr.refl [] w5).drewN _⟩
                  · have hp1 : p - 1 < (taskS xs).length := by rw [HMM.out]; omega
                    have hS := List.getElem?_eq_getElem hp1
                    obtain ⟨t0, ht0⟩ : ∃ z, (taskS xs)[p - 1]'hp1 = z := ⟨_, rfl⟩
                    rw [ht0] at hS
                    have hlo : lo = some t0 := by rw [← HLO.out]; unfold loOf; rw [if_neg h0, hS]
                    obtain ⟨g2, off2, cap2, hv, hg2, c0, _⟩ := (HRW.out.keep HF5.out (fun _ _ _ _ _ => by simp)).cells (i := p - 1) (x := dnOf t0 xs) (by rw [List.getElem?_map, hS]; rfl)
                    rw [dn_t] at c0
                    rw [List.length_map, HMM.out] at hv
                    simp only [Value.slice.injEq] at hv
                    obtain ⟨rfl, _, rfl⟩ := hv
                    have z1 : ((p : Int) == 0) = false := beq_eq_false_iff_ne.2 (by omega)
                    have z2 : decide ((p : Int) = 0) = false := decide_eq_false (by omega)
                    have z3 : ((p : Int) - 1).toNat = p - 1 := by omega
                    have z4 : (0 : Int) ≤ (p : Int) - 1 := by omega
                    have z5 : (p : Int) - 1 < (m : Int) := by omega
                    have HCX := Lib.hid (show candB lo o = decide (t0 < o.task) from by unfold candB; rw [HCB.out, hlo]; rfl)
                    clear hp1 hS ht0 hlo hg2
                    cases hg : decide (t0 < o.task) with
                    | false =>
                      have ng := of_decide_eq_false hg
                      have HK := Lib.hid (show (candB lo o && lessB (bestOf lo (xs.take q)) o) = false from by rw [HCX.out, hg]; rfl)
                      go_quiet (fail)
                      go_wp2
                      go_meet
                      exact ⟨by rw [HK.out], (Fr.refl [] w5).drewN _⟩
                    | true =>
                      have ng := of_decide_eq_true hg
                      have HCA := Lib.hid (show candB lo o = true from by rw [HCX.out, hg])
                      cases hl : decide (o.task < t) with
                      | true =>
                        have HK := Lib.hid (show (candB lo o && lessB (bestOf lo (xs.take q)) o) = true from by rw [HBN.out, HCA.out]; exact hl)
                        have nl := of_decide_eq_true hl
                        go_quiet (fail)
                        go_wp2
                        go_meet
                        exact ⟨by rw [HK.out], (Fr.refl [] w5).drewN _⟩
                      | false =>
                        have HK := Lib.hid (show (candB lo o && lessB (bestOf lo (xs.take q)) o) = false from by rw [HBN.out, HCA.out]; exact hl)
                        go_quiet (fail)
                        go_wp2
                        go_meet
                        exact ⟨by rw [HK.out], (Fr.refl [] w5).drewN _⟩
            case rest =>
              obtain ⟨rfl, hFw⟩ := hcut
              have HFW := Lib.hid (HF5.out.step hFw)
              have HB6 := Lib.hid (HBK.out.keep hFw (by simp))
              have f1 := HB6.out.c 1 _ rfl
              obtain ⟨r, hr⟩ : ∃ z, (candB lo o && lessB (bestOf lo (xs.take q)) o) = z := ⟨_, rfl⟩
              rw [hr]
              have HRR := Lib.hid hr
              clear hr hFw e1
              cases r with
              | true =>
                have HNB := Lib.hid (show BestV (bestOf lo (xs.take (q + 1))) (.int .i64 o.task) (.bool true) from by rw [HBS.out]; unfold bestStep; rw [if_pos HRR.out]; exact .inr ⟨_, rfl, rfl, rfl⟩)
                go_wp2
                go_roundw
                case rel => exact ⟨_, q + 1, rfl, by go_num, by omega, HNB.out, HFW.out⟩
                case measure => simp [intOf]; omega
              | false =>
                have hsame : bestOf lo (xs.take (q + 1)) = bestOf lo (xs.take q) := by rw [HBS.out]; unfold bestStep; rw [if_neg (by rw [HRR.out]; simp)]
                have hnb := HBV.out
                rw [← hsame] at hnb
                have HNB := Lib.hid hnb
                clear hsame hnb
                go_wp2
                go_roundw
                case rel => exact ⟨_, q + 1, rfl, by go_num, by omega, HNB.out, HFW.out⟩
                case measure => simp [intOf]; omega
        · have hqn : q = n := by omega
          subst hqn
          rw [List.take_of_length_le (by rw [HM.out]; exact Nat.le_refl _)] at hbv
          rw [HBEST.out] at hbv
          by_cases hlm : p < m
          · have hS : (taskS xs)[p]? = some ((taskS xs)[p]'(by rw [HMM.out]; exact hlm)) := List.getElem?_eq_getElem _
            obtain ⟨t, ht⟩ : ∃ t, (taskS xs)[p]'(by rw [HMM.out]; exact hlm) = t := ⟨_, rfl⟩
            rw [ht] at hS
            rw [hS] at hbv
            rcases hbv with ⟨h1, _, _⟩ | ⟨t', h1, rfl, rfl⟩
            · cases h1
            cases h1
            have hti : I64 t := by
              obtain ⟨u, hu, _, rfl⟩ := (taskS_mem xs t).1 (List.mem_of_getElem? hS)
              exact (HOK.out u hu).1
            obtain ⟨g, off, cap', hv, hg, c0, c1, c2, c3, c4, c5, c6, c7⟩ := (HRW.out.keep HFq.out (fun _ _ _ _ _ => by simp)).cells (i := p) (x := dnOf t xs) (by rw [List.getElem?_map, hS]; rfl)
            rw [List.length_map, HMM.out] at hv
            simp only [Value.slice.injEq] at hv
            obtain ⟨rfl, _, rfl⟩ := hv
            have HD := Lib.hid (fun W (f : Fr [] wq W) => HDN.out t hti W (HF2.out.step (HFq.out.step f)))
            obtain ⟨y, hy⟩ : ∃ y, dnOf t xs = y := ⟨_, rfl⟩
            rw [hy] at c0 c1 c2 c3 c4 c5 c6 c7 HD
            have hge : decide ((m : Int) ≤ (p : Int)) = false := decide_eq_false (by omega)
            have hge2 : decide (m ≤ p) = false := decide_eq_false (by omega)
            have hlp : (p : Int) < (m : Int) := by omega
            have hp0 : (0 : Int) ≤ (p : Int) := Int.natCast_nonneg _
            clear ht hS hti hg hy HBEST HLO HDN
            go_upto_region 19 with fail
            go_cut [95] from 82 to 95 (fun s wz => s = .bool false ∧ Fr [] w2 wz)
            case first =>
              refine wp_region_held_drew (S := fun w' => w'.cell? ⟨g, off + p * 8, none⟩ = some (.int .i64 y.t) ∧ w'.cell? ⟨g, off + p * 8 + 1, none⟩ = some (.int .i64 y.calls) ∧ w'.cell? ⟨g, off + p * 8 + 2, none⟩ = some (.int .i64 y.refused) ∧ w'.cell? ⟨g, off + p * 8 + 3, none⟩ = some (.int .i64 y.steps) ∧ w'.cell? ⟨g, off + p * 8 + 4, none⟩ = some (.int .i64 y.ended) ∧ w'.cell? ⟨g, off + p * 8 + 5, none⟩ = some (.int .i64 y.failed) ∧ w'.cell? ⟨g, off + p * 8 + 6, none⟩ = some (.int .i64 y.read) ∧ w'.cell? ⟨g, off + p * 8 + 7, none⟩ = some (.int .i64 y.written)) (by kernel_rfl) (⟨c0, c1, c2, c3, c4, c5, c6, c7⟩) (fun hHeld => ?_)
              refine wpAnyH_take (i := 0) (oi := _) (v := ?_) rfl (by kernel_rfl) (by kernel_rfl) (by kernel_rfl) (fun _ _ _ h => h) (Or.inl ⟨by rfl, ?_⟩) (by assumption) ?_
              rotate_left
              · intro w hSw
                try dsimp only at hSw
                go_simp
                try with_reducible rfl
              try simp only [Act.put, List.getElem_toArray, List.getElem_cons_succ, List.getElem_cons_zero, List.setIfInBounds_toArray, List.set_cons_zero, List.set_cons_succ]
              refine wpAnyH_take (i := 1) (oi := _) (v := ?_) rfl (by kernel_rfl) (by kernel_rfl) (by kernel_rfl) (fun _ _ _ h => h) (Or.inl ⟨by rfl, ?_⟩) (by assumption) ?_
              rotate_left
              · intro w hSw
                try dsimp only at hSw
                go_simp
                try with_reducible rfl
              try simp only [Act.put, List.getElem_toArray, List.getElem_cons_succ, List.getElem_cons_zero, List.setIfInBounds_toArray, List.set_cons_zero, List.set_cons_succ]
              refine wpAnyH_take (i := 2) (oi := _) (v := ?_) rfl (by kernel_rfl) (by kernel_rfl) (by kernel_rfl) (fun _ _ _ h => h) (Or.inl ⟨by rfl, ?_⟩) (by assumption) ?_
              rotate_left
              · intro w hSw
                try dsimp only at hSw
                go_simp
                try with_reducible rfl
              try simp only [Act.put, List.getElem_toArray, List.getElem_cons_succ, List.getElem_cons_zero, List.setIfInBounds_toArray, List.set_cons_zero, List.set_cons_succ]
              refine wpAnyH_take (i := 3) (oi := _) (v := ?_) rfl (by kernel_rfl) (by kernel_rfl) (by kernel_rfl) (fun _ _ _ h => h) (Or.inl ⟨by rfl, ?_⟩) (by assumption) ?_
              rotate_left
              · intro w hSw
                try dsimp only at hSw
                go_simp
                try with_reducible rfl
              try simp only [Act.put, List.getElem_toArray, List.getElem_cons_succ, List.getElem_cons_zero, List.setIfInBounds_toArray, List.set_cons_zero, List.set_cons_succ]
              refine wpAnyH_take (i := 4) (oi := _) (v := ?_) rfl (by kernel_rfl) (by kernel_rfl) (by kernel_rfl) (fun _ _ _ h => h) (Or.inl ⟨by rfl, ?_⟩) (by assumption) ?_
              rotate_left
              · intro w hSw
                try dsimp only at hSw
                go_simp
                try with_reducible rfl
              try simp only [Act.put, List.getElem_toArray, List.getElem_cons_succ, List.getElem_cons_zero, List.setIfInBounds_toArray, List.set_cons_zero, List.set_cons_succ]
              refine wpAnyH_take (i := 5) (oi := _) (v := ?_) rfl (by kernel_rfl) (by kernel_rfl) (by kernel_rfl) (fun _ _ _ h => h) (Or.inl ⟨by rfl, ?_⟩) (by assumption) ?_
              rotate_left
              · intro w hSw
                try dsimp only at hSw
                go_simp
                try with_reducible rfl
              try simp only [Act.put, List.getElem_toArray, List.getElem_cons_succ, List.getElem_cons_zero, List.setIfInBounds_toArray, List.set_cons_zero, List.set_cons_succ]
              refine wpAnyH_take (i := 6) (oi := _) (v := ?_) rfl (by kernel_rfl) (by kernel_rfl) (by kernel_rfl) (fun _ _ _ h => h) (Or.inl ⟨by rfl, ?_⟩) (by assumption) ?_
              rotate_left
              · intro w hSw
                try dsimp only at hSw
                go_simp
                try with_reducible rfl
              try simp only [Act.put, List.getElem_toArray, List.getElem_cons_succ, List.getElem_cons_zero, List.setIfInBounds_toArray, List.set_cons_zero, List.set_cons_succ]
              refine wpAnyH_take (i := 7) (oi := _) (v := ?_) rfl (by kernel_rfl) (by kernel_rfl) (by kernel_rfl) (fun _ _ _ h => h) (Or.inl ⟨by rfl, ?_⟩) (by assumption) ?_
              rotate_left
              · intro w hSw
                try dsimp only at hSw
                go_simp
                try with_reducible rfl
              try simp only [Act.put, List.getElem_toArray, List.getElem_cons_succ, List.getElem_cons_zero, List.setIfInBounds_toArray, List.set_cons_zero, List.set_cons_succ]
              refine wpAnyH_take (i := 8) (oi := _) (v := ?_) rfl (by kernel_rfl) (by kernel_rfl) (by kernel_rfl) (fun _ _ _ h => h) (Or.inl ⟨by rfl, ?_⟩) (by assumption) ?_
              rotate_left
              · intro w hSw
                try dsimp only at hSw
                go_simp
                try with_reducible rfl
              try simp only [Act.put, List.getElem_toArray, List.getElem_cons_succ, List.getElem_cons_zero, List.setIfInBounds_toArray, List.set_cons_zero, List.set_cons_succ]
              refine wpAnyH_take (i := 9) (oi := _) (v := ?_) rfl (by kernel_rfl) (by kernel_rfl) (by kernel_rfl) (fun _ _ _ h => h) (Or.inl ⟨by rfl, ?_⟩) (by assumption) ?_
              rotate_left
              · intro w hSw
                try dsimp only at hSw
                go_simp
                try with_reducible rfl
              try simp only [Act.put, List.getElem_toArray, List.getElem_cons_succ, List.getElem_cons_zero, List.setIfInBounds_toArray, List.set_cons_zero, List.set_cons_succ]
              refine wpAnyH_take (i := 10) (oi := _) (v := ?_) rfl (by kernel_rfl) (by kernel_rfl) (by kernel_rfl) (fun _ _ _ h => h) (Or.inl ⟨by rfl, ?_⟩) (by assumption) ?_
              rotate_left
              · intro w hSw
                try dsimp only at hSw
                go_simp
                try with_reducible rfl
              try simp only [Act.put, List.getElem_toArray, List.getElem_cons_succ, List.getElem_cons_zero, List.setIfInBounds_toArray, List.set_cons_zero, List.set_cons_succ]
              refine wpAnyH_ready (rs := [11]) (by kernel_rfl) (by simp) ?_
              refine AllReadyH.cons (o := _) rfl (fun K hK => ?_) AllReadyH.nil
              go_simp
              refine (HD.out _ ((Fr.refl [] wq).drew)).mono ?_
              rintro e w9 ⟨rfl, f9⟩
              replace f9 : Fr [] wq w9 := ((Fr.refl [] wq).drew).step f9
              refine hK.out _ _ (⟨f9.keep c0 (by simp), f9.keep c1 (by simp), f9.keep c2 (by simp), f9.keep c3 (by simp), f9.keep c4 (by simp), f9.keep c5 (by simp), f9.keep c6 (by simp), f9.keep c7 (by simp)⟩) (fun hHeld => ?_)
              clear hK K
              try simp only [Act.put, List.getElem_toArray, List.getElem_cons_succ, List.getElem_cons_zero, List.setIfInBounds_toArray, List.set_cons_zero, List.set_cons_succ]
              refine wpAnyH_take (i := 12) (oi := _) (v := ?_) rfl (by kernel_rfl) (by kernel_rfl) (by kernel_rfl) (fun _ _ _ h => h) (Or.inl ⟨by rfl, ?_⟩) (by assumption) ?_
              rotate_left
              · intro w hSw
                try dsimp only at hSw
                go_simp
                try with_reducible rfl
              try simp only [Act.put, List.getElem_toArray, List.getElem_cons_succ, List.getElem_cons_zero, List.setIfInBounds_toArray, List.set_cons_zero, List.set_cons_succ]
              refine wpAnyH_take (i := 13) (oi := _) (v := ?_) rfl (by kernel_rfl) (by kernel_rfl) (by kernel_rfl) (fun _ _ _ h => h) (Or.inl ⟨by rfl, ?_⟩) (by assumption) ?_
              rotate_left
              · intro w hSw
                try dsimp only at hSw
                go_simp
                try with_reducible rfl
              try simp only [Act.put, List.getElem_toArray, List.getElem_cons_succ, List.getElem_cons_zero, List.setIfInBounds_toArray, List.set_cons_zero, List.set_cons_succ]
              refine wpAnyH_done (by kernel_rfl) ?_ _
              go_wp2
              go_meet
              exact ⟨rfl, HFq.out.step f9⟩
            case rest =>
              obtain ⟨rfl, hFz⟩ := hcut
              have HFZ := Lib.hid hFz
              clear hFz c0 c1 c2 c3 c4 c5 c6 c7 HD
              go_wp2
              go_roundw
              case rel => exact ⟨_, p + 1, rfl, by go_num, by go_num, by omega, by omega, HFZ.out⟩
              case measure => simp [intOf]; omega
          · have hpm2 : p = m := by omega
            have hS : (taskS xs)[p]? = none := by
              rw [List.getElem?_eq_none_iff, HMM.out]
              omega
            rw [hS] at hbv
            rcases hbv with ⟨_, rfl, rfl⟩ | ⟨t', h1, _, _⟩
            · have HK := Lib.hid (known_any wq (HE.out.new (HF2.out.step HFq.out)))
              subst hpm2
              clear hS
              go_wp2_with fail
              refine HK.out.mono ?_
              rintro e w9 ⟨rfl, f9⟩
              go_wp2
              go_ret
              exact ⟨rfl, HF2.out.step (HFq.out.step f9)⟩
            · cases h1
    · have hpe : p = m := by omega
      have HK := Lib.hid (known_any wr (HE.out.new (HF2.out.step HF.out)))
      have hnp : n = p := by omega
      subst hnp
      subst hpe
      go_wp2_with fail
      refine HK.out.mono ?_
      rintro e w9 ⟨rfl, f9⟩
      go_wp2
      go_ret
      exact ⟨rfl, HF2.out.step (HF.out.step f9)⟩
end Go.Proofs.YtllmejkcohfbiaaGreatDoor
namespace Go.Proofs.YtllmejkcohfbiaaGreatDoor
open Go.RowKit Go.Maps Go.Shelf Go.Sort Go.Lib
set_option linter.unusedVariables false
set_option linter.unusedSimpArgs false
set_option maxRecDepth 100000
set_option maxHeartbeats 64000000

theorem tk_case (xs : List Tk) (s : List UInt8) (e : Int) (h : tkText xs = (s, e)) : e = 2 ∨ (e = 0 ∧ xs.all Tk.ok = true ∧ s = textOf taskB xs) := by
  unfold tkText at h
  split at h
  · next hk =>
    unfold tkAll tkOk at hk
    cases h
    exact .inr ⟨rfl, (Bool.and_eq_true_iff.1 hk).2, rfl⟩
  · cases h
    exact .inl rfl
theorem cd_case (xs : List Cd) (s : List UInt8) (e : Int) (h : cdText xs = (s, e)) : e = 2 ∨ (e = 0 ∧ xs.all Cd.ok = true ∧ s = textOf cdB xs) := by
  unfold cdText at h
  split at h
  · next hk =>
    unfold cdAll cdOk at hk
    cases h
    exact .inr ⟨rfl, (Bool.and_eq_true_iff.1 hk).2, rfl⟩
  · cases h
    exact .inl rfl
/-- Two lists are alike as far as q. -/
def sameB (a b : List Tk) (q : Nat) : Bool := decide (a.length = b.length) && decide (a.take q = b.take q)
theorem sameB_zero (a b : List Tk) : sameB a b 0 = decide (a.length = b.length) := by simp [sameB]
theorem sameB_false {a b : List Tk} {q : Nat} {x : Tk} (hx : a[q]? = some x) (h : sameB a b q = false) : sameB a b (q + 1) = false := by
  unfold sameB at *
  rw [Bool.and_eq_false_iff] at *
  rcases h with h | h
  · exact .inl h
  · refine .inr (decide_eq_false (fun e => of_decide_eq_false h ?_))
    have := congrArg (List.take q) e
    rwa [List.take_take, List.take_take, Nat.min_eq_left (by omega)] at this
theorem sameB_has {a b : List Tk} {q : Nat} {x : Tk} (hx : a[q]? = some x) (h : sameB a b q = true) : ∃ y, b[q]? = some y := by
  unfold sameB at h
  rw [Bool.and_eq_true] at h
  have h1 := of_decide_eq_true h.1
  have h2 := (List.getElem?_eq_some_iff.1 hx).1
  exact ⟨_, List.getElem?_eq_getElem (by omega)⟩
theorem sameB_true {a b : List Tk} {q : Nat} {x y : Tk} (hx : a[q]? = some x) (h : sameB a b q = true) (hy : b[q]? = some y) : sameB a b (q + 1) = decide (x = y) := by
  unfold sameB at *
  rw [Bool.and_eq_true] at h
  rw [h.1, Bool.true_and, List.take_add_one, List.take_add_one, hx, hy, of_decide_eq_true h.2]
  refine decide_eq_decide.2 ⟨fun e => ?_, fun e => by rw [e]⟩
  have := List.append_cancel_left e
  simpa using this
theorem sameB_full (a b : List Tk) : sameB a b a.length = decide (a = b) := by
  unfold sameB
  by_cases h : a = b
  · rw [h]
    simp
  · rw [decide_eq_false h]
    rw [Bool.and_eq_false_iff]
    by_cases hl : a.length = b.length
    · refine .inr (decide_eq_false (fun e => h ?_))
      rwa [List.take_of_length_le (Nat.le_refl _), hl, List.take_of_length_le (Nat.le_refl _)] at e
    · exact .inl (decide_eq_false hl)
theorem tk_same (xs ys : List Tk) (hx : xs.all Tk.ok = true) (hxw : ∀ x ∈ xs, x.wf) (hxl : xs.length ≤ 1000) (hy : ys.all Tk.ok = true) (hyw : ∀ x ∈ ys, x.wf) (hyl : ys.length ≤ 1000) : decide (textOf taskB xs = textOf taskB ys) = decide (xs = ys) := by
  refine decide_eq_decide.2 ⟨fun e => tasks_inj hx hxw hxl hy hyw hyl e, fun e => by rw [e]⟩
theorem holds_big (sa : Option Addr) (sc : Nat) (ta : Option Addr) (tc : Nat) (ua : Option Addr) (uc : Nat) (n1 n2 n3 : Nat) (v : Value) (ev : List Ev) (w : World) (he : EnvR w) (hv : EvRow w v ev) (hb : 20 < n1 ∨ 20 < n2 ∨ 20 < n3 ∨ lightB ev = false) :
    Calls Tryz.prog 9 #[.slice sa n1 sc, .slice ta n2 tc, .slice ua n3 uc, v] w fun e w' => e = .returned (.bool true) ∧ Fr [] w w' := by
  have HK := Lib.hid (known_any w he)
  have HLI := Lib.hid (light_any v ev w hv)
  obtain ⟨va, vc, rfl⟩ := hv.val
  clear he hv
  by_cases h1 : 20 < n1
  · have d1 : decide ((20 : Int) < (n1 : Int)) = true := decide_eq_true (by omega)
    clear hb h1 HLI
    go_enter Tryz.func9, Tryz.ntmps9
    go_wp2_with fail
    refine HK.out.mono ?_
    rintro e w1 ⟨rfl, f1⟩
    go_wp2
    go_ret
    exact ⟨rfl, f1⟩
  have d1 : decide ((20 : Int) < (n1 : Int)) = false := decide_eq_false (by omega)
  by_cases h2 : 20 < n2
  · have d2 : decide ((20 : Int) < (n2 : Int)) = true := decide_eq_true (by omega)
    clear hb h1 h2 HLI
    go_enter Tryz.func9, Tryz.ntmps9
    go_wp2_with fail
    refine HK.out.mono ?_
    rintro e w1 ⟨rfl, f1⟩
    go_wp2
    go_ret
    exact ⟨rfl, f1⟩
  have d2 : decide ((20 : Int) < (n2 : Int)) = false := decide_eq_false (by omega)
  by_cases h3 : 20 < n3
  · have d3 : decide ((20 : Int) < (n3 : Int)) = true := decide_eq_true (by omega)
    clear hb h1 h2 h3 HLI
    go_enter Tryz.func9, Tryz.ntmps9
    go_wp2_with fail
    refine HK.out.mono ?_
    rintro e w1 ⟨rfl, f1⟩
    go_wp2
    go_ret
    exact ⟨rfl, f1⟩
  have d3 : decide ((20 : Int) < (n3 : Int)) = false := decide_eq_false (by omega)
  have hl : lightB ev = false := by
    rcases hb with h | h | h | h
    · exact absurd h h1
    · exact absurd h h2
    · exact absurd h h3
    · exact h
  rw [hl] at HLI
  clear hb h1 h2 h3 hl
  go_enter Tryz.func9, Tryz.ntmps9
  go_wp2_with fail
  refine HLI.out.mono ?_
  rintro e w1 ⟨rfl, rfl⟩
  go_wp2_with fail
  refine HK.out.mono ?_
  rintro e w1 ⟨rfl, f1⟩
  go_wp2
  go_ret
  exact ⟨rfl, f1⟩
theorem holds_main (sa : Option Addr) (sc : Nat) (ta : Option Addr) (tc : Nat) (ua : Option Addr) (uc : Nat) (xa xb : List Tk) (cs : List Cd) (v : Value) (ev : List Ev) (w : World) (he : EnvR w)
    (ha : TkRow w (.slice sa xa.length sc) xa) (hb : TkRow w (.slice ta xb.length tc) xb) (hc : CdRow w (.slice ua cs.length uc) cs) (hv : EvRow w v ev) (wa : ∀ x ∈ xa, x.wf) (wb : ∀ x ∈ xb, x.wf) (wc : ∀ x ∈ cs, x.wf) (la : xa.length ≤ 20) (lb : xb.length ≤ 20) (lc : cs.length ≤ 20) (hl : lightB ev = true)
    (hok : ∀ x ∈ ev, I64 x.task ∧ I64 x.eN ∧ I64 x.eKind ∧ I64 x.eErr) :
    Calls Tryz.prog 9 #[.slice sa xa.length sc, .slice ta xb.length tc, .slice ua cs.length uc, v] w fun e w' => e = .returned (.bool true) ∧ Fr [] w w' := by
  have hlen : ev.length ≤ 60 := by
    unfold lightB at hl
    exact of_decide_eq_true (Bool.and_eq_true_iff.1 hl).2
  have hsl : ∀ x ∈ ev, x.eD.2.1 ≤ 300 := by
    unfold lightB at hl
    have := (Bool.and_eq_true_iff.1 hl).1
    rw [List.take_of_length_le hlen] at this
    unfold slim at this
    rw [List.all_eq_true] at this
    exact fun x hx => of_decide_eq_true (this x hx)
  have hev : ∀ x ∈ ev, evOk x := fun x hx => ⟨(hok x hx).1, (hok x hx).2.1, by have := hsl x hx; omega⟩
  have hev2 : ∀ x ∈ ev, I64 x.eKind ∧ I64 x.eErr := fun x hx => (hok x hx).2.2
  have HE := Lib.hid he
  have HLI := Lib.hid (light_any v ev w hv)
  rw [hl] at HLI
  have HOT := Lib.hid (fun W (f : Fr [] w W) => ofTasks_any v ev W (hv.new f) (by omega) hev)
  have HOC := Lib.hid (fun W (f : Fr [] w W) => ofCodes_any v ev W (hv.new f) (by omega) hev2)
  have HSUM := Lib.hid (tasks_sum ev)
  have HNN := Lib.hid (tasksOf_nonneg ev)
  have HTL := Lib.hid (show (tasksOf (tdOf ev)).length ≤ 60 from by rw [tasksOf_dn, List.length_map]; exact Nat.le_trans (taskS_len ev) hlen)
  have HEL := Lib.hid hlen
  have hE60 : (ev.countP (·.ended) : Int) ≤ 60 := by have : ev.countP (·.ended) ≤ ev.length := List.countP_le_length; omega
  have RA := Lib.hid ha
  have RB := Lib.hid hb
  have RC := Lib.hid hc
  have TA := Lib.hid (fun W (f : Fr [] w W) => Tasks_any (.slice sa xa.length sc) xa (by omega) W (he.new f).tab (ha.new f) wa)
  have TB := Lib.hid (fun W (f : Fr [] w W) => Tasks_any (.slice ta xb.length tc) xb (by omega) W (he.new f).tab (hb.new f) wb)
  have TC := Lib.hid (fun W (f : Fr [] w W) => Codes_any (.slice ua cs.length uc) cs (by omega) W (he.new f).tab (hc.new f) wc)
  have LA := Lib.hid (And.intro wa la)
  have LB := Lib.hid (And.intro wb lb)
  have LC := Lib.hid (And.intro wc lc)
  obtain ⟨va, vc, rfl⟩ := hv.val
  obtain ⟨n1, hn1⟩ : ∃ n, xa.length = n := ⟨_, rfl⟩
  obtain ⟨n2, hn2⟩ : ∃ n, xb.length = n := ⟨_, rfl⟩
  obtain ⟨n3, hn3⟩ : ∃ n, cs.length = n := ⟨_, rfl⟩
  obtain ⟨n4, hn4⟩ : ∃ n, ev.length = n := ⟨_, rfl⟩
  rw [hn1] at RA TA la ⊢
  rw [hn2] at RB TB lb ⊢
  rw [hn3] at RC TC lc ⊢
  rw [hn4] at HLI HOT HOC ⊢
  have M1 := Lib.hid hn1
  have M2 := Lib.hid hn2
  have M3 := Lib.hid hn3
  have d1 : decide ((20 : Int) < (n1 : Int)) = false := decide_eq_false (by omega)
  have d2 : decide ((20 : Int) < (n2 : Int)) = false := decide_eq_false (by omega)
  have d3 : decide ((20 : Int) < (n3 : Int)) = false := decide_eq_false (by omega)
  obtain ⟨sA, eA, hA⟩ : ∃ s e, tkText xa = (s, e) := ⟨_, _, rfl⟩
  obtain ⟨sB, eB, hB⟩ : ∃ s e, tkText xb = (s, e) := ⟨_, _, rfl⟩
  obtain ⟨sC, eC, hC⟩ : ∃ s e, cdText cs = (s, e) := ⟨_, _, rfl⟩
  rw [hA] at TA
  rw [hB] at TB
  rw [hC] at TC
  have HA := Lib.hid (tk_case xa sA eA hA)
  have HB := Lib.hid (tk_case xb sB eB hB)
  have HC := Lib.hid (cd_case cs sC eC hC)
  clear he ha hb hc hv wa wb wc hn1 hn2 hn3 hn4 hok hev hev2 hsl hl hlen hA hB hC
  go_enter Tryz.func9, Tryz.ntmps9
  go_wp2_with fail
  refine HLI.out.mono ?_
  rintro e w1 ⟨rfl, rfl⟩
  clear HLI d1 d2 d3
  go_wp2_with fail
  refine (TA.out _ (Fr.refl [] _)).mono ?_
  rintro e w2 ⟨rfl, f2⟩
  have F2 := Lib.hid f2
  clear f2
  go_wp2_with fail
  refine (TB.out _ F2.out).mono ?_
  rintro e w3 ⟨rfl, f3⟩
  have F3 := Lib.hid (F2.out.step f3)
  clear f3 F2 TA TB
  simp only
  rcases HA.out with rfl | ⟨rfl, hokA, rfl⟩
  · go_upto_region 16 with fail
    go_wp2_with fail
    refine (TC.out _ F3.out).mono ?_
    rintro e w6 ⟨rfl, f6⟩
    have F6 := Lib.hid (F3.out.step f6)
    clear f6 F3
    simp only
    rcases HC.out with rfl | ⟨rfl, hokC, rfl⟩
    · go_upto_region 26 with fail
      go_wp2_with fail
      refine (HOT.out _ F6.out).mono ?_
      rintro e w8 ⟨v8, rfl, r8, f8⟩
      have F8 := Lib.hid (F6.out.step f8)
      clear f8 F6
      obtain ⟨TS, hTS⟩ : ∃ z, tasksOf (tdOf ev) = z := ⟨_, rfl⟩
      rw [hTS] at r8 HSUM HNN HTL
      obtain ⟨a8, c8, rfl⟩ := r8.val
      have R8 := Lib.hid r8
      clear r8 hTS
      go_wp2_with fail
      refine (HOC.out _ F8.out).mono ?_
      rintro e w9 ⟨v9, L, rfl, r9, hca, f9⟩
      obtain ⟨a9, c9, rfl⟩ := r9.val
      have R9 := Lib.hid r9
      have HCA := Lib.hid hca
      have F9 := Lib.hid (F8.out.step f9)
      have F89 := Lib.hid f9
      obtain ⟨nt, hnt⟩ : ∃ n, TS.length = n := ⟨_, rfl⟩
      obtain ⟨nl, hnl⟩ : ∃ n, L.length = n := ⟨_, rfl⟩
      have hntb : (nt : Int) ≤ 60 := by
        have h1 := HTL.out
        omega
      have hnlb : (nl : Int) ≤ 60 := by
        have h1 := hca.len
        have h2 := HEL.out
        omega
      rw [hnt] at R8 ⊢
      rw [hnl] at R9 ⊢
      have MT := Lib.hid hnt
      have ML := Lib.hid hnl
      clear r9 hca f9 F8 hnt hnl
      go_wp2
      go_loopw [26, 27] (fun s i wr => ∃ (wz : World) (q : Nat) (z : Int), wz = wr ∧ i = .int .i64 q ∧ q ≤ nt ∧ s = .int .i64 z ∧ z = ((TS.take q).map (·.ended)).sum ∧ Fr [] w9 wr) (fun _ i _ => nt - (intOf i).toNat)
      case atStart => exact ⟨_, 0, 0, rfl, rfl, by omega, rfl, rfl, Fr.refl _ _⟩
      case round =>
        obtain ⟨wr, q, z, hwz, rfl, hq, rfl, hz, hF⟩ := hrel
        subst hwz
        have HF := Lib.hid hF
        have hp := sum_part (·.ended) TS q HNN.out
        rw [← hz, HSUM.out] at hp
        have HZ := Lib.hid hz
        clear hF hz
        by_cases hlt : q < nt
        · have hlt' : (q : Int) < (nt : Int) := by omega
          have hx := List.getElem?_eq_getElem (l := TS) (i := q) (by rw [MT.out]; exact hlt)
          obtain ⟨x, hxe⟩ : ∃ x, TS[q]'(by rw [MT.out]; exact hlt) = x := ⟨_, rfl⟩
          rw [hxe] at hx
          obtain ⟨gm, om, cm, hvm, hgm, m0, m1, m2, m3, m4, m5, m6, m7⟩ := (R8.out.new (F89.out.step HF.out)).cells hx
          rw [MT.out] at hvm
          simp only [Value.slice.injEq] at hvm
          obtain ⟨rfl, _, rfl⟩ := hvm
          have hs := part_succ (·.ended) TS q x hx
          have hp2 := sum_part (·.ended) TS (q + 1) HNN.out
          rw [hs, ← HZ.out, HSUM.out] at hp2
          have HS := Lib.hid hs
          obtain ⟨y1, y2, y3, y4, y5, y6, y7, y8⟩ := x
          simp only at m4 hp2
          clear hx hxe hgm m0 m1 m2 m3 m5 m6 m7 hs
          go_wp2
          go_roundw
          case rel => exact ⟨_, q + 1, z + y5, rfl, by go_num, by omega, rfl, by rw [HS.out, HZ.out], HF.out⟩
          case measure => simp [intOf]; omega
        · have hqn : q = nt := by omega
          subst hqn
          have hz2 : z = (ev.countP (·.ended) : Int) := by rw [HZ.out, List.take_of_length_le (by rw [MT.out]; exact Nat.le_refl _), HSUM.out]
          obtain ⟨EC, hEC⟩ : ∃ c : Nat, ev.countP (·.ended) = c := ⟨_, rfl⟩
          have HEC := Lib.hid hEC
          rw [hEC] at hz2 hE60
          have HWR := Lib.hid HF.out
          have hLn : ∀ x ∈ L, 0 ≤ x.n := fun x hx => by
            have := (HCA.out.num x hx).1
            omega
          have HLN := Lib.hid hLn
          subst hz2
          clear hp hEC hLn
          go_wp2
          go_loopw [26, 28] (fun s i wq => ∃ (wz : World) (p : Nat) (y : Int), wz = wq ∧ i = .int .i64 p ∧ p ≤ nl ∧ s = .int .i64 y ∧ y = (EC : Int) - ((L.take p).map (·.n)).sum ∧ Fr [] w9 wq) (fun _ i _ => nl - (intOf i).toNat)
          case atStart => exact ⟨_, 0, _, rfl, rfl, by omega, rfl, by simp, HWR.out⟩
          case round =>
            obtain ⟨wq, p, y, hwz, rfl, hpl, rfl, hy, hF⟩ := hrel
            subst hwz
            have HFq := Lib.hid hF
            have hsp := sum_part (·.n) L p HLN.out
            rw [HCA.out.sum, HEC.out] at hsp
            have HY := Lib.hid hy
            have hyr : 0 ≤ y ∧ y ≤ 60 := by omega
            clear hF hy hsp
            by_cases hlp : p < nl
            · have hlp' : (p : Int) < (nl : Int) := by omega
              have hx := List.getElem?_eq_getElem (l := L) (i := p) (by rw [ML.out]; exact hlp)
              obtain ⟨x, hxe⟩ : ∃ x, L[p]'(by rw [ML.out]; exact hlp) = x := ⟨_, rfl⟩
              rw [hxe] at hx
              obtain ⟨gm, om, cm, hvm, hgm, m0, m1, m2⟩ := (R9.out.new HFq.out).cells hx
              rw [ML.out] at hvm
              simp only [Value.slice.injEq] at hvm
              obtain ⟨rfl, _, rfl⟩ := hvm
              have hs := part_succ (·.n) L p x hx
              have hsp2 := sum_part (·.n) L (p + 1) HLN.out
              rw [HCA.out.sum, HEC.out, hs] at hsp2
              have hxn := HLN.out x (List.mem_of_getElem? hx)
              have hyx : y - x.n = (EC : Int) - ((L.take (p + 1)).map (·.n)).sum := by rw [hs, HY.out]; omega
              have hyb : 0 ≤ y - x.n := by rw [HY.out]; omega
              have HYX := Lib.hid hyx
              obtain ⟨y1, y2, y3⟩ := x
              simp only at m2 hyb hxn
              clear hx hxe hgm m0 m1 hs hsp2 hyx
              go_wp2
              go_roundw
              case rel => exact ⟨_, p + 1, y - y3, rfl, by go_num, by omega, rfl, HYX.out, HFq.out⟩
              case measure => simp [intOf]; omega
            · have hpn : p = nl := by omega
              subst hpn
              have hy0 : y = 0 := by
                rw [HY.out, List.take_of_length_le (by rw [ML.out]; exact Nat.le_refl _), HCA.out.sum, HEC.out]
                omega
              subst hy0
              have FF := Lib.hid (F9.out.step HFq.out)
              have HKN := Lib.hid (known_any wq (HE.out.new FF.out))
              go_wp2_with fail
              refine HKN.out.mono ?_
              rintro e w12 ⟨rfl, f12⟩
              go_wp2
              go_ret
              exact ⟨rfl, FF.out.step f12⟩
    · have hback := codes_back cs hokC LC.out.1 (by rw [M3.out]; omega)
      have hRC := ReadCodes_any (textOf cdB cs) (by
        have h1 := textOf_max cdB 100 cs (fun o ho => cdB_len (LC.out.1 o ho))
        rw [M3.out] at h1
        omega) w6 (HE.out.new F6.out)
      rw [hback] at hRC
      have HRC := Lib.hid hRC
      clear hback hRC hokC
      go_wp2_with fail
      refine HRC.out.mono ?_
      rintro e w7 ⟨v7, rfl, r7, f7⟩
      simp only at r7 ⊢
      obtain ⟨a7, c7, rfl⟩ := r7.val
      rw [M3.out] at r7 ⊢
      have R7 := Lib.hid r7
      have F7 := Lib.hid (F6.out.step f7)
      clear r7 f7 HRC F6
      go_wp2
      go_loopw [23] (fun i wr => ∃ (wz : World) (q : Nat), wz = wr ∧ i = .int .i64 q ∧ q ≤ n3 ∧ Fr [] w7 wr) (fun i _ => n3 - (intOf i).toNat)
      case atStart => exact ⟨_, 0, rfl, rfl, by omega, Fr.refl _ _⟩
      case round =>
        obtain ⟨wr, q, hwz, rfl, hq, hF⟩ := hrel
        subst hwz
        have HF := Lib.hid hF
        clear hF
        by_cases hlt : q < n3
        · have hlt' : (q : Int) < (n3 : Int) := by omega
          have g1 : decide ((n3 : Int) ≤ (q : Int)) = false := decide_eq_false (by omega)
          have g1' : decide (n3 ≤ q) = false := decide_eq_false (by omega)
          have hx := List.getElem?_eq_getElem (l := cs) (i := q) (by rw [M3.out]; exact hlt)
          obtain ⟨x, hxe⟩ : ∃ x, cs[q]'(by rw [M3.out]; exact hlt) = x := ⟨_, rfl⟩
          rw [hxe] at hx
          obtain ⟨gm, om, cm, hvm, hgm, m0, m1, m2⟩ := (R7.out.new HF.out).cells hx
          obtain ⟨ga, oa, ca, hva, hga, a0, a1, a2⟩ := (RC.out.new (F7.out.step HF.out)).cells hx
          rw [M3.out] at hvm hva
          simp only [Value.slice.injEq] at hvm hva
          obtain ⟨rfl, _, rfl⟩ := hvm
          obtain ⟨rfl, _, rfl⟩ := hva
          have hne : ∀ W, (binOp .neq 62 (.agg #[.int .i64 x.call, .int .i64 x.err, .int .i64 x.n]) (.agg #[.int .i64 x.call, .int .i64 x.err, .int .i64 x.n])).run Tryz.prog W = .ok (.bool false) W := fun W => by rw [neCd, decide_eq_true rfl]; rfl
          obtain ⟨y1, y2, y3⟩ := x
          simp only at m0 m1 m2 a0 a1 a2 hne
          clear hx hxe hgm hga
          go_upto_region 22 with fail
          go_quiet (fail)
          go_wp2
          go_roundw
          case rel => exact ⟨_, q + 1, rfl, by go_num, by omega, HF.out.drewN _⟩
          case measure => simp [intOf]; omega
        · have hqn : q = n3 := by omega
          subst hqn
          have F6 := Lib.hid (F7.out.step HF.out)
          clear HF F7
          go_upto_region 26 with fail
          go_wp2_with fail
          refine (HOT.out _ F6.out).mono ?_
          rintro e w8 ⟨v8, rfl, r8, f8⟩
          have F8 := Lib.hid (F6.out.step f8)
          clear f8 F6
          obtain ⟨TS, hTS⟩ : ∃ z, tasksOf (tdOf ev) = z := ⟨_, rfl⟩
          rw [hTS] at r8 HSUM HNN HTL
          obtain ⟨a8, c8, rfl⟩ := r8.val
          have R8 := Lib.hid r8
          clear r8 hTS
          go_wp2_with fail
          refine (HOC.out _ F8.out).mono ?_
          rintro e w9 ⟨v9, L, rfl, r9, hca, f9⟩
          obtain ⟨a9, c9, rfl⟩ := r9.val
          have R9 := Lib.hid r9
          have HCA := Lib.hid hca
          have F9 := Lib.hid (F8.out.step f9)
          have F89 := Lib.hid f9
          obtain ⟨nt, hnt⟩ : ∃ n, TS.length = n := ⟨_, rfl⟩
          obtain ⟨nl, hnl⟩ : ∃ n, L.length = n := ⟨_, rfl⟩
          have hntb : (nt : Int) ≤ 60 := by
            have h1 := HTL.out
            omega
          have hnlb : (nl : Int) ≤ 60 := by
            have h1 := hca.len
            have h2 := HEL.out
            omega
          rw [hnt] at R8 ⊢
          rw [hnl] at R9 ⊢
          have MT := Lib.hid hnt
          have ML := Lib.hid hnl
          clear r9 hca f9 F8 hnt hnl
          go_wp2
          go_loopw [26, 27] (fun s i wr => ∃ (wz : World) (q : Nat) (z : Int), wz = wr ∧ i = .int .i64 q ∧ q ≤ nt ∧ s = .int .i64 z ∧ z = ((TS.take q).map (·.ended)).sum ∧ Fr [] w9 wr) (fun _ i _ => nt - (intOf i).toNat)
          case atStart => exact ⟨_, 0, 0, rfl, rfl, by omega, rfl, rfl, Fr.refl _ _⟩
          case round =>
            obtain ⟨wr, q, z, hwz, rfl, hq, rfl, hz, hF⟩ := hrel
            subst hwz
            have HF := Lib.hid hF
            have hp := sum_part (·.ended) TS q HNN.out
            rw [← hz, HSUM.out] at hp
            have HZ := Lib.hid hz
            clear hF hz
            by_cases hlt : q < nt
            · have hlt' : (q : Int) < (nt : Int) := by omega
              have hx := List.getElem?_eq_getElem (l := TS) (i := q) (by rw [MT.out]; exact hlt)
              obtain ⟨x, hxe⟩ : ∃ x, TS[q]'(by rw [MT.out]; exact hlt) = x := ⟨_, rfl⟩
              rw [hxe] at hx
              obtain ⟨gm, om, cm, hvm, hgm, m0, m1, m2, m3, m4, m5, m6, m7⟩ := (R8.out.new (F89.out.step HF.out)).cells hx
              rw [MT.out] at hvm
              simp only [Value.slice.injEq] at hvm
              obtain ⟨rfl, _, rfl⟩ := hvm
              have hs := part_succ (·.ended) TS q x hx
              have hp2 := sum_part (·.ended) TS (q + 1) HNN.out
              rw [hs, ← HZ.out, HSUM.out] at hp2
              have HS := Lib.hid hs
              obtain ⟨y1, y2, y3, y4, y5, y6, y7, y8⟩ := x
              simp only at m4 hp2
              clear hx hxe hgm m0 m1 m2 m3 m5 m6 m7 hs
              go_wp2
              go_roundw
              case rel => exact ⟨_, q + 1, z + y5, rfl, by go_num, by omega, rfl, by rw [HS.out, HZ.out], HF.out⟩
              case measure => simp [intOf]; omega
            · have hqn : q = nt := by omega
              subst hqn
              have hz2 : z = (ev.countP (·.ended) : Int) := by rw [HZ.out, List.take_of_length_le (by rw [MT.out]; exact Nat.le_refl _), HSUM.out]
              obtain ⟨EC, hEC⟩ : ∃ c : Nat, ev.countP (·.ended) = c := ⟨_, rfl⟩
              have HEC := Lib.hid hEC
              rw [hEC] at hz2 hE60
              have HWR := Lib.hid HF.out
              have hLn : ∀ x ∈ L, 0 ≤ x.n := fun x hx => by
                have := (HCA.out.num x hx).1
                omega
              have HLN := Lib.hid hLn
              subst hz2
              clear hp hEC hLn
              go_wp2
              go_loopw [26, 28] (fun s i wq => ∃ (wz : World) (p : Nat) (y : Int), wz = wq ∧ i = .int .i64 p ∧ p ≤ nl ∧ s = .int .i64 y ∧ y = (EC : Int) - ((L.take p).map (·.n)).sum ∧ Fr [] w9 wq) (fun _ i _ => nl - (intOf i).toNat)
              case atStart => exact ⟨_, 0, _, rfl, rfl, by omega, rfl, by simp, HWR.out⟩
              case round =>
                obtain ⟨wq, p, y, hwz, rfl, hpl, rfl, hy, hF⟩ := hrel
                subst hwz
                have HFq := Lib.hid hF
                have hsp := sum_part (·.n) L p HLN.out
                rw [HCA.out.sum, HEC.out] at hsp
                have HY := Lib.hid hy
                have hyr : 0 ≤ y ∧ y ≤ 60 := by omega
                clear hF hy hsp
                by_cases hlp : p < nl
                · have hlp' : (p : Int) < (nl : Int) := by omega
                  have hx := List.getElem?_eq_getElem (l := L) (i := p) (by rw [ML.out]; exact hlp)
                  obtain ⟨x, hxe⟩ : ∃ x, L[p]'(by rw [ML.out]; exact hlp) = x := ⟨_, rfl⟩
                  rw [hxe] at hx
                  obtain ⟨gm, om, cm, hvm, hgm, m0, m1, m2⟩ := (R9.out.new HFq.out).cells hx
                  rw [ML.out] at hvm
                  simp only [Value.slice.injEq] at hvm
                  obtain ⟨rfl, _, rfl⟩ := hvm
                  have hs := part_succ (·.n) L p x hx
                  have hsp2 := sum_part (·.n) L (p + 1) HLN.out
                  rw [HCA.out.sum, HEC.out, hs] at hsp2
                  have hxn := HLN.out x (List.mem_of_getElem? hx)
                  have hyx : y - x.n = (EC : Int) - ((L.take (p + 1)).map (·.n)).sum := by rw [hs, HY.out]; omega
                  have hyb : 0 ≤ y - x.n := by rw [HY.out]; omega
                  have HYX := Lib.hid hyx
                  obtain ⟨y1, y2, y3⟩ := x
                  simp only at m2 hyb hxn
                  clear hx hxe hgm m0 m1 hs hsp2 hyx
                  go_wp2
                  go_roundw
                  case rel => exact ⟨_, p + 1, y - y3, rfl, by go_num, by omega, rfl, HYX.out, HFq.out⟩
                  case measure => simp [intOf]; omega
                · have hpn : p = nl := by omega
                  subst hpn
                  have hy0 : y = 0 := by
                    rw [HY.out, List.take_of_length_le (by rw [ML.out]; exact Nat.le_refl _), HCA.out.sum, HEC.out]
                    omega
                  subst hy0
                  have FF := Lib.hid (F9.out.step HFq.out)
                  have HKN := Lib.hid (known_any wq (HE.out.new FF.out))
                  go_wp2_with fail
                  refine HKN.out.mono ?_
                  rintro e w12 ⟨rfl, f12⟩
                  go_wp2
                  go_ret
                  exact ⟨rfl, FF.out.step f12⟩
  · have hback := tasks_back xa hokA LA.out.1 (by rw [M1.out]; omega)
    have hRT := ReadTasks_any (textOf taskB xa) (by
      have h1 := textOf_max taskB 300 xa (fun o ho => (taskB_len (LA.out.1 o ho)).1)
      rw [M1.out] at h1
      omega) w3 (HE.out.new F3.out)
    rw [hback] at hRT
    have HRT := Lib.hid hRT
    have HOA := Lib.hid hokA
    clear hback hRT hokA
    go_wp2_with fail
    refine HRT.out.mono ?_
    rintro e w4 ⟨v4, rfl, r4, f4⟩
    simp only at r4 ⊢
    obtain ⟨a4, c4, rfl⟩ := r4.val
    rw [M1.out] at r4 ⊢
    have R4 := Lib.hid r4
    have F4 := Lib.hid (F3.out.step f4)
    clear r4 f4 HRT F3
    go_wp2
    go_loopw [16, 17] (fun s16 i wr => ∃ (wz : World) (q : Nat), wz = wr ∧ i = .int .i64 q ∧ q ≤ n1 ∧ s16 = .bool (sameB xa xb q) ∧ Fr [] w4 wr) (fun _ i _ => n1 - (intOf i).toNat)
    case atStart => exact ⟨_, 0, rfl, rfl, by omega, by rw [sameB_zero, M1.out, M2.out]; congr 1; exact decide_eq_decide.2 (by omega), Fr.refl _ _⟩
    case round =>
      obtain ⟨wr, q, hwz, rfl, hq, rfl, hF⟩ := hrel
      subst hwz
      have HF := Lib.hid hF
      clear hF
      by_cases hlt : q < n1
      · have hlt' : (q : Int) < (n1 : Int) := by omega
        have g1 : decide ((n1 : Int) ≤ (q : Int)) = false := decide_eq_false (by omega)
        have g1' : decide (n1 ≤ q) = false := decide_eq_false (by omega)
        have hx := List.getElem?_eq_getElem (l := xa) (i := q) (by rw [M1.out]; exact hlt)
        obtain ⟨x, hxe⟩ : ∃ x, xa[q]'(by rw [M1.out]; exact hlt) = x := ⟨_, rfl⟩
        rw [hxe] at hx
        obtain ⟨gm, om, cm, hvm, hgm, m0, m1, m2, m3, m4, m5, m6, m7⟩ := (R4.out.new HF.out).cells hx
        obtain ⟨ga, oa, ca, hva, hga, a0, a1, a2, a3, a5, a6, a7, a8⟩ := (RA.out.new (F4.out.step HF.out)).cells hx
        rw [M1.out] at hvm hva
        simp only [Value.slice.injEq] at hvm hva
        obtain ⟨rfl, _, rfl⟩ := hvm
        obtain ⟨rfl, _, rfl⟩ := hva
        have HX := Lib.hid hx
        have HAC := Lib.hid (And.intro a0 (And.intro a1 (And.intro a2 (And.intro a3 (And.intro a5 (And.intro a6 (And.intro a7 a8)))))))
        have hne : ∀ W, (binOp .neq 58 (.agg #[.int .i64 x.t, .int .i64 x.calls, .int .i64 x.refused, .int .i64 x.steps, .int .i64 x.ended, .int .i64 x.failed, .int .i64 x.read, .int .i64 x.written]) (.agg #[.int .i64 x.t, .int .i64 x.calls, .int .i64 x.refused, .int .i64 x.steps, .int .i64 x.ended, .int .i64 x.failed, .int .i64 x.read, .int .i64 x.written])).run Tryz.prog W = .ok (.bool false) W := fun W => by rw [neTk, decide_eq_true rfl]; rfl
        obtain ⟨y1, y2, y3, y4, y5, y6, y7, y8⟩ := x
        simp only at m0 m1 m2 m3 m4 m5 m6 m7 a0 a1 a2 a3 a5 a6 a7 a8 hne
        clear hx hxe hgm hga
        go_upto_region 11 with fail
        go_cut [91] from 77 to 91 (fun s wz => s = .bool false ∧ Fr [] wr wz)
        case first =>
          go_quiet (fail)
          go_wp2
          go_meet
          exact ⟨rfl, (Fr.refl [] wr).drewN _⟩
        case rest =>
          obtain ⟨rfl, hfc⟩ := hcut
          have HFC := Lib.hid hfc
          clear m0 m1 m2 m3 m4 m5 m6 m7 a0 a1 a2 a3 a5 a6 a7 a8 hne hfc g1 g1'
          obtain ⟨w5, rfl⟩ : ∃ z, z = wc := ⟨wc, rfl⟩
          have HF5 := Lib.hid (HF.out.step HFC.out)
          cases hs : sameB xa xb q with
          | false =>
            have HQ := Lib.hid (sameB_false HX.out hs)
            go_upto_region 13 with fail
            go_quiet (fail)
            go_wp2
            go_roundw
            case rel => exact ⟨_, q + 1, rfl, by go_num, by omega, by rw [HQ.out], HF5.out.drewN _⟩
            case measure => simp [intOf]; omega
          | true =>
            obtain ⟨y, hy⟩ := sameB_has HX.out hs
            have HQ := Lib.hid (sameB_true HX.out hs hy)
            obtain ⟨gb, ob, cb, hvb, hgb, b0, b1, b2, b3, b4, b5, b6, b7⟩ := (RB.out.new (F4.out.step HF5.out)).cells hy
            have hqb : q < n2 := by
              have := (List.getElem?_eq_some_iff.1 hy).1
              rw [M2.out] at this
              exact this
            rw [M2.out] at hvb
            simp only [Value.slice.injEq] at hvb
            obtain ⟨rfl, _, rfl⟩ := hvb
            have hqb' : (q : Int) < (n2 : Int) := by omega
            have heq : ∀ W, (binOp .eql 58 (.agg #[.int .i64 y1, .int .i64 y2, .int .i64 y3, .int .i64 y4, .int .i64 y5, .int .i64 y6, .int .i64 y7, .int .i64 y8]) (.agg #[.int .i64 y.t, .int .i64 y.calls, .int .i64 y.refused, .int .i64 y.steps, .int .i64 y.ended, .int .i64 y.failed, .int .i64 y.read, .int .i64 y.written])).run Tryz.prog W = .ok (.bool (decide ((⟨y1, y2, y3, y4, y5, y6, y7, y8⟩ : Tk) = y))) W := fun W => eqTk ⟨y1, y2, y3, y4, y5, y6, y7, y8⟩ y W
            obtain ⟨bb, hbb⟩ : ∃ b, decide ((⟨y1, y2, y3, y4, y5, y6, y7, y8⟩ : Tk) = y) = b := ⟨_, rfl⟩
            rw [hbb] at heq HQ
            obtain ⟨A0, A1, A2, A3, A4, A5, A6, A7⟩ := HAC.out
            simp only at A0 A1 A2 A3 A4 A5 A6 A7
            have a0 := HFC.out.keep A0 (by simp)
            have a1 := HFC.out.keep A1 (by simp)
            have a2 := HFC.out.keep A2 (by simp)
            have a3 := HFC.out.keep A3 (by simp)
            have a4 := HFC.out.keep A4 (by simp)
            have a5 := HFC.out.keep A5 (by simp)
            have a6 := HFC.out.keep A6 (by simp)
            have a7 := HFC.out.keep A7 (by simp)
            clear A0 A1 A2 A3 A4 A5 A6 A7 hy hgb hbb
            go_upto_region 13 with fail
            go_quiet (fail)
            go_wp2
            go_roundw
            case rel => exact ⟨_, q + 1, rfl, by go_num, by omega, by rw [HQ.out], HF5.out.drewN _⟩
            case measure => simp [intOf]; omega
      · have hqn : q = n1 := by omega
        subst hqn
        have hsame : sameB xa xb q = decide (xa = xb) := by rw [← M1.out]; exact sameB_full xa xb
        rw [hsame]
        have FR := Lib.hid (F4.out.step HF.out)
        have hstr := tk_same xa xb HOA.out LA.out.1 (by rw [M1.out]; omega)
        obtain ⟨z, hz⟩ : ∃ z, decide (xa = xb) = z := ⟨_, rfl⟩
        rw [hz] at hstr ⊢
        have HST := Lib.hid hstr
        clear hsame hstr hz
        go_upto_region 14 with fail
        go_cut [127] from 104 to 127 (fun s wz => s = .bool false ∧ Fr [] wr wz)
        case first =>
          rcases HB.out with rfl | ⟨rfl, hokB, rfl⟩
          · go_wp2
            go_meet
            exact ⟨rfl, Fr.refl _ _⟩
          · have hss := HST.out hokB LB.out.1 (by rw [M2.out]; omega)
            have e9 : ∀ W, (binOp .eql 9 (.string (bs (textOf taskB xa))) (.string (bs (textOf taskB xb)))).run Tryz.prog W = .ok (.bool z) W := fun W => by rw [eqStr, hss]
            have e10 : ((bs (textOf taskB xa)).toList == (bs (textOf taskB xb)).toList) = z := by rw [eqLists, hss]
            clear hss hokB
            go_wp2
            go_meet
            exact ⟨rfl, Fr.refl _ _⟩
        case rest =>
          obtain ⟨rfl, hfc⟩ := hcut
          obtain ⟨w5, rfl⟩ : ∃ z, z = wc := ⟨wc, rfl⟩
          have F3 := Lib.hid (FR.out.step hfc)
          clear hfc FR HF F4
          go_upto_region 16 with fail
          go_wp2_with fail
          refine (TC.out _ F3.out).mono ?_
          rintro e w6 ⟨rfl, f6⟩
          have F6 := Lib.hid (F3.out.step f6)
          clear f6 F3
          simp only
          rcases HC.out with rfl | ⟨rfl, hokC, rfl⟩
          · go_upto_region 26 with fail
            go_wp2_with fail
            refine (HOT.out _ F6.out).mono ?_
            rintro e w8 ⟨v8, rfl, r8, f8⟩
            have F8 := Lib.hid (F6.out.step f8)
            clear f8 F6
            obtain ⟨TS, hTS⟩ : ∃ z, tasksOf (tdOf ev) = z := ⟨_, rfl⟩
            rw [hTS] at r8 HSUM HNN HTL
            obtain ⟨a8, c8, rfl⟩ := r8.val
            have R8 := Lib.hid r8
            clear r8 hTS
            go_wp2_with fail
            refine (HOC.out _ F8.out).mono ?_
            rintro e w9 ⟨v9, L, rfl, r9, hca, f9⟩
            obtain ⟨a9, c9, rfl⟩ := r9.val
            have R9 := Lib.hid r9
            have HCA := Lib.hid hca
            have F9 := Lib.hid (F8.out.step f9)
            have F89 := Lib.hid f9
            obtain ⟨nt, hnt⟩ : ∃ n, TS.length = n := ⟨_, rfl⟩
            obtain ⟨nl, hnl⟩ : ∃ n, L.length = n := ⟨_, rfl⟩
            have hntb : (nt : Int) ≤ 60 := by
              have h1 := HTL.out
              omega
            have hnlb : (nl : Int) ≤ 60 := by
              have h1 := hca.len
              have h2 := HEL.out
              omega
            rw [hnt] at R8 ⊢
            rw [hnl] at R9 ⊢
            have MT := Lib.hid hnt
            have ML := Lib.hid hnl
            clear r9 hca f9 F8 hnt hnl
            go_wp2
            go_loopw [26, 27] (fun s i wr => ∃ (wz : World) (q : Nat) (z : Int), wz = wr ∧ i = .int .i64 q ∧ q ≤ nt ∧ s = .int .i64 z ∧ z = ((TS.take q).map (·.ended)).sum ∧ Fr [] w9 wr) (fun _ i _ => nt - (intOf i).toNat)
            case atStart => exact ⟨_, 0, 0, rfl, rfl, by omega, rfl, rfl, Fr.refl _ _⟩
            case round =>
              obtain ⟨wr, q, z, hwz, rfl, hq, rfl, hz, hF⟩ := hrel
              subst hwz
              have HF := Lib.hid hF
              have hp := sum_part (·.ended) TS q HNN.out
              rw [← hz, HSUM.out] at hp
              have HZ := Lib.hid hz
              clear hF hz
              by_cases hlt : q < nt
              · have hlt' : (q : Int) < (nt : Int) := by omega
                have hx := List.getElem?_eq_getElem (l := TS) (i := q) (by rw [MT.out]; exact hlt)
                obtain ⟨x, hxe⟩ : ∃ x, TS[q]'(by rw [MT.out]; exact hlt) = x := ⟨_, rfl⟩
                rw [hxe] at hx
                obtain ⟨gm, om, cm, hvm, hgm, m0, m1, m2, m3, m4, m5, m6, m7⟩ := (R8.out.new (F89.out.step HF.out)).cells hx
                rw [MT.out] at hvm
                simp only [Value.slice.injEq] at hvm
                obtain ⟨rfl, _, rfl⟩ := hvm
                have hs := part_succ (·.ended) TS q x hx
                have hp2 := sum_part (·.ended) TS (q + 1) HNN.out
                rw [hs, ← HZ.out, HSUM.out] at hp2
                have HS := Lib.hid hs
                obtain ⟨y1, y2, y3, y4, y5, y6, y7, y8⟩ := x
                simp only at m4 hp2
                clear hx hxe hgm m0 m1 m2 m3 m5 m6 m7 hs
                go_wp2
                go_roundw
                case rel => exact ⟨_, q + 1, z + y5, rfl, by go_num, by omega, rfl, by rw [HS.out, HZ.out], HF.out⟩
                case measure => simp [intOf]; omega
              · have hqn : q = nt := by omega
                subst hqn
                have hz2 : z = (ev.countP (·.ended) : Int) := by rw [HZ.out, List.take_of_length_le (by rw [MT.out]; exact Nat.le_refl _), HSUM.out]
                obtain ⟨EC, hEC⟩ : ∃ c : Nat, ev.countP (·.ended) = c := ⟨_, rfl⟩
                have HEC := Lib.hid hEC
                rw [hEC] at hz2 hE60
                have HWR := Lib.hid HF.out
                have hLn : ∀ x ∈ L, 0 ≤ x.n := fun x hx => by
                  have := (HCA.out.num x hx).1
                  omega
                have HLN := Lib.hid hLn
                subst hz2
                clear hp hEC hLn
                go_wp2
                go_loopw [26, 28] (fun s i wq => ∃ (wz : World) (p : Nat) (y : Int), wz = wq ∧ i = .int .i64 p ∧ p ≤ nl ∧ s = .int .i64 y ∧ y = (EC : Int) - ((L.take p).map (·.n)).sum ∧ Fr [] w9 wq) (fun _ i _ => nl - (intOf i).toNat)
                case atStart => exact ⟨_, 0, _, rfl, rfl, by omega, rfl, by simp, HWR.out⟩
                case round =>
                  obtain ⟨wq, p, y, hwz, rfl, hpl, rfl, hy, hF⟩ := hrel
                  subst hwz
                  have HFq := Lib.hid hF
                  have hsp := sum_part (·.n) L p HLN.out
                  rw [HCA.out.sum, HEC.out] at hsp
                  have HY := Lib.hid hy
                  have hyr : 0 ≤ y ∧ y ≤ 60 := by omega
                  clear hF hy hsp
                  by_cases hlp : p < nl
                  · have hlp' : (p : Int) < (nl : Int) := by omega
                    have hx := List.getElem?_eq_getElem (l := L) (i := p) (by rw [ML.out]; exact hlp)
                    obtain ⟨x, hxe⟩ : ∃ x, L[p]'(by rw [ML.out]; exact hlp) = x := ⟨_, rfl⟩
                    rw [hxe] at hx
                    obtain ⟨gm, om, cm, hvm, hgm, m0, m1, m2⟩ := (R9.out.new HFq.out).cells hx
                    rw [ML.out] at hvm
                    simp only [Value.slice.injEq] at hvm
                    obtain ⟨rfl, _, rfl⟩ := hvm
                    have hs := part_succ (·.n) L p x hx
                    have hsp2 := sum_part (·.n) L (p + 1) HLN.out
                    rw [HCA.out.sum, HEC.out, hs] at hsp2
                    have hxn := HLN.out x (List.mem_of_getElem? hx)
                    have hyx : y - x.n = (EC : Int) - ((L.take (p + 1)).map (·.n)).sum := by rw [hs, HY.out]; omega
                    have hyb : 0 ≤ y - x.n := by rw [HY.out]; omega
                    have HYX := Lib.hid hyx
                    obtain ⟨y1, y2, y3⟩ := x
                    simp only at m2 hyb hxn
                    clear hx hxe hgm m0 m1 hs hsp2 hyx
                    go_wp2
                    go_roundw
                    case rel => exact ⟨_, p + 1, y - y3, rfl, by go_num, by omega, rfl, HYX.out, HFq.out⟩
                    case measure => simp [intOf]; omega
                  · have hpn : p = nl := by omega
                    subst hpn
                    have hy0 : y = 0 := by
                      rw [HY.out, List.take_of_length_le (by rw [ML.out]; exact Nat.le_refl _), HCA.out.sum, HEC.out]
                      omega
                    subst hy0
                    have FF := Lib.hid (F9.out.step HFq.out)
                    have HKN := Lib.hid (known_any wq (HE.out.new FF.out))
                    go_wp2_with fail
                    refine HKN.out.mono ?_
                    rintro e w12 ⟨rfl, f12⟩
                    go_wp2
                    go_ret
                    exact ⟨rfl, FF.out.step f12⟩
          · have hback := codes_back cs hokC LC.out.1 (by rw [M3.out]; omega)
            have hRC := ReadCodes_any (textOf cdB cs) (by
              have h1 := textOf_max cdB 100 cs (fun o ho => cdB_len (LC.out.1 o ho))
              rw [M3.out] at h1
              omega) w6 (HE.out.new F6.out)
            rw [hback] at hRC
            have HRC := Lib.hid hRC
            clear hback hRC hokC
            go_wp2_with fail
            refine HRC.out.mono ?_
            rintro e w7 ⟨v7, rfl, r7, f7⟩
            simp only at r7 ⊢
            obtain ⟨a7, c7, rfl⟩ := r7.val
            rw [M3.out] at r7 ⊢
            have R7 := Lib.hid r7
            have F7 := Lib.hid (F6.out.step f7)
            clear r7 f7 HRC F6
            go_wp2
            go_loopw [23] (fun i wr => ∃ (wz : World) (q : Nat), wz = wr ∧ i = .int .i64 q ∧ q ≤ n3 ∧ Fr [] w7 wr) (fun i _ => n3 - (intOf i).toNat)
            case atStart => exact ⟨_, 0, rfl, rfl, by omega, Fr.refl _ _⟩
            case round =>
              obtain ⟨wr, q, hwz, rfl, hq, hF⟩ := hrel
              subst hwz
              have HF := Lib.hid hF
              clear hF
              by_cases hlt : q < n3
              · have hlt' : (q : Int) < (n3 : Int) := by omega
                have g1 : decide ((n3 : Int) ≤ (q : Int)) = false := decide_eq_false (by omega)
                have g1' : decide (n3 ≤ q) = false := decide_eq_false (by omega)
                have hx := List.getElem?_eq_getElem (l := cs) (i := q) (by rw [M3.out]; exact hlt)
                obtain ⟨x, hxe⟩ : ∃ x, cs[q]'(by rw [M3.out]; exact hlt) = x := ⟨_, rfl⟩
                rw [hxe] at hx
                obtain ⟨gm, om, cm, hvm, hgm, m0, m1, m2⟩ := (R7.out.new HF.out).cells hx
                obtain ⟨ga, oa, ca, hva, hga, a0, a1, a2⟩ := (RC.out.new (F7.out.step HF.out)).cells hx
                rw [M3.out] at hvm hva
                simp only [Value.slice.injEq] at hvm hva
                obtain ⟨rfl, _, rfl⟩ := hvm
                obtain ⟨rfl, _, rfl⟩ := hva
                have hne : ∀ W, (binOp .neq 62 (.agg #[.int .i64 x.call, .int .i64 x.err, .int .i64 x.n]) (.agg #[.int .i64 x.call, .int .i64 x.err, .int .i64 x.n])).run Tryz.prog W = .ok (.bool false) W := fun W => by rw [neCd, decide_eq_true rfl]; rfl
                obtain ⟨y1, y2, y3⟩ := x
                simp only at m0 m1 m2 a0 a1 a2 hne
                clear hx hxe hgm hga
                go_upto_region 22 with fail
                go_quiet (fail)
                go_wp2
                go_roundw
                case rel => exact ⟨_, q + 1, rfl, by go_num, by omega, HF.out.drewN _⟩
                case measure => simp [intOf]; omega
              · have hqn : q = n3 := by omega
                subst hqn
                have F6 := Lib.hid (F7.out.step HF.out)
                clear HF F7
                go_upto_region 26 with fail
                go_wp2_with fail
                refine (HOT.out _ F6.out).mono ?_
                rintro e w8 ⟨v8, rfl, r8, f8⟩
                have F8 := Lib.hid (F6.out.step f8)
                clear f8 F6
                obtain ⟨TS, hTS⟩ : ∃ z, tasksOf (tdOf ev) = z := ⟨_, rfl⟩
                rw [hTS] at r8 HSUM HNN HTL
                obtain ⟨a8, c8, rfl⟩ := r8.val
                have R8 := Lib.hid r8
                clear r8 hTS
                go_wp2_with fail
                refine (HOC.out _ F8.out).mono ?_
                rintro e w9 ⟨v9, L, rfl, r9, hca, f9⟩
                obtain ⟨a9, c9, rfl⟩ := r9.val
                have R9 := Lib.hid r9
                have HCA := Lib.hid hca
                have F9 := Lib.hid (F8.out.step f9)
                have F89 := Lib.hid f9
                obtain ⟨nt, hnt⟩ : ∃ n, TS.length = n := ⟨_, rfl⟩
                obtain ⟨nl, hnl⟩ : ∃ n, L.length = n := ⟨_, rfl⟩
                have hntb : (nt : Int) ≤ 60 := by
                  have h1 := HTL.out
                  omega
                have hnlb : (nl : Int) ≤ 60 := by
                  have h1 := hca.len
                  have h2 := HEL.out
                  omega
                rw [hnt] at R8 ⊢
                rw [hnl] at R9 ⊢
                have MT := Lib.hid hnt
                have ML := Lib.hid hnl
                clear r9 hca f9 F8 hnt hnl
                go_wp2
                go_loopw [26, 27] (fun s i wr => ∃ (wz : World) (q : Nat) (z : Int), wz = wr ∧ i = .int .i64 q ∧ q ≤ nt ∧ s = .int .i64 z ∧ z = ((TS.take q).map (·.ended)).sum ∧ Fr [] w9 wr) (fun _ i _ => nt - (intOf i).toNat)
                case atStart => exact ⟨_, 0, 0, rfl, rfl, by omega, rfl, rfl, Fr.refl _ _⟩
                case round =>
                  obtain ⟨wr, q, z, hwz, rfl, hq, rfl, hz, hF⟩ := hrel
                  subst hwz
                  have HF := Lib.hid hF
                  have hp := sum_part (·.ended) TS q HNN.out
                  rw [← hz, HSUM.out] at hp
                  have HZ := Lib.hid hz
                  clear hF hz
                  by_cases hlt : q < nt
                  · have hlt' : (q : Int) < (nt : Int) := by omega
                    have hx := List.getElem?_eq_getElem (l := TS) (i := q) (by rw [MT.out]; exact hlt)
                    obtain ⟨x, hxe⟩ : ∃ x, TS[q]'(by rw [MT.out]; exact hlt) = x := ⟨_, rfl⟩
                    rw [hxe] at hx
                    obtain ⟨gm, om, cm, hvm, hgm, m0, m1, m2, m3, m4, m5, m6, m7⟩ := (R8.out.new (F89.out.step HF.out)).cells hx
                    rw [MT.out] at hvm
                    simp only [Value.slice.injEq] at hvm
                    obtain ⟨rfl, _, rfl⟩ := hvm
                    have hs := part_succ (·.ended) TS q x hx
                    have hp2 := sum_part (·.ended) TS (q + 1) HNN.out
                    rw [hs, ← HZ.out, HSUM.out] at hp2
                    have HS := Lib.hid hs
                    obtain ⟨y1, y2, y3, y4, y5, y6, y7, y8⟩ := x
                    simp only at m4 hp2
                    clear hx hxe hgm m0 m1 m2 m3 m5 m6 m7 hs
                    go_wp2
                    go_roundw
                    case rel => exact ⟨_, q + 1, z + y5, rfl, by go_num, by omega, rfl, by rw [HS.out, HZ.out], HF.out⟩
                    case measure => simp [intOf]; omega
                  · have hqn : q = nt := by omega
                    subst hqn
                    have hz2 : z = (ev.countP (·.ended) : Int) := by rw [HZ.out, List.take_of_length_le (by rw [MT.out]; exact Nat.le_refl _), HSUM.out]
                    obtain ⟨EC, hEC⟩ : ∃ c : Nat, ev.countP (·.ended) = c := ⟨_, rfl⟩
                    have HEC := Lib.hid hEC
                    rw [hEC] at hz2 hE60
                    have HWR := Lib.hid HF.out
                    have hLn : ∀ x ∈ L, 0 ≤ x.n := fun x hx => by
                      have := (HCA.out.num x hx).1
                      omega
                    have HLN := Lib.hid hLn
                    subst hz2
                    clear hp hEC hLn
                    go_wp2
                    go_loopw [26, 28] (fun s i wq => ∃ (wz : World) (p : Nat) (y : Int), wz = wq ∧ i = .int .i64 p ∧ p ≤ nl ∧ s = .int .i64 y ∧ y = (EC : Int) - ((L.take p).map (·.n)).sum ∧ Fr [] w9 wq) (fun _ i _ => nl - (intOf i).toNat)
                    case atStart => exact ⟨_, 0, _, rfl, rfl, by omega, rfl, by simp, HWR.out⟩
                    case round =>
                      obtain ⟨wq, p, y, hwz, rfl, hpl, rfl, hy, hF⟩ := hrel
                      subst hwz
                      have HFq := Lib.hid hF
                      have hsp := sum_part (·.n) L p HLN.out
                      rw [HCA.out.sum, HEC.out] at hsp
                      have HY := Lib.hid hy
                      have hyr : 0 ≤ y ∧ y ≤ 60 := by omega
                      clear hF hy hsp
                      by_cases hlp : p < nl
                      · have hlp' : (p : Int) < (nl : Int) := by omega
                        have hx := List.getElem?_eq_getElem (l := L) (i := p) (by rw [ML.out]; exact hlp)
                        obtain ⟨x, hxe⟩ : ∃ x, L[p]'(by rw [ML.out]; exact hlp) = x := ⟨_, rfl⟩
                        rw [hxe] at hx
                        obtain ⟨gm, om, cm, hvm, hgm, m0, m1, m2⟩ := (R9.out.new HFq.out).cells hx
                        rw [ML.out] at hvm
                        simp only [Value.slice.injEq] at hvm
                        obtain ⟨rfl, _, rfl⟩ := hvm
                        have hs := part_succ (·.n) L p x hx
                        have hsp2 := sum_part (·.n) L (p + 1) HLN.out
                        rw [HCA.out.sum, HEC.out, hs] at hsp2
                        have hxn := HLN.out x (List.mem_of_getElem? hx)
                        have hyx : y - x.n = (EC : Int) - ((L.take (p + 1)).map (·.n)).sum := by rw [hs, HY.out]; omega
                        have hyb : 0 ≤ y - x.n := by rw [HY.out]; omega
                        have HYX := Lib.hid hyx
                        obtain ⟨y1, y2, y3⟩ := x
                        simp only at m2 hyb hxn
                        clear hx hxe hgm m0 m1 hs hsp2 hyx
                        go_wp2
                        go_roundw
                        case rel => exact ⟨_, p + 1, y - y3, rfl, by go_num, by omega, rfl, HYX.out, HFq.out⟩
                        case measure => simp [intOf]; omega
                      · have hpn : p = nl := by omega
                        subst hpn
                        have hy0 : y = 0 := by
                          rw [HY.out, List.take_of_length_le (by rw [ML.out]; exact Nat.le_refl _), HCA.out.sum, HEC.out]
                          omega
                        subst hy0
                        have FF := Lib.hid (F9.out.step HFq.out)
                        have HKN := Lib.hid (known_any wq (HE.out.new FF.out))
                        go_wp2_with fail
                        refine HKN.out.mono ?_
                        rintro e w12 ⟨rfl, f12⟩
                        go_wp2
                        go_ret
                        exact ⟨rfl, FF.out.step f12⟩
end Go.Proofs.YtllmejkcohfbiaaGreatDoor
