/- Report: OfTasks, walked. -/
import Derived.Test.YtllmejkcohfbiaaGreatDoorR25K
namespace Go.Proofs.YtllmejkcohfbiaaGreatDoor
open Go.RowKit Go.Maps Go.Shelf Go.Sort Go.Lib
set_option linter.unusedVariables false
set_option linter.unusedSimpArgs false
set_option maxRecDepth 100000
set_option maxHeartbeats 16000000

/-- The task is in the map; what its events so far make, and this one. -/
def TaskIn (w wz : World) (M q E : Nat) (o : Ev) (P : List (Int × Tk)) (s7 : Value) : Prop :=
  ∃ A b x B, s7 = .pointer (some ⟨b, 0, none⟩) ∧ TdS w wz M q (A ++ (o.task, b, x) :: B) ∧ b ≠ E ∧ EvBlk wz E o ∧ tdStep P o = tdPlain (A ++ (o.task, b, upT o x) :: B)
theorem upA_e (v : Ev) (x : Tk) : (upA v x).ended = x.ended ∧ (upA v x).failed = x.failed ∧ (upA v x).read = x.read ∧ (upA v x).written = x.written := by
  unfold upA; repeat' split
  all_goals exact ⟨rfl, rfl, rfl, rfl⟩
theorem upC_e (v : Ev) (x : Tk) : (upC v x).read = x.read ∧ (upC v x).written = x.written := by
  unfold upC; repeat' split
  all_goals exact ⟨rfl, rfl⟩
theorem upD_e (v : Ev) (x : Tk) : (upD v x).written = x.written := by
  unfold upD; repeat' split
  all_goals rfl
def evOk (x : Ev) : Prop := I64 x.task ∧ I64 x.eN ∧ x.eD.2.1 ≤ 100000
theorem ofTasks_any (v : Value) (xs : List Ev) (w : World) (h : EvRow w v xs) (hn : xs.length ≤ 5000) (hok : ∀ x ∈ xs, evOk x) :
    Calls Tryz.prog 36 #[v] w fun e w' => ∃ v', e = .returned (.tuple #[v', .int .i64 0]) ∧ TkRow w' v' (tasksOf (tdOf xs)) ∧ Fr [] w w' := by
  obtain ⟨a, cap, rfl⟩ := h.val
  obtain ⟨n, hnl⟩ : ∃ n, xs.length = n := ⟨_, rfl⟩
  have HM := Lib.hid hnl
  have HR := Lib.hid h
  have HI := Lib.hid hok
  rw [hnl] at hn HR ⊢
  have hn' : ¬ (5000 : Int) < (n : Int) := by omega
  have F0 := Lib.hid (show Fr [] w (w.alloc (.map #[] 0)) from (Fr.refl [] w).alloc _)
  have HS0 := Lib.hid (show TdS w (w.alloc (.map #[] 0)) w.heap.size 0 [] from ⟨⟨MapIs.made Tryz.prog 3 w, (fun p hp => by cases hp), by simp, (fun p hp => by cases hp)⟩, (fun p hp => by cases hp), (fun p hp => by cases hp), (fun p hp => by cases hp), (Fr.refl [] w).alloc _⟩)
  have hM0 : w.heap.size ≤ w.heap.size := Nat.le_refl _
  clear h hok hnl
  have hmm := @run_makeMap Tryz.prog
  go_enter Tryz.func36, Tryz.ntmps36
  go_wp2
  obtain ⟨w0, hw0⟩ : ∃ z, w.alloc (.map #[] 0) = z := ⟨_, rfl⟩
  rw [hw0] at HS0 F0
  rw [hw0]
  obtain ⟨M, hM⟩ : ∃ M, w.heap.size = M := ⟨_, rfl⟩
  have HMW := Lib.hid hM
  rw [hM] at HS0
  simp only [hM]
  clear hw0 hM hM0
  go_loopw [17] (fun i wr => ∃ (wz : World) (q : Nat) (D : TD), wz = wr ∧ i = .int .i64 q ∧ q ≤ n ∧ TdS w wr M q D ∧ tdPlain D = tdOf (xs.take q)) (fun i _ => n - (intOf i).toNat)
  case atStart => exact ⟨_, 0, [], rfl, rfl, by omega, HS0.out, rfl⟩
  case round =>
    obtain ⟨wr, q, D, hwz, rfl, hq, hS, hD⟩ := hrel
    subst hwz
    have HS := Lib.hid hS
    have HD := Lib.hid hD
    clear hS hD
    by_cases hlt : q < n
    · have hx := List.getElem?_eq_getElem (l := xs) (i := q) (by rw [HM.out]; exact hlt)
      obtain ⟨o, hoe⟩ : ∃ o, xs[q]'(by rw [HM.out]; exact hlt) = o := ⟨_, rfl⟩
      rw [hoe] at hx
      have hoo := HI.out o (List.mem_of_getElem? hx)
      rcases HR.out.new HS.out.fr with ⟨e1, _⟩ | ⟨g, off, cap', hv, hg, hcells⟩
      · rw [e1] at hx
        simp at hx
      rw [HM.out] at hv
      simp only [Value.slice.injEq] at hv
      obtain ⟨rfl, _, rfl⟩ := hv
      have hld := ev_load (hcells q o hx)
      obtain ⟨w5, hst, hblk, hfr⟩ := ev_store (w := wr.alloc (.cells #[.int .i64 0, .int .i64 0, .int .i64 0, .int .i64 0, .int .i64 0, .int .i64 0, .int .i64 0, .string ⟨#[]⟩, .int .i64 0, .slice none 0 0, .int .i64 0, .int .i64 0, .int .i64 0, .int .u64 0, .int .i64 0, .bool false, .int .i64 0, .int .i64 0, .int .i64 0, .int .i64 0, .slice none 0 0, .int .i64 0, .int .i64 0, .int .i64 0, .int .i64 0, .string ⟨#[]⟩, .int .i64 0, .int .u64 0, .slice none 0 0, .int .u64 0] 103)) (b := wr.heap.size) o (World.alloc_heap_new wr _) rfl
      have f5 : Fr [] wr w5 := ((Fr.refl [] wr).alloc _).trans hfr (fun x hx hl => by
        rw [List.mem_singleton] at hx
        omega)
      have HS5 := Lib.hid (HS.out.new f5)
      have HSU := Lib.hid (tdOf_succ xs q o hx)
      have hME : M < wr.heap.size := HS.out.r.map.lt
      have hDE : ∀ p ∈ D, p.2.1 < wr.heap.size := fun p hp => (Array.getElem?_eq_some_iff.1 (HS.out.r.at' p hp)).1
      have HLD := Lib.hid hld
      have HST := Lib.hid hst
      have HBK := Lib.hid hblk
      have HOO := Lib.hid hoo
      obtain ⟨V, hV⟩ : ∃ V, evV o = V := ⟨_, rfl⟩
      have HEV := Lib.hid hV
      rw [hV] at HLD HST
      have HEN := Lib.hid (fun W => (show Calls Tryz.prog 68 #[V] W fun e w' => e = .returned (.bool o.ended) ∧ Fr [] W w' from by
        have h := ended_any o W
        rw [← HEV.out]
        exact h))
      have HLE := Lib.hid (fun W (hb : EvBlk W wr.heap.size o) => (show (Instr.loadAt 103 (.pointer (some ⟨wr.heap.size, 0, none⟩))).run Tryz.prog W = .ok V W from by
        have h := ev_load hb.at
        rw [HEV.out] at h
        exact h))
      clear hx hoe hcells hld hst hblk hfr hV hoo f5
      go_upto_region 6 with fail
      refine wp_region_lit ?_
      refine wpList_plain rfl (fun K hK => ?_)
      go_simp
      refine hK _ _ ?_
      clear hK K
      refine wpList_val rfl (v := V) (w' := wr) ?_ ?_
      · show Sem.run Tryz.prog ((Instr.loadAt 103 (.pointer (some ⟨g, off + q * 30, none⟩))) >>= fun x => pure (Next.value x)) wr = _
        rw [Sem.run_bind, HLD.out]
        rfl
      refine wpList_plain rfl (fun K hK => ?_)
      go_simp
      refine hK _ _ ?_
      clear hK K
      refine wpList_skp rfl (w' := w5) ?_ ?_
      · show Sem.run Tryz.prog ((Instr.storeAt 103 (.pointer (some ⟨wr.heap.size, 0, none⟩)) V) >>= fun _ => pure Next.skip) _ = _
        rw [Sem.run_bind, HST.out]
        rfl
      refine wpList_nil ?_
      try simp only [Act.put, List.getElem_toArray, List.getElem_cons_succ, List.getElem_cons_zero, List.setIfInBounds_toArray, List.set_cons_zero, List.set_cons_succ]
      obtain ⟨E, hE⟩ : ∃ E, wr.heap.size = E := ⟨_, rfl⟩
      have hEw : w.heap.size ≤ E := by rw [← hE]; exact HS.out.fr.size
      rw [hE] at HBK HLE hME hDE
      have HDE := Lib.hid hDE
      clear hDE
      simp only [hE]
      clear hE HLD HST
      have HG := Lib.hid hg
      clear hg
      have e0 := HBK.out.c 0 _ rfl
      have e14 := HBK.out.c 14 _ rfl
      obtain ⟨cb, hcb⟩ : ∃ z, o.counts = z := ⟨_, rfl⟩
      have hcd : cb = ((o.kind == 1) || ((o.kind == 2) && (o.err == 0))) := hcb.symm
      have HCB := Lib.hid hcb
      have HCD := Lib.hid hcd
      clear hcb hcd
      go_upto_region 7 with fail
      go_cut [33] from 21 to 33 (fun s33 wz => s33 = .bool (!cb) ∧ wz = w5)
      case first =>
        cases h1 : (o.kind == 1) with
        | true =>
          rw [h1] at HCD
          have n1 : o.kind = 1 := beq_iff_eq.1 h1
          have b1 : (o.kind != 1) = false := by rw [bne, h1]; rfl
          go_wp2
          go_meet
          exact ⟨by rw [HCD.out]; rfl, rfl⟩
        | false =>
          rw [h1] at HCD
          have n1 : ¬ o.kind = 1 := beq_eq_false_iff_ne.1 h1
          have d1 : decide (o.kind = 1) = false := decide_eq_false n1
          have b1 : (o.kind != 1) = true := by rw [bne, h1]; rfl
          cases h2 : (o.kind == 2) with
          | false =>
            rw [h2] at HCD
            have n2 : ¬ o.kind = 2 := beq_eq_false_iff_ne.1 h2
            have d2 : decide (o.kind = 2) = false := decide_eq_false n2
            have b2 : (o.kind != 2) = true := by rw [bne, h2]; rfl
            go_wp2
            go_meet
            exact ⟨by rw [HCD.out]; rfl, rfl⟩
          | true =>
            rw [h2] at HCD
            have n2 : o.kind = 2 := beq_iff_eq.1 h2
            have b2 : (o.kind != 2) = false := by rw [bne, h2]; rfl
            have b2d : decide (o.kind = 2) = true := decide_eq_true n2
            cases h3 : (o.err == 0) with
            | true =>
              rw [h3] at HCD
              have n3 : o.err = 0 := beq_iff_eq.1 h3
              have b3 : (o.err != 0) = false := by rw [bne, h3]; rfl
              go_wp2
              go_meet
              exact ⟨by rw [HCD.out]; rfl, rfl⟩
            | false =>
              rw [h3] at HCD
              have n3 : ¬ o.err = 0 := beq_eq_false_iff_ne.1 h3
              have b3 : (o.err != 0) = true := by rw [bne, h3]; rfl
              go_wp2
              go_meet
              exact ⟨by rw [HCD.out]; rfl, rfl⟩
      case rest =>
        obtain ⟨rfl, hwc⟩ := hcut
        subst wc
        cases cb with
        | false =>
          go_wp2
          go_roundw
          case rel => exact ⟨_, q + 1, D, rfl, by go_num, by omega, HS5.out.up, by rw [HSU.out, step_idle HCB.out, HD.out]⟩
          case measure => simp [intOf]; omega
        | true =>
          have e1 := HBK.out.c 1 _ rfl
          obtain ⟨pb, hrun, hcase⟩ := HS5.out.look HOO.out.1
          have HCASE := Lib.hid hcase
          clear hcase
          go_upto_if 39 with fail
          go_cut [7] from 39 to 47 (fun s7 wz => TaskIn w wz M q E o (tdPlain D) s7)
          case first =>
            rcases HCASE.out with ⟨A, b, x, B, hD, rfl⟩ | ⟨rfl, hne⟩
            · subst hD
              have hst : tdStep (tdPlain (A ++ (o.task, b, x) :: B)) o = tdPlain (A ++ (o.task, b, upT o x) :: B) := step_here HCB.out HS5.out.r.others.1 HS5.out.r.others.2
              have hbE : b ≠ E := by
                have := HDE.out (o.task, b, x) (by simp)
                dsimp only at this
                omega
              have HP := Lib.hid (show TaskIn w w5 M q E o (tdPlain (A ++ (o.task, b, x) :: B)) (.pointer (some ⟨b, 0, none⟩)) from ⟨A, b, x, B, rfl, HS5.out, hbE, HBK.out, hst⟩)
              clear hst hbE
              go_wp2
              go_meet
              exact HP.out
            · obtain ⟨W', hput, hT, hf⟩ := HS5.out.put HOO.out.1 hne (by rw [HMW.out]; exact Nat.le_refl _)
              have hst := step_new (b := w5.heap.size) HCB.out hne
              have hEl := HBK.out.lt
              have hEM : E ≠ M := by omega
              have HP := Lib.hid (show TaskIn w W' M q E o (tdPlain D) (.pointer (some ⟨w5.heap.size, 0, none⟩)) from ⟨D, w5.heap.size, tk0 o.task, [], rfl, hT, by omega, HBK.out.keep hf (by simpa using hEM), hst⟩)
              have e1' : (w5.alloc (.cells #[.int .i64 o.task, .int .i64 0, .int .i64 0, .int .i64 0, .int .i64 0, .int .i64 0, .int .i64 0, .int .i64 0] 58)).cell? ⟨E, 1, none⟩ = some (.int .i64 o.task) := (HBK.out.keep ((Fr.refl [] w5).alloc _) (by simp)).c 1 _ rfl
              clear hT hf hst hEl hEM hne
              go_wp2
              go_meet
              exact HP.out
          case rest =>
            obtain ⟨A, b, x, B, rfl, hT, hbE, hB, hst⟩ := hcut
            obtain ⟨w6, rfl⟩ : ∃ z, z = wc := ⟨wc, rfl⟩
            have hlim := hT.lim (o.task, b, x) (by simp)
            have hX := hT.r.at' (o.task, b, x) (by simp)
            dsimp only at hlim hX
            have HT := Lib.hid hT
            have HX := Lib.hid hX
            have HB := Lib.hid hB
            have HSTEP := Lib.hid hst
            have HLIM := Lib.hid hlim
            have hNE : b ∉ ([] : List Nat) := by simp
            have HBE := Lib.hid hbE
            have x1 := HX.out.c1
            have x2 := HX.out.c2
            have x3 := HX.out.c3
            have xz := HX.out.fz
            have hb0 := HB.out.c 0 _ rfl
            have hb3 := HB.out.c 14 _ rfl
            clear hT hX hB hst hlim hbE hNE e0 e14 e1 hrun HCASE
            go_step
            go_step
            go_cut [] from 48 to 81 (fun wz => TkAt wz b (upA o x) ∧ Fr [b] w6 wz)
            case first =>
              have qa := HLIM.out.a
              have qb := HLIM.out.b
              have qc := HLIM.out.c
              cases h1 : (o.kind == 1) with
              | true =>
                have n1 : o.kind = 1 := beq_iff_eq.1 h1
                cases h3 : (o.err == 0) with
                | true =>
                  have n3 : o.err = 0 := beq_iff_eq.1 h3
                  have HU := Lib.hid (show upA o x = { x with calls := x.calls + 1 } from by unfold upA; rw [if_pos h1, if_pos h3])
                  go_wp2
                  go_meet
                  exact ⟨by rw [HU.out]; exact HX.out.set1 _, (Fr.refl _ _).setCell (fun _ => by simp) _⟩
                | false =>
                  have n3 : ¬ o.err = 0 := beq_eq_false_iff_ne.1 h3
                  have d3 : decide (o.err = 0) = false := decide_eq_false n3
                  have HU := Lib.hid (show upA o x = { x with refused := x.refused + 1 } from by unfold upA; rw [if_pos h1, if_neg (by rw [h3]; simp)])
                  go_wp2
                  go_meet
                  exact ⟨by rw [HU.out]; exact HX.out.set2 _, (Fr.refl _ _).setCell (fun _ => by simp) _⟩
              | false =>
                have n1 : ¬ o.kind = 1 := beq_eq_false_iff_ne.1 h1
                have d1 : decide (o.kind = 1) = false := decide_eq_false n1
                have HU := Lib.hid (show upA o x = { x with steps := x.steps + 1 } from by unfold upA; rw [if_neg (by rw [h1]; simp)])
                go_wp2
                go_meet
                exact ⟨by rw [HU.out]; exact HX.out.set3 _, (Fr.refl _ _).setCell (fun _ => by simp) _⟩
            case rest =>
              obtain ⟨hXa, hFa⟩ := hcut
              obtain ⟨w7, rfl⟩ : ∃ z, z = wc := ⟨wc, rfl⟩
              have HXA := Lib.hid hXa
              have HFA := Lib.hid hFa
              have hBa := HB.out.keep hFa (by simpa using HBE.out.symm)
              have HLA := Lib.hid (HLE.out _ hBa)
              have HBA := Lib.hid hBa
              clear hXa hFa hBa x1 x2 x3 xz hb0 hb3
              go_upto_region 17 with fail
              refine wp_region_lit ?_
              refine wpList_val rfl (v := V) (w' := w7) ?_ ?_
              · show Sem.run Tryz.prog ((Instr.loadAt 103 (.pointer (some ⟨E, 0, none⟩))) >>= fun x => pure (Next.value x)) w7 = _
                rw [Sem.run_bind, HLA.out]
                rfl
              try simp only [Act.put, List.getElem_toArray, List.getElem_cons_succ, List.getElem_cons_zero, List.setIfInBounds_toArray, List.set_cons_zero, List.set_cons_succ]
              go_wp2_with fail
              refine (HEN.out _).mono ?_
              rintro e w8 ⟨rfl, f8⟩
              have HXE := Lib.hid (HXA.out.keep f8 (by simp))
              have HBD := Lib.hid (HBA.out.keep f8 (by simp))
              have HFE := Lib.hid (HFA.out.trans (f8.mono (fun _ h => by cases h)) (fun k hk _ => hk) : Fr [b] w6 w8)
              clear f8
              obtain ⟨en, hen⟩ : ∃ z, o.ended = z := ⟨_, rfl⟩
              rw [hen]
              have HED := Lib.hid hen
              clear hen HXA HFA HBA HLA HEN HLE
              cases en with
              | false =>
                go_wp2
                go_roundw
                case rel => exact ⟨_, q + 1, _, rfl, by go_num, by omega, HT.out.turn HFE.out (by rw [show upA o x = upT o x from by unfold upT; rw [if_neg (by rw [HED.out]; simp)]] at HXE; exact HXE.out) (upT_lim o HLIM.out HOO.out.2.2), by rw [HSU.out, ← HD.out, HSTEP.out]⟩
                case measure => simp [intOf]; omega
              | true =>
                have hue := upA_e o x
                have qd := HLIM.out.d
                have y4 := HXE.out.c4
                have yz := HXE.out.fz
                rw [hue.1] at y4
                clear hue
                go_upto_region 19 with fail
                obtain ⟨w9, hw9⟩ : ∃ z, w8.setCell ⟨b, 4, none⟩ (.int .i64 (x.ended + 1)) = z := ⟨_, rfl⟩
                obtain ⟨y, hy⟩ : ∃ y, upB o (upA o x) = y := ⟨_, rfl⟩
                have HX9 := Lib.hid (show TkAt w9 b y from by rw [← hw9, ← hy]; have := HXE.out.set4 (x.ended + 1); rw [← (upA_e o x).1] at this ⊢; exact this)
                have HF9 := Lib.hid (show Fr [b] w6 w9 from by rw [← hw9]; exact HFE.out.setCell (fun _ => by simp) _)
                have HB9 := Lib.hid (show EvBlk w9 E o from by rw [← hw9]; exact HBD.out.keep ((Fr.refl [b] w8).setCell (fun _ => by simp) _) (by simpa using HBE.out.symm))
                have HY := Lib.hid (show y.failed = x.failed ∧ y.read = x.read ∧ y.written = x.written from by rw [← hy]; exact (upA_e o x).2)
                have HUT := Lib.hid (show upT o x = upE o (upD o (upC o y)) from by rw [← hy]; unfold upT; rw [if_pos HED.out])
                rw [hw9]
                clear hw9 hy HXE HFE HBD y4 yz qd
                have g18 := HB9.out.c 18 _ rfl
                have y5 := HX9.out.c5
                have yz := HX9.out.fz
                have qe := HLIM.out.e
                rw [HY.out.1] at y5
                go_upto_if 95 with fail
                go_cut [] from 92 to 102 (fun wz => TkAt wz b (upC o y) ∧ Fr [b] w9 wz)
                case first =>
                  cases h1 : (o.eErr == 0) with
                  | true =>
                    have n1 : o.eErr = 0 := beq_iff_eq.1 h1
                    have HU := Lib.hid (show upC o y = y from by unfold upC; rw [if_pos h1])
                    go_wp2
                    go_meet
                    exact ⟨by rw [HU.out]; exact HX9.out, Fr.refl _ _⟩
                  | false =>
                    have n1 : ¬ o.eErr = 0 := beq_eq_false_iff_ne.1 h1
                    have b1 : (o.eErr != 0) = true := by rw [bne, h1]; rfl
                    have HU := Lib.hid (show upC o y = { y with failed := x.failed + 1 } from by unfold upC; rw [if_neg (by rw [h1]; simp), HY.out.1])
                    go_wp2
                    go_meet
                    exact ⟨by rw [HU.out]; exact HX9.out.set5 _, (Fr.refl _ _).setCell (fun _ => by simp) _⟩
                case rest =>
                  obtain ⟨hXc, hFc⟩ := hcut
                  obtain ⟨wA, rfl⟩ : ∃ z, z = wc := ⟨wc, rfl⟩
                  have HXC := Lib.hid hXc
                  have HFC := Lib.hid hFc
                  have HBC := Lib.hid (HB9.out.keep hFc (by simpa using HBE.out.symm))
                  clear hXc hFc g18 y5 yz qe
                  have g17 := HBC.out.c 17 _ rfl
                  have g20 := HBC.out.c 20 _ rfl
                  have y6 := HXC.out.c6
                  have yz := HXC.out.fz
                  have qf := HLIM.out.f
                  have hoo := HOO.out.2.2
                  rw [(upC_e o y).1, HY.out.2.1] at y6
                  go_upto_if 106 with fail
                  go_cut [] from 103 to 117 (fun wz => TkAt wz b (upD o (upC o y)) ∧ Fr [b] wA wz)
                  case first =>
                    cases h1 : (o.eKind == 5) with
                    | false =>
                      have n1 : ¬ o.eKind = 5 := beq_eq_false_iff_ne.1 h1
                      have HU := Lib.hid (show upD o (upC o y) = upC o y from by unfold upD; rw [if_neg (by rw [h1]; simp)])
                      go_wp2
                      go_meet
                      exact ⟨by rw [HU.out]; exact HXC.out, Fr.refl _ _⟩
                    | true =>
                      have n1 : o.eKind = 5 := beq_iff_eq.1 h1
                      have HU := Lib.hid (show upD o (upC o y) = { upC o y with read := x.read + (o.eD.2.1 : Int) } from by unfold upD; rw [if_pos h1, (upC_e o y).1, HY.out.2.1])
                      obtain ⟨Y, hY⟩ : ∃ Y, upC o y = Y := ⟨_, rfl⟩
                      have HYE := Lib.hid hY
                      rw [hY] at HU HXC
                      clear hY
                      go_upto_region 22 with fail
                      go_region
                      all_goals go_wp2
                      all_goals go_meet
                      case' rel => skip
                      all_goals exact ⟨by rw [HYE.out, HU.out]; exact HXC.out.set6 _, ((Fr.refl [b] wA).setCell (fun _ => by simp) _).drew⟩
                  case rest =>
                    obtain ⟨hXd, hFd⟩ := hcut
                    obtain ⟨wB, rfl⟩ : ∃ z, z = wc := ⟨wc, rfl⟩
                    have HXD := Lib.hid hXd
                    have HFD := Lib.hid hFd
                    have HBD := Lib.hid (HBC.out.keep hFd (by simpa using HBE.out.symm))
                    clear hXd hFd g17 g20 y6 yz qf hoo
                    have g17 := HBD.out.c 17 _ rfl
                    have g19 := HBD.out.c 19 _ rfl
                    have y7 := HXD.out.c7
                    have yz := HXD.out.fz
                    have qg := HLIM.out.g
                    rw [upD_e, (upC_e o y).2, HY.out.2.2] at y7
                    obtain ⟨Y, hY⟩ : ∃ Y, upD o (upC o y) = Y := ⟨_, rfl⟩
                    have hYw : Y.written = x.written := by rw [← hY, upD_e, (upC_e o y).2, HY.out.2.2]
                    rw [hY] at HUT HXD
                    have HYW := Lib.hid hYw
                    clear hYw hY
                    go_upto_region 23 with fail
                    go_cut [133] from 118 to 133 (fun s wz => s = .bool ((o.eKind == 6) && (decide (0 ≤ o.eN) && decide (o.eN ≤ 65536))) ∧ wz = wB)
                    case first =>
                      cases h1 : (o.eKind == 6) with
                      | false =>
                        have n1 : ¬ o.eKind = 6 := beq_eq_false_iff_ne.1 h1
                        have d1 : decide (o.eKind = 6) = false := decide_eq_false n1
                        have HK := Lib.hid (show ((o.eKind == 6) && (decide (0 ≤ o.eN) && decide (o.eN ≤ 65536))) = false from by rw [h1]; rfl)
                        go_wp2
                        go_meet
                        exact ⟨by rw [HK.out], rfl⟩
                      | true =>
                        have n1 : o.eKind = 6 := beq_iff_eq.1 h1
                        cases h2 : decide (0 ≤ o.eN) with
                        | false =>
                          have n2 : ¬ 0 ≤ o.eN := of_decide_eq_false h2
                          have HK := Lib.hid (show ((o.eKind == 6) && (decide (0 ≤ o.eN) && decide (o.eN ≤ 65536))) = false from by rw [h1, h2]; rfl)
                          go_wp2
                          go_meet
                          exact ⟨by rw [HK.out], rfl⟩
                        | true =>
                          have n2 : 0 ≤ o.eN := of_decide_eq_true h2
                          cases h3 : decide (o.eN ≤ 65536) with
                          | false =>
                            have n3 : ¬ o.eN ≤ 65536 := of_decide_eq_false h3
                            have HK := Lib.hid (show ((o.eKind == 6) && (decide (0 ≤ o.eN) && decide (o.eN ≤ 65536))) = false from by rw [h1, h2, h3]; rfl)
                            go_wp2
                            go_meet
                            exact ⟨by rw [HK.out], rfl⟩
                          | true =>
                            have n3 : o.eN ≤ 65536 := of_decide_eq_true h3
                            have HK := Lib.hid (show ((o.eKind == 6) && (decide (0 ≤ o.eN) && decide (o.eN ≤ 65536))) = true from by rw [h1, h2, h3]; rfl)
                            go_wp2
                            go_meet
                            exact ⟨by rw [HK.out], rfl⟩
                    case rest =>
                      obtain ⟨rfl, hwc⟩ := hcut
                      subst wc
                      go_upto_if 133 with fail
                      obtain ⟨wr6, hwr6⟩ : ∃ z, ((o.eKind == 6) && (decide (0 ≤ o.eN) && decide (o.eN ≤ 65536))) = z := ⟨_, rfl⟩
                      rw [hwr6]
                      have hn6 : wr6 = true → 0 ≤ o.eN ∧ o.eN ≤ 65536 := by
                        rw [← hwr6]
                        simp only [Bool.and_eq_true, decide_eq_true_eq]
                        exact fun h => h.2
                      have HW6 := Lib.hid hwr6
                      clear hwr6
                      cases wr6 with
                      | false =>
                        have HU := Lib.hid (show upE o Y = Y from by unfold upE; rw [if_neg (by rw [HW6.out]; simp)])
                        have hFF : Fr [b] w6 wB := (((HF9.out.trans HFC.out (fun _ h _ => h)).trans HFD.out (fun _ h _ => h)).trans (Fr.refl _ _) (fun _ h _ => h))
                        have HFF := Lib.hid hFF
                        have HXE := Lib.hid (show TkAt wB b (upE o Y) from by rw [HU.out]; exact HXD.out)
                        clear hFF g17 g19 y7 yz qg
                        go_wp2
                        go_roundw
                        case rel => exact ⟨_, q + 1, _, rfl, by go_num, by omega, HT.out.turn HFF.out (by rw [HUT.out]; exact HXE.out) (upT_lim o HLIM.out HOO.out.2.2), by rw [HSU.out, ← HD.out, HSTEP.out]⟩
                        case measure => simp [intOf]; omega
                      | true =>
                        have hn7 := hn6 rfl
                        have HU := Lib.hid (show upE o Y = { Y with written := x.written + o.eN } from by unfold upE; rw [if_pos HW6.out, HYW.out])
                        clear hn6
                        go_upto_region 24 with fail
                        go_region
                        have hFF : Fr [b] w6 (wB.setCell ⟨b, 7, none⟩ (.int .i64 (x.written + o.eN))).drew := (((HF9.out.trans HFC.out (fun _ h _ => h)).trans HFD.out (fun _ h _ => h)).trans (((Fr.refl [b] wB).setCell (fun _ => by simp) _).drew) (fun _ h _ => h))
                        have HFF := Lib.hid hFF
                        have HXE := Lib.hid (show TkAt (wB.setCell ⟨b, 7, none⟩ (.int .i64 (x.written + o.eN))).drew b (upE o Y) from by rw [HU.out]; exact HXD.out.set7 _)
                        clear hFF g17 g19 y7 yz qg
                        go_wp2
                        go_roundw
                        case rel => exact ⟨_, q + 1, _, rfl, by go_num, by omega, HT.out.turn HFF.out (by rw [HUT.out]; exact HXE.out) (upT_lim o HLIM.out HOO.out.2.2), by rw [HSU.out, ← HD.out, HSTEP.out]⟩
                        case measure => simp [intOf]; omega
    · have hqn : q = n := by omega
      subst hqn
      have hDx : tdPlain D = tdOf xs := by
        have := HD.out
        rwa [List.take_of_length_le (by rw [HM.out]; exact Nat.le_refl _)] at this
      have hDl : D.length ≤ 5000 := by
        have h1 := tdOf_len xs
        rw [← hDx, HM.out] at h1
        simp only [tdPlain, List.length_map] at h1
        omega
      have HDX := Lib.hid hDx
      have f1 : Fr [] wr (wr.alloc (.cells #[.map (some M)] 140)) := (Fr.refl [] wr).alloc _
      have HS1 := Lib.hid (HS.out.new f1)
      obtain ⟨D0, hown, hperm, hsize⟩ := MapIs.ownsKeys (D.map (·.1)) HS1.out.r.map (tdPairs_keys D) (fun k hk => by
        obtain ⟨y, hy, rfl⟩ := List.mem_map.1 hk
        exact HS.out.keys y hy) (by rw [List.length_map]; omega)
      rw [List.length_map] at hsize
      have hS := sorted_any (H := Unit) M _ wr.heap.size D0 (fun _ => some (.nil, [])) _ (by simp) (by simp) hown (by rw [hsize]; unfold maxLen; omega) (by rw [hsize]; omega)
      have HSO := Lib.hid hS
      have HPM := Lib.hid hperm
      have HDL := Lib.hid hDl
      clear hown hS f1 hperm hsize hDl hDx HD
      go_wp2_with fail
      refine (keys_any _ _).mono ?_
      rintro e w2 ⟨rfl, rfl⟩
      go_wp2_with fail
      refine HSO.out.mono ?_
      rintro e w3 ⟨v3, ss, rfl, hp, hrow, -, hb⟩
      obtain ⟨L, hL⟩ : ∃ L, ss.mergeSort (fun x y => decide (x ≤ y)) = L := ⟨_, rfl⟩
      rw [hL] at hrow
      have hLk : (D.map (·.1)).mergeSort (fun x y => decide (x ≤ y)) = L := by
        rw [← hL]
        exact mergeSort_of_perm_i (hp.trans HPM.out).symm
      have hLl : L.length = ss.length := by rw [← hL, List.length_mergeSort]
      have hsl : ss.length = D.length := by rw [(hp.trans HPM.out).length_eq, List.length_map]
      have hmem : ∀ k ∈ L, ∃ A b x B, D = A ++ (k, b, x) :: B := by
        intro k hk
        rw [← hLk, List.mem_mergeSort] at hk
        rcases td_split D k with h | h
        · exact h
        · obtain ⟨y, hy, rfl⟩ := List.mem_map.1 hk
          exact absurd rfl (h y hy)
      have HTO := Lib.hid (show tasksOf (tdPlain D) = L.map (tkOf (tdPlain D)) from by unfold tasksOf; rw [tdPlain_keys, hLk])
      have HMEM := Lib.hid hmem
      have hb3 : Fr [] (wr.alloc (.cells #[.map (some M)] 140)) w3 := Fr.of_below hb
      have HS3 := Lib.hid (HS1.out.new hb3)
      obtain ⟨m, hm⟩ : ∃ m, ss.length = m := ⟨_, rfl⟩
      rw [hm] at hrow hLl hsl
      have HLL := Lib.hid hLl
      have HML := Lib.hid (show m ≤ 5000 from by rw [hsl]; exact HDL.out)
      have HRW := Lib.hid hrow
      obtain ⟨a3, c3, rfl⟩ : ∃ a c, v3 = .slice a m c := row_val hrow
      clear hp hrow hb hL hLk hLl hsl hmem hm hb3 HSO HPM HS1 HDL
      obtain ⟨Z, hZ⟩ : ∃ Z, w3.heap.size = Z := ⟨_, rfl⟩
      have HZ := Lib.hid hZ
      clear hZ
      obtain ⟨i0, hi, hz0, hz1, hz2⟩ := info_parts infoTk
      have hu52 := Tryz.underlying52
      go_wp2
      go_loopw [8, 149] (fun v i wz => ∃ (wzz : World) (p : Nat) (aw : Option Addr) (cw : Nat), wzz = wz ∧ i = .int .i64 p ∧ p ≤ m ∧ v = .slice aw p cw ∧ wz.ownsRow Z 58 8 (.slice aw p cw) p (tkCells ((L.take p).map (tkOf (tdPlain D)))) ∧ Fr [] w3 wz) (fun _ i _ => m - (intOf i).toNat)
      case atStart => exact ⟨_, 0, none, 0, rfl, rfl, by omega, rfl, World.ownsRow_nil _ _ _ _, Fr.refl _ _⟩
      case round =>
        obtain ⟨wz, p, aw, cw, hwz, rfl, hp, rfl, hR, hF⟩ := hrel
        subst hwz
        have HR2 := Lib.hid hR
        have HF2 := Lib.hid hF
        clear hR hF
        by_cases hlt : p < m
        · have hx := List.getElem?_eq_getElem (l := L) (i := p) (by rw [HLL.out]; exact hlt)
          obtain ⟨k, hk⟩ : ∃ k, L[p]'(by rw [HLL.out]; exact hlt) = k := ⟨_, rfl⟩
          rw [hk] at hx
          obtain ⟨A, b, x, B, hDe⟩ := HMEM.out k (List.mem_of_getElem? hx)
          have HSZ := Lib.hid (HS3.out.new HF2.out)
          have hmap := HSZ.out.r
          rw [hDe] at hmap
          have hX := hmap.at' (k, b, x) (by simp)
          dsimp only at hX
          have hlk := hmap.map.hit keyInt (t := 140) (e := 141) Tryz.underlying140 (x := .int .i64 k) (v := .pointer (some ⟨b, 0, none⟩)) (by simp [tdPairs]) false
          have hov : tkOf (tdPlain D) k = x := by
            unfold tkOf
            rw [hDe, td_lookup hmap.others.1]
            rfl
          have hcell : ∃ g, a3 = some ⟨g, 0, none⟩ ∧ wz.cell? ⟨g, p, none⟩ = some (.int .i64 k) := by
            have h3 := row_fr HRW.out HF2.out
            rcases h3.2 with ⟨h1, h2⟩ | ⟨g, cap, cur, h1, h2, h3', _⟩
            · omega
            · simp only [Value.slice.injEq] at h1
              refine ⟨g, h1.1, ?_⟩
              have := World.ownsRow.cells h3 (g := g) (by rw [h1.1]; rfl) p (.int .i64 k) (by rw [List.getElem?_map, hx]; rfl)
              rw [Addr.add_lit] at this
              simpa using this
          obtain ⟨g, rfl, hcell⟩ := hcell
          have x0 := hX.c0
          have x1 := hX.c1
          have x2 := hX.c2
          have x3 := hX.c3
          have x4 := hX.c4
          have x5 := hX.c5
          have x6 := hX.c6
          have x7 := hX.c7
          have HTK := Lib.hid (show tkCells ((L.take (p + 1)).map (tkOf (tdPlain D))) = tkCells ((L.take p).map (tkOf (tdPlain D))) ++ tkVals x from by
            rw [List.take_add_one, hx]
            simp only [Option.toList_some, List.map_append, List.map_cons, List.map_nil, tkCells_app, tkCells, hov, List.append_nil])
          have HP := Lib.hid hp
          have fA : Fr [] wz (wz.alloc (.cells #[.int .i64 x.t, .int .i64 x.calls, .int .i64 x.refused, .int .i64 x.steps, .int .i64 x.ended, .int .i64 x.failed, .int .i64 x.read, .int .i64 x.written] 58)) := (Fr.refl [] wz).alloc _
          have HRA := Lib.hid (row_fr HR2.out fA)
          have HOB := Lib.hid (show ∀ k, (Value.slice aw p cw).ownBlock = some k → Z ≤ k from fun k e => by
            rcases HR2.out.2 with ⟨h1, h2⟩ | ⟨gg, cp, cur, h1, h2, h3, _⟩
            · rw [h1] at e
              cases e
            · rw [h1] at e
              cases e
              exact h2)
          have hZs : Z ≤ (wz.alloc (.cells #[.int .i64 x.t, .int .i64 x.calls, .int .i64 x.refused, .int .i64 x.steps, .int .i64 x.ended, .int .i64 x.failed, .int .i64 x.read, .int .i64 x.written] 58)).heap.size := by
            have h1 := (HF2.out.step fA).size
            rw [HZ.out] at h1
            exact h1
          have HZS := Lib.hid hZs
          have HFA := Lib.hid (HF2.out.step fA)
          have hml := HML.out
          clear hX hmap hx hk hDe hov fA hZs
          go_wp2_with (first
            | (at_builtin; refine wpList_append_own _ rfl _ _ 52 rfl Z 58 i0 _ 8 64 Tryz.underlying52 hi hz0 hz1 hz2 rfl (by omega) _ _ _ rfl HRA.out ⟨wz.heap.size, 0, none⟩ 1 1 (tkVals x) rfl rfl (tkVals_new wz x) (tkVals_one x) (by unfold maxLen; omega) (by omega) HZS.out ?_; intro v' w4 hown' hgrow hnil; obtain ⟨a', cap', rfl⟩ := row_val' hown'; have HGR := Lib.hid hgrow; have HOW := Lib.hid hown'; clear hgrow hown' hnil)
            | fail)
          go_roundw
          case rel => exact ⟨_, p + 1, a', cap', rfl, by go_num, by omega, rfl, by rw [HTK.out]; exact HOW.out, HFA.out.trans (grownFr (S := (Value.slice aw p cw).ownBlock.toList) HGR.out (fun k e => by have e' : (Value.slice aw p cw).ownBlock = some k := e; rw [e']; simp)) (fun k hk hl => by
            have := HOB.out k (by simpa using hk)
            rw [HZ.out] at hl
            omega)⟩
          case measure => simp [intOf]; omega
        · have hpm : p = m := by omega
          subst hpm
          have HTR := Lib.hid (show TkRow wz (.slice aw p cw) (L.map (tkOf (tdPlain D))) from by
            have h1 := HR2.out
            rw [List.take_of_length_le (by rw [HLL.out]; exact Nat.le_refl _)] at h1
            refine (TkRow.of (lo := Z) ?_).1
            rw [List.length_map, HLL.out]
            exact h1)
          have HFZ := Lib.hid (HS3.out.fr.step HF2.out)
          go_wp2
          go_ret2
          exact ⟨_, rfl, by rw [← HDX.out, HTO.out]; exact HTR.out, HFZ.out⟩
end Go.Proofs.YtllmejkcohfbiaaGreatDoor
