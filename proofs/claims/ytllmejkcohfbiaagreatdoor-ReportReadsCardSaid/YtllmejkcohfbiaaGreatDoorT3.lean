/- Report: the law's own light, ended and done. -/
/- Report: the law's own done. -/
/- Report: the tasks in the law's own way, in plain. -/
import Derived.Test.YtllmejkcohfbiaaGreatDoorR25K
import Derived.Test.YtllmejkcohfbiaaGreatDoorS3
import Derived.Deep.CutRange
namespace Go.Proofs.YtllmejkcohfbiaaGreatDoor
open Go.RowKit Go.Maps Go.Shelf Go.Sort Go.Lib
set_option linter.unusedVariables false
set_option linter.unusedSimpArgs false
set_option maxRecDepth 100000
set_option maxHeartbeats 16000000

theorem endedL_any (x : Ev) (w : World) :
    Calls Tryz.prog 35 #[.agg #[.int .i64 x.kind, .int .i64 x.task, .int .i64 x.cK, .int .i64 x.cF1, .int .i64 x.cF2, .int .i64 x.cT1, .int .i64 x.cT2, .string x.cA, .int .i64 x.cP, .slice x.cD.1 x.cD.2.1 x.cD.2.2, .int .i64 x.cM, .int .i64 x.cN, .int .i64 x.cR, .int .u64 x.cAt, .int .i64 x.err, .bool x.done, .int .i64 x.eTask, .int .i64 x.eKind, .int .i64 x.eErr, .int .i64 x.eN, .slice x.eD.1 x.eD.2.1 x.eD.2.2, .int .i64 x.eF1, .int .i64 x.eF2, .int .i64 x.eT1, .int .i64 x.eT2, .string x.eA, .int .i64 x.eP, .int .u64 x.eAt, .slice x.woke.1 x.woke.2.1 x.woke.2.2, .int .u64 x.now]] w fun e w' => e = .returned (.bool x.ended) ∧ Fr [] w w' := by
  have hE : x.ended = ((x.kind == 2) && ((x.err == 0) && x.done)) := rfl
  have HE := Lib.hid hE
  clear hE
  cases h1 : (x.kind == 2) with
  | false =>
    rw [h1] at HE
    go_enter Tryz.func35, Tryz.ntmps35
    go_wp2
    go_ret
    exact ⟨by rw [HE.out]; rfl, (Fr.refl [] w).alloc _⟩
  | true =>
    rw [h1] at HE
    cases h2 : (x.err == 0) with
    | false =>
      rw [h2] at HE
      go_enter Tryz.func35, Tryz.ntmps35
      go_wp2
      go_ret
      exact ⟨by rw [HE.out]; rfl, (Fr.refl [] w).alloc _⟩
    | true =>
      rw [h2] at HE
      obtain ⟨d, hd⟩ : ∃ d, x.done = d := ⟨_, rfl⟩
      rw [hd] at HE ⊢
      clear hd
      go_enter Tryz.func35, Tryz.ntmps35
      go_wp2
      go_ret
      exact ⟨by rw [HE.out]; cases d <;> rfl, (Fr.refl [] w).alloc _⟩
def slim (xs : List Ev) : Bool := xs.all fun x => decide (x.eD.2.1 ≤ 300)
/-- Not more than 60 events, of at most 300 bytes each. -/
def lightB (xs : List Ev) : Bool := slim (xs.take 60) && decide (xs.length ≤ 60)
theorem slim_succ {xs : List Ev} {q : Nat} {o : Ev} (h : slim (xs.take q) = true) (hx : xs[q]? = some o) (ho : o.eD.2.1 ≤ 300) : slim (xs.take (q + 1)) = true := by
  unfold slim at *
  rw [List.take_add_one, hx, List.all_append, h]
  simp [ho]
theorem slim_bad {xs : List Ev} {q : Nat} {o : Ev} (hq : q < 60) (hx : xs[q]? = some o) (ho : 300 < o.eD.2.1) : lightB xs = false := by
  have hm : o ∈ xs.take 60 := List.mem_of_getElem? (i := q) (by rw [List.getElem?_take, if_pos hq]; exact hx)
  unfold lightB slim
  rw [Bool.and_eq_false_iff]
  left
  rw [List.all_eq_false]
  exact ⟨o, hm, by simpa using ho⟩
theorem light_any (v : Value) (xs : List Ev) (w : World) (h : EvRow w v xs) :
    Calls Tryz.prog 33 #[v, .int .i64 60] w fun e w' => e = .returned (.bool (lightB xs)) ∧ w = w' := by
  obtain ⟨a, cap, rfl⟩ := h.val
  obtain ⟨n, hnl⟩ : ∃ n, xs.length = n := ⟨_, rfl⟩
  have HM := Lib.hid hnl
  have HR := Lib.hid h
  rw [hnl] at HR ⊢
  clear h hnl
  go_enter Tryz.func33, Tryz.ntmps33
  go_wp2
  go_loopw [5] (fun i wr => ∃ (q : Nat), i = .int .i64 q ∧ q ≤ n ∧ q ≤ 60 ∧ slim (xs.take q) = true ∧ w = wr) (fun i _ => n - (intOf i).toNat)
  case atStart => exact ⟨0, rfl, by omega, by omega, rfl, rfl⟩
  case round =>
    obtain ⟨q, rfl, hq, hq6, hs, rfl⟩ := hrel
    have HS := Lib.hid hs
    clear hs
    have d0 : (((q : Nat) : Int) < (n : Int)) = (q < n) := by simp
    by_cases hlt : q < n
    · have hd1 : decide ((q : Int) < (n : Int)) = true := decide_eq_true (by omega)
      by_cases h60 : q < 60
      · have hd2 : decide ((q : Int) < 60) = true := decide_eq_true (by omega)
        have hx := List.getElem?_eq_getElem (l := xs) (i := q) (by rw [HM.out]; exact hlt)
        obtain ⟨o, hoe⟩ : ∃ o, xs[q]'(by rw [HM.out]; exact hlt) = o := ⟨_, rfl⟩
        rw [hoe] at hx
        rcases HR.out with ⟨e1, _⟩ | ⟨g, off, cap', hv, hg, hcells⟩
        · rw [e1] at hx
          simp at hx
        rw [HM.out] at hv
        simp only [Value.slice.injEq] at hv
        obtain ⟨rfl, _, rfl⟩ := hv
        have k20 := hcells q o hx 20 _ rfl
        have HX := Lib.hid hx
        clear hx hoe hcells
        by_cases h3 : 300 < o.eD.2.1
        · have hb := Lib.hid (slim_bad h60 HX.out h3)
          have hd3 : decide ((300 : Int) < (o.eD.2.1 : Int)) = true := decide_eq_true (by omega)
          go_wp2
          go_ret
          first | exact ⟨by rw [hb.out]; rfl, rfl⟩ | exact ⟨by rw [hb.out]; rfl, trivial⟩
        · have hb := Lib.hid (slim_succ HS.out HX.out (by omega))
          have hd3 : decide ((300 : Int) < (o.eD.2.1 : Int)) = false := decide_eq_false (by omega)
          go_wp2
          go_roundw
          case rel => exact ⟨q + 1, by go_num, by omega, by omega, hb.out, trivial⟩
          case measure => simp [intOf]; omega
      · have hd2 : decide ((q : Int) < 60) = false := decide_eq_false (by omega)
        have hq60 : q = 60 := by omega
        subst hq60
        have hr : lightB xs = decide (n ≤ 60) := by unfold lightB; rw [HS.out, HM.out]; rfl
        have hr2 : decide ((n : Int) ≤ 60) = false := decide_eq_false (by omega)
        have hr3 : decide (n ≤ 60) = false := decide_eq_false (by omega)
        have HRR := Lib.hid (hr.trans hr3)
        clear hr hr3
        go_wp2
        go_ret
        first | exact ⟨by rw [HRR.out]; rfl, rfl⟩ | exact ⟨by rw [HRR.out]; rfl, trivial⟩
    · have hd1 : decide ((q : Int) < (n : Int)) = false := decide_eq_false (by omega)
      have hqn : q = n := by omega
      subst hqn
      have hr : lightB xs = true := by
        unfold lightB
        rw [List.take_of_length_le (by rw [HM.out]; exact hq6)]
        have := HS.out
        rw [List.take_of_length_le (by rw [HM.out]; exact Nat.le_refl _)] at this
        rw [this, HM.out, decide_eq_true hq6]
        rfl
      have hr2 : decide ((q : Int) ≤ 60) = true := decide_eq_true (by omega)
      have HRR := Lib.hid hr
      clear hr
      go_wp2
      go_ret
      first | exact ⟨by rw [HRR.out]; rfl, rfl⟩ | exact ⟨by rw [HRR.out]; rfl, trivial⟩
end Go.Proofs.YtllmejkcohfbiaaGreatDoor
namespace Go.Proofs.YtllmejkcohfbiaaGreatDoor
open Go.RowKit Go.Maps Go.Shelf Go.Sort Go.Lib
set_option linter.unusedVariables false
set_option linter.unusedSimpArgs false
set_option maxRecDepth 100000
set_option maxHeartbeats 16000000

/-- One event of a task's. -/
def dnStep (n : Int) (x : Tk) (v : Ev) : Tk := if v.task = n then (if v.counts = true then upT v x else x) else x
def dnOf (n : Int) (l : List Ev) : Tk := l.foldl (dnStep n) (tk0 n)
def lawA (v : Ev) (x : Tk) : Tk := if (v.kind == 1) = true then (if (v.err == 0) = true then { x with calls := x.calls + 1 } else { x with refused := x.refused + 1 }) else x
def lawB (v : Ev) (x : Tk) : Tk := if ((v.kind == 2) && (v.err == 0)) = true then { x with steps := x.steps + 1 } else x
theorem lawAB (v : Ev) (x : Tk) : lawB v (lawA v x) = if v.counts = true then upA v x else x := by
  unfold lawA lawB upA Ev.counts
  cases h1 : (v.kind == 1) with
  | true =>
    have : (v.kind == 2) = false := by
      rw [beq_eq_false_iff_ne, beq_iff_eq.1 h1]
      decide
    rw [this]
    cases (v.err == 0) <;> rfl
  | false => cases (v.kind == 2) <;> cases (v.err == 0) <;> rfl
theorem ended_counts {v : Ev} (h : v.ended = true) : v.counts = true := by
  unfold Ev.ended at h
  unfold Ev.counts
  simp only [Bool.and_eq_true, Bool.or_eq_true] at *
  exact .inr ⟨h.1, h.2.1⟩
theorem dn_end {n : Int} {v : Ev} {x : Tk} (ht : v.task = n) (h : v.ended = true) : dnStep n x v = upE v (upD v (upC v (upB v (lawB v (lawA v x))))) := by
  unfold dnStep
  rw [if_pos ht, if_pos (ended_counts h), lawAB, if_pos (ended_counts h)]
  unfold upT
  rw [if_pos h]
theorem dn_not {n : Int} {v : Ev} {x : Tk} (ht : v.task = n) (h : v.ended = false) : dnStep n x v = lawB v (lawA v x) := by
  unfold dnStep
  rw [if_pos ht, lawAB]
  unfold upT
  rw [h]
  rfl
theorem dn_lim {n : Int} {v : Ev} {x : Tk} {q : Nat} (h : x.lim q) (hv : v.eD.2.1 ≤ 100000) : (dnStep n x v).lim (q + 1) := by
  unfold dnStep
  repeat' split
  · exact upT_lim v h hv
  · exact h.up
  · exact h.up
theorem lawA_e (v : Ev) (x : Tk) : (lawA v x).steps = x.steps ∧ (lawA v x).ended = x.ended ∧ (lawA v x).failed = x.failed ∧ (lawA v x).read = x.read ∧ (lawA v x).written = x.written := by
  unfold lawA; repeat' split
  all_goals exact ⟨rfl, rfl, rfl, rfl, rfl⟩
theorem lawB_e (v : Ev) (x : Tk) : (lawB v x).ended = x.ended ∧ (lawB v x).failed = x.failed ∧ (lawB v x).read = x.read ∧ (lawB v x).written = x.written := by
  unfold lawB; repeat' split
  all_goals exact ⟨rfl, rfl, rfl, rfl⟩
theorem lupC_e (v : Ev) (x : Tk) : (upC v x).read = x.read ∧ (upC v x).written = x.written := by
  unfold upC; repeat' split
  all_goals exact ⟨rfl, rfl⟩
theorem lupD_e (v : Ev) (x : Tk) : (upD v x).written = x.written := by
  unfold upD; repeat' split
  all_goals rfl
/-- A write of nothing adds nothing. -/
theorem upE_pos (v : Ev) (x : Tk) : upE v x = if ((v.eKind == 6) && (decide (0 < v.eN) && decide (v.eN ≤ 65536))) = true then { x with written := x.written + v.eN } else x := by
  unfold upE
  by_cases h0 : v.eN = 0
  · rw [h0]
    cases (v.eKind == 6)
    · rfl
    · simp
  · have : decide (0 ≤ v.eN) = decide (0 < v.eN) := by
      by_cases h : 0 < v.eN
      · rw [decide_eq_true h, decide_eq_true (by omega)]
      · rw [decide_eq_false h, decide_eq_false (by omega)]
    rw [this]
theorem dnOf_succ (n : Int) (l : List Ev) (q : Nat) (v : Ev) (h : l[q]? = some v) : dnOf n (l.take (q + 1)) = dnStep n (dnOf n (l.take q)) v := by
  unfold dnOf
  rw [List.take_add_one, h, List.foldl_append]
  rfl
def evW (x : Ev) : Prop := I64 x.task ∧ I64 x.eN ∧ x.eD.2.1 ≤ 100000
theorem done_any (v : Value) (xs : List Ev) (k : Int) (hk : I64 k) (w : World) (h : EvRow w v xs) (hn : xs.length ≤ 5000) (hok : ∀ x ∈ xs, evW x) :
    Calls Tryz.prog 37 #[v, .int .i64 k] w fun e w' => e = .returned (.agg #[.int .i64 (dnOf k xs).t, .int .i64 (dnOf k xs).calls, .int .i64 (dnOf k xs).refused, .int .i64 (dnOf k xs).steps, .int .i64 (dnOf k xs).ended, .int .i64 (dnOf k xs).failed, .int .i64 (dnOf k xs).read, .int .i64 (dnOf k xs).written]) ∧ Fr [] w w' := by
  obtain ⟨a, cap, rfl⟩ := h.val
  obtain ⟨n, hnl⟩ : ∃ n, xs.length = n := ⟨_, rfl⟩
  have HM := Lib.hid hnl
  have HR := Lib.hid h
  have HI := Lib.hid hok
  rw [hnl] at hn HR ⊢
  obtain ⟨w1, hw1⟩ : ∃ z, (w.alloc (.cells #[.int .i64 0, .int .i64 0, .int .i64 0, .int .i64 0, .int .i64 0, .int .i64 0, .int .i64 0, .int .i64 0] 58)).alloc (.cells #[.int .i64 k, .int .i64 0, .int .i64 0, .int .i64 0, .int .i64 0, .int .i64 0, .int .i64 0, .int .i64 0] 58) = z := ⟨_, rfl⟩
  have HA0 := Lib.hid (show TkAt w1 w.heap.size (tk0 0) from by rw [← hw1]; exact (TkAt.made w (tk0 0)).keep ((Fr.refl [] _).alloc _) (by simp))
  have HA1 := Lib.hid (show TkAt w1 (w.heap.size + 1) (tk0 k) from by rw [← hw1]; have := TkAt.made (w.alloc (.cells #[.int .i64 0, .int .i64 0, .int .i64 0, .int .i64 0, .int .i64 0, .int .i64 0, .int .i64 0, .int .i64 0] 58)) (tk0 k); rwa [show (w.alloc (.cells #[.int .i64 0, .int .i64 0, .int .i64 0, .int .i64 0, .int .i64 0, .int .i64 0, .int .i64 0, .int .i64 0] 58)).heap.size = w.heap.size + 1 from by simp] at this)
  have HF1 := Lib.hid (show Fr [] w w1 from by rw [← hw1]; exact ((Fr.refl [] w).alloc _).alloc _)
  have HW1 := Lib.hid hw1
  clear h hok hnl hw1
  go_enter Tryz.func37, Tryz.ntmps37
  go_upto_region 2 with fail
  rw [HW1.out]
  obtain ⟨B4, hB4⟩ : ∃ z, w.heap.size = z := ⟨_, rfl⟩
  rw [hB4] at HA0 HA1
  simp only [hB4]
  obtain ⟨B5, hB5⟩ : ∃ z, B4 + 1 = z := ⟨_, rfl⟩
  rw [hB5] at HA1
  simp only [hB5]
  have hlt1 : B5 < w1.heap.size := HA1.out.lt
  have HB4 := Lib.hid hB4
  have HB5 := Lib.hid hB5
  clear HW1 hB4 hB5
  go_wp2
  go_loopw [6] (fun i wr => ∃ (wz : World) (q : Nat), wz = wr ∧ i = .int .i64 q ∧ q ≤ n ∧ TkAt wr B5 (dnOf k (xs.take q)) ∧ (dnOf k (xs.take q)).lim q ∧ Fr [B5] w1 wr) (fun i _ => n - (intOf i).toNat)
  case atStart => exact ⟨_, 0, rfl, rfl, by omega, HA1.out, lim0 k 0, Fr.refl _ _⟩
  case round =>
    obtain ⟨wr, q, hwz, rfl, hq, hX, hl, hF⟩ := hrel
    subst hwz
    have HXq := Lib.hid hX
    have HL := Lib.hid hl
    have HF := Lib.hid hF
    clear hX hl hF
    by_cases hlt : q < n
    · have hx := List.getElem?_eq_getElem (l := xs) (i := q) (by rw [HM.out]; exact hlt)
      obtain ⟨o, hoe⟩ : ∃ o, xs[q]'(by rw [HM.out]; exact hlt) = o := ⟨_, rfl⟩
      rw [hoe] at hx
      have hoo := HI.out o (List.mem_of_getElem? hx)
      have hfw : Fr [] w wr := HF1.out.trans HF.out (fun x hx hl => by
        rw [List.mem_singleton] at hx
        have h1 := HB4.out
        have h2 := HB5.out
        omega)
      rcases HR.out.new hfw with ⟨e1, _⟩ | ⟨g, off, cap', hv, hg, hcells⟩
      · rw [e1] at hx
        simp at hx
      rw [HM.out] at hv
      simp only [Value.slice.injEq] at hv
      obtain ⟨rfl, _, rfl⟩ := hv
      have hld := ev_load (hcells q o hx)
      obtain ⟨w5, hst, hblk, hfr⟩ := ev_store (w := wr.alloc (.cells #[.int .i64 0, .int .i64 0, .int .i64 0, .int .i64 0, .int .i64 0, .int .i64 0, .int .i64 0, .string ⟨#[]⟩, .int .i64 0, .slice none 0 0, .int .i64 0, .int .i64 0, .int .i64 0, .int .u64 0, .int .i64 0, .bool false, .int .i64 0, .int .i64 0, .int .i64 0, .int .i64 0, .slice none 0 0, .int .i64 0, .int .i64 0, .int .i64 0, .int .i64 0, .string ⟨#[]⟩, .int .i64 0, .int .u64 0, .slice none 0 0, .int .u64 0] 103)) (b := wr.heap.size) o (World.alloc_heap_new wr _) rfl
      have f5 : Fr [] wr w5 := ((Fr.refl [] wr).alloc _).trans hfr (fun x hx hl => by
        rw [List.mem_singleton] at hx
        omega)
      have hBE : B5 < wr.heap.size := HXq.out.lt
      have HX5 := Lib.hid (HXq.out.keep f5 (by simp))
      have HF5 := Lib.hid (HF.out.trans (f5.mono (fun _ h => by cases h)) (fun k hk _ => hk) : Fr [B5] w1 w5)
      have HSU := Lib.hid (dnOf_succ k xs q o hx)
      have HLD := Lib.hid hld
      have HST := Lib.hid hst
      have HBK := Lib.hid hblk
      have HOO := Lib.hid hoo
      obtain ⟨V, hV⟩ : ∃ V, evV o = V := ⟨_, rfl⟩
      have HEV := Lib.hid hV
      rw [hV] at HLD HST
      have HEN := Lib.hid (fun W => (show Calls Tryz.prog 35 #[V] W fun e w' => e = .returned (.bool o.ended) ∧ Fr [] W w' from by
        have h := endedL_any o W
        rw [← HEV.out]
        exact h))
      have HLE := Lib.hid (fun W (hb : EvBlk W wr.heap.size o) => (show (Instr.loadAt 103 (.pointer (some ⟨wr.heap.size, 0, none⟩))).run Tryz.prog W = .ok V W from by
        have h := ev_load hb.at
        rw [HEV.out] at h
        exact h))
      clear hx hoe hcells hld hst hblk hfr hV hoo f5 hfw
      go_upto_region 5 with fail
      refine wp_region_lit ?_
      refine wpList_plain rfl (fun K hK => ?_)
      go_simp
      refine hK _ _ ?_
      clear hK K
      refine wpList_plain rfl (fun K hK => ?_)
      go_simp
      refine hK _ _ ?_
      clear hK K
      refine wpList_plain rfl (fun K hK => ?_)
      go_simp
      refine hK _ _ ?_
      clear hK K
      refine wpList_val rfl (v := V) (w' := wr) ?_ ?_
      · show Sem.run Tryz.prog ((Instr.loadAt 103 (.pointer (some ⟨g, off + q * 30, none⟩))) >>= fun x => pure (Next.value x)) wr = _
        rw [Sem.run_bind, HLD.out]
        rfl
      refine wpList_plain rfl (fun K hK => ?_)
      go_simp
      refine hK _ _ ?_
      clear hK K
      refine wpList_skp rfl (w' := w5) ?_ ?_
      · show Sem.run Tryz.prog ((Instr.storeAt 103 (.pointer (some ⟨wr.heap.size, 0, none⟩)) V) >>= fun _ => pure Next.skip) _ = _
        rw [Sem.run_bind, HST.out]
        rfl
      refine wpList_nil ?_
      try simp only [Act.put, List.getElem_toArray, List.getElem_cons_succ, List.getElem_cons_zero, List.setIfInBounds_toArray, List.set_cons_zero, List.set_cons_succ]
      obtain ⟨E, hE⟩ : ∃ E, wr.heap.size = E := ⟨_, rfl⟩
      rw [hE] at HBK HLE hBE
      simp only [hE]
      have HBE := Lib.hid (show B5 ≠ E from by omega)
      clear hE HLD HST hBE
      obtain ⟨x, hx⟩ : ∃ x, dnOf k (xs.take q) = x := ⟨_, rfl⟩
      rw [hx] at HX5 HL HSU
      clear hx
      have HG := Lib.hid hg
      clear hg
      have e1 := HBK.out.c 1 _ rfl
      by_cases htk : o.task = k
      · have bt : (o.task != k) = false := by rw [bne, htk]; simp
        go_upto_region 7 with fail
        have e0 := HBK.out.c 0 _ rfl
        have e14 := HBK.out.c 14 _ rfl
        have HTK := Lib.hid htk
        clear htk bt e1
        go_cut [31] from 24 to 31 (fun s wz => s = .bool ((o.kind == 1) && (o.err == 0)) ∧ wz = w5)
        case first =>
          cases h1 : (o.kind == 1) with
          | true =>
            have n1 : o.kind = 1 := beq_iff_eq.1 h1
            cases h3 : (o.err == 0) with
            | true =>
              have n3 : o.err = 0 := beq_iff_eq.1 h3
              have HK := Lib.hid (show ((o.kind == 1) && (o.err == 0)) = true from by rw [h1, h3]; rfl)
              go_wp2
              go_meet
              exact ⟨by rw [HK.out], rfl⟩
            | false =>
              have n3 : ¬ o.err = 0 := beq_eq_false_iff_ne.1 h3
              have d3 : decide (o.err = 0) = false := decide_eq_false n3
              have HK := Lib.hid (show ((o.kind == 1) && (o.err == 0)) = false from by rw [h1, h3]; rfl)
              go_wp2
              go_meet
              exact ⟨by rw [HK.out], rfl⟩
          | false =>
            have n1 : ¬ o.kind = 1 := beq_eq_false_iff_ne.1 h1
            have d1 : decide (o.kind = 1) = false := decide_eq_false n1
            have HK := Lib.hid (show ((o.kind == 1) && (o.err == 0)) = false from by rw [h1]; rfl)
            go_wp2
            go_meet
            exact ⟨by rw [HK.out], rfl⟩
        case rest =>
          obtain ⟨rfl, hwc⟩ := hcut
          subst wc
          go_upto_if 31 with fail
          have x1 := HX5.out.c1
          have x2 := HX5.out.c2
          have xz := HX5.out.fz
          go_cut [] from 31 to 42 (fun wz => TkAt wz B5 (lawA o x) ∧ Fr [B5] w5 wz)
          case first =>
            have qa := HL.out.a
            have qb := HL.out.b
            cases h31 : ((o.kind == 1) && (o.err == 0)) with
            | true =>
              have h1 := (Bool.and_eq_true_iff.1 h31).1
              have h3 := (Bool.and_eq_true_iff.1 h31).2
              have HU := Lib.hid (show lawA o x = { x with calls := x.calls + 1 } from by unfold lawA; rw [if_pos h1, if_pos h3])
              clear h1 h3
              go_wp2
              go_meet
              exact ⟨by rw [HU.out]; exact HX5.out.set1 _, (Fr.refl _ _).setCell (fun _ => by simp) _⟩
            | false =>
              cases h1 : (o.kind == 1) with
              | true =>
                have h3 : (o.err == 0) = false := by rw [h1] at h31; exact h31
                have n1 : o.kind = 1 := beq_iff_eq.1 h1
                have HU := Lib.hid (show lawA o x = { x with refused := x.refused + 1 } from by unfold lawA; rw [if_pos h1, if_neg (by rw [h3]; simp)])
                clear h3 h31
                go_wp2
                go_meet
                exact ⟨by rw [HU.out]; exact HX5.out.set2 _, (Fr.refl _ _).setCell (fun _ => by simp) _⟩
              | false =>
                have n1 : ¬ o.kind = 1 := beq_eq_false_iff_ne.1 h1
                have d1 : decide (o.kind = 1) = false := decide_eq_false n1
                have HU := Lib.hid (show lawA o x = x from by unfold lawA; rw [if_neg (by rw [h1]; simp)])
                clear h31
                go_wp2
                go_meet
                exact ⟨by rw [HU.out]; exact HX5.out, Fr.refl _ _⟩
          case rest =>
            obtain ⟨hXa, hFa⟩ := hcut
            obtain ⟨w6, rfl⟩ : ∃ z, z = wc := ⟨wc, rfl⟩
            have HX6 := Lib.hid hXa
            have HB6 := Lib.hid (HBK.out.keep hFa (by simpa using HBE.out.symm))
            have HF6 := Lib.hid (HF5.out.trans hFa (fun k hk _ => hk))
            clear hXa hFa x1 x2 xz e0 e14
            go_upto_region 11 with fail
            have e0 := HB6.out.c 0 _ rfl
            have e14 := HB6.out.c 14 _ rfl
            go_cut [50] from 43 to 50 (fun s wz => s = .bool ((o.kind == 2) && (o.err == 0)) ∧ wz = w6)
            case first =>
              cases h1 : (o.kind == 2) with
              | true =>
                have n1 : o.kind = 2 := beq_iff_eq.1 h1
                cases h3 : (o.err == 0) with
                | true =>
                  have n3 : o.err = 0 := beq_iff_eq.1 h3
                  have HK := Lib.hid (show ((o.kind == 2) && (o.err == 0)) = true from by rw [h1, h3]; rfl)
                  go_wp2
                  go_meet
                  exact ⟨by rw [HK.out], rfl⟩
                | false =>
                  have n3 : ¬ o.err = 0 := beq_eq_false_iff_ne.1 h3
                  have d3 : decide (o.err = 0) = false := decide_eq_false n3
                  have HK := Lib.hid (show ((o.kind == 2) && (o.err == 0)) = false from by rw [h1, h3]; rfl)
                  go_wp2
                  go_meet
                  exact ⟨by rw [HK.out], rfl⟩
              | false =>
                have n1 : ¬ o.kind = 2 := beq_eq_false_iff_ne.1 h1
                have d1 : decide (o.kind = 2) = false := decide_eq_false n1
                have HK := Lib.hid (show ((o.kind == 2) && (o.err == 0)) = false from by rw [h1]; rfl)
                go_wp2
                go_meet
                exact ⟨by rw [HK.out], rfl⟩
            case rest =>
              obtain ⟨rfl, hwc⟩ := hcut
              subst wc
              go_upto_if 50 with fail
              have x3 := HX6.out.c3
              have xz := HX6.out.fz
              rw [(lawA_e o x).1] at x3
              go_cut [] from 50 to 54 (fun wz => TkAt wz B5 (lawB o (lawA o x)) ∧ Fr [B5] w6 wz)
              case first =>
                have qc := HL.out.c
                cases h1 : ((o.kind == 2) && (o.err == 0)) with
                | true =>
                  have HU := Lib.hid (show lawB o (lawA o x) = { lawA o x with steps := x.steps + 1 } from by unfold lawB; rw [if_pos h1, (lawA_e o x).1])
                  go_wp2
                  go_meet
                  exact ⟨by rw [HU.out]; exact HX6.out.set3 _, (Fr.refl _ _).setCell (fun _ => by simp) _⟩
                | false =>
                  have HU := Lib.hid (show lawB o (lawA o x) = lawA o x from by unfold lawB; rw [if_neg (by rw [h1]; simp)])
                  go_wp2
                  go_meet
                  exact ⟨by rw [HU.out]; exact HX6.out, Fr.refl _ _⟩
              case rest =>
                obtain ⟨hXa, hFa⟩ := hcut
                obtain ⟨w7, rfl⟩ : ∃ z, z = wc := ⟨wc, rfl⟩
                have HXA := Lib.hid hXa
                have hBa := HB6.out.keep hFa (by simpa using HBE.out.symm)
                have HBA := Lib.hid hBa
                have HFA := Lib.hid (HF6.out.trans hFa (fun k hk _ => hk))
                have HLA := Lib.hid (HLE.out _ hBa)
                clear hXa hFa hBa x3 xz e0 e14
                go_upto_region 13 with fail
                refine wp_region_lit ?_
                refine wpList_val rfl (v := V) (w' := w7) ?_ ?_
                · show Sem.run Tryz.prog ((Instr.loadAt 103 (.pointer (some ⟨E, 0, none⟩))) >>= fun x => pure (Next.value x)) w7 = _
                  rw [Sem.run_bind, HLA.out]
                  rfl
                try simp only [Act.put, List.getElem_toArray, List.getElem_cons_succ, List.getElem_cons_zero, List.setIfInBounds_toArray, List.set_cons_zero, List.set_cons_succ]
                go_wp2_with fail
                refine (HEN.out _).mono ?_
                rintro e w8 ⟨rfl, f8⟩
                have HXE := Lib.hid (HXA.out.keep f8 (by simp))
                have HBD := Lib.hid (HBA.out.keep f8 (by simp))
                have HFE := Lib.hid (HFA.out.trans (f8.mono (fun _ h => by cases h)) (fun k hk _ => hk) : Fr [B5] w1 w8)
                clear f8
                obtain ⟨en, hen⟩ : ∃ z, o.ended = z := ⟨_, rfl⟩
                rw [hen]
                have HED := Lib.hid hen
                clear hen HXA HFA HBA HLA HEN HLE
                cases en with
                | false =>
                  have HY := Lib.hid (show dnOf k (xs.take (q + 1)) = lawB o (lawA o x) from by rw [HSU.out]; exact dn_not HTK.out HED.out)
                  have HYL := Lib.hid (show (dnOf k (xs.take (q + 1))).lim (q + 1) from by rw [HSU.out]; exact dn_lim HL.out HOO.out.2.2)
                  go_wp2
                  go_roundw
                  case rel => exact ⟨_, q + 1, rfl, by go_num, by omega, by rw [HY.out]; exact HXE.out, HYL.out, HFE.out⟩
                  case measure => simp [intOf]; omega
                | true =>
                  have qd := HL.out.d
                  have y4 := HXE.out.c4
                  have yz := HXE.out.fz
                  rw [(lawB_e o (lawA o x)).1, (lawA_e o x).2.1] at y4
                  go_upto_region 15 with fail
                  obtain ⟨w9, hw9⟩ : ∃ z, w8.setCell ⟨B5, 4, none⟩ (.int .i64 (x.ended + 1)) = z := ⟨_, rfl⟩
                  obtain ⟨y, hy⟩ : ∃ y, upB o (lawB o (lawA o x)) = y := ⟨_, rfl⟩
                  have he4 : (lawB o (lawA o x)).ended = x.ended := by rw [(lawB_e o (lawA o x)).1, (lawA_e o x).2.1]
                  have HX9 := Lib.hid (show TkAt w9 B5 y from by rw [← hw9, ← hy]; have := HXE.out.set4 (x.ended + 1); rw [← he4] at this ⊢; exact this)
                  have HF9 := Lib.hid (show Fr [B5] w1 w9 from by rw [← hw9]; exact HFE.out.setCell (fun _ => by simp) _)
                  have HB9 := Lib.hid (show EvBlk w9 E o from by rw [← hw9]; exact HBD.out.keep ((Fr.refl [B5] w8).setCell (fun _ => by simp) _) (by simpa using HBE.out.symm))
                  have HY := Lib.hid (show y.failed = x.failed ∧ y.read = x.read ∧ y.written = x.written from by
                    have h1 := (lawB_e o (lawA o x)).2
                    have h2 := (lawA_e o x).2.2
                    rw [← hy]
                    exact ⟨h1.1.trans h2.1, h1.2.1.trans h2.2.1, h1.2.2.trans h2.2.2⟩)
                  have HUT := Lib.hid (show dnOf k (xs.take (q + 1)) = upE o (upD o (upC o y)) from by rw [← hy, HSU.out]; exact dn_end HTK.out HED.out)
                  have HYL := Lib.hid (show (dnOf k (xs.take (q + 1))).lim (q + 1) from by rw [HSU.out]; exact dn_lim HL.out HOO.out.2.2)
                  rw [hw9]
                  clear hw9 hy HXE HFE HBD y4 yz qd he4
                  have g18 := HB9.out.c 18 _ rfl
                  have y5 := HX9.out.c5
                  have yz := HX9.out.fz
                  have qe := HL.out.e
                  rw [HY.out.1] at y5
                  go_upto_if 65 with fail
                  go_cut [] from 62 to 69 (fun wz => TkAt wz B5 (upC o y) ∧ Fr [B5] w9 wz)
                  case first =>
                    cases h1 : (o.eErr == 0) with
                    | true =>
                      have n1 : o.eErr = 0 := beq_iff_eq.1 h1
                      have HU := Lib.hid (show upC o y = y from by unfold upC; rw [if_pos h1])
                      go_wp2
                      go_meet
                      exact ⟨by rw [HU.out]; exact HX9.out, Fr.refl _ _⟩
                    | false =>
                      have n1 : ¬ o.eErr = 0 := beq_eq_false_iff_ne.1 h1
                      have b1 : (o.eErr != 0) = true := by rw [bne, h1]; rfl
                      have HU := Lib.hid (show upC o y = { y with failed := x.failed + 1 } from by unfold upC; rw [if_neg (by rw [h1]; simp), HY.out.1])
                      go_wp2
                      go_meet
                      exact ⟨by rw [HU.out]; exact HX9.out.set5 _, (Fr.refl _ _).setCell (fun _ => by simp) _⟩
                  case rest =>
                    obtain ⟨hXc, hFc⟩ := hcut
                    obtain ⟨wA, rfl⟩ : ∃ z, z = wc := ⟨wc, rfl⟩
                    have HXC := Lib.hid hXc
                    have HFC := Lib.hid (HF9.out.trans hFc (fun k hk _ => hk))
                    have HBC := Lib.hid (HB9.out.keep hFc (by simpa using HBE.out.symm))
                    clear hXc hFc g18 y5 yz qe
                    have g17 := HBC.out.c 17 _ rfl
                    have g20 := HBC.out.c 20 _ rfl
                    have y6 := HXC.out.c6
                    have yz := HXC.out.fz
                    have qf := HL.out.f
                    have hoo := HOO.out.2.2
                    rw [(lupC_e o y).1, HY.out.2.1] at y6
                    go_upto_if 73 with fail
                    go_cut [] from 70 to 81 (fun wz => TkAt wz B5 (upD o (upC o y)) ∧ Fr [B5] wA wz)
                    case first =>
                      cases h1 : (o.eKind == 5) with
                      | false =>
                        have n1 : ¬ o.eKind = 5 := beq_eq_false_iff_ne.1 h1
                        have HU := Lib.hid (show upD o (upC o y) = upC o y from by unfold upD; rw [if_neg (by rw [h1]; simp)])
                        go_wp2
                        go_meet
                        exact ⟨by rw [HU.out]; exact HXC.out, Fr.refl _ _⟩
                      | true =>
                        have n1 : o.eKind = 5 := beq_iff_eq.1 h1
                        have HU := Lib.hid (show upD o (upC o y) = { upC o y with read := x.read + (o.eD.2.1 : Int) } from by unfold upD; rw [if_pos h1, (lupC_e o y).1, HY.out.2.1])
                        go_wp2
                        go_meet
                        exact ⟨by rw [HU.out]; exact HXC.out.set6 _, (Fr.refl _ _).setCell (fun _ => by simp) _⟩
                    case rest =>
                      obtain ⟨hXd, hFd⟩ := hcut
                      obtain ⟨wB, rfl⟩ : ∃ z, z = wc := ⟨wc, rfl⟩
                      have HXD := Lib.hid hXd
                      have HFD := Lib.hid (HFC.out.trans hFd (fun k hk _ => hk))
                      have HBD := Lib.hid (HBC.out.keep hFd (by simpa using HBE.out.symm))
                      clear hXd hFd g17 g20 y6 yz qf hoo
                      have g17 := HBD.out.c 17 _ rfl
                      have g19 := HBD.out.c 19 _ rfl
                      have y7 := HXD.out.c7
                      have yz := HXD.out.fz
                      have qg := HL.out.g
                      rw [lupD_e, (lupC_e o y).2, HY.out.2.2] at y7
                      obtain ⟨Y, hY⟩ : ∃ Y, upD o (upC o y) = Y := ⟨_, rfl⟩
                      have hYw : Y.written = x.written := by rw [← hY, lupD_e, (lupC_e o y).2, HY.out.2.2]
                      rw [hY, upE_pos] at HUT
                      rw [hY] at HXD
                      have HYW := Lib.hid hYw
                      clear hYw hY
                      go_upto_region 19 with fail
                      go_cut [97] from 82 to 97 (fun s wz => s = .bool ((o.eKind == 6) && (decide (0 < o.eN) && decide (o.eN ≤ 65536))) ∧ wz = wB)
                      case first =>
                        cases h1 : (o.eKind == 6) with
                        | false =>
                          have n1 : ¬ o.eKind = 6 := beq_eq_false_iff_ne.1 h1
                          have d1 : decide (o.eKind = 6) = false := decide_eq_false n1
                          have HK := Lib.hid (show ((o.eKind == 6) && (decide (0 < o.eN) && decide (o.eN ≤ 65536))) = false from by rw [h1]; rfl)
                          go_wp2
                          go_meet
                          exact ⟨by rw [HK.out], rfl⟩
                        | true =>
                          have n1 : o.eKind = 6 := beq_iff_eq.1 h1
                          cases h2 : decide (0 < o.eN) with
                          | false =>
                            have n2 : ¬ 0 < o.eN := of_decide_eq_false h2
                            have HK := Lib.hid (show ((o.eKind == 6) && (decide (0 < o.eN) && decide (o.eN ≤ 65536))) = false from by rw [h1, h2]; rfl)
                            go_wp2
                            go_meet
                            exact ⟨by rw [HK.out], rfl⟩
                          | true =>
                            have n2 : 0 < o.eN := of_decide_eq_true h2
                            cases h3 : decide (o.eN ≤ 65536) with
                            | false =>
                              have n3 : ¬ o.eN ≤ 65536 := of_decide_eq_false h3
                              have HK := Lib.hid (show ((o.eKind == 6) && (decide (0 < o.eN) && decide (o.eN ≤ 65536))) = false from by rw [h1, h2, h3]; rfl)
                              go_wp2
                              go_meet
                              exact ⟨by rw [HK.out], rfl⟩
                            | true =>
                              have n3 : o.eN ≤ 65536 := of_decide_eq_true h3
                              have HK := Lib.hid (show ((o.eKind == 6) && (decide (0 < o.eN) && decide (o.eN ≤ 65536))) = true from by rw [h1, h2, h3]; rfl)
                              go_wp2
                              go_meet
                              exact ⟨by rw [HK.out], rfl⟩
                      case rest =>
                        obtain ⟨rfl, hwc⟩ := hcut
                        subst wc
                        go_upto_if 97 with fail
                        obtain ⟨wr6, hwr6⟩ : ∃ z, ((o.eKind == 6) && (decide (0 < o.eN) && decide (o.eN ≤ 65536))) = z := ⟨_, rfl⟩
                        rw [hwr6] at HUT ⊢
                        have hn6 : wr6 = true → 0 ≤ o.eN ∧ o.eN ≤ 65536 := by
                          rw [← hwr6]
                          simp only [Bool.and_eq_true, decide_eq_true_eq]
                          exact fun h => ⟨Int.le_of_lt h.2.1, h.2.2⟩
                        clear hwr6
                        cases wr6 with
                        | false =>
                          have HXE := Lib.hid (show TkAt wB B5 (dnOf k (xs.take (q + 1))) from by rw [HUT.out]; exact HXD.out)
                          clear g17 g19 y7 yz qg
                          go_wp2
                          go_roundw
                          case rel => exact ⟨_, q + 1, rfl, by go_num, by omega, HXE.out, HYL.out, HFD.out⟩
                          case measure => simp [intOf]; omega
                        | true =>
                          have hn7 := hn6 rfl
                          have HXE := Lib.hid (show TkAt (wB.setCell ⟨B5, 7, none⟩ (.int .i64 (x.written + o.eN))) B5 (dnOf k (xs.take (q + 1))) from by rw [HUT.out, if_pos rfl, HYW.out]; exact HXD.out.set7 _)
                          have HFZ := Lib.hid (show Fr [B5] w1 (wB.setCell ⟨B5, 7, none⟩ (.int .i64 (x.written + o.eN))) from HFD.out.setCell (fun _ => by simp) _)
                          clear hn6
                          go_wp2
                          go_roundw
                          case rel => exact ⟨_, q + 1, rfl, by go_num, by omega, HXE.out, HYL.out, HFZ.out⟩
                          case measure => simp [intOf]; omega
      · have bt : (o.task != k) = true := by rw [bne, beq_eq_false_iff_ne.2 htk]; rfl
        have HY := Lib.hid (show dnOf k (xs.take (q + 1)) = x from by rw [HSU.out]; unfold dnStep; rw [if_neg htk])
        have HYL := Lib.hid (show (dnOf k (xs.take (q + 1))).lim (q + 1) from by rw [HSU.out]; exact dn_lim HL.out HOO.out.2.2)
        go_wp2
        go_roundw
        case rel => exact ⟨_, q + 1, rfl, by go_num, by omega, by rw [HY.out]; exact HX5.out, HYL.out, HF5.out⟩
        case measure => simp [intOf]; omega
    · have hqn : q = n := by omega
      subst hqn
      have hD := HXq.out
      rw [List.take_of_length_le (by rw [HM.out]; exact Nat.le_refl _)] at hD
      obtain ⟨y, hy⟩ : ∃ y, dnOf k xs = y := ⟨_, rfl⟩
      rw [hy] at hD
      have HYY := Lib.hid hy
      have HD := Lib.hid hD
      have hne : B4 ≠ B5 := by
        have := HB5.out
        omega
      have h4 := HA0.out.keep HF.out (by simpa using hne)
      have HA4 := Lib.hid h4
      have HS := Lib.hid (h4.setAll y)
      have z4 := h4.fz
      have a0 := h4.c0
      have a1 := h4.c1
      have a2 := h4.c2
      have a3 := h4.c3
      have a4 := h4.c4
      have a5 := h4.c5
      have a6 := h4.c6
      have a7 := h4.c7
      have y0 := HD.out.c0
      have y1 := HD.out.c1
      have y2 := HD.out.c2
      have y3 := HD.out.c3
      have y4 := HD.out.c4
      have y5 := HD.out.c5
      have y6 := HD.out.c6
      have y7 := HD.out.c7
      have HNE := Lib.hid hne
      clear hy hD h4 hne
      go_wp2
      have s0 := HS.out.c0
      have s1 := HS.out.c1
      have s2 := HS.out.c2
      have s3 := HS.out.c3
      have s4 := HS.out.c4
      have s5 := HS.out.c5
      have s6 := HS.out.c6
      have s7 := HS.out.c7
      refine bodyPost_ret (v := .agg #[.int .i64 y.t, .int .i64 y.calls, .int .i64 y.refused, .int .i64 y.steps, .int .i64 y.ended, .int .i64 y.failed, .int .i64 y.read, .int .i64 y.written]) ?_ rfl ?_
      · simp [results, Tryz.f37]
        go_simp
      refine ⟨by rw [HYY.out], (HF1.out.trans HF.out (fun x hx hl => ?_)).trans ((((((((((Fr.refl [B4] wr).setCell (fun _ => by simp) _).setCell (fun _ => by simp) _).setCell (fun _ => by simp) _).setCell (fun _ => by simp) _).setCell (fun _ => by simp) _).setCell (fun _ => by simp) _).setCell (fun _ => by simp) _).setCell (fun _ => by simp) _)) (fun x hx hl => ?_)⟩
      · rw [List.mem_singleton] at hx
        have h1 := HB4.out
        have h2 := HB5.out
        omega
      · rw [List.mem_singleton] at hx
        have h1 := HB4.out
        omega
end Go.Proofs.YtllmejkcohfbiaaGreatDoor
namespace Go.Proofs.YtllmejkcohfbiaaGreatDoor
open Go.RowKit Go.Maps Go.Shelf Go.Sort Go.Lib
set_option linter.unusedVariables false
set_option linter.unusedSimpArgs false
set_option maxRecDepth 100000
set_option maxHeartbeats 8000000

theorem lookup_up (f : Tk → Tk) (t n : Int) : ∀ D : List (Int × Tk), (D.map fun p => if p.1 = t then (p.1, f p.2) else p).lookup n = (D.lookup n).map fun x => if n = t then f x else x
  | [] => rfl
  | p :: r => by
    have ih := lookup_up f t n r
    simp only [List.map_cons]
    by_cases hp : p.1 = t
    · rw [if_pos hp]
      simp only [List.lookup]
      by_cases hn : n = p.1
      · rw [show (n == p.1) = true from by simpa using hn]
        simp only [Option.map_some]
        rw [if_pos (hn.trans hp)]
      · rw [show (n == p.1) = false from by simpa using hn]
        exact ih
    · rw [if_neg hp]
      simp only [List.lookup]
      by_cases hn : n = p.1
      · rw [show (n == p.1) = true from by simpa using hn]
        simp only [Option.map_some]
        rw [if_neg (fun h => hp (hn.symm.trans h))]
      · rw [show (n == p.1) = false from by simpa using hn]
        exact ih
theorem lookup_snoc (t n : Int) (y : Tk) : ∀ D : List (Int × Tk), (D ++ [(t, y)]).lookup n = (D.lookup n).or (if n = t then some y else none)
  | [] => by
    simp only [List.nil_append, List.lookup]
    by_cases h : n = t
    · rw [show (n == t) = true from by simpa using h, if_pos h]
      rfl
    · rw [show (n == t) = false from by simpa using h, if_neg h]
      rfl
  | p :: r => by
    simp only [List.cons_append, List.lookup]
    cases (n == p.1)
    · exact lookup_snoc t n y r
    · rfl
theorem lookup_any (t : Int) : ∀ D : List (Int × Tk), (D.any fun p => p.1 == t) = (D.lookup t).isSome
  | [] => rfl
  | p :: r => by
    simp only [List.any_cons, List.lookup]
    by_cases h : p.1 = t
    · rw [show (p.1 == t) = true from by simpa using h, show (t == p.1) = true from by simpa using h.symm]
      rfl
    · rw [show (p.1 == t) = false from by simpa using h, show (t == p.1) = false from by simpa using fun e => h (Eq.symm e)]
      exact lookup_any t r
theorem tkOf_step (D : List (Int × Tk)) (v : Ev) (n : Int) : tkOf (tdStep D v) n = dnStep n (tkOf D n) v := by
  unfold tdStep dnStep
  cases hc : v.counts with
  | false => simp
  | true =>
    rw [if_pos rfl]
    cases ha : (D.any fun p => p.1 == v.task) with
    | true =>
      rw [if_pos rfl]
      unfold tkOf
      rw [lookup_up]
      by_cases hn : v.task = n
      · subst hn
        rw [lookup_any] at ha
        obtain ⟨x, hx⟩ := Option.isSome_iff_exists.1 ha
        rw [hx, if_pos rfl, if_pos rfl]
        simp
      · rw [if_neg hn]
        have : ∀ o : Option Tk, o.map (fun x => if n = v.task then upT v x else x) = o := fun o => by
          cases o with
          | none => rfl
          | some x => simp only [Option.map_some]; rw [if_neg (fun e => hn e.symm)]
        rw [this]
    | false =>
      rw [if_neg (by simp)]
      unfold tkOf
      rw [lookup_snoc]
      by_cases hn : v.task = n
      · subst hn
        rw [lookup_any] at ha
        have : D.lookup v.task = none := by simpa using ha
        rw [this, if_pos rfl, if_pos rfl, if_pos rfl]
        rfl
      · rw [if_neg hn, if_neg (fun e => hn e.symm)]
        simp
theorem tkOf_dn (l : List Ev) (n : Int) : tkOf (tdOf l) n = dnOf n l := by
  have : ∀ (l : List Ev) D x, tkOf D n = x → tkOf (l.foldl tdStep D) n = l.foldl (dnStep n) x := by
    intro l
    induction l with
    | nil => intro D x h; exact h
    | cons v r ih =>
      intro D x h
      exact ih _ _ (by rw [tkOf_step, h])
  exact this l [] (tk0 n) rfl
theorem step_keys (D : List (Int × Tk)) (v : Ev) : (tdStep D v).map (·.1) = if v.counts = true ∧ v.task ∉ D.map (·.1) then D.map (·.1) ++ [v.task] else D.map (·.1) := by
  unfold tdStep
  cases hc : v.counts with
  | false => simp
  | true =>
    rw [if_pos rfl]
    cases ha : (D.any fun p => p.1 == v.task) with
    | true =>
      rw [if_pos rfl, if_neg]
      · rw [List.map_map]
        refine List.map_congr_left (fun p _ => ?_)
        simp only [Function.comp]
        by_cases h : p.1 = v.task
        · rw [if_pos h]
        · rw [if_neg h]
      · rintro ⟨_, h⟩
        rw [List.any_eq_true] at ha
        obtain ⟨p, hp, hpe⟩ := ha
        exact h (List.mem_map.2 ⟨p, hp, by simpa using hpe⟩)
    | false =>
      rw [if_neg (by simp), if_pos]
      · rw [List.map_append]
        rfl
      · refine ⟨rfl, fun h => ?_⟩
        obtain ⟨p, hp, hpe⟩ := List.mem_map.1 h
        rw [List.any_eq_false] at ha
        exact ha p hp (by simpa using hpe)
theorem keys_mem (l : List Ev) (t : Int) : t ∈ (tdOf l).map (·.1) ↔ ∃ v ∈ l, v.counts = true ∧ v.task = t := by
  have : ∀ (l : List Ev) (D : List (Int × Tk)), t ∈ (l.foldl tdStep D).map (·.1) ↔ t ∈ D.map (·.1) ∨ ∃ v ∈ l, v.counts = true ∧ v.task = t := by
    intro l
    induction l with
    | nil => intro D; simp
    | cons v r ih =>
      intro D
      rw [List.foldl_cons, ih, step_keys]
      by_cases h : v.counts = true ∧ v.task ∉ D.map (·.1)
      · rw [if_pos h, List.mem_append, List.mem_singleton]
        constructor
        · rintro ((h1 | h1) | ⟨u, hu, h2⟩)
          · exact .inl h1
          · exact .inr ⟨v, by simp, h.1, h1.symm⟩
          · exact .inr ⟨u, by simp [hu], h2⟩
        · rintro (h1 | ⟨u, hu, h2, h3⟩)
          · exact .inl (.inl h1)
          · rcases List.mem_cons.1 hu with rfl | hu
            · exact .inl (.inr h3.symm)
            · exact .inr ⟨u, hu, h2, h3⟩
      · rw [if_neg h]
        constructor
        · rintro (h1 | ⟨u, hu, h2⟩)
          · exact .inl h1
          · exact .inr ⟨u, by simp [hu], h2⟩
        · rintro (h1 | ⟨u, hu, h2, h3⟩)
          · exact .inl h1
          · rcases List.mem_cons.1 hu with rfl | hu
            · refine .inl (Classical.byContradiction fun hm => h ⟨h2, ?_⟩)
              rw [h3]
              exact hm
            · exact .inr ⟨u, hu, h2, h3⟩
  simpa [tdOf] using this l []
theorem keys_nodup (l : List Ev) : ((tdOf l).map (·.1)).Nodup := by
  have : ∀ (l : List Ev) (D : List (Int × Tk)), (D.map (·.1)).Nodup → ((l.foldl tdStep D).map (·.1)).Nodup := by
    intro l
    induction l with
    | nil => intro D h; exact h
    | cons v r ih =>
      intro D h
      refine ih _ ?_
      rw [step_keys]
      split
      · next hc =>
        rw [List.nodup_append]
        exact ⟨h, by simp, fun a ha b hb e => by
          rw [List.mem_singleton] at hb
          subst hb e
          exact hc.2 ha⟩
      · exact h
  exact this l [] (by simp)
/-- The tasks in order. -/
def taskS (l : List Ev) : List Int := ((tdOf l).map (·.1)).mergeSort (fun x y => decide (x ≤ y))
theorem taskS_mem (l : List Ev) (t : Int) : t ∈ taskS l ↔ ∃ v ∈ l, v.counts = true ∧ v.task = t := by
  unfold taskS
  rw [List.mem_mergeSort, keys_mem]
theorem taskS_lt (l : List Ev) : (taskS l).Pairwise (fun a b : Int => a < b) := by
  have h1 : (taskS l).Pairwise (fun x y => decide (x ≤ y) = true) := List.pairwise_mergeSort (fun a b c h1 h2 => by simp only [decide_eq_true_eq] at *; omega) (fun a b => by simp only [Bool.or_eq_true, decide_eq_true_eq]; omega) _
  have h2 : (taskS l).Nodup := (List.mergeSort_perm _ _).nodup_iff.2 (keys_nodup l)
  exact (List.Pairwise.and h1 h2).imp (fun {a b} h => by
    have := of_decide_eq_true h.1
    have := h.2
    omega)
theorem taskS_len (l : List Ev) : (taskS l).length ≤ l.length := by
  unfold taskS
  rw [List.length_mergeSort, List.length_map]
  exact tdOf_len l
theorem tasksOf_dn (l : List Ev) : tasksOf (tdOf l) = (taskS l).map fun t => dnOf t l := by
  unfold tasksOf taskS
  exact List.map_congr_left (fun t _ => tkOf_dn l t)
/-- An event of a task behind those that were there. -/
def candB (lo : Option Int) (v : Ev) : Bool := v.counts && (match lo with | none => true | some t => decide (t < v.task))
def lessB (b : Option Int) (v : Ev) : Bool := match b with | none => true | some t => decide (v.task < t)
def bestStep (lo : Option Int) (b : Option Int) (v : Ev) : Option Int := if (candB lo v && lessB b v) = true then some v.task else b
def bestOf (lo : Option Int) (l : List Ev) : Option Int := l.foldl (bestStep lo) none
theorem bestOf_succ (lo : Option Int) (l : List Ev) (q : Nat) (v : Ev) (h : l[q]? = some v) : bestOf lo (l.take (q + 1)) = bestStep lo (bestOf lo (l.take q)) v := by
  unfold bestOf
  rw [List.take_add_one, h, List.foldl_append]
  rfl
def BestI (lo : Option Int) (seen : Ev → Prop) (b : Option Int) : Prop :=
  (b = none ∧ ∀ v, seen v → candB lo v = false) ∨ ∃ t, b = some t ∧ (∃ v, seen v ∧ candB lo v = true ∧ v.task = t) ∧ ∀ v, seen v → candB lo v = true → t ≤ v.task
theorem BestI.step {lo : Option Int} {seen : Ev → Prop} {b : Option Int} (h : BestI lo seen b) (v : Ev) : BestI lo (fun u => seen u ∨ u = v) (bestStep lo b v) := by
  unfold bestStep
  cases hc : candB lo v with
  | false =>
    rw [Bool.false_and, if_neg (by simp)]
    rcases h with ⟨rfl, h⟩ | ⟨t, rfl, ⟨u, hu, h2⟩, h3⟩
    · exact .inl ⟨rfl, fun u hu => by
        rcases hu with hu | rfl
        · exact h u hu
        · exact hc⟩
    · exact .inr ⟨t, rfl, ⟨u, .inl hu, h2⟩, fun x hx hxc => by
        rcases hx with hx | rfl
        · exact h3 x hx hxc
        · rw [hc] at hxc; cases hxc⟩
  | true =>
    rw [Bool.true_and]
    rcases h with ⟨rfl, h⟩ | ⟨t, rfl, ⟨u, hu, h2⟩, h3⟩
    · rw [show lessB none v = true from rfl, if_pos rfl]
      exact .inr ⟨v.task, rfl, ⟨v, .inr rfl, hc, rfl⟩, fun x hx hxc => by
        rcases hx with hx | rfl
        · rw [h x hx] at hxc; cases hxc
        · exact Int.le_refl _⟩
    · cases hl : lessB (some t) v with
      | true =>
        have hlt : v.task < t := of_decide_eq_true hl
        rw [if_pos rfl]
        exact .inr ⟨v.task, rfl, ⟨v, .inr rfl, hc, rfl⟩, fun x hx hxc => by
          rcases hx with hx | rfl
          · have := h3 x hx hxc
            omega
          · exact Int.le_refl _⟩
      | false =>
        have hlt : ¬ v.task < t := of_decide_eq_false hl
        rw [if_neg (by simp)]
        exact .inr ⟨t, rfl, ⟨u, .inl hu, h2⟩, fun x hx hxc => by
          rcases hx with hx | rfl
          · exact h3 x hx hxc
          · omega⟩
theorem bestOf_spec (lo : Option Int) (l : List Ev) : BestI lo (fun u => u ∈ l) (bestOf lo l) := by
  have : ∀ (l : List Ev) (seen : Ev → Prop) b, BestI lo seen b → BestI lo (fun u => seen u ∨ u ∈ l) (l.foldl (bestStep lo) b) := by
    intro l
    induction l with
    | nil => intro seen b h; simpa using h
    | cons v r ih =>
      intro seen b h
      have h2 := ih _ _ (h.step v)
      have e : (fun u => (seen u ∨ u = v) ∨ u ∈ r) = fun u => seen u ∨ u ∈ v :: r := by
        funext u
        rw [List.mem_cons, or_assoc]
      rw [e] at h2
      exact h2
  have h := this l (fun _ => False) none (.inl ⟨rfl, fun _ h => h.elim⟩)
  simpa [bestOf] using h
/-- What the law looks for next. -/
def loOf (l : List Ev) (p : Nat) : Option Int := if p = 0 then none else (taskS l)[p - 1]?
theorem best_at (l : List Ev) (p : Nat) (hp : p ≤ (taskS l).length) : bestOf (loOf l p) l = (taskS l)[p]? := by
  have hlt := taskS_lt l
  have hmono : ∀ (i j : Nat) (a b : Int), i < j → (taskS l)[i]? = some a → (taskS l)[j]? = some b → a < b := by
    intro i j a b hij ha hb
    obtain ⟨hi, rfl⟩ := List.getElem?_eq_some_iff.1 ha
    obtain ⟨hj, rfl⟩ := List.getElem?_eq_some_iff.1 hb
    exact List.pairwise_iff_getElem.1 (taskS_lt l) i j hi hj hij
  have hlo : ∀ v ∈ l, ∀ j, (taskS l)[j]? = some v.task → v.counts = true → (candB (loOf l p) v = true ↔ p ≤ j) := by
    intro v hv j hj hc
    unfold candB loOf
    rw [hc, Bool.true_and]
    by_cases h0 : p = 0
    · subst h0
      simp
    · rw [if_neg h0]
      have hb : p - 1 < (taskS l).length := by omega
      rw [List.getElem?_eq_getElem hb]
      simp only [decide_eq_true_eq]
      have hb2 := List.getElem?_eq_getElem hb
      constructor
      · intro hl
        by_cases hj2 : p ≤ j
        · exact hj2
        · by_cases he : j = p - 1
          · subst he
            rw [hb2] at hj
            simp only [Option.some.injEq] at hj
            omega
          · have := hmono j (p - 1) _ _ (by omega) hj hb2
            omega
      · intro hl
        exact hmono (p - 1) j _ _ (by omega) hb2 hj
  have hat : ∀ v ∈ l, candB (loOf l p) v = true → ∃ j, p ≤ j ∧ (taskS l)[j]? = some v.task := by
    intro v hv hc
    have hcc : v.counts = true := by
      unfold candB at hc
      exact (Bool.and_eq_true_iff.1 hc).1
    have hm : v.task ∈ taskS l := (taskS_mem l v.task).2 ⟨v, hv, hcc, rfl⟩
    obtain ⟨j, hj⟩ := List.mem_iff_getElem?.1 hm
    exact ⟨j, (hlo v hv j hj hcc).1 hc, hj⟩
  rcases bestOf_spec (loOf l p) l with ⟨h1, h2⟩ | ⟨t, h1, ⟨v, hv, hvc, rfl⟩, h3⟩
  · rw [h1]
    symm
    rw [List.getElem?_eq_none_iff]
    refine Nat.le_of_not_lt (fun hlt2 => ?_)
    have hx := List.getElem?_eq_getElem hlt2
    obtain ⟨v, hv, hc, he⟩ := (taskS_mem l _).1 (List.mem_of_getElem? hx)
    rw [← he] at hx
    have := (hlo v hv p hx hc).2 (Nat.le_refl _)
    rw [h2 v hv] at this
    cases this
  · rw [h1]
    obtain ⟨j, hpj, hj⟩ := hat v hv hvc
    by_cases he : j = p
    · rw [← he, hj]
    · exfalso
      have hjl := (List.getElem?_eq_some_iff.1 hj).1
      have hpl : p < (taskS l).length := by omega
      have hx := List.getElem?_eq_getElem hpl
      obtain ⟨u, hu, hc, hue⟩ := (taskS_mem l _).1 (List.mem_of_getElem? hx)
      rw [← hue] at hx
      have h5 := h3 u hu ((hlo u hu p hx hc).2 (Nat.le_refl _))
      have h6 := hmono p j _ _ (by omega) hx hj
      omega
end Go.Proofs.YtllmejkcohfbiaaGreatDoor
