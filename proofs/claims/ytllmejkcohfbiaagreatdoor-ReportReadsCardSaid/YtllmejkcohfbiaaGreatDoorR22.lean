/- Report: OfTasks and OfCodes of events that are none of tasks. -/
import Derived.Test.YtllmejkcohfbiaaGreatDoorR21b
import Derived.Test.YtllmejkcohfbiaaGreatDoorRange
namespace Go.Proofs.YtllmejkcohfbiaaGreatDoor
open Go.RowKit Go.Maps Go.Shelf Go.Sort Go.Lib
set_option linter.unusedVariables false
set_option linter.unusedSimpArgs false
set_option maxRecDepth 100000
set_option maxHeartbeats 8000000

/-- Events that neither hand in a call nor are a step. -/
def idle (xs : List Ev) : Prop := ∀ x ∈ xs, (x.kind == 1) = false ∧ (x.kind == 2) = false
theorem EvBlk.c0 {w : World} {b : Nat} {x : Ev} (h : EvBlk w b x) : w.cell? ⟨b, 0, none⟩ = some (.int .i64 x.kind) := h.at 0 _ rfl
theorem ofTasks_full (a : Option Addr) (n c : Nat) (w : World) (hn : 5000 < n) :
    Calls Tryz.prog 36 #[.slice a n c] w fun e w' => e = .returned (.tuple #[.slice none 0 0, .int .i64 7]) ∧ Fr [] w w' := by
  have hn' : (5000 : Int) < (n : Int) := by omega
  clear hn
  go_enter Tryz.func36, Tryz.ntmps36
  go_wp2
  go_ret2
  exact ⟨rfl, Fr.refl _ _⟩
theorem ofCodes_full (a : Option Addr) (n c : Nat) (w : World) (hn : 5000 < n) :
    Calls Tryz.prog 34 #[.slice a n c] w fun e w' => e = .returned (.tuple #[.slice none 0 0, .int .i64 7]) ∧ Fr [] w w' := by
  have hn' : (5000 : Int) < (n : Int) := by omega
  clear hn
  go_enter Tryz.func34, Tryz.ntmps34
  go_wp2
  go_ret2
  exact ⟨rfl, Fr.refl _ _⟩
theorem insertion_none (f : Value) (w : World) (p : Option Addr) (c : Nat) :
    Calls Tryz.prog 125 #[.slice p 0 c, .int .i64 0, .int .i64 0, f] w fun e w' => e = .returned (.tuple #[]) ∧ w' = w := by
  go_enter Tryz.func125, Tryz.ntmps125
  go_wp2
  refine wp_loop_rounds 1 ?_
  rw [rounds_succ]
  go_wp2
  go_end0
  exact ⟨rfl, rfl⟩
theorem pdq_none (f : Value) (w : World) (p : Option Addr) (c : Nat) (k : Int) :
    Calls Tryz.prog 102 #[.slice p 0 c, .int .i64 0, .int .i64 0, .int .i64 k, f] w fun e w' => e = .returned (.tuple #[]) ∧ w' = w := by
  go_enter Tryz.func102, Tryz.ntmps102
  go_wp2
  refine wp_loop_rounds 1 ?_
  rw [rounds_succ]
  go_wp2_with fail
  refine (insertion_none f w p c).mono ?_
  rintro e w1 ⟨rfl, hw1⟩
  subst hw1
  go_wp2
  refine bodyPost_ret (results_none rfl _ _ _) rfl ?_
  exact ⟨rfl, rfl⟩
theorem sortFunc_none (f : Value) (w : World) (p : Option Addr) (c : Nat) :
    Calls Tryz.prog 69 #[.slice p 0 c, f] w fun e w' => e = .returned (.tuple #[]) ∧ Fr [] w w' := by
  go_enter Tryz.func69, Tryz.ntmps69
  go_wp2_with fail
  refine (Tryz.bits_Len 0 _ (by omega) (by omega)).mono ?_
  rintro e w1 ⟨rfl, hw1⟩
  subst hw1
  go_wp2_with fail
  refine (pdq_none f _ p c _).mono ?_
  rintro e w2 ⟨rfl, hw2⟩
  subst hw2
  go_wp2
  go_end0
  exact ⟨rfl, Fr.refl _ _⟩
theorem ofTasks_idle (v : Value) (xs : List Ev) (w : World) (h : EvRow w v xs) (hi : idle xs) (hn : xs.length ≤ 5000) :
    Calls Tryz.prog 36 #[v] w fun e w' => e = .returned (.tuple #[.slice none 0 0, .int .i64 0]) ∧ Fr [] w w' := by
  obtain ⟨a, cap, rfl⟩ := h.val
  obtain ⟨n, hnl⟩ : ∃ n, xs.length = n := ⟨_, rfl⟩
  have HM := Lib.hid hnl
  have HR := Lib.hid h
  have HI := Lib.hid hi
  rw [hnl] at hn HR ⊢
  have hn' : ¬ (5000 : Int) < (n : Int) := by omega
  have hmb : (w.alloc (.map #[] 0)).heap[w.heap.size]? = some (.map #[] 0) := World.alloc_heap_new w _
  have HMD := Lib.hid (World.ownsMap_made (H := Unit) w Tryz.prog 3 (fun _ => none))
  have HMI := Lib.hid (MapIs.made Tryz.prog 62 w)
  have HMB := Lib.hid hmb
  have F0 := Lib.hid (show Fr [] w (w.alloc (.map #[] 0)) from (Fr.refl [] w).alloc _)
  clear h hi hnl hmb
  have hmm := @run_makeMap Tryz.prog
  go_enter Tryz.func36, Tryz.ntmps36
  go_wp2
  obtain ⟨w0, hw0⟩ : ∃ z, w.alloc (.map #[] 0) = z := ⟨_, rfl⟩
  rw [hw0] at HMD HMI HMB F0
  rw [hw0]
  obtain ⟨M, hM⟩ : ∃ M, w.heap.size = M := ⟨_, rfl⟩
  rw [hM] at HMD HMI HMB
  simp only [hM]
  clear hw0 hM
  go_loopw [17] (fun i wr => ∃ (wz : World) (q : Nat), wz = wr ∧ i = .int .i64 q ∧ q ≤ n ∧ Fr [] w0 wr) (fun i _ => n - (intOf i).toNat)
  case atStart => exact ⟨_, 0, rfl, rfl, by omega, Fr.refl _ _⟩
  case round =>
    obtain ⟨wr, q, hwz, rfl, hq, hF⟩ := hrel
    subst hwz
    have HF := Lib.hid hF
    clear hF
    by_cases hlt : q < n
    · have hx := List.getElem?_eq_getElem (l := xs) (i := q) (by rw [HM.out]; exact hlt)
      obtain ⟨o, hoe⟩ : ∃ o, xs[q]'(by rw [HM.out]; exact hlt) = o := ⟨_, rfl⟩
      rw [hoe] at hx
      obtain ⟨h1, h2⟩ := HI.out o (List.mem_of_getElem? hx)
      rcases HR.out.new (F0.out.step HF.out) with ⟨e1, _⟩ | ⟨g, off, cap', hv, hg, hcells⟩
      · rw [e1] at hx
        simp at hx
      rw [HM.out] at hv
      simp only [Value.slice.injEq] at hv
      obtain ⟨rfl, _, rfl⟩ := hv
      have hld := ev_load (hcells q o hx)
      obtain ⟨w5, hst, hblk, hfr⟩ := ev_store (w := wr.alloc (.cells #[.int .i64 0, .int .i64 0, .int .i64 0, .int .i64 0, .int .i64 0, .int .i64 0, .int .i64 0, .string ⟨#[]⟩, .int .i64 0, .slice none 0 0, .int .i64 0, .int .i64 0, .int .i64 0, .int .u64 0, .int .i64 0, .bool false, .int .i64 0, .int .i64 0, .int .i64 0, .int .i64 0, .slice none 0 0, .int .i64 0, .int .i64 0, .int .i64 0, .int .i64 0, .string ⟨#[]⟩, .int .i64 0, .int .u64 0, .slice none 0 0, .int .u64 0] 103)) (b := wr.heap.size) o (World.alloc_heap_new wr _) rfl
      have F5 := Lib.hid (show Fr [] wr w5 from ((Fr.refl [] wr).alloc _).trans hfr (fun x hx hl => by
        rw [List.mem_singleton] at hx
        omega))
      have HLD := Lib.hid hld
      have HST := Lib.hid hst
      have HBK := Lib.hid hblk
      obtain ⟨V, hV⟩ : ∃ V, evV o = V := ⟨_, rfl⟩
      have HEV := Lib.hid hV
      rw [hV] at HLD HST
      have H1 := Lib.hid h1
      have H2 := Lib.hid h2
      clear hx hoe hcells hld hst hblk hfr hV h1 h2
      go_upto_region 6 with fail
      refine wp_region_lit ?_
      refine wpList_plain rfl (fun K hK => ?_)
      go_simp
      refine hK _ _ ?_
      clear hK K
      refine wpList_val rfl (v := V) (w' := wr) ?_ ?_
      · show Sem.run Tryz.prog ((Instr.loadAt 103 (.pointer (some ⟨g, off + q * 30, none⟩))) >>= fun x => pure (Next.value x)) wr = _
        rw [Sem.run_bind, HLD.out]
        rfl
      refine wpList_plain rfl (fun K hK => ?_)
      go_simp
      refine hK _ _ ?_
      clear hK K
      refine wpList_skp rfl (w' := w5) ?_ ?_
      · show Sem.run Tryz.prog ((Instr.storeAt 103 (.pointer (some ⟨wr.heap.size, 0, none⟩)) V) >>= fun _ => pure Next.skip) _ = _
        rw [Sem.run_bind, HST.out]
        rfl
      refine wpList_nil ?_
      have z0 := HBK.out.c0
      try simp only [Act.put, List.getElem_toArray, List.getElem_cons_succ, List.getElem_cons_zero, List.setIfInBounds_toArray, List.set_cons_zero, List.set_cons_succ]
      have h1 := H1.out
      have h2 := H2.out
      have n1 : ¬ o.kind = 1 := beq_eq_false_iff_ne.1 h1
      have n2 : ¬ o.kind = 2 := beq_eq_false_iff_ne.1 h2
      have d1 : decide (o.kind = 1) = false := decide_eq_false n1
      have d2 : decide (o.kind = 2) = false := decide_eq_false n2
      have b1 : (o.kind != 1) = true := by rw [bne, h1]; rfl
      have b2 : (o.kind != 2) = true := by rw [bne, h2]; rfl
      go_wp2
      go_roundw
      case rel => exact ⟨_, q + 1, rfl, by go_num, by omega, HF.out.step F5.out⟩
      case measure => simp [intOf]; omega
    · have hqn : q = n := by omega
      subst hqn
      have f1 : Fr [] wr (wr.alloc (.cells #[.map (some M)] 140)) := (Fr.refl [] wr).alloc _
      have hown1 : (wr.alloc (.cells #[.map (some M)] 140)).ownsMap (H := Unit) Tryz.prog 3 (fun _ => none) M 0 (.map []) := by
        obtain ⟨es, clock, hb, Ft, hs, hD⟩ := HMD.out
        exact ⟨es, clock, (((HF.out.step f1).block M (Array.getElem?_eq_some_iff.1 hb).1 (by simp)).trans hb), Ft, hs, hD⟩
      have hS := sorted_any (H := Unit) M 0 wr.heap.size (.map []) (fun _ => none) _ (by simp) (by simp) hown1 (by simp [Maps.size]) (by simp [Maps.size])
      have HS := Lib.hid hS
      have HF1 := Lib.hid (F0.out.step (HF.out.step f1))
      clear hown1 hS f1
      go_wp2_with fail
      refine (keys_any _ _).mono ?_
      rintro e w2 ⟨rfl, rfl⟩
      go_wp2_with fail
      refine HS.out.mono ?_
      rintro e w3 ⟨v3, ss, rfl, hp, -, hnil, hb⟩
      have hss : ss = [] := by
        have := hp.length_eq
        simpa [intKeys] using this
      obtain rfl := hnil.2 hss
      have F3 := Lib.hid (HF1.out.step (Fr.of_below hb))
      clear hp hnil hb hss
      go_wp2
      refine wp_loop_rounds 1 ?_
      rw [rounds_succ]
      go_wp2
      go_ret2
      exact ⟨rfl, F3.out⟩
theorem ofCodes_idle (v : Value) (xs : List Ev) (w : World) (h : EvRow w v xs) (hi : idle xs) (hn : xs.length ≤ 5000) :
    Calls Tryz.prog 34 #[v] w fun e w' => e = .returned (.tuple #[.slice none 0 0, .int .i64 0]) ∧ Fr [] w w' := by
  obtain ⟨a, cap, rfl⟩ := h.val
  obtain ⟨n, hnl⟩ : ∃ n, xs.length = n := ⟨_, rfl⟩
  have HM := Lib.hid hnl
  have HR := Lib.hid h
  have HI := Lib.hid hi
  rw [hnl] at hn HR ⊢
  have hn' : ¬ (5000 : Int) < (n : Int) := by omega
  have hmb : (w.alloc (.map #[] 0)).heap[w.heap.size]? = some (.map #[] 0) := World.alloc_heap_new w _
  have HMD := Lib.hid (World.ownsMap_made (H := Unit) w Tryz.prog 3 (fun _ => none))
  have HMI := Lib.hid (MapIs.made Tryz.prog 62 w)
  have HMB := Lib.hid hmb
  have F0 := Lib.hid (show Fr [] w (w.alloc (.map #[] 0)) from (Fr.refl [] w).alloc _)
  clear h hi hnl hmb
  have hmm := @run_makeMap Tryz.prog
  go_enter Tryz.func34, Tryz.ntmps34
  go_wp2
  obtain ⟨w0, hw0⟩ : ∃ z, w.alloc (.map #[] 0) = z := ⟨_, rfl⟩
  rw [hw0] at HMD HMI HMB F0
  rw [hw0]
  obtain ⟨M, hM⟩ : ∃ M, w.heap.size = M := ⟨_, rfl⟩
  rw [hM] at HMD HMI HMB
  simp only [hM]
  clear hw0 hM
  go_loopw [16] (fun i wr => ∃ (wz : World) (q : Nat), wz = wr ∧ i = .int .i64 q ∧ q ≤ n ∧ Fr [] w0 wr) (fun i _ => n - (intOf i).toNat)
  case atStart => exact ⟨_, 0, rfl, rfl, by omega, Fr.refl _ _⟩
  case round =>
    obtain ⟨wr, q, hwz, rfl, hq, hF⟩ := hrel
    subst hwz
    have HF := Lib.hid hF
    clear hF
    by_cases hlt : q < n
    · have hx := List.getElem?_eq_getElem (l := xs) (i := q) (by rw [HM.out]; exact hlt)
      obtain ⟨o, hoe⟩ : ∃ o, xs[q]'(by rw [HM.out]; exact hlt) = o := ⟨_, rfl⟩
      rw [hoe] at hx
      obtain ⟨h1, h2⟩ := HI.out o (List.mem_of_getElem? hx)
      rcases HR.out.new (F0.out.step HF.out) with ⟨e1, _⟩ | ⟨g, off, cap', hv, hg, hcells⟩
      · rw [e1] at hx
        simp at hx
      rw [HM.out] at hv
      simp only [Value.slice.injEq] at hv
      obtain ⟨rfl, _, rfl⟩ := hv
      have hld := ev_load (hcells q o hx)
      obtain ⟨w5, hst, hblk, hfr⟩ := ev_store (w := wr.alloc (.cells #[.int .i64 0, .int .i64 0, .int .i64 0, .int .i64 0, .int .i64 0, .int .i64 0, .int .i64 0, .string ⟨#[]⟩, .int .i64 0, .slice none 0 0, .int .i64 0, .int .i64 0, .int .i64 0, .int .u64 0, .int .i64 0, .bool false, .int .i64 0, .int .i64 0, .int .i64 0, .int .i64 0, .slice none 0 0, .int .i64 0, .int .i64 0, .int .i64 0, .int .i64 0, .string ⟨#[]⟩, .int .i64 0, .int .u64 0, .slice none 0 0, .int .u64 0] 103)) (b := wr.heap.size) o (World.alloc_heap_new wr _) rfl
      have F5 := Lib.hid (show Fr [] wr w5 from ((Fr.refl [] wr).alloc _).trans hfr (fun x hx hl => by
        rw [List.mem_singleton] at hx
        omega))
      have HLD := Lib.hid hld
      have HST := Lib.hid hst
      have HBK := Lib.hid hblk
      obtain ⟨V, hV⟩ : ∃ V, evV o = V := ⟨_, rfl⟩
      have HEV := Lib.hid hV
      rw [hV] at HLD HST
      have H1 := Lib.hid h1
      have H2 := Lib.hid h2
      clear hx hoe hcells hld hst hblk hfr hV h1 h2
      go_upto_region 6 with fail
      refine wp_region_lit ?_
      refine wpList_plain rfl (fun K hK => ?_)
      go_simp
      refine hK _ _ ?_
      clear hK K
      refine wpList_val rfl (v := V) (w' := wr) ?_ ?_
      · show Sem.run Tryz.prog ((Instr.loadAt 103 (.pointer (some ⟨g, off + q * 30, none⟩))) >>= fun x => pure (Next.value x)) wr = _
        rw [Sem.run_bind, HLD.out]
        rfl
      refine wpList_plain rfl (fun K hK => ?_)
      go_simp
      refine hK _ _ ?_
      clear hK K
      refine wpList_skp rfl (w' := w5) ?_ ?_
      · show Sem.run Tryz.prog ((Instr.storeAt 103 (.pointer (some ⟨wr.heap.size, 0, none⟩)) V) >>= fun _ => pure Next.skip) _ = _
        rw [Sem.run_bind, HST.out]
        rfl
      refine wpList_nil ?_
      have z0 := HBK.out.c0
      try simp only [Act.put, List.getElem_toArray, List.getElem_cons_succ, List.getElem_cons_zero, List.setIfInBounds_toArray, List.set_cons_zero, List.set_cons_succ]
      have HEN := Lib.hid (fun W => (show Calls Tryz.prog 68 #[V] W fun e w' => e = .returned (.bool false) ∧ Fr [] W w' from by
        have h := ended_any o W
        rw [show o.ended = false from by unfold Ev.ended; rw [H2.out]; rfl] at h
        rw [← HEV.out]
        exact h))
      have hl2 := ev_load HBK.out.at
      rw [HEV.out] at hl2
      have HL2 := Lib.hid hl2
      clear hl2 z0
      go_upto_region 7 with fail
      refine wp_region_lit ?_
      refine wpList_val rfl (v := V) (w' := w5) ?_ ?_
      · show Sem.run Tryz.prog ((Instr.loadAt 103 (.pointer (some ⟨wr.heap.size, 0, none⟩))) >>= fun x => pure (Next.value x)) w5 = _
        rw [Sem.run_bind, HL2.out]
        rfl
      try simp only [Act.put, List.getElem_toArray, List.getElem_cons_succ, List.getElem_cons_zero, List.setIfInBounds_toArray, List.set_cons_zero, List.set_cons_succ]
      go_wp2_with fail
      refine (HEN.out _).mono ?_
      rintro e w6 ⟨rfl, f6⟩
      go_wp2
      go_roundw
      case rel => exact ⟨_, q + 1, rfl, by go_num, by omega, HF.out.step (F5.out.step f6)⟩
      case measure => simp [intOf]; omega
    · have hqn : q = n := by omega
      subst hqn
      have hMI := HMI.out.keep HF.out (by simp)
      have HG := Lib.hid (F0.out.step HF.out)
      go_wp2_with (first
        | (at_range; refine wpList_range_l _ rfl _ 134 rfl 3 Tryz.underlying134 rfl hMI ?_; intro w7 hrg hg7 hs7)
        | fail)
      have F7 := Lib.hid (HG.out.step hg7)
      refine wp_loop_rounds 1 ?_
      rw [rounds_succ]
      go_wp2_with (first
        | (at_next; refine wpList_next_l _ rfl _ rfl rfl hrg ?_ ?_)
        | fail)
      refine (sortFunc_none _ _ _ _).mono ?_
      rintro e w8 ⟨rfl, f8⟩
      go_wp2
      go_ret2
      exact ⟨rfl, F7.out.step f8⟩

end Go.Proofs.YtllmejkcohfbiaaGreatDoor
