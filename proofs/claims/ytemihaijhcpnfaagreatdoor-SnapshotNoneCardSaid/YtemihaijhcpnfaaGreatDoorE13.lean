/- The reading of no bytes: it panics, and the panic is recovered. -/
import Derived.Test.YtemihaijhcpnfaaGreatDoorE8
import Derived.Defers
import Derived.Recover
import Derived.WalkLawsBesides
namespace Go.Proofs.YtemihaijhcpnfaaGreatDoor
open Go.RowKit
open Go.Maps (Keyed)
set_option linter.unusedVariables false
set_option linter.unusedSimpArgs false
set_option maxRecDepth 100000
set_option maxHeartbeats 4000000

def wrongV : Value := .iface 174 (.agg #[])
theorem next_bad (p : Nat) (a : Option Addr) (c : Nat) (w : World) (h : w.cell? ⟨p, 0, none⟩ = some (.slice a 0 c)) :
    Calls Tryz.prog 186 #[.pointer (some ⟨p, 0, none⟩)] w fun e w' => e = .panicked [{ v := wrongV, recovered := false }] ∧ w = w' := by
  go_enter Tryz.func186, Tryz.ntmps186
  go_wp2
  exact ⟨rfl, rfl, rfl⟩
theorem getNumber_bad (p : Nat) (a : Option Addr) (c : Nat) (w : World) (h : w.cell? ⟨p, 0, none⟩ = some (.slice a 0 c)) :
    Calls Tryz.prog 91 #[.pointer (some ⟨p, 0, none⟩)] w fun e w' => e = .panicked [{ v := wrongV, recovered := false }] ∧ w = w' := by
  have HN := Lib.hid (next_bad p a c w h)
  clear h
  go_enter Tryz.func91, Tryz.ntmps91
  go_wp2
  refine wp_loop_rounds 1 ?_
  rw [rounds_succ]
  go_wp2_with fail
  refine HN.out.mono ?_
  rintro e w' ⟨rfl, rfl⟩
  go_wp2
  exact ⟨rfl, rfl, rfl⟩
theorem mach0_one : ∀ u ∈ mach0, u.oneCell' = true := by
  intro u hu
  simp only [mach0, List.mem_cons, List.not_mem_nil, or_false] at hu
  rcases hu with rfl | rfl | rfl | rfl | rfl | rfl | rfl | rfl <;> rfl
theorem bldM0 : ∀ w, (Instr.build 36 #[]).run Tryz.prog w = .ok (.agg mach0.toArray) w := fun w => by kernel_rfl
theorem exec_bld0 {P : Program} {o : Oper} {a : Act} {w w' : World} {v : Value} {t : TypeId} (ho : o.op = .build t #[]) (hrun : (Instr.build t #[]).run P w = .ok v w') : (execOp a.eval o).run P w = .ok (.value v) w' := by
  simp [execOp, ho, hrun]
theorem sizeBl : ∀ w, (sizeOf 4).run Tryz.prog w = .ok 1 w := fun w => by kernel_rfl
theorem catch_wrong (R : Nat) (w : World) (hR : Blk w R 36 mach0) (hR1 : Blk w (R + 1) 4 [.bool false]) :
    CallsD Tryz.prog 90 #[.pointer (some ⟨R, 0, none⟩), .pointer (some ⟨R + 1, 0, none⟩)] (.panicking [{ v := wrongV, recovered := false }]) w fun e u' w' =>
      e = .returned (.tuple #[]) ∧ u' = .panicking [{ v := wrongV, recovered := true }] ∧ Blk w' R 36 mach0 ∧ Blk w' (R + 1) 4 [.bool false] ∧ Fr [R, R + 1] w w' := by
  refine callsD_of_wpS Tryz.func90 rfl fun c₀ cs hu => ?_
  have HR := Lib.hid hR
  have HR1 := Lib.hid hR1
  have hta : ∀ W : World, (Instr.typeAssert (.iface 174 (.agg #[])) 20 174 true).run Tryz.prog W = .ok (.tuple #[.agg #[], .bool true]) W := fun W => by kernel_rfl
  have hnq : ∀ W : World, (binOp .neq 20 (.iface 174 (.agg #[])) .nilIface).run Tryz.prog W = .ok (.bool true) W := fun W => by kernel_rfl
  clear hR hR1
  apply wpS_seq
  apply wpS_region
  simp [wpOpsS, go_sem, recoverD, hu, Tryz.ntmps90, Exit.thenS, wrongV]
  simp only [List.size_toArray, List.length_cons, List.length_nil, Nat.reduceAdd, Nat.reduceSub, Array.replicate_succ, Array.replicate_zero, List.push_toArray, List.append_toArray, List.nil_append, List.cons_append, List.setIfInBounds_toArray, List.set_cons_zero, List.set_cons_succ]
  refine wpS_of_wp ?_
  go_upto_region 5 with fail
  obtain ⟨w0, hw0⟩ : ∃ z, w.alloc (.cells #[] 174) = z := ⟨_, rfl⟩
  have f0 : Fr [] w w0 := by rw [← hw0]; exact (Fr.refl [] w).alloc _
  rw [hw0]
  have HA := Lib.hid (HR.out.keep f0 (by simp))
  have HB := Lib.hid (HR1.out.keep f0 (by simp))
  have HF := Lib.hid f0
  clear hw0 f0
  refine wp_region_lit ?_
  refine wpList_val rfl (v := .agg mach0.toArray) (w' := w0) (exec_bld0 rfl (bldM0 w0)) ?_
  try simp only [Act.put, List.getElem_toArray, List.getElem_cons_succ, List.getElem_cons_zero, List.setIfInBounds_toArray, List.set_cons_zero, List.set_cons_succ]
  obtain ⟨w1, hst, hb_, hf_⟩ := store_all (t := 36) mach0 sizeMa rfl mach0_one HA.out rfl
  refine wpList_skp rfl (w' := w1) ?_ ?_
  · show Sem.run Tryz.prog ((Instr.storeAt 36 (.pointer (some ⟨R, 0, none⟩)) (.agg mach0.toArray)) >>= fun _ => pure Next.skip) _ = _
    rw [Sem.run_bind, hst]
    rfl
  clear hst
  try simp only [Act.put, List.getElem_toArray, List.getElem_cons_succ, List.getElem_cons_zero, List.setIfInBounds_toArray, List.set_cons_zero, List.set_cons_succ]
  have HA1 := Lib.hid hb_
  have HB1 := Lib.hid (HB.out.keep hf_ (by simp))
  have HF1 := Lib.hid hf_
  clear hb_ hf_
  obtain ⟨w2, hst, hb_, hf_⟩ := store_cell (t := 4) (o := 0) (.bool false) sizeBl rfl rfl HB1.out (by show 0 + 1 ≤ 1; omega)
  refine wpList_skp rfl (w' := w2) ?_ ?_
  · show Sem.run Tryz.prog ((Instr.storeAt 4 (.pointer (some ⟨R + 1, 0, none⟩)) (.bool false)) >>= fun _ => pure Next.skip) _ = _
    rw [Sem.run_bind, hst]
    rfl
  clear hst
  try simp only [Act.put, List.getElem_toArray, List.getElem_cons_succ, List.getElem_cons_zero, List.setIfInBounds_toArray, List.set_cons_zero, List.set_cons_succ]
  have HA2 := Lib.hid (HA1.out.keep hf_ (by simp))
  have HB2 := Lib.hid (show Blk w2 (R + 1) 4 [.bool false] from hb_)
  have HF2 := Lib.hid (show Fr [R, R + 1] w w2 from ((HF.out.mono (fun x hx => by cases hx)).trans HF1.out (fun x hx _ => by simp only [List.mem_singleton] at hx; simp [hx])).trans hf_ (fun x hx _ => by simp only [List.mem_singleton] at hx; simp [hx]))
  clear hb_ hf_
  refine wpList_nil ?_
  try simp only [Act.put, List.getElem_toArray, List.getElem_cons_succ, List.getElem_cons_zero, List.setIfInBounds_toArray, List.set_cons_zero, List.set_cons_succ]
  go_wp2
  cases c₀
  simp_all [bodyPostS, results, Tryz.results90, Exit.then, Exit.thenS, wrongV]
  exact ⟨HA2.out, HB2.out, HF2.out⟩
theorem aggBl : ∀ w, (isAgg 4).run Tryz.prog w = .ok false w := fun w => by kernel_rfl
theorem state_bad (a : Option Addr) (c : Nat) (w : World) : Calls Tryz.prog 34 #[.slice a 0 c] w fun e w' => e = .returned (.tuple #[.agg mach0.toArray, .bool false]) ∧ Fr [] w w' := by
  have hmf : ∀ (fn : Fn) (first cap : Array Value) (w : World), (Instr.makeFunc fn first cap).run Tryz.prog w = .ok (.func fn first cap) w := fun _ _ _ _ => rfl
  obtain ⟨R, hR⟩ : ∃ R, w.heap.size = R := ⟨_, rfl⟩
  obtain ⟨wA, hwA⟩ : ∃ z, (w.alloc (.cells mach0.toArray 36)).alloc (.cells #[.bool false] 4) = z := ⟨_, rfl⟩
  have hb1 : Blk wA R 36 mach0 := by
    rw [← hwA, ← hR]
    exact (Blk.made w _ mach0).keep ((Fr.refl [] _).alloc _) (by simp)
  have hr1 : Blk wA (R + 1) 4 [.bool false] := by
    have h := Blk.made (w.alloc (.cells mach0.toArray 36)) 4 [.bool false]
    rw [show (w.alloc (.cells mach0.toArray 36)).heap.size = R + 1 from by rw [← hR]; simp] at h
    rw [← hwA]
    exact h
  have hf : Fr [] w wA := by rw [← hwA]; exact ((Fr.refl [] w).alloc _).alloc _
  have HA := Lib.hid hb1
  have HB := Lib.hid hr1
  have HF := Lib.hid hf
  have HRS := Lib.hid hR
  have HWA := Lib.hid hwA
  clear hb1 hr1 hf hR hwA
  go_enter_defers Tryz.func34, Tryz.ntmps34
  go_upto_region 1 with fail
  rw [show (w.alloc (.cells #[.int .u64 0, .slice none 0 0, .slice none 0 0, .slice none 0 0, .slice none 0 0, .slice none 0 0, .slice none 0 0, .slice none 0 0] 36)).alloc (.cells #[.bool false] 4) = wA from HWA.out]
  simp only [HRS.out]
  go_upto_region 3 with fail
  obtain ⟨p, hp⟩ : ∃ z, wA.heap.size = z := ⟨_, rfl⟩
  obtain ⟨wB, hwB⟩ : ∃ z, wA.alloc (.cells #[.slice a 0 c] 177) = z := ⟨_, rfl⟩
  have c0 : wB.cell? ⟨p, 0, none⟩ = some (.slice a 0 c) := netCell wA _ _ 0 hwB.symm hp.symm rfl
  have fB : Fr [] wA wB := by rw [← hwB]; exact (Fr.refl [] wA).alloc _
  rw [hwB]
  simp only [hp]
  have HG := Lib.hid (getNumber_bad p a c wB c0)
  have HC := Lib.hid (catch_wrong R wB (HA.out.keep fB (by simp)) (HB.out.keep fB (by simp)))
  have HFB := Lib.hid (HF.out.step fB)
  clear hp hwB c0 fB
  go_wp2_with fail
  refine HG.out.mono ?_
  rintro e w' ⟨rfl, rfl⟩
  go_wp2
  refine leaves_cons (f := 90) (args := #[.pointer (some ⟨R, 0, none⟩), .pointer (some ⟨R + 1, 0, none⟩)]) (by simp) (by simp [go_sem]) ?_
  refine HC.out.mono ?_
  rintro e u' w2 ⟨rfl, rfl, hb2, hr2, f2⟩
  have m0 : w2.cell? ⟨R, 0, none⟩ = some (.int .u64 0) := hb2.at 0 _ rfl
  have m1 : w2.cell? ⟨R, 1, none⟩ = some (.slice none 0 0) := hb2.at 1 _ rfl
  have m2 : w2.cell? ⟨R, 2, none⟩ = some (.slice none 0 0) := hb2.at 2 _ rfl
  have m3 : w2.cell? ⟨R, 3, none⟩ = some (.slice none 0 0) := hb2.at 3 _ rfl
  have m4 : w2.cell? ⟨R, 4, none⟩ = some (.slice none 0 0) := hb2.at 4 _ rfl
  have m5 : w2.cell? ⟨R, 5, none⟩ = some (.slice none 0 0) := hb2.at 5 _ rfl
  have m6 : w2.cell? ⟨R, 6, none⟩ = some (.slice none 0 0) := hb2.at 6 _ rfl
  have m7 : w2.cell? ⟨R, 7, none⟩ = some (.slice none 0 0) := hb2.at 7 _ rfl
  have hc : w2.cell? ⟨R + 1, 0, none⟩ = some (.bool false) := hr2.at 0 _ rfl
  have hF : Fr [] w w2 := HFB.out.trans f2 (fun x hx hl => by
    have := HRS.out
    simp only [List.mem_cons, List.not_mem_nil, or_false] at hx
    omega)
  simp [Leaves, settle, results, Tryz.results34, go_sem, m0, m1, m2, m3, m4, m5, m6, m7, hc]
  exact ⟨rfl, hF⟩
end Go.Proofs.YtemihaijhcpnfaaGreatDoor
