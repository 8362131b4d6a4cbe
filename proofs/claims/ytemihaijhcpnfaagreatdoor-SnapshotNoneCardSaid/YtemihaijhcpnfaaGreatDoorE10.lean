/- ValidMachine of a machine of one task that does nothing: files, tasks, writes. -/
import Derived.Test.YtemihaijhcpnfaaGreatDoorE9
namespace Go.Proofs.YtemihaijhcpnfaaGreatDoor
open Go.RowKit
open Go.Maps (Keyed)
set_option linter.unusedVariables false
set_option linter.unusedSimpArgs false
set_option maxRecDepth 100000
set_option maxHeartbeats 8000000

theorem indexInts0 (f : Value) (w : World) : Calls Tryz.prog 239 #[.slice none 0 0, f] w fun e w' => e = .returned (.int .i64 (-1)) ∧ w = w' := by
  go_enter Tryz.func239, Tryz.ntmps239
  go_wp2
  refine wp_loop_rounds 1 ?_
  rw [rounds_succ]
  go_wp2
  go_ret
  exact ⟨rfl, rfl⟩
theorem containsInts0 (f : Value) (w : World) : Calls Tryz.prog 171 #[.slice none 0 0, f] w fun e w' => e = .returned (.bool false) ∧ w = w' := by
  go_enter Tryz.func171, Tryz.ntmps171
  go_wp2_with fail
  refine (indexInts0 _ _).mono ?_
  rintro e w' ⟨rfl, rfl⟩
  go_wp2
  go_ret
  exact ⟨rfl, rfl⟩
theorem within1 (w : World) : Calls Tryz.prog 174 #[.int .i64 1, .int .i64 1, .int .i64 64] w fun e w' => e = .returned (.bool true) ∧ w = w' := by
  go_enter Tryz.func174, Tryz.ntmps174
  go_wp2
  go_ret
  exact ⟨rfl, rfl⟩
theorem files_z (g c : Nat) (w : World) : Calls Tryz.prog 79 #[.agg (machZ g c).toArray] w fun e w' => e = .returned (.bool true) ∧ Fr [] w w' := by
  obtain ⟨M, hV⟩ : ∃ z, w.heap.size = z := ⟨_, rfl⟩
  obtain ⟨w0, hw0⟩ : ∃ z, w.alloc (.cells (machZ g c).toArray 36) = z := ⟨_, rfl⟩
  have hv0 : Blk w0 M 36 (machZ g c) := by rw [← hw0, ← hV]; exact Blk.made w _ _
  have f0 : Fr [] w w0 := by rw [← hw0]; exact (Fr.refl [] w).alloc _
  have HF0 := Lib.hid f0
  have HM0 := Lib.hid hv0
  have HV := Lib.hid hV
  have HW0 := Lib.hid hw0
  have c3 : w0.cell? ⟨M, 3, none⟩ = some (.slice none 0 0) := hv0.at 3 _ rfl
  have c4 : w0.cell? ⟨M, 4, none⟩ = some (.slice none 0 0) := hv0.at 4 _ rfl
  have c5 : w0.cell? ⟨M, 5, none⟩ = some (.slice none 0 0) := hv0.at 5 _ rfl
  have c6 : w0.cell? ⟨M, 6, none⟩ = some (.slice none 0 0) := hv0.at 6 _ rfl
  clear hV hw0 hv0 f0
  go_enter Tryz.func79, Tryz.ntmps79
  go_upto_region 1 with fail
  simp only [HV.out]
  rw [HW0.out]
  have hmm := @run_makeMap Tryz.prog
  go_wp2_with fail
  refine (containsInts0 _ _).mono ?_
  rintro e w' ⟨rfl, rfl⟩
  go_upto_region 4 with fail
  obtain ⟨m, hm⟩ : ∃ z, w0.heap.size = z := ⟨_, rfl⟩
  obtain ⟨w1, hw1⟩ : ∃ z, w0.alloc (.map #[] 0) = z := ⟨_, rfl⟩
  have hb1 : MapIs Tryz.prog 251 w1 m [] := by rw [← hw1, ← hm]; exact MapIs.made _ _ w0
  have f1 : Fr [] w0 w1 := by rw [← hw1]; exact (Fr.refl [] w0).alloc _
  rw [hw1]
  simp only [hm]
  have hln := hb1.len (t := 249) Tryz.underlying249
  rw [show ((([] : List (Value × Value)).length : Nat) : Int) = 0 from rfl] at hln
  have HF1 := Lib.hid (HF0.out.step f1)
  have d4 : w1.cell? ⟨M, 4, none⟩ = some (.slice none 0 0) := f1.keep c4 (by simp)
  have d5 : w1.cell? ⟨M, 5, none⟩ = some (.slice none 0 0) := f1.keep c5 (by simp)
  have d6 : w1.cell? ⟨M, 6, none⟩ = some (.slice none 0 0) := f1.keep c6 (by simp)
  clear hw1 hm hb1 f1 c3 c4 c5 c6 hmm
  go_wp2
  refine wp_loop_rounds 1 ?_
  rw [rounds_succ]
  go_wp2
  refine wp_loop_rounds 1 ?_
  rw [rounds_succ]
  go_wp2
  refine wp_loop_rounds 1 ?_
  rw [rounds_succ]
  go_wp2
  go_ret
  exact ⟨rfl, HF1.out⟩
theorem tasks_z (g c : Nat) (w : World) (hE : EnvE w) (hT : Task1 w g) : Calls Tryz.prog 80 #[.agg (machZ g c).toArray] w fun e w' => e = .returned (.bool true) ∧ Fr [] w w' := by
  obtain ⟨M, hV⟩ : ∃ z, w.heap.size = z := ⟨_, rfl⟩
  obtain ⟨w0, hw0⟩ : ∃ z, w.alloc (.cells (machZ g c).toArray 36) = z := ⟨_, rfl⟩
  have hv0 : Blk w0 M 36 (machZ g c) := by rw [← hw0, ← hV]; exact Blk.made w _ _
  have f0 : Fr [] w w0 := by rw [← hw0]; exact (Fr.refl [] w).alloc _
  have HF0 := Lib.hid f0
  have HM0 := Lib.hid hv0
  have HV := Lib.hid hV
  have HW0 := Lib.hid hw0
  have c0 : w0.cell? ⟨M, 0, none⟩ = some (.int .u64 3) := hv0.at 0 _ rfl
  have c1 : w0.cell? ⟨M, 1, none⟩ = some (.slice (some ⟨g, 0, none⟩) 1 c) := hv0.at 1 _ rfl
  have c2 : w0.cell? ⟨M, 2, none⟩ = some (.slice none 0 0) := hv0.at 2 _ rfl
  have c7 : w0.cell? ⟨M, 7, none⟩ = some (.slice none 0 0) := hv0.at 7 _ rfl
  have HK := Lib.hid (contains_z g c c M w0 (hE.new f0) hv0 (hT.new f0))
  have HT0 := Lib.hid (hT.new f0)
  clear hE hT
  clear hV hw0 hv0 f0
  go_enter Tryz.func80, Tryz.ntmps80
  go_upto_region 1 with fail
  simp only [HV.out]
  rw [HW0.out]
  have hmm := @run_makeMap Tryz.prog
  have hmf : ∀ (fn : Fn) (first cap : Array Value) (w : World), (Instr.makeFunc fn first cap).run Tryz.prog w = .ok (.func fn first cap) w := fun _ _ _ _ => rfl
  go_wp2_with fail
  refine (within1 _).mono ?_
  rintro e w' ⟨rfl, rfl⟩
  go_wp2_with fail
  refine HK.out.mono ?_
  rintro e w1 ⟨rfl, f1⟩
  go_upto_region 3 with fail
  have HF1 := Lib.hid (HF0.out.step f1)
  have HM1 := Lib.hid (HM0.out.keep f1 (by simp))
  have HT1 := Lib.hid (HT0.out.new f1)
  clear f1 c0 c1 c2 c7 HK
  go_upto_region 4 with fail
  obtain ⟨m, hm⟩ : ∃ z, w1.heap.size = z := ⟨_, rfl⟩
  obtain ⟨wm, hwm⟩ : ∃ z, w1.alloc (.map #[] 0) = z := ⟨_, rfl⟩
  have hbm : MapIs Tryz.prog 3 wm m [] := by rw [← hwm, ← hm]; exact MapIs.made _ _ w1
  have fm : Fr [] w1 wm := by rw [← hwm]; exact (Fr.refl [] w1).alloc _
  rw [hwm]
  simp only [hm]
  obtain ⟨wv, hwv⟩ : ∃ z, wm.alloc (.cells #[.map (some m)] 255) = z := ⟨_, rfl⟩
  have fv : Fr [] wm wv := by rw [← hwv]; exact (Fr.refl [] wm).alloc _
  have hsz : wm.heap.size = m + 1 := by rw [← hwm, ← hm]; simp
  have v0 : wv.cell? ⟨m + 1, 0, none⟩ = some (.map (some m)) := netCell wm _ _ 0 hwv.symm hsz.symm rfl
  rw [hwv]
  have HMM := Lib.hid (hbm.keep fv (by simp))
  have HF2 := Lib.hid ((HF1.out.step fm).step fv)
  have hM2 := (HM1.out.keep fm (by simp)).keep fv (by simp)
  have HT2 := Lib.hid ((HT1.out.new fm).new fv)
  clear hwv hsz fv hbm fm hm hwm
  have c1 : wv.cell? ⟨M, 1, none⟩ = some (.slice (some ⟨g, 0, none⟩) 1 c) := hM2.at 1 _ rfl
  have c2 : wv.cell? ⟨M, 2, none⟩ = some (.slice none 0 0) := hM2.at 2 _ rfl
  have c7 : wv.cell? ⟨M, 7, none⟩ = some (.slice none 0 0) := hM2.at 7 _ rfl
  clear hM2
  go_wp2
  refine wp_loop_rounds 1 ?_
  rw [rounds_succ]
  go_wp2
  refine wp_loop_rounds 1 ?_
  rw [rounds_succ]
  go_wp2
  refine wp_loop_rounds 2 ?_
  rw [rounds_succ]
  go_upto_region 30 with fail
  clear c1 c2 c7
  obtain ⟨XT, hT, hX⟩ := HT2.out
  have HX := Lib.hid hX
  have HTT := Lib.hid hT
  clear hT hX
  refine wp_region_lit ?_
  refine wpList_plain rfl (fun K hK => ?_)
  go_simp
  refine hK _ _ ?_
  clear hK K
  refine wpList_plain rfl (fun K hK => ?_)
  go_simp
  refine hK _ _ ?_
  clear hK K
  try simp only [Act.put, List.getElem_toArray, List.getElem_cons_succ, List.getElem_cons_zero, List.setIfInBounds_toArray, List.set_cons_zero, List.set_cons_succ]
  refine wpList_val rfl (v := .agg (cellZ).toArray) (w' := wv) ?_ ?_
  · show Sem.run Tryz.prog ((Instr.loadAt 90 (.pointer (some ⟨g, 0, none⟩))) >>= fun x => pure (Next.value x)) wv = _
    rw [Sem.run_bind, load_all aggCe sizeCe (xs := cellZ) rfl (HTT.out.at.part (k := 0) (n := 20) HX.out)]
    rfl
  try simp only [Act.put, List.getElem_toArray, List.getElem_cons_succ, List.getElem_cons_zero, List.setIfInBounds_toArray, List.set_cons_zero, List.set_cons_succ]
  refine wpList_plain rfl (fun K hK => ?_)
  go_simp
  refine hK _ _ ?_
  clear hK K
  try simp only [Act.put, List.getElem_toArray, List.getElem_cons_succ, List.getElem_cons_zero, List.setIfInBounds_toArray, List.set_cons_zero, List.set_cons_succ]
  obtain ⟨C, hC⟩ : ∃ z, wv.heap.size = z := ⟨_, rfl⟩
  obtain ⟨wx, hwx⟩ : ∃ z, wv.alloc (.cells cell0.toArray 90) = z := ⟨_, rfl⟩
  have hbx : Blk wx C 90 cell0 := by rw [← hwx, ← hC]; exact Blk.made wv _ _
  have fx : Fr [] wv wx := by rw [← hwx]; exact (Fr.refl [] wv).alloc _
  rw [show wv.alloc (.cells #[.int .i64 0, .int .i64 0, .int .i64 0, .int .i64 0, .int .i64 0, .int .i64 0, .string ⟨#[]⟩, .int .i64 0, .slice none 0 0, .int .i64 0, .int .i64 0, .int .i64 0, .int .u64 0, .bool false, .int .i64 0, .slice none 0 0, .int .i64 0, .int .i64 0, .int .i64 0, .int .i64 0] 90) = wx from hwx]
  simp only [hC]
  have HXX := Lib.hid hbx
  have HFX := Lib.hid fx
  have HCC := Lib.hid hC
  clear hwx hbx fx hC
  refine wpList_plain rfl (fun K hK => ?_)
  go_simp
  refine hK _ _ ?_
  clear hK K
  try simp only [Act.put, List.getElem_toArray, List.getElem_cons_succ, List.getElem_cons_zero, List.setIfInBounds_toArray, List.set_cons_zero, List.set_cons_succ]
  obtain ⟨w2, hst, hb_, hf_⟩ := store_all (t := 90) cellZ sizeCe rfl cellZ_one HXX.out rfl
  refine wpList_skp rfl (w' := w2) ?_ ?_
  · show Sem.run Tryz.prog ((Instr.storeAt 90 (.pointer (some ⟨C, 0, none⟩)) (.agg cellZ.toArray)) >>= fun _ => pure Next.skip) _ = _
    rw [Sem.run_bind, hst]
    rfl
  clear hst
  try simp only [Act.put, List.getElem_toArray, List.getElem_cons_succ, List.getElem_cons_zero, List.setIfInBounds_toArray, List.set_cons_zero, List.set_cons_succ]
  refine wpList_nil ?_
  try simp only [Act.put, List.getElem_toArray, List.getElem_cons_succ, List.getElem_cons_zero, List.setIfInBounds_toArray, List.set_cons_zero, List.set_cons_succ]
  have HC := Lib.hid hb_
  have HFC := Lib.hid (HFX.out.own1 (S := []) (B := 0) hf_ (by have := HCC.out; omega))
  clear hb_ hf_ HXX HFX
  have u0 : w2.cell? ⟨m + 1, 0, none⟩ = some (.map (some m)) := HFC.out.keep v0 (by simp)
  have HF3 := Lib.hid (HF2.out.step HFC.out)
  have hlk := (HMM.out.keep HFC.out (by simp)).miss (Maps.int_keyed Tryz.underlying3) (t := 255) (e := 87) Tryz.underlying255 (x := .int .i64 0) (z := .agg #[.int .i64 0, .int .i64 0]) (lx := .int .i64 0) (Maps.keyOf_int_mk Tryz.underlying3 (by decide)) (fun p hp => by cases hp) (by kernel_rfl) true
  rw [if_pos rfl] at hlk
  clear v0
  go_upto_region 32 with fail
  obtain ⟨w3, hw3⟩ : ∃ z, w2.alloc (.cells #[.int .i64 0, .int .i64 0] 87) = z := ⟨_, rfl⟩
  have f3 : Fr [] w2 w3 := by rw [← hw3]; exact (Fr.refl [] w2).alloc _
  have k0 : w3.cell? ⟨C, 0, none⟩ = some (.int .i64 0) := (HC.out.keep f3 (by simp)).at 0 _ rfl
  have HF4 := Lib.hid (HF3.out.step f3)
  rw [hw3]
  clear hw3 f3 u0 hlk
  go_wp2
  rw [rounds_succ]
  go_wp2
  go_ret
  exact ⟨rfl, HF4.out⟩
theorem writes_z (g c : Nat) (w : World) (hT : Task1 w g) : Calls Tryz.prog 81 #[.agg (machZ g c).toArray] w fun e w' => e = .returned (.bool true) ∧ Fr [] w w' := by
  obtain ⟨M, hV⟩ : ∃ z, w.heap.size = z := ⟨_, rfl⟩
  obtain ⟨w0, hw0⟩ : ∃ z, w.alloc (.cells (machZ g c).toArray 36) = z := ⟨_, rfl⟩
  have hv0 : Blk w0 M 36 (machZ g c) := by rw [← hw0, ← hV]; exact Blk.made w _ _
  have f0 : Fr [] w w0 := by rw [← hw0]; exact (Fr.refl [] w).alloc _
  have HF0 := Lib.hid f0
  have HM0 := Lib.hid hv0
  have HV := Lib.hid hV
  have HW0 := Lib.hid hw0
  have c5 : w0.cell? ⟨M, 5, none⟩ = some (.slice none 0 0) := hv0.at 5 _ rfl
  have HT0 := Lib.hid (hT.new f0)
  clear hT
  clear hV hw0 hv0 f0
  go_enter Tryz.func81, Tryz.ntmps81
  go_upto_region 1 with fail
  simp only [HV.out]
  rw [HW0.out]
  have hmm := @run_makeMap Tryz.prog
  go_upto_region 2 with fail
  obtain ⟨m, hm⟩ : ∃ z, w0.heap.size = z := ⟨_, rfl⟩
  obtain ⟨w1, hw1⟩ : ∃ z, w0.alloc (.map #[] 0) = z := ⟨_, rfl⟩
  have hb1 : MapIs Tryz.prog 71 w1 m [] := by rw [← hw1, ← hm]; exact MapIs.made _ _ w0
  have f1 : Fr [] w0 w1 := by rw [← hw1]; exact (Fr.refl [] w0).alloc _
  rw [hw1]
  simp only [hm]
  have HMM := Lib.hid hb1
  have HF1 := Lib.hid (HF0.out.step f1)
  have HT1 := Lib.hid (HT0.out.new f1)
  have d5 : w1.cell? ⟨M, 5, none⟩ = some (.slice none 0 0) := f1.keep c5 (by simp)
  have d1 : w1.cell? ⟨M, 1, none⟩ = some (.slice (some ⟨g, 0, none⟩) 1 c) := (HM0.out.keep f1 (by simp)).at 1 _ rfl
  clear hw1 hm hb1 f1 c5 hmm
  go_wp2
  refine wp_loop_rounds 1 ?_
  rw [rounds_succ]
  go_wp2
  refine wp_loop_rounds 2 ?_
  rw [rounds_succ]
  go_upto_region 17 with fail
  clear d1 d5
  obtain ⟨XT, hT, hX⟩ := HT1.out
  have HX := Lib.hid hX
  have HTT := Lib.hid hT
  clear hT hX
  refine wp_region_lit ?_
  refine wpList_plain rfl (fun K hK => ?_)
  go_simp
  refine hK _ _ ?_
  clear hK K
  try simp only [Act.put, List.getElem_toArray, List.getElem_cons_succ, List.getElem_cons_zero, List.setIfInBounds_toArray, List.set_cons_zero, List.set_cons_succ]
  refine wpList_val rfl (v := .agg (cellZ).toArray) (w' := w1) ?_ ?_
  · show Sem.run Tryz.prog ((Instr.loadAt 90 (.pointer (some ⟨g, 0, none⟩))) >>= fun x => pure (Next.value x)) w1 = _
    rw [Sem.run_bind, load_all aggCe sizeCe (xs := cellZ) rfl (HTT.out.at.part (k := 0) (n := 20) HX.out)]
    rfl
  try simp only [Act.put, List.getElem_toArray, List.getElem_cons_succ, List.getElem_cons_zero, List.setIfInBounds_toArray, List.set_cons_zero, List.set_cons_succ]
  refine wpList_plain rfl (fun K hK => ?_)
  go_simp
  refine hK _ _ ?_
  clear hK K
  try simp only [Act.put, List.getElem_toArray, List.getElem_cons_succ, List.getElem_cons_zero, List.setIfInBounds_toArray, List.set_cons_zero, List.set_cons_succ]
  obtain ⟨C, hC⟩ : ∃ z, w1.heap.size = z := ⟨_, rfl⟩
  obtain ⟨wx, hwx⟩ : ∃ z, w1.alloc (.cells cell0.toArray 90) = z := ⟨_, rfl⟩
  have hbx : Blk wx C 90 cell0 := by rw [← hwx, ← hC]; exact Blk.made w1 _ _
  have fx : Fr [] w1 wx := by rw [← hwx]; exact (Fr.refl [] w1).alloc _
  rw [show w1.alloc (.cells #[.int .i64 0, .int .i64 0, .int .i64 0, .int .i64 0, .int .i64 0, .int .i64 0, .string ⟨#[]⟩, .int .i64 0, .slice none 0 0, .int .i64 0, .int .i64 0, .int .i64 0, .int .u64 0, .bool false, .int .i64 0, .slice none 0 0, .int .i64 0, .int .i64 0, .int .i64 0, .int .i64 0] 90) = wx from hwx]
  simp only [hC]
  have HXX := Lib.hid hbx
  have HFX := Lib.hid fx
  have HCC := Lib.hid hC
  clear hwx hbx fx hC
  obtain ⟨w2, hst, hb_, hf_⟩ := store_all (t := 90) cellZ sizeCe rfl cellZ_one HXX.out rfl
  refine wpList_skp rfl (w' := w2) ?_ ?_
  · show Sem.run Tryz.prog ((Instr.storeAt 90 (.pointer (some ⟨C, 0, none⟩)) (.agg cellZ.toArray)) >>= fun _ => pure Next.skip) _ = _
    rw [Sem.run_bind, hst]
    rfl
  clear hst
  try simp only [Act.put, List.getElem_toArray, List.getElem_cons_succ, List.getElem_cons_zero, List.setIfInBounds_toArray, List.set_cons_zero, List.set_cons_succ]
  refine wpList_nil ?_
  try simp only [Act.put, List.getElem_toArray, List.getElem_cons_succ, List.getElem_cons_zero, List.setIfInBounds_toArray, List.set_cons_zero, List.set_cons_succ]
  have HC := Lib.hid hb_
  have HFC := Lib.hid (HFX.out.own1 (S := []) (B := 0) hf_ (by have := HCC.out; omega))
  clear hb_ hf_ HXX HFX
  have k13 : w2.cell? ⟨C, 13, none⟩ = some (.bool false) := HC.out.at 13 _ rfl
  have HF3 := Lib.hid (HF1.out.step HFC.out)
  have hln := (HMM.out.keep HFC.out (by simp)).len (t := 260) Tryz.underlying260
  rw [show ((([] : List (Value × Value)).length : Nat) : Int) = 0 from rfl] at hln
  go_wp2
  rw [rounds_succ]
  go_wp2
  go_ret
  exact ⟨rfl, HF3.out⟩
theorem valid_z (g c : Nat) (w : World) (hE : EnvE w) (hT : Task1 w g) : Calls Tryz.prog 32 #[.agg (machZ g c).toArray] w fun e w' => e = .returned (.bool true) ∧ Fr [] w w' := by
  obtain ⟨M, hV⟩ : ∃ z, w.heap.size = z := ⟨_, rfl⟩
  obtain ⟨w0, hw0⟩ : ∃ z, w.alloc (.cells (machZ g c).toArray 36) = z := ⟨_, rfl⟩
  have hv0 : Blk w0 M 36 (machZ g c) := by rw [← hw0, ← hV]; exact Blk.made w _ _
  have f0 : Fr [] w w0 := by rw [← hw0]; exact (Fr.refl [] w).alloc _
  have HF0 := Lib.hid f0
  have HM0 := Lib.hid hv0
  have HV := Lib.hid hV
  have HW0 := Lib.hid hw0
  have c5 : w0.cell? ⟨M, 5, none⟩ = some (.slice none 0 0) := hv0.at 5 _ rfl
  have c6 : w0.cell? ⟨M, 6, none⟩ = some (.slice none 0 0) := hv0.at 6 _ rfl
  have HG0 := Lib.hid (hE.new f0)
  have HT0 := Lib.hid (hT.new f0)
  clear hE hT
  clear hV hw0 hv0 f0
  go_enter Tryz.func32, Tryz.ntmps32
  go_upto_region 1 with fail
  simp only [HV.out]
  rw [HW0.out]
  go_wp2_with fail
  refine (restore0 _).mono ?_
  rintro e w1 ⟨n, rfl, f1⟩
  have HF1 := Lib.hid (HF0.out.step f1)
  have HM1 := Lib.hid (HM0.out.keep f1 (by simp))
  have HG1 := Lib.hid (HG0.out.new f1)
  have HT1 := Lib.hid (HT0.out.new f1)
  clear c5 c6 f1
  go_upto_region 2 with fail
  refine wp_region_lit ?_
  refine wpList_plain rfl (fun K hK => ?_)
  go_simp
  refine hK _ _ ?_
  clear hK K
  refine wpList_plain rfl (fun K hK => ?_)
  go_simp
  refine hK _ _ ?_
  clear hK K
  refine wpList_plain rfl (fun K hK => ?_)
  go_simp
  refine hK _ _ ?_
  clear hK K
  try simp only [Act.put, List.getElem_toArray, List.getElem_cons_succ, List.getElem_cons_zero, List.setIfInBounds_toArray, List.set_cons_zero, List.set_cons_succ]
  refine wpList_want (by rfl) (fun K hK => ?_)
  refine wp_vl (v := .agg (machZ g c).toArray) (w' := w1) ?_ ?_
  · show Sem.run Tryz.prog ((Instr.loadAt 36 (.pointer (some ⟨M, 0, none⟩))) >>= fun x => pure (Next.value x)) w1 = _
    rw [Sem.run_bind, load_all aggMa sizeMa (xs := machZ g c) rfl HM1.out.at]
    rfl
  refine hK _ _ ?_
  clear hK K
  try simp only [Act.put, List.getElem_toArray, List.getElem_cons_succ, List.getElem_cons_zero, List.setIfInBounds_toArray, List.set_cons_zero, List.set_cons_succ]
  refine wpList_want (by rfl) (fun K hK => ?_)
  go_simp
  refine (files_z g c _).mono ?_
  rintro e w2 ⟨rfl, fx⟩
  refine hK _ _ ?_
  clear hK K
  have HF2 := Lib.hid (HF1.out.step fx)
  have HM2 := Lib.hid (HM1.out.keep fx (by simp))
  have HG2 := Lib.hid (HG1.out.new fx)
  have HT2 := Lib.hid (HT1.out.new fx)
  clear fx
  try simp only [Act.put, List.getElem_toArray, List.getElem_cons_succ, List.getElem_cons_zero, List.setIfInBounds_toArray, List.set_cons_zero, List.set_cons_succ]
  refine wpList_plain rfl (fun K hK => ?_)
  go_simp
  refine hK _ _ ?_
  clear hK K
  refine wpList_plain rfl (fun K hK => ?_)
  go_simp
  refine hK _ _ ?_
  clear hK K
  try simp only [Act.put, List.getElem_toArray, List.getElem_cons_succ, List.getElem_cons_zero, List.setIfInBounds_toArray, List.set_cons_zero, List.set_cons_succ]
  refine wpList_want (by rfl) (fun K hK => ?_)
  refine wp_vl (v := .agg (machZ g c).toArray) (w' := w2) ?_ ?_
  · show Sem.run Tryz.prog ((Instr.loadAt 36 (.pointer (some ⟨M, 0, none⟩))) >>= fun x => pure (Next.value x)) w2 = _
    rw [Sem.run_bind, load_all aggMa sizeMa (xs := machZ g c) rfl HM2.out.at]
    rfl
  refine hK _ _ ?_
  clear hK K
  try simp only [Act.put, List.getElem_toArray, List.getElem_cons_succ, List.getElem_cons_zero, List.setIfInBounds_toArray, List.set_cons_zero, List.set_cons_succ]
  refine wpList_want (by rfl) (fun K hK => ?_)
  go_simp
  refine (tasks_z g c _ HG2.out HT2.out).mono ?_
  rintro e w3 ⟨rfl, fx⟩
  refine hK _ _ ?_
  clear hK K
  have HF3 := Lib.hid (HF2.out.step fx)
  have HM3 := Lib.hid (HM2.out.keep fx (by simp))
  have HG3 := Lib.hid (HG2.out.new fx)
  have HT3 := Lib.hid (HT2.out.new fx)
  clear fx
  try simp only [Act.put, List.getElem_toArray, List.getElem_cons_succ, List.getElem_cons_zero, List.setIfInBounds_toArray, List.set_cons_zero, List.set_cons_succ]
  refine wpList_plain rfl (fun K hK => ?_)
  go_simp
  refine hK _ _ ?_
  clear hK K
  refine wpList_plain rfl (fun K hK => ?_)
  go_simp
  refine hK _ _ ?_
  clear hK K
  try simp only [Act.put, List.getElem_toArray, List.getElem_cons_succ, List.getElem_cons_zero, List.setIfInBounds_toArray, List.set_cons_zero, List.set_cons_succ]
  refine wpList_want (by rfl) (fun K hK => ?_)
  refine wp_vl (v := .agg (machZ g c).toArray) (w' := w3) ?_ ?_
  · show Sem.run Tryz.prog ((Instr.loadAt 36 (.pointer (some ⟨M, 0, none⟩))) >>= fun x => pure (Next.value x)) w3 = _
    rw [Sem.run_bind, load_all aggMa sizeMa (xs := machZ g c) rfl HM3.out.at]
    rfl
  refine hK _ _ ?_
  clear hK K
  try simp only [Act.put, List.getElem_toArray, List.getElem_cons_succ, List.getElem_cons_zero, List.setIfInBounds_toArray, List.set_cons_zero, List.set_cons_succ]
  refine wpList_want (by rfl) (fun K hK => ?_)
  go_simp
  refine (writes_z g c _ HT3.out).mono ?_
  rintro e w4 ⟨rfl, fx⟩
  refine hK _ _ ?_
  clear hK K
  have HF4 := Lib.hid (HF3.out.step fx)
  have HM4 := Lib.hid (HM3.out.keep fx (by simp))
  have HG4 := Lib.hid (HG3.out.new fx)
  have HT4 := Lib.hid (HT3.out.new fx)
  clear fx
  try simp only [Act.put, List.getElem_toArray, List.getElem_cons_succ, List.getElem_cons_zero, List.setIfInBounds_toArray, List.set_cons_zero, List.set_cons_succ]
  refine wpList_plain rfl (fun K hK => ?_)
  go_simp
  refine hK _ _ ?_
  clear hK K
  refine wpList_plain rfl (fun K hK => ?_)
  go_simp
  refine hK _ _ ?_
  clear hK K
  refine wpList_nil ?_
  try simp only [Act.put, List.getElem_toArray, List.getElem_cons_succ, List.getElem_cons_zero, List.setIfInBounds_toArray, List.set_cons_zero, List.set_cons_succ]
  go_wp2
  go_ret
  exact ⟨rfl, HF4.out⟩
end Go.Proofs.YtemihaijhcpnfaaGreatDoor
