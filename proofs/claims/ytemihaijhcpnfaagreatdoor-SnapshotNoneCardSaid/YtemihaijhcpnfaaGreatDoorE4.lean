/- The snapshot's writer: the state of a machine whose one task does nothing. -/
import Derived.Test.YtemihaijhcpnfaaGreatDoorE3
namespace Go.Proofs.YtemihaijhcpnfaaGreatDoor
open Go.RowKit
set_option linter.unusedVariables false
set_option linter.unusedSimpArgs false
set_option maxRecDepth 100000
set_option maxHeartbeats 8000000

def machZ (T c : Nat) : List Value := [.int .u64 3, .slice (some ⟨T, 0, none⟩) 1 c, .slice none 0 0, .slice none 0 0, .slice none 0 0, .slice none 0 0, .slice none 0 0, .slice none 0 0]
def bodyZ : List UInt8 := [3, 1, 0, 0, 0, 0, 0, 0, 0, 0, 0, 0, 0, 0, 0, 0, 0, 0, 0, 1, 0, 0, 0, 0, 0, 0, 0, 0]
theorem state_z (T c : Nat) (XT : List Value) (hXT : (XT.drop 0).take 20 = cellZ) {B p : Nat} {s : Sli} {bs : List UInt8} (w : World) (h : Buf B w p s bs) (hn : bs.length ≤ 60000) (hT : Blk w T 90 XT) :
    Calls Tryz.prog 33 #[.pointer (some ⟨p, 0, none⟩), .agg (machZ T c).toArray] w (BufOut B w p (bs ++ bodyZ)) := by
  obtain ⟨M, hV⟩ : ∃ z, w.heap.size = z := ⟨_, rfl⟩
  obtain ⟨w0, hw0⟩ : ∃ z, w.alloc (.cells (machZ T c).toArray 36) = z := ⟨_, rfl⟩
  have hv0 : Blk w0 M 36 (machZ T c) := by rw [← hw0, ← hV]; exact Blk.made w _ _
  have f0 : Fr [] w w0 := by rw [← hw0]; exact (Fr.refl [] w).alloc _
  have HB0 := Lib.hid (h.new f0)
  have HK0 := Lib.hid (Kp.of (B := B) (p := p) f0)
  have HM0 := Lib.hid hv0
  have HT0 := Lib.hid (hT.keep f0 (by simp))
  clear hT
  have HV := Lib.hid hV
  have HW0 := Lib.hid hw0
  clear hV hw0 hv0 f0 h
  go_enter Tryz.func33, Tryz.ntmps33
  go_upto_region 1 with fail
  simp only [HV.out]
  rw [HW0.out]
  obtain ⟨w1, hwd⟩ : ∃ z, w0.drew = z := ⟨_, rfl⟩
  have fd : Fr [] w0 w1 := by rw [← hwd]; exact (Fr.refl [] w0).drew
  have HB1 := Lib.hid (HB0.out.new fd)
  have HK1 := Lib.hid (HK0.out.trans (Kp.of fd))
  have HM1 := Lib.hid (HM0.out.keep fd (by simp))
  have HT1 := Lib.hid (HT0.out.keep fd (by simp))
  have HWD := Lib.hid hwd
  clear fd hwd
  go_upto_region 1 with fail
  refine wp_region_held_drew (S := fun W => W.cell? ⟨M, 0, none⟩ = some (.int .u64 3)) (by kernel_rfl) (by rw [HWD.out]; exact HM1.out.at 0 _ rfl) (fun hHeld => ?_)
  rw [HWD.out] at hHeld ⊢
  refine wpAnyH_take (i := 0) (oi := _) (v := ?_) rfl (by kernel_rfl) (by kernel_rfl) (by kernel_rfl) (fun _ _ _ h => h) (Or.inl ⟨by rfl, ?_⟩) (by first | assumption | trivial) ?_
  rotate_left
  · intro w hSw
    try dsimp only at hSw
    go_simp
    try with_reducible rfl
  try simp only [Act.put, List.getElem_toArray, List.getElem_cons_succ, List.getElem_cons_zero, List.setIfInBounds_toArray, List.set_cons_zero, List.set_cons_succ]
  refine wpAnyH_take (i := 1) (oi := _) (v := ?_) rfl (by kernel_rfl) (by kernel_rfl) (by kernel_rfl) (fun _ _ _ h => h) (Or.inl ⟨by rfl, ?_⟩) (by first | assumption | trivial) ?_
  rotate_left
  · intro w hSw
    try dsimp only at hSw
    go_simp
    try with_reducible rfl
  try simp only [Act.put, List.getElem_toArray, List.getElem_cons_succ, List.getElem_cons_zero, List.setIfInBounds_toArray, List.set_cons_zero, List.set_cons_succ]
  refine wpAnyH_take (i := 2) (oi := _) (v := ?_) rfl (by kernel_rfl) (by kernel_rfl) (by kernel_rfl) (fun _ _ _ h => h) (Or.inl ⟨by rfl, ?_⟩) (by first | assumption | trivial) ?_
  rotate_left
  · intro w hSw
    try dsimp only at hSw
    go_simp
    try with_reducible rfl
  try simp only [Act.put, List.getElem_toArray, List.getElem_cons_succ, List.getElem_cons_zero, List.setIfInBounds_toArray, List.set_cons_zero, List.set_cons_succ]
  refine wpAnyH_take (i := 3) (oi := _) (v := ?_) rfl (by kernel_rfl) (by kernel_rfl) (by kernel_rfl) (fun _ _ _ h => h) (Or.inl ⟨by rfl, ?_⟩) (by first | assumption | trivial) ?_
  rotate_left
  · intro w hSw
    try dsimp only at hSw
    go_simp
    try with_reducible rfl
  try simp only [Act.put, List.getElem_toArray, List.getElem_cons_succ, List.getElem_cons_zero, List.setIfInBounds_toArray, List.set_cons_zero, List.set_cons_succ]
  refine wpAnyH_take (i := 4) (oi := _) (v := ?_) rfl (by kernel_rfl) (by kernel_rfl) (by kernel_rfl) (fun _ _ _ h => h) (Or.inl ⟨by rfl, ?_⟩) (by first | assumption | trivial) ?_
  rotate_left
  · intro w hSw
    try dsimp only at hSw
    go_simp
    try with_reducible rfl
  try simp only [Act.put, List.getElem_toArray, List.getElem_cons_succ, List.getElem_cons_zero, List.setIfInBounds_toArray, List.set_cons_zero, List.set_cons_succ]
  refine wpAnyH_ready (rs := [5]) (by kernel_rfl) (by simp) ?_
  refine AllReadyH.cons (o := _) rfl (fun K hK => ?_) AllReadyH.nil
  go_simp
  refine (number_any 3 (by decide) _ HB1.out (by (try simp only [List.length_append, List.length_map, List.length_cons, List.length_nil]); omega)).mono ?_
  rintro e w2 ⟨rfl, ⟨s2, hb_⟩, k_⟩
  have HB2 := Lib.hid hb_
  have HK2 := Lib.hid (HK1.out.trans k_)
  have HM2 := Lib.hid (HM1.out.kp k_ (HB1.out.ne HM1.out (by decide)) (by decide))
  have HT2 := Lib.hid (HT1.out.kp k_ (HB1.out.ne HT1.out (by decide)) (by decide))
  clear hb_ k_
  refine hK.out _ _ (HM2.out.at 0 _ rfl) (fun hHeld => ?_)
  clear hK K
  try simp only [Act.put, List.getElem_toArray, List.getElem_cons_succ, List.getElem_cons_zero, List.setIfInBounds_toArray, List.set_cons_zero, List.set_cons_succ]
  refine wpAnyH_done (by kernel_rfl) ?_ _
  clear hHeld HWD
  clear HB0 HK0 HM0 HT0 HB1 HK1 HM1 HT1
  obtain ⟨w3, hwd⟩ : ∃ z, w2.drew = z := ⟨_, rfl⟩
  have fd : Fr [] w2 w3 := by rw [← hwd]; exact (Fr.refl [] w2).drew
  have HB3 := Lib.hid (HB2.out.new fd)
  have HK3 := Lib.hid (HK2.out.trans (Kp.of fd))
  have HM3 := Lib.hid (HM2.out.keep fd (by simp))
  have HT3 := Lib.hid (HT2.out.keep fd (by simp))
  have HWD := Lib.hid hwd
  clear fd hwd
  go_upto_region 2 with fail
  refine wp_region_held_drew (S := fun W => W.cell? ⟨M, 1, none⟩ = some (.slice (some ⟨T, 0, none⟩) 1 c)) (by kernel_rfl) (by rw [HWD.out]; exact HM3.out.at 1 _ rfl) (fun hHeld => ?_)
  rw [HWD.out] at hHeld ⊢
  refine wpAnyH_take (i := 0) (oi := _) (v := ?_) rfl (by kernel_rfl) (by kernel_rfl) (by kernel_rfl) (fun _ _ _ h => h) (Or.inl ⟨by rfl, ?_⟩) (by first | assumption | trivial) ?_
  rotate_left
  · intro w hSw
    try dsimp only at hSw
    go_simp
    try with_reducible rfl
  try simp only [Act.put, List.getElem_toArray, List.getElem_cons_succ, List.getElem_cons_zero, List.setIfInBounds_toArray, List.set_cons_zero, List.set_cons_succ]
  refine wpAnyH_take (i := 1) (oi := _) (v := ?_) rfl (by kernel_rfl) (by kernel_rfl) (by kernel_rfl) (fun _ _ _ h => h) (Or.inl ⟨by rfl, ?_⟩) (by first | assumption | trivial) ?_
  rotate_left
  · intro w hSw
    try dsimp only at hSw
    go_simp
    try with_reducible rfl
  try simp only [Act.put, List.getElem_toArray, List.getElem_cons_succ, List.getElem_cons_zero, List.setIfInBounds_toArray, List.set_cons_zero, List.set_cons_succ]
  refine wpAnyH_take (i := 2) (oi := _) (v := ?_) rfl (by kernel_rfl) (by kernel_rfl) (by kernel_rfl) (fun _ _ _ h => h) (Or.inl ⟨by rfl, ?_⟩) (by first | assumption | trivial) ?_
  rotate_left
  · intro w hSw
    try dsimp only at hSw
    go_simp
    try with_reducible rfl
  try simp only [Act.put, List.getElem_toArray, List.getElem_cons_succ, List.getElem_cons_zero, List.setIfInBounds_toArray, List.set_cons_zero, List.set_cons_succ]
  refine wpAnyH_take (i := 3) (oi := _) (v := ?_) rfl (by kernel_rfl) (by kernel_rfl) (by kernel_rfl) (fun _ _ _ h => h) (Or.inl ⟨by rfl, ?_⟩) (by first | assumption | trivial) ?_
  rotate_left
  · intro w hSw
    try dsimp only at hSw
    go_simp
    try with_reducible rfl
  try simp only [Act.put, List.getElem_toArray, List.getElem_cons_succ, List.getElem_cons_zero, List.setIfInBounds_toArray, List.set_cons_zero, List.set_cons_succ]
  refine wpAnyH_take (i := 4) (oi := _) (v := ?_) rfl (by kernel_rfl) (by kernel_rfl) (by kernel_rfl) (fun _ _ _ h => h) (Or.inl ⟨by rfl, ?_⟩) (by first | assumption | trivial) ?_
  rotate_left
  · intro w hSw
    try dsimp only at hSw
    go_simp
    try with_reducible rfl
  try simp only [Act.put, List.getElem_toArray, List.getElem_cons_succ, List.getElem_cons_zero, List.setIfInBounds_toArray, List.set_cons_zero, List.set_cons_succ]
  refine wpAnyH_take (i := 5) (oi := _) (v := ?_) rfl (by kernel_rfl) (by kernel_rfl) (by kernel_rfl) (fun _ _ _ h => h) (Or.inl ⟨by rfl, ?_⟩) (by first | assumption | trivial) ?_
  rotate_left
  · intro w hSw
    try dsimp only at hSw
    go_simp
    try with_reducible rfl
  try simp only [Act.put, List.getElem_toArray, List.getElem_cons_succ, List.getElem_cons_zero, List.setIfInBounds_toArray, List.set_cons_zero, List.set_cons_succ]
  refine wpAnyH_take (i := 6) (oi := _) (v := ?_) rfl (by kernel_rfl) (by kernel_rfl) (by kernel_rfl) (fun _ _ _ h => h) (Or.inl ⟨by rfl, ?_⟩) (by first | assumption | trivial) ?_
  rotate_left
  · intro w hSw
    try dsimp only at hSw
    go_simp
    try with_reducible rfl
  try simp only [Act.put, List.getElem_toArray, List.getElem_cons_succ, List.getElem_cons_zero, List.setIfInBounds_toArray, List.set_cons_zero, List.set_cons_succ]
  refine wpAnyH_ready (rs := [7]) (by kernel_rfl) (by simp) ?_
  refine AllReadyH.cons (o := _) rfl (fun K hK => ?_) AllReadyH.nil
  go_simp
  refine (number_any 1 (by decide) _ HB3.out (by (try simp only [List.length_append, List.length_map, List.length_cons, List.length_nil]); omega)).mono ?_
  rintro e w4 ⟨rfl, ⟨s4, hb_⟩, k_⟩
  have HB4 := Lib.hid hb_
  have HK4 := Lib.hid (HK3.out.trans k_)
  have HM4 := Lib.hid (HM3.out.kp k_ (HB3.out.ne HM3.out (by decide)) (by decide))
  have HT4 := Lib.hid (HT3.out.kp k_ (HB3.out.ne HT3.out (by decide)) (by decide))
  clear hb_ k_
  refine hK.out _ _ (HM4.out.at 1 _ rfl) (fun hHeld => ?_)
  clear hK K
  try simp only [Act.put, List.getElem_toArray, List.getElem_cons_succ, List.getElem_cons_zero, List.setIfInBounds_toArray, List.set_cons_zero, List.set_cons_succ]
  refine wpAnyH_done (by kernel_rfl) ?_ _
  clear hHeld HWD
  clear HB2 HK2 HM2 HT2 HB3 HK3 HM3 HT3
  have c1 : w4.cell? ⟨M, 1, none⟩ = some (.slice (some ⟨T, 0, none⟩) 1 c) := HM4.out.at 1 _ rfl
  go_wp2
  refine wp_loop_rounds 2 ?_
  rw [rounds_succ]
  go_upto_region 5 with fail
  clear c1
  refine wp_region_lit ?_
  refine wpList_plain rfl (fun K hK => ?_)
  go_simp
  refine hK _ _ ?_
  clear hK K
  try simp only [Act.put, List.getElem_toArray, List.getElem_cons_succ, List.getElem_cons_zero, List.setIfInBounds_toArray, List.set_cons_zero, List.set_cons_succ]
  refine wpList_val rfl (v := .agg (cellZ).toArray) (w' := w4) ?_ ?_
  · show Sem.run Tryz.prog ((Instr.loadAt 90 (.pointer (some ⟨T, 0, none⟩))) >>= fun x => pure (Next.value x)) w4 = _
    rw [Sem.run_bind, load_all aggCe sizeCe (xs := cellZ) rfl (HT4.out.at.part (k := 0) (n := 20) hXT)]
    rfl
  try simp only [Act.put, List.getElem_toArray, List.getElem_cons_succ, List.getElem_cons_zero, List.setIfInBounds_toArray, List.set_cons_zero, List.set_cons_succ]
  refine wpList_plain rfl (fun K hK => ?_)
  go_simp
  refine hK _ _ ?_
  clear hK K
  try simp only [Act.put, List.getElem_toArray, List.getElem_cons_succ, List.getElem_cons_zero, List.setIfInBounds_toArray, List.set_cons_zero, List.set_cons_succ]
  obtain ⟨C, hC⟩ : ∃ z, w4.heap.size = z := ⟨_, rfl⟩
  obtain ⟨wx, hwx⟩ : ∃ z, w4.alloc (.cells cell0.toArray 90) = z := ⟨_, rfl⟩
  have hbx : Blk wx C 90 cell0 := by rw [← hwx, ← hC]; exact Blk.made w4 _ _
  have fx : Fr [] w4 wx := by rw [← hwx]; exact (Fr.refl [] w4).alloc _
  rw [show w4.alloc (.cells #[.int .i64 0, .int .i64 0, .int .i64 0, .int .i64 0, .int .i64 0, .int .i64 0, .string ⟨#[]⟩, .int .i64 0, .slice none 0 0, .int .i64 0, .int .i64 0, .int .i64 0, .int .u64 0, .bool false, .int .i64 0, .slice none 0 0, .int .i64 0, .int .i64 0, .int .i64 0, .int .i64 0] 90) = wx from hwx]
  simp only [hC]
  have HX := Lib.hid hbx
  have HB5 := Lib.hid (HB4.out.new fx)
  have HK5 := Lib.hid (HK4.out.trans (Kp.of fx))
  have HM5 := Lib.hid (HM4.out.keep fx (by simp))
  have HT5 := Lib.hid (HT4.out.keep fx (by simp))
  have HCS := Lib.hid (show w4.heap.size = C from hC)
  clear hwx hbx fx hC
  obtain ⟨w6, hst, hb_, hf_⟩ := store_all (t := 90) cellZ sizeCe rfl cellZ_one HX.out rfl
  refine wpList_skp rfl (w' := w6) ?_ ?_
  · show Sem.run Tryz.prog ((Instr.storeAt 90 (.pointer (some ⟨C, 0, none⟩)) (.agg cellZ.toArray)) >>= fun _ => pure Next.skip) _ = _
    rw [Sem.run_bind, hst]
    rfl
  clear hst
  try simp only [Act.put, List.getElem_toArray, List.getElem_cons_succ, List.getElem_cons_zero, List.setIfInBounds_toArray, List.set_cons_zero, List.set_cons_succ]
  refine wpList_nil ?_
  try simp only [Act.put, List.getElem_toArray, List.getElem_cons_succ, List.getElem_cons_zero, List.setIfInBounds_toArray, List.set_cons_zero, List.set_cons_succ]
  have hBx : Buf B w6 p _ _ := ⟨HB5.out.blk.keep hf_ (by
    intro hm
    rw [List.mem_singleton] at hm
    exact HB5.out.ne HX.out (by decide) hm.symm), rowFr' HB5.out.row hf_ (fun g hg hm => by rw [List.mem_singleton] at hm; subst hm; exact blkNe HX.out HB5.out.row (by decide) hg), Nat.le_trans HB5.out.low hf_.size⟩
  have HB6 := Lib.hid hBx
  have hMC : M ≠ C := fun hm => by have := HM4.out.lt; have := HCS.out; omega
  have hTC : T ≠ C := fun hm => by have := HT4.out.lt; have := HCS.out; omega
  have HM6 := Lib.hid (HM5.out.keep hf_ (by simpa using hMC))
  have HT6 := Lib.hid (HT5.out.keep hf_ (by simpa using hTC))
  have HC6 := Lib.hid hb_
  have hk : Kp B p w w6 := ⟨hf_.os.trans HK5.out.os, hf_.tape.trans HK5.out.tape, hf_.output.trans HK5.out.output, Nat.le_trans HK5.out.size hf_.size, fun q hq hn hu => by
    rw [hf_.block q (Nat.lt_of_lt_of_le hq HK5.out.size) (by
      simp only [List.mem_singleton]
      have := HCS.out
      have := HK4.out.size
      omega)]
    exact HK5.out.block q hq hn hu⟩
  have HK6 := Lib.hid hk
  clear hBx hMC hTC hk hb_ hf_ HX HCS
  clear HM5 HT5 HB5 HK5 HM4 HT4 HB4 HK4
  obtain ⟨w7, hwd⟩ : ∃ z, w6.drew = z := ⟨_, rfl⟩
  have fd : Fr [] w6 w7 := by rw [← hwd]; exact (Fr.refl [] w6).drew
  have HB7 := Lib.hid (HB6.out.new fd)
  have HK7 := Lib.hid (HK6.out.trans (Kp.of fd))
  have HM7 := Lib.hid (HM6.out.keep fd (by simp))
  have HT7 := Lib.hid (HT6.out.keep fd (by simp))
  have HC7 := Lib.hid (HC6.out.keep fd (by simp))
  have HWD := Lib.hid hwd
  clear fd hwd
  go_upto_region 6 with fail
  refine wp_region_held_drew (S := fun W => W.cell? ⟨C, 0, none⟩ = some (.int .i64 0)) (by kernel_rfl) (by rw [HWD.out]; exact HC7.out.at 0 _ rfl) (fun hHeld => ?_)
  rw [HWD.out] at hHeld ⊢
  refine wpAnyH_take (i := 0) (oi := _) (v := ?_) rfl (by kernel_rfl) (by kernel_rfl) (by kernel_rfl) (fun _ _ _ h => h) (Or.inl ⟨by rfl, ?_⟩) (by first | assumption | trivial) ?_
  rotate_left
  · intro w hSw
    try dsimp only at hSw
    go_simp
    try with_reducible rfl
  try simp only [Act.put, List.getElem_toArray, List.getElem_cons_succ, List.getElem_cons_zero, List.setIfInBounds_toArray, List.set_cons_zero, List.set_cons_succ]
  refine wpAnyH_take (i := 1) (oi := _) (v := ?_) rfl (by kernel_rfl) (by kernel_rfl) (by kernel_rfl) (fun _ _ _ h => h) (Or.inl ⟨by rfl, ?_⟩) (by first | assumption | trivial) ?_
  rotate_left
  · intro w hSw
    try dsimp only at hSw
    go_simp
    try with_reducible rfl
  try simp only [Act.put, List.getElem_toArray, List.getElem_cons_succ, List.getElem_cons_zero, List.setIfInBounds_toArray, List.set_cons_zero, List.set_cons_succ]
  refine wpAnyH_take (i := 2) (oi := _) (v := ?_) rfl (by kernel_rfl) (by kernel_rfl) (by kernel_rfl) (fun _ _ _ h => h) (Or.inl ⟨by rfl, ?_⟩) (by first | assumption | trivial) ?_
  rotate_left
  · intro w hSw
    try dsimp only at hSw
    go_simp
    try with_reducible rfl
  try simp only [Act.put, List.getElem_toArray, List.getElem_cons_succ, List.getElem_cons_zero, List.setIfInBounds_toArray, List.set_cons_zero, List.set_cons_succ]
  refine wpAnyH_take (i := 3) (oi := _) (v := ?_) rfl (by kernel_rfl) (by kernel_rfl) (by kernel_rfl) (fun _ _ _ h => h) (Or.inl ⟨by rfl, ?_⟩) (by first | assumption | trivial) ?_
  rotate_left
  · intro w hSw
    try dsimp only at hSw
    go_simp
    try with_reducible rfl
  try simp only [Act.put, List.getElem_toArray, List.getElem_cons_succ, List.getElem_cons_zero, List.setIfInBounds_toArray, List.set_cons_zero, List.set_cons_succ]
  refine wpAnyH_take (i := 4) (oi := _) (v := ?_) rfl (by kernel_rfl) (by kernel_rfl) (by kernel_rfl) (fun _ _ _ h => h) (Or.inl ⟨by rfl, ?_⟩) (by first | assumption | trivial) ?_
  rotate_left
  · intro w hSw
    try dsimp only at hSw
    go_simp
    try with_reducible rfl
  try simp only [Act.put, List.getElem_toArray, List.getElem_cons_succ, List.getElem_cons_zero, List.setIfInBounds_toArray, List.set_cons_zero, List.set_cons_succ]
  refine wpAnyH_ready (rs := [5]) (by kernel_rfl) (by simp) ?_
  refine AllReadyH.cons (o := _) rfl (fun K hK => ?_) AllReadyH.nil
  obtain ⟨w8, hwb⟩ : ∃ zz, w7.alloc (.cells ([.int .i64 0] : List Value).toArray 3) = zz := ⟨_, rfl⟩
  obtain ⟨Eb, hEb⟩ : ∃ z, w7.heap.size = z := ⟨_, rfl⟩
  have hbb : Blk w8 Eb 3 [.int .i64 0] := by rw [← hwb, ← hEb]; exact Blk.made w7 3 _
  have fb : Fr [] w7 w8 := by rw [← hwb]; exact (Fr.refl [] w7).alloc _
  split
  rotate_left
  · rename_i hno
    exact absurd rfl hno
  refine wp_vl (v := .slice (some ⟨Eb, 0, none⟩) 1 1) (w' := w8) ?_ ?_
  · refine exec_bsl (V := .int .i64 0) rfl rfl ?_
    rw [bslI1]
    rw [show (w7.alloc (.cells #[.int .i64 0] 3)) = w8 from hwb, hEb]
  have HB8 := Lib.hid (HB7.out.new fb)
  have HK8 := Lib.hid (HK7.out.trans (Kp.of fb))
  have HM8 := Lib.hid (HM7.out.keep fb (by simp))
  have HT8 := Lib.hid (HT7.out.keep fb (by simp))
  have HC8 := Lib.hid (HC7.out.keep fb (by simp))
  have HEB := Lib.hid hbb
  clear hwb hEb hbb fb
  refine hK.out _ _ (HC8.out.at 0 _ rfl) (fun hHeld => ?_)
  clear hK K
  try simp only [Act.put, List.getElem_toArray, List.getElem_cons_succ, List.getElem_cons_zero, List.setIfInBounds_toArray, List.set_cons_zero, List.set_cons_succ]
  refine wpAnyH_ready (rs := [6]) (by kernel_rfl) (by simp) ?_
  refine AllReadyH.cons (o := _) rfl (fun K hK => ?_) AllReadyH.nil
  go_simp
  refine (ints_any _ [0] _ HB8.out (by (try simp only [List.length_append, List.length_map, List.length_cons, List.length_nil]); omega) (by simp) (.inr ⟨Eb, 1, rfl, rfl, HEB.out, HB8.out.ne HEB.out (by decide)⟩)).mono ?_
  rintro e w9 ⟨rfl, ⟨s9, hb_⟩, k_⟩
  have HB9 := Lib.hid hb_
  have HK9 := Lib.hid (HK8.out.trans k_)
  have HM9 := Lib.hid (HM8.out.kp k_ (HB8.out.ne HM8.out (by decide)) (by decide))
  have HT9 := Lib.hid (HT8.out.kp k_ (HB8.out.ne HT8.out (by decide)) (by decide))
  have HC9 := Lib.hid (HC8.out.kp k_ (HB8.out.ne HC8.out (by decide)) (by decide))
  clear hb_ k_
  refine hK.out _ _ (HC9.out.at 0 _ rfl) (fun hHeld => ?_)
  clear hK K
  try simp only [Act.put, List.getElem_toArray, List.getElem_cons_succ, List.getElem_cons_zero, List.setIfInBounds_toArray, List.set_cons_zero, List.set_cons_succ]
  refine wpAnyH_done (by kernel_rfl) ?_ _
  clear hHeld HWD HEB
  clear HB6 HK6 HM6 HT6 HC6 HB7 HK7 HM7 HT7 HC7 HB8 HK8 HM8 HT8 HC8
  go_upto_region 7 with fail
  refine wp_region_lit ?_
  refine wpList_plain rfl (fun K hK => ?_)
  go_simp
  refine hK _ _ ?_
  clear hK K
  refine wpList_plain rfl (fun K hK => ?_)
  go_simp
  refine hK _ _ ?_
  clear hK K
  try simp only [Act.put, List.getElem_toArray, List.getElem_cons_succ, List.getElem_cons_zero, List.setIfInBounds_toArray, List.set_cons_zero, List.set_cons_succ]
  refine wpList_val rfl (v := .agg (callZ).toArray) (w' := w9) ?_ ?_
  · show Sem.run Tryz.prog ((Instr.loadAt 84 (.pointer (some ⟨C, 1, none⟩))) >>= fun x => pure (Next.value x)) w9 = _
    rw [Sem.run_bind, load_all aggCl sizeCl (xs := callZ) rfl (HC9.out.at.part (k := 1) (n := 12) rfl)]
    rfl
  try simp only [Act.put, List.getElem_toArray, List.getElem_cons_succ, List.getElem_cons_zero, List.setIfInBounds_toArray, List.set_cons_zero, List.set_cons_succ]
  refine wpList_plain rfl (fun K hK => ?_)
  go_simp
  refine (call_z _ HB9.out (by (try simp only [List.length_append, List.length_map, List.length_cons, List.length_nil]); omega)).mono ?_
  rintro e w10 ⟨rfl, ⟨s10, hb_⟩, k_⟩
  refine hK _ _ ?_
  clear hK K
  have HB10 := Lib.hid hb_
  have HK10 := Lib.hid (HK9.out.trans k_)
  have HM10 := Lib.hid (HM9.out.kp k_ (HB9.out.ne HM9.out (by decide)) (by decide))
  have HT10 := Lib.hid (HT9.out.kp k_ (HB9.out.ne HT9.out (by decide)) (by decide))
  have HC10 := Lib.hid (HC9.out.kp k_ (HB9.out.ne HC9.out (by decide)) (by decide))
  clear hb_ k_
  clear HB9 HK9 HM9 HT9 HC9
  try simp only [Act.put, List.getElem_toArray, List.getElem_cons_succ, List.getElem_cons_zero, List.setIfInBounds_toArray, List.set_cons_zero, List.set_cons_succ]
  refine wpList_nil ?_
  try simp only [Act.put, List.getElem_toArray, List.getElem_cons_succ, List.getElem_cons_zero, List.setIfInBounds_toArray, List.set_cons_zero, List.set_cons_succ]
  obtain ⟨w11, hwd⟩ : ∃ z, w10.drew = z := ⟨_, rfl⟩
  have fd : Fr [] w10 w11 := by rw [← hwd]; exact (Fr.refl [] w10).drew
  have HB11 := Lib.hid (HB10.out.new fd)
  have HK11 := Lib.hid (HK10.out.trans (Kp.of fd))
  have HM11 := Lib.hid (HM10.out.keep fd (by simp))
  have HT11 := Lib.hid (HT10.out.keep fd (by simp))
  have HC11 := Lib.hid (HC10.out.keep fd (by simp))
  have HWD := Lib.hid hwd
  clear fd hwd
  go_upto_region 8 with fail
  refine wp_region_held_drew (S := fun W => W.cell? ⟨C, 13, none⟩ = some (.bool false)) (by kernel_rfl) (by rw [HWD.out]; exact HC11.out.at 13 _ rfl) (fun hHeld => ?_)
  rw [HWD.out] at hHeld ⊢
  refine wpAnyH_take (i := 0) (oi := _) (v := ?_) rfl (by kernel_rfl) (by kernel_rfl) (by kernel_rfl) (fun _ _ _ h => h) (Or.inl ⟨by rfl, ?_⟩) (by first | assumption | trivial) ?_
  rotate_left
  · intro w hSw
    try dsimp only at hSw
    go_simp
    try with_reducible rfl
  try simp only [Act.put, List.getElem_toArray, List.getElem_cons_succ, List.getElem_cons_zero, List.setIfInBounds_toArray, List.set_cons_zero, List.set_cons_succ]
  refine wpAnyH_take (i := 1) (oi := _) (v := ?_) rfl (by kernel_rfl) (by kernel_rfl) (by kernel_rfl) (fun _ _ _ h => h) (Or.inl ⟨by rfl, ?_⟩) (by first | assumption | trivial) ?_
  rotate_left
  · intro w hSw
    try dsimp only at hSw
    go_simp
    try with_reducible rfl
  try simp only [Act.put, List.getElem_toArray, List.getElem_cons_succ, List.getElem_cons_zero, List.setIfInBounds_toArray, List.set_cons_zero, List.set_cons_succ]
  refine wpAnyH_take (i := 2) (oi := _) (v := ?_) rfl (by kernel_rfl) (by kernel_rfl) (by kernel_rfl) (fun _ _ _ h => h) (Or.inl ⟨by rfl, ?_⟩) (by first | assumption | trivial) ?_
  rotate_left
  · intro w hSw
    try dsimp only at hSw
    go_simp
    try with_reducible rfl
  try simp only [Act.put, List.getElem_toArray, List.getElem_cons_succ, List.getElem_cons_zero, List.setIfInBounds_toArray, List.set_cons_zero, List.set_cons_succ]
  refine wpAnyH_take (i := 3) (oi := _) (v := ?_) rfl (by kernel_rfl) (by kernel_rfl) (by kernel_rfl) (fun _ _ _ h => h) (Or.inl ⟨by rfl, ?_⟩) (by first | assumption | trivial) ?_
  rotate_left
  · intro w hSw
    try dsimp only at hSw
    go_simp
    try with_reducible rfl
  try simp only [Act.put, List.getElem_toArray, List.getElem_cons_succ, List.getElem_cons_zero, List.setIfInBounds_toArray, List.set_cons_zero, List.set_cons_succ]
  refine wpAnyH_take (i := 4) (oi := _) (v := ?_) rfl (by kernel_rfl) (by kernel_rfl) (by kernel_rfl) (fun _ _ _ h => h) (Or.inl ⟨by rfl, ?_⟩) (by first | assumption | trivial) ?_
  rotate_left
  · intro w hSw
    try dsimp only at hSw
    go_simp
    try with_reducible rfl
  try simp only [Act.put, List.getElem_toArray, List.getElem_cons_succ, List.getElem_cons_zero, List.setIfInBounds_toArray, List.set_cons_zero, List.set_cons_succ]
  refine wpAnyH_ready (rs := [5]) (by kernel_rfl) (by simp) ?_
  refine AllReadyH.cons (o := _) rfl (fun K hK => ?_) AllReadyH.nil
  obtain ⟨w12, hwb⟩ : ∃ zz, w11.alloc (.cells ([.bool false] : List Value).toArray 4) = zz := ⟨_, rfl⟩
  obtain ⟨Eb, hEb⟩ : ∃ z, w11.heap.size = z := ⟨_, rfl⟩
  have hbb : Blk w12 Eb 4 [.bool false] := by rw [← hwb, ← hEb]; exact Blk.made w11 4 _
  have fb : Fr [] w11 w12 := by rw [← hwb]; exact (Fr.refl [] w11).alloc _
  split
  rotate_left
  · rename_i hno
    exact absurd rfl hno
  refine wp_vl (v := .slice (some ⟨Eb, 0, none⟩) 1 1) (w' := w12) ?_ ?_
  · refine exec_bsl (V := .bool false) rfl rfl ?_
    rw [bslB1]
    rw [show (w11.alloc (.cells #[.bool false] 4)) = w12 from hwb, hEb]
  have HB12 := Lib.hid (HB11.out.new fb)
  have HK12 := Lib.hid (HK11.out.trans (Kp.of fb))
  have HM12 := Lib.hid (HM11.out.keep fb (by simp))
  have HT12 := Lib.hid (HT11.out.keep fb (by simp))
  have HC12 := Lib.hid (HC11.out.keep fb (by simp))
  have HEB := Lib.hid hbb
  clear hwb hEb hbb fb
  refine hK.out _ _ (HC12.out.at 13 _ rfl) (fun hHeld => ?_)
  clear hK K
  try simp only [Act.put, List.getElem_toArray, List.getElem_cons_succ, List.getElem_cons_zero, List.setIfInBounds_toArray, List.set_cons_zero, List.set_cons_succ]
  refine wpAnyH_ready (rs := [6]) (by kernel_rfl) (by simp) ?_
  refine AllReadyH.cons (o := _) rfl (fun K hK => ?_) AllReadyH.nil
  go_simp
  refine (truth_no Eb _ HB12.out (by (try simp only [List.length_append, List.length_map, List.length_cons, List.length_nil]); omega) HEB.out).mono ?_
  rintro e w13 ⟨rfl, ⟨s13, hb_⟩, k_⟩
  have HB13 := Lib.hid hb_
  have HK13 := Lib.hid (HK12.out.trans k_)
  have HM13 := Lib.hid (HM12.out.kp k_ (HB12.out.ne HM12.out (by decide)) (by decide))
  have HT13 := Lib.hid (HT12.out.kp k_ (HB12.out.ne HT12.out (by decide)) (by decide))
  have HC13 := Lib.hid (HC12.out.kp k_ (HB12.out.ne HC12.out (by decide)) (by decide))
  clear hb_ k_
  refine hK.out _ _ (HC13.out.at 13 _ rfl) (fun hHeld => ?_)
  clear hK K
  try simp only [Act.put, List.getElem_toArray, List.getElem_cons_succ, List.getElem_cons_zero, List.setIfInBounds_toArray, List.set_cons_zero, List.set_cons_succ]
  refine wpAnyH_done (by kernel_rfl) ?_ _
  clear hHeld HWD HEB
  clear HB10 HK10 HM10 HT10 HC10 HB11 HK11 HM11 HT11 HC11 HB12 HK12 HM12 HT12 HC12
  obtain ⟨w14, hwd⟩ : ∃ z, w13.drew = z := ⟨_, rfl⟩
  have fd : Fr [] w13 w14 := by rw [← hwd]; exact (Fr.refl [] w13).drew
  have HB14 := Lib.hid (HB13.out.new fd)
  have HK14 := Lib.hid (HK13.out.trans (Kp.of fd))
  have HM14 := Lib.hid (HM13.out.keep fd (by simp))
  have HT14 := Lib.hid (HT13.out.keep fd (by simp))
  have HC14 := Lib.hid (HC13.out.keep fd (by simp))
  have HWD := Lib.hid hwd
  clear fd hwd
  go_upto_region 9 with fail
  refine wp_region_held_drew (S := fun W => W.cell? ⟨C, 14, none⟩ = some (.int .i64 0)) (by kernel_rfl) (by rw [HWD.out]; exact HC14.out.at 14 _ rfl) (fun hHeld => ?_)
  rw [HWD.out] at hHeld ⊢
  refine wpAnyH_take (i := 0) (oi := _) (v := ?_) rfl (by kernel_rfl) (by kernel_rfl) (by kernel_rfl) (fun _ _ _ h => h) (Or.inl ⟨by rfl, ?_⟩) (by first | assumption | trivial) ?_
  rotate_left
  · intro w hSw
    try dsimp only at hSw
    go_simp
    try with_reducible rfl
  try simp only [Act.put, List.getElem_toArray, List.getElem_cons_succ, List.getElem_cons_zero, List.setIfInBounds_toArray, List.set_cons_zero, List.set_cons_succ]
  refine wpAnyH_take (i := 1) (oi := _) (v := ?_) rfl (by kernel_rfl) (by kernel_rfl) (by kernel_rfl) (fun _ _ _ h => h) (Or.inl ⟨by rfl, ?_⟩) (by first | assumption | trivial) ?_
  rotate_left
  · intro w hSw
    try dsimp only at hSw
    go_simp
    try with_reducible rfl
  try simp only [Act.put, List.getElem_toArray, List.getElem_cons_succ, List.getElem_cons_zero, List.setIfInBounds_toArray, List.set_cons_zero, List.set_cons_succ]
  refine wpAnyH_take (i := 2) (oi := _) (v := ?_) rfl (by kernel_rfl) (by kernel_rfl) (by kernel_rfl) (fun _ _ _ h => h) (Or.inl ⟨by rfl, ?_⟩) (by first | assumption | trivial) ?_
  rotate_left
  · intro w hSw
    try dsimp only at hSw
    go_simp
    try with_reducible rfl
  try simp only [Act.put, List.getElem_toArray, List.getElem_cons_succ, List.getElem_cons_zero, List.setIfInBounds_toArray, List.set_cons_zero, List.set_cons_succ]
  refine wpAnyH_take (i := 3) (oi := _) (v := ?_) rfl (by kernel_rfl) (by kernel_rfl) (by kernel_rfl) (fun _ _ _ h => h) (Or.inl ⟨by rfl, ?_⟩) (by first | assumption | trivial) ?_
  rotate_left
  · intro w hSw
    try dsimp only at hSw
    go_simp
    try with_reducible rfl
  try simp only [Act.put, List.getElem_toArray, List.getElem_cons_succ, List.getElem_cons_zero, List.setIfInBounds_toArray, List.set_cons_zero, List.set_cons_succ]
  refine wpAnyH_take (i := 4) (oi := _) (v := ?_) rfl (by kernel_rfl) (by kernel_rfl) (by kernel_rfl) (fun _ _ _ h => h) (Or.inl ⟨by rfl, ?_⟩) (by first | assumption | trivial) ?_
  rotate_left
  · intro w hSw
    try dsimp only at hSw
    go_simp
    try with_reducible rfl
  try simp only [Act.put, List.getElem_toArray, List.getElem_cons_succ, List.getElem_cons_zero, List.setIfInBounds_toArray, List.set_cons_zero, List.set_cons_succ]
  refine wpAnyH_ready (rs := [5]) (by kernel_rfl) (by simp) ?_
  refine AllReadyH.cons (o := _) rfl (fun K hK => ?_) AllReadyH.nil
  obtain ⟨w15, hwb⟩ : ∃ zz, w14.alloc (.cells ([.int .i64 0] : List Value).toArray 3) = zz := ⟨_, rfl⟩
  obtain ⟨Eb, hEb⟩ : ∃ z, w14.heap.size = z := ⟨_, rfl⟩
  have hbb : Blk w15 Eb 3 [.int .i64 0] := by rw [← hwb, ← hEb]; exact Blk.made w14 3 _
  have fb : Fr [] w14 w15 := by rw [← hwb]; exact (Fr.refl [] w14).alloc _
  split
  rotate_left
  · rename_i hno
    exact absurd rfl hno
  refine wp_vl (v := .slice (some ⟨Eb, 0, none⟩) 1 1) (w' := w15) ?_ ?_
  · refine exec_bsl (V := .int .i64 0) rfl rfl ?_
    rw [bslI1]
    rw [show (w14.alloc (.cells #[.int .i64 0] 3)) = w15 from hwb, hEb]
  have HB15 := Lib.hid (HB14.out.new fb)
  have HK15 := Lib.hid (HK14.out.trans (Kp.of fb))
  have HM15 := Lib.hid (HM14.out.keep fb (by simp))
  have HT15 := Lib.hid (HT14.out.keep fb (by simp))
  have HC15 := Lib.hid (HC14.out.keep fb (by simp))
  have HEB := Lib.hid hbb
  clear hwb hEb hbb fb
  refine hK.out _ _ (HC15.out.at 14 _ rfl) (fun hHeld => ?_)
  clear hK K
  try simp only [Act.put, List.getElem_toArray, List.getElem_cons_succ, List.getElem_cons_zero, List.setIfInBounds_toArray, List.set_cons_zero, List.set_cons_succ]
  refine wpAnyH_ready (rs := [6]) (by kernel_rfl) (by simp) ?_
  refine AllReadyH.cons (o := _) rfl (fun K hK => ?_) AllReadyH.nil
  go_simp
  refine (ints_any _ [0] _ HB15.out (by (try simp only [List.length_append, List.length_map, List.length_cons, List.length_nil]); omega) (by simp) (.inr ⟨Eb, 1, rfl, rfl, HEB.out, HB15.out.ne HEB.out (by decide)⟩)).mono ?_
  rintro e w16 ⟨rfl, ⟨s16, hb_⟩, k_⟩
  have HB16 := Lib.hid hb_
  have HK16 := Lib.hid (HK15.out.trans k_)
  have HM16 := Lib.hid (HM15.out.kp k_ (HB15.out.ne HM15.out (by decide)) (by decide))
  have HT16 := Lib.hid (HT15.out.kp k_ (HB15.out.ne HT15.out (by decide)) (by decide))
  have HC16 := Lib.hid (HC15.out.kp k_ (HB15.out.ne HC15.out (by decide)) (by decide))
  clear hb_ k_
  refine hK.out _ _ (HC16.out.at 14 _ rfl) (fun hHeld => ?_)
  clear hK K
  try simp only [Act.put, List.getElem_toArray, List.getElem_cons_succ, List.getElem_cons_zero, List.setIfInBounds_toArray, List.set_cons_zero, List.set_cons_succ]
  refine wpAnyH_done (by kernel_rfl) ?_ _
  clear hHeld HWD HEB
  clear HB13 HK13 HM13 HT13 HC13 HB14 HK14 HM14 HT14 HC14 HB15 HK15 HM15 HT15 HC15
  obtain ⟨w17, hwd⟩ : ∃ z, w16.drew = z := ⟨_, rfl⟩
  have fd : Fr [] w16 w17 := by rw [← hwd]; exact (Fr.refl [] w16).drew
  have HB17 := Lib.hid (HB16.out.new fd)
  have HK17 := Lib.hid (HK16.out.trans (Kp.of fd))
  have HM17 := Lib.hid (HM16.out.keep fd (by simp))
  have HT17 := Lib.hid (HT16.out.keep fd (by simp))
  have HC17 := Lib.hid (HC16.out.keep fd (by simp))
  have HWD := Lib.hid hwd
  clear fd hwd
  go_upto_region 10 with fail
  refine wp_region_held_drew (S := fun W => W.cell? ⟨C, 15, none⟩ = some (.slice none 0 0)) (by kernel_rfl) (by rw [HWD.out]; exact HC17.out.at 15 _ rfl) (fun hHeld => ?_)
  rw [HWD.out] at hHeld ⊢
  refine wpAnyH_take (i := 0) (oi := _) (v := ?_) rfl (by kernel_rfl) (by kernel_rfl) (by kernel_rfl) (fun _ _ _ h => h) (Or.inl ⟨by rfl, ?_⟩) (by first | assumption | trivial) ?_
  rotate_left
  · intro w hSw
    try dsimp only at hSw
    go_simp
    try with_reducible rfl
  try simp only [Act.put, List.getElem_toArray, List.getElem_cons_succ, List.getElem_cons_zero, List.setIfInBounds_toArray, List.set_cons_zero, List.set_cons_succ]
  refine wpAnyH_take (i := 1) (oi := _) (v := ?_) rfl (by kernel_rfl) (by kernel_rfl) (by kernel_rfl) (fun _ _ _ h => h) (Or.inl ⟨by rfl, ?_⟩) (by first | assumption | trivial) ?_
  rotate_left
  · intro w hSw
    try dsimp only at hSw
    go_simp
    try with_reducible rfl
  try simp only [Act.put, List.getElem_toArray, List.getElem_cons_succ, List.getElem_cons_zero, List.setIfInBounds_toArray, List.set_cons_zero, List.set_cons_succ]
  refine wpAnyH_take (i := 2) (oi := _) (v := ?_) rfl (by kernel_rfl) (by kernel_rfl) (by kernel_rfl) (fun _ _ _ h => h) (Or.inl ⟨by rfl, ?_⟩) (by first | assumption | trivial) ?_
  rotate_left
  · intro w hSw
    try dsimp only at hSw
    go_simp
    try with_reducible rfl
  try simp only [Act.put, List.getElem_toArray, List.getElem_cons_succ, List.getElem_cons_zero, List.setIfInBounds_toArray, List.set_cons_zero, List.set_cons_succ]
  refine wpAnyH_take (i := 3) (oi := _) (v := ?_) rfl (by kernel_rfl) (by kernel_rfl) (by kernel_rfl) (fun _ _ _ h => h) (Or.inl ⟨by rfl, ?_⟩) (by first | assumption | trivial) ?_
  rotate_left
  · intro w hSw
    try dsimp only at hSw
    go_simp
    try with_reducible rfl
  try simp only [Act.put, List.getElem_toArray, List.getElem_cons_succ, List.getElem_cons_zero, List.setIfInBounds_toArray, List.set_cons_zero, List.set_cons_succ]
  refine wpAnyH_take (i := 4) (oi := _) (v := ?_) rfl (by kernel_rfl) (by kernel_rfl) (by kernel_rfl) (fun _ _ _ h => h) (Or.inl ⟨by rfl, ?_⟩) (by first | assumption | trivial) ?_
  rotate_left
  · intro w hSw
    try dsimp only at hSw
    go_simp
    try with_reducible rfl
  try simp only [Act.put, List.getElem_toArray, List.getElem_cons_succ, List.getElem_cons_zero, List.setIfInBounds_toArray, List.set_cons_zero, List.set_cons_succ]
  refine wpAnyH_ready (rs := [5]) (by kernel_rfl) (by simp) ?_
  refine AllReadyH.cons (o := _) rfl (fun K hK => ?_) AllReadyH.nil
  go_simp
  refine (text_no _ _ _ HB17.out (by (try simp only [List.length_append, List.length_map, List.length_cons, List.length_nil]); omega)).mono ?_
  rintro e w18 ⟨rfl, ⟨s18, hb_⟩, k_⟩
  have HB18 := Lib.hid hb_
  have HK18 := Lib.hid (HK17.out.trans k_)
  have HM18 := Lib.hid (HM17.out.kp k_ (HB17.out.ne HM17.out (by decide)) (by decide))
  have HT18 := Lib.hid (HT17.out.kp k_ (HB17.out.ne HT17.out (by decide)) (by decide))
  have HC18 := Lib.hid (HC17.out.kp k_ (HB17.out.ne HC17.out (by decide)) (by decide))
  clear hb_ k_
  refine hK.out _ _ (HC18.out.at 15 _ rfl) (fun hHeld => ?_)
  clear hK K
  try simp only [Act.put, List.getElem_toArray, List.getElem_cons_succ, List.getElem_cons_zero, List.setIfInBounds_toArray, List.set_cons_zero, List.set_cons_succ]
  refine wpAnyH_done (by kernel_rfl) ?_ _
  clear hHeld HWD
  clear HB16 HK16 HM16 HT16 HC16 HB17 HK17 HM17 HT17 HC17
  obtain ⟨w19, hwd⟩ : ∃ z, w18.drew = z := ⟨_, rfl⟩
  have fd : Fr [] w18 w19 := by rw [← hwd]; exact (Fr.refl [] w18).drew
  have HB19 := Lib.hid (HB18.out.new fd)
  have HK19 := Lib.hid (HK18.out.trans (Kp.of fd))
  have HM19 := Lib.hid (HM18.out.keep fd (by simp))
  have HT19 := Lib.hid (HT18.out.keep fd (by simp))
  have HC19 := Lib.hid (HC18.out.keep fd (by simp))
  have HWD := Lib.hid hwd
  clear fd hwd
  go_upto_region 11 with fail
  refine wp_region_held_drew (S := fun W => W.cell? ⟨C, 16, none⟩ = some (.int .i64 0) ∧ W.cell? ⟨C, 17, none⟩ = some (.int .i64 (-1)) ∧ W.cell? ⟨C, 18, none⟩ = some (.int .i64 0) ∧ W.cell? ⟨C, 19, none⟩ = some (.int .i64 0)) (by kernel_rfl) (by rw [HWD.out]; exact ⟨HC19.out.at 16 _ rfl, HC19.out.at 17 _ rfl, HC19.out.at 18 _ rfl, HC19.out.at 19 _ rfl⟩) (fun hHeld => ?_)
  rw [HWD.out] at hHeld ⊢
  refine wpAnyH_take (i := 0) (oi := _) (v := ?_) rfl (by kernel_rfl) (by kernel_rfl) (by kernel_rfl) (fun _ _ _ h => h) (Or.inl ⟨by rfl, ?_⟩) (by first | assumption | trivial) ?_
  rotate_left
  · intro w hSw
    try dsimp only at hSw
    go_simp
    try with_reducible rfl
  try simp only [Act.put, List.getElem_toArray, List.getElem_cons_succ, List.getElem_cons_zero, List.setIfInBounds_toArray, List.set_cons_zero, List.set_cons_succ]
  refine wpAnyH_take (i := 1) (oi := _) (v := ?_) rfl (by kernel_rfl) (by kernel_rfl) (by kernel_rfl) (fun _ _ _ h => h) (Or.inl ⟨by rfl, ?_⟩) (by first | assumption | trivial) ?_
  rotate_left
  · intro w hSw
    try dsimp only at hSw
    go_simp
    try with_reducible rfl
  try simp only [Act.put, List.getElem_toArray, List.getElem_cons_succ, List.getElem_cons_zero, List.setIfInBounds_toArray, List.set_cons_zero, List.set_cons_succ]
  refine wpAnyH_take (i := 2) (oi := _) (v := ?_) rfl (by kernel_rfl) (by kernel_rfl) (by kernel_rfl) (fun _ _ _ h => h) (Or.inl ⟨by rfl, ?_⟩) (by first | assumption | trivial) ?_
  rotate_left
  · intro w hSw
    try dsimp only at hSw
    go_simp
    try with_reducible rfl
  try simp only [Act.put, List.getElem_toArray, List.getElem_cons_succ, List.getElem_cons_zero, List.setIfInBounds_toArray, List.set_cons_zero, List.set_cons_succ]
  refine wpAnyH_take (i := 3) (oi := _) (v := ?_) rfl (by kernel_rfl) (by kernel_rfl) (by kernel_rfl) (fun _ _ _ h => h) (Or.inl ⟨by rfl, ?_⟩) (by first | assumption | trivial) ?_
  rotate_left
  · intro w hSw
    try dsimp only at hSw
    go_simp
    try with_reducible rfl
  try simp only [Act.put, List.getElem_toArray, List.getElem_cons_succ, List.getElem_cons_zero, List.setIfInBounds_toArray, List.set_cons_zero, List.set_cons_succ]
  refine wpAnyH_take (i := 4) (oi := _) (v := ?_) rfl (by kernel_rfl) (by kernel_rfl) (by kernel_rfl) (fun _ _ _ h => h) (Or.inl ⟨by rfl, ?_⟩) (by first | assumption | trivial) ?_
  rotate_left
  · intro w hSw
    try dsimp only at hSw
    go_simp
    try with_reducible rfl
  try simp only [Act.put, List.getElem_toArray, List.getElem_cons_succ, List.getElem_cons_zero, List.setIfInBounds_toArray, List.set_cons_zero, List.set_cons_succ]
  refine wpAnyH_take (i := 5) (oi := _) (v := ?_) rfl (by kernel_rfl) (by kernel_rfl) (by kernel_rfl) (fun _ _ _ h => h) (Or.inl ⟨by rfl, ?_⟩) (by first | assumption | trivial) ?_
  rotate_left
  · intro w hSw
    try dsimp only at hSw
    go_simp
    try with_reducible rfl
  try simp only [Act.put, List.getElem_toArray, List.getElem_cons_succ, List.getElem_cons_zero, List.setIfInBounds_toArray, List.set_cons_zero, List.set_cons_succ]
  refine wpAnyH_take (i := 6) (oi := _) (v := ?_) rfl (by kernel_rfl) (by kernel_rfl) (by kernel_rfl) (fun _ _ _ h => h) (Or.inl ⟨by rfl, ?_⟩) (by first | assumption | trivial) ?_
  rotate_left
  · intro w hSw
    try dsimp only at hSw
    go_simp
    try with_reducible rfl
  try simp only [Act.put, List.getElem_toArray, List.getElem_cons_succ, List.getElem_cons_zero, List.setIfInBounds_toArray, List.set_cons_zero, List.set_cons_succ]
  refine wpAnyH_take (i := 7) (oi := _) (v := ?_) rfl (by kernel_rfl) (by kernel_rfl) (by kernel_rfl) (fun _ _ _ h => h) (Or.inl ⟨by rfl, ?_⟩) (by first | assumption | trivial) ?_
  rotate_left
  · intro w hSw
    try dsimp only at hSw
    go_simp
    try with_reducible rfl
  try simp only [Act.put, List.getElem_toArray, List.getElem_cons_succ, List.getElem_cons_zero, List.setIfInBounds_toArray, List.set_cons_zero, List.set_cons_succ]
  refine wpAnyH_take (i := 8) (oi := _) (v := ?_) rfl (by kernel_rfl) (by kernel_rfl) (by kernel_rfl) (fun _ _ _ h => h) (Or.inl ⟨by rfl, ?_⟩) (by first | assumption | trivial) ?_
  rotate_left
  · intro w hSw
    try dsimp only at hSw
    go_simp
    try with_reducible rfl
  try simp only [Act.put, List.getElem_toArray, List.getElem_cons_succ, List.getElem_cons_zero, List.setIfInBounds_toArray, List.set_cons_zero, List.set_cons_succ]
  refine wpAnyH_take (i := 9) (oi := _) (v := ?_) rfl (by kernel_rfl) (by kernel_rfl) (by kernel_rfl) (fun _ _ _ h => h) (Or.inl ⟨by rfl, ?_⟩) (by first | assumption | trivial) ?_
  rotate_left
  · intro w hSw
    try dsimp only at hSw
    go_simp
    try with_reducible rfl
  try simp only [Act.put, List.getElem_toArray, List.getElem_cons_succ, List.getElem_cons_zero, List.setIfInBounds_toArray, List.set_cons_zero, List.set_cons_succ]
  refine wpAnyH_take (i := 10) (oi := _) (v := ?_) rfl (by kernel_rfl) (by kernel_rfl) (by kernel_rfl) (fun _ _ _ h => h) (Or.inl ⟨by rfl, ?_⟩) (by first | assumption | trivial) ?_
  rotate_left
  · intro w hSw
    try dsimp only at hSw
    go_simp
    try with_reducible rfl
  try simp only [Act.put, List.getElem_toArray, List.getElem_cons_succ, List.getElem_cons_zero, List.setIfInBounds_toArray, List.set_cons_zero, List.set_cons_succ]
  refine wpAnyH_take (i := 11) (oi := _) (v := ?_) rfl (by kernel_rfl) (by kernel_rfl) (by kernel_rfl) (fun _ _ _ h => h) (Or.inl ⟨by rfl, ?_⟩) (by first | assumption | trivial) ?_
  rotate_left
  · intro w hSw
    try dsimp only at hSw
    go_simp
    try with_reducible rfl
  try simp only [Act.put, List.getElem_toArray, List.getElem_cons_succ, List.getElem_cons_zero, List.setIfInBounds_toArray, List.set_cons_zero, List.set_cons_succ]
  refine wpAnyH_take (i := 12) (oi := _) (v := ?_) rfl (by kernel_rfl) (by kernel_rfl) (by kernel_rfl) (fun _ _ _ h => h) (Or.inl ⟨by rfl, ?_⟩) (by first | assumption | trivial) ?_
  rotate_left
  · intro w hSw
    try dsimp only at hSw
    go_simp
    try with_reducible rfl
  try simp only [Act.put, List.getElem_toArray, List.getElem_cons_succ, List.getElem_cons_zero, List.setIfInBounds_toArray, List.set_cons_zero, List.set_cons_succ]
  refine wpAnyH_ready (rs := [13]) (by kernel_rfl) (by simp) ?_
  refine AllReadyH.cons (o := _) rfl (fun K hK => ?_) AllReadyH.nil
  obtain ⟨w20, hwb⟩ : ∃ zz, w19.alloc (.cells ([.int .i64 0, .int .i64 (-1), .int .i64 0, .int .i64 0] : List Value).toArray 3) = zz := ⟨_, rfl⟩
  obtain ⟨Eb, hEb⟩ : ∃ z, w19.heap.size = z := ⟨_, rfl⟩
  have hbb : Blk w20 Eb 3 [.int .i64 0, .int .i64 (-1), .int .i64 0, .int .i64 0] := by rw [← hwb, ← hEb]; exact Blk.made w19 3 _
  have fb : Fr [] w19 w20 := by rw [← hwb]; exact (Fr.refl [] w19).alloc _
  split
  rotate_left
  · rename_i hno
    exact absurd rfl hno
  refine wp_vl (v := .slice (some ⟨Eb, 0, none⟩) 4 4) (w' := w20) ?_ ?_
  · refine exec_bsl4 (V0 := .int .i64 0) (V1 := .int .i64 (-1)) (V2 := .int .i64 0) (V3 := .int .i64 0) rfl rfl rfl rfl rfl ?_
    rw [bslI4]
    rw [show (w19.alloc (.cells #[.int .i64 0, .int .i64 (-1), .int .i64 0, .int .i64 0] 3)) = w20 from hwb, hEb]
  have HB20 := Lib.hid (HB19.out.new fb)
  have HK20 := Lib.hid (HK19.out.trans (Kp.of fb))
  have HM20 := Lib.hid (HM19.out.keep fb (by simp))
  have HT20 := Lib.hid (HT19.out.keep fb (by simp))
  have HC20 := Lib.hid (HC19.out.keep fb (by simp))
  have HEB := Lib.hid hbb
  clear hwb hEb hbb fb
  refine hK.out _ _ (⟨HC20.out.at 16 _ rfl, HC20.out.at 17 _ rfl, HC20.out.at 18 _ rfl, HC20.out.at 19 _ rfl⟩) (fun hHeld => ?_)
  clear hK K
  try simp only [Act.put, List.getElem_toArray, List.getElem_cons_succ, List.getElem_cons_zero, List.setIfInBounds_toArray, List.set_cons_zero, List.set_cons_succ]
  refine wpAnyH_ready (rs := [14]) (by kernel_rfl) (by simp) ?_
  refine AllReadyH.cons (o := _) rfl (fun K hK => ?_) AllReadyH.nil
  go_simp
  refine (ints_any _ [0, -1, 0, 0] _ HB20.out (by (try simp only [List.length_append, List.length_map, List.length_cons, List.length_nil]); omega) (by simp) (.inr ⟨Eb, 4, rfl, rfl, HEB.out, HB20.out.ne HEB.out (by decide)⟩)).mono ?_
  rintro e w21 ⟨rfl, ⟨s21, hb_⟩, k_⟩
  have HB21 := Lib.hid hb_
  have HK21 := Lib.hid (HK20.out.trans k_)
  have HM21 := Lib.hid (HM20.out.kp k_ (HB20.out.ne HM20.out (by decide)) (by decide))
  have HT21 := Lib.hid (HT20.out.kp k_ (HB20.out.ne HT20.out (by decide)) (by decide))
  have HC21 := Lib.hid (HC20.out.kp k_ (HB20.out.ne HC20.out (by decide)) (by decide))
  clear hb_ k_
  refine hK.out _ _ (⟨HC21.out.at 16 _ rfl, HC21.out.at 17 _ rfl, HC21.out.at 18 _ rfl, HC21.out.at 19 _ rfl⟩) (fun hHeld => ?_)
  clear hK K
  try simp only [Act.put, List.getElem_toArray, List.getElem_cons_succ, List.getElem_cons_zero, List.setIfInBounds_toArray, List.set_cons_zero, List.set_cons_succ]
  refine wpAnyH_done (by kernel_rfl) ?_ _
  clear hHeld HWD HEB
  clear HB18 HK18 HM18 HT18 HC18 HB19 HK19 HM19 HT19 HC19 HB20 HK20 HM20 HT20 HC20
  go_wp2
  rw [rounds_succ]
  go_upto_region 13 with fail
  clear HC21 HT21
  obtain ⟨w22, hwd⟩ : ∃ z, w21.drew = z := ⟨_, rfl⟩
  have fd : Fr [] w21 w22 := by rw [← hwd]; exact (Fr.refl [] w21).drew
  have HB22 := Lib.hid (HB21.out.new fd)
  have HK22 := Lib.hid (HK21.out.trans (Kp.of fd))
  have HM22 := Lib.hid (HM21.out.keep fd (by simp))
  have HWD := Lib.hid hwd
  clear fd hwd
  go_upto_region 13 with fail
  refine wp_region_held_drew (S := fun W => W.cell? ⟨M, 2, none⟩ = some (.slice none 0 0)) (by kernel_rfl) (by rw [HWD.out]; exact HM22.out.at 2 _ rfl) (fun hHeld => ?_)
  rw [HWD.out] at hHeld ⊢
  refine wpAnyH_take (i := 0) (oi := _) (v := ?_) rfl (by kernel_rfl) (by kernel_rfl) (by kernel_rfl) (fun _ _ _ h => h) (Or.inl ⟨by rfl, ?_⟩) (by first | assumption | trivial) ?_
  rotate_left
  · intro w hSw
    try dsimp only at hSw
    go_simp
    try with_reducible rfl
  try simp only [Act.put, List.getElem_toArray, List.getElem_cons_succ, List.getElem_cons_zero, List.setIfInBounds_toArray, List.set_cons_zero, List.set_cons_succ]
  refine wpAnyH_take (i := 1) (oi := _) (v := ?_) rfl (by kernel_rfl) (by kernel_rfl) (by kernel_rfl) (fun _ _ _ h => h) (Or.inl ⟨by rfl, ?_⟩) (by first | assumption | trivial) ?_
  rotate_left
  · intro w hSw
    try dsimp only at hSw
    go_simp
    try with_reducible rfl
  try simp only [Act.put, List.getElem_toArray, List.getElem_cons_succ, List.getElem_cons_zero, List.setIfInBounds_toArray, List.set_cons_zero, List.set_cons_succ]
  refine wpAnyH_take (i := 2) (oi := _) (v := ?_) rfl (by kernel_rfl) (by kernel_rfl) (by kernel_rfl) (fun _ _ _ h => h) (Or.inl ⟨by rfl, ?_⟩) (by first | assumption | trivial) ?_
  rotate_left
  · intro w hSw
    try dsimp only at hSw
    go_simp
    try with_reducible rfl
  try simp only [Act.put, List.getElem_toArray, List.getElem_cons_succ, List.getElem_cons_zero, List.setIfInBounds_toArray, List.set_cons_zero, List.set_cons_succ]
  refine wpAnyH_take (i := 3) (oi := _) (v := ?_) rfl (by kernel_rfl) (by kernel_rfl) (by kernel_rfl) (fun _ _ _ h => h) (Or.inl ⟨by rfl, ?_⟩) (by first | assumption | trivial) ?_
  rotate_left
  · intro w hSw
    try dsimp only at hSw
    go_simp
    try with_reducible rfl
  try simp only [Act.put, List.getElem_toArray, List.getElem_cons_succ, List.getElem_cons_zero, List.setIfInBounds_toArray, List.set_cons_zero, List.set_cons_succ]
  refine wpAnyH_take (i := 4) (oi := _) (v := ?_) rfl (by kernel_rfl) (by kernel_rfl) (by kernel_rfl) (fun _ _ _ h => h) (Or.inl ⟨by rfl, ?_⟩) (by first | assumption | trivial) ?_
  rotate_left
  · intro w hSw
    try dsimp only at hSw
    go_simp
    try with_reducible rfl
  try simp only [Act.put, List.getElem_toArray, List.getElem_cons_succ, List.getElem_cons_zero, List.setIfInBounds_toArray, List.set_cons_zero, List.set_cons_succ]
  refine wpAnyH_ready (rs := [5]) (by kernel_rfl) (by simp) ?_
  refine AllReadyH.cons (o := _) rfl (fun K hK => ?_) AllReadyH.nil
  go_simp
  refine (list_no _ HB22.out (by (try simp only [List.length_append, List.length_map, List.length_cons, List.length_nil]); omega)).mono ?_
  rintro e w23 ⟨rfl, ⟨s23, hb_⟩, k_⟩
  have HB23 := Lib.hid hb_
  have HK23 := Lib.hid (HK22.out.trans k_)
  have HM23 := Lib.hid (HM22.out.kp k_ (HB22.out.ne HM22.out (by decide)) (by decide))
  clear hb_ k_
  refine hK.out _ _ (HM23.out.at 2 _ rfl) (fun hHeld => ?_)
  clear hK K
  try simp only [Act.put, List.getElem_toArray, List.getElem_cons_succ, List.getElem_cons_zero, List.setIfInBounds_toArray, List.set_cons_zero, List.set_cons_succ]
  refine wpAnyH_done (by kernel_rfl) ?_ _
  clear hHeld HWD
  clear HB21 HK21 HM21 HB22 HK22 HM22
  obtain ⟨w24, hwd⟩ : ∃ z, w23.drew = z := ⟨_, rfl⟩
  have fd : Fr [] w23 w24 := by rw [← hwd]; exact (Fr.refl [] w23).drew
  have HB24 := Lib.hid (HB23.out.new fd)
  have HK24 := Lib.hid (HK23.out.trans (Kp.of fd))
  have HM24 := Lib.hid (HM23.out.keep fd (by simp))
  have HWD := Lib.hid hwd
  clear fd hwd
  go_upto_region 14 with fail
  refine wp_region_held_drew (S := fun W => W.cell? ⟨M, 3, none⟩ = some (.slice none 0 0)) (by kernel_rfl) (by rw [HWD.out]; exact HM24.out.at 3 _ rfl) (fun hHeld => ?_)
  rw [HWD.out] at hHeld ⊢
  refine wpAnyH_take (i := 0) (oi := _) (v := ?_) rfl (by kernel_rfl) (by kernel_rfl) (by kernel_rfl) (fun _ _ _ h => h) (Or.inl ⟨by rfl, ?_⟩) (by first | assumption | trivial) ?_
  rotate_left
  · intro w hSw
    try dsimp only at hSw
    go_simp
    try with_reducible rfl
  try simp only [Act.put, List.getElem_toArray, List.getElem_cons_succ, List.getElem_cons_zero, List.setIfInBounds_toArray, List.set_cons_zero, List.set_cons_succ]
  refine wpAnyH_take (i := 1) (oi := _) (v := ?_) rfl (by kernel_rfl) (by kernel_rfl) (by kernel_rfl) (fun _ _ _ h => h) (Or.inl ⟨by rfl, ?_⟩) (by first | assumption | trivial) ?_
  rotate_left
  · intro w hSw
    try dsimp only at hSw
    go_simp
    try with_reducible rfl
  try simp only [Act.put, List.getElem_toArray, List.getElem_cons_succ, List.getElem_cons_zero, List.setIfInBounds_toArray, List.set_cons_zero, List.set_cons_succ]
  refine wpAnyH_take (i := 2) (oi := _) (v := ?_) rfl (by kernel_rfl) (by kernel_rfl) (by kernel_rfl) (fun _ _ _ h => h) (Or.inl ⟨by rfl, ?_⟩) (by first | assumption | trivial) ?_
  rotate_left
  · intro w hSw
    try dsimp only at hSw
    go_simp
    try with_reducible rfl
  try simp only [Act.put, List.getElem_toArray, List.getElem_cons_succ, List.getElem_cons_zero, List.setIfInBounds_toArray, List.set_cons_zero, List.set_cons_succ]
  refine wpAnyH_take (i := 3) (oi := _) (v := ?_) rfl (by kernel_rfl) (by kernel_rfl) (by kernel_rfl) (fun _ _ _ h => h) (Or.inl ⟨by rfl, ?_⟩) (by first | assumption | trivial) ?_
  rotate_left
  · intro w hSw
    try dsimp only at hSw
    go_simp
    try with_reducible rfl
  try simp only [Act.put, List.getElem_toArray, List.getElem_cons_succ, List.getElem_cons_zero, List.setIfInBounds_toArray, List.set_cons_zero, List.set_cons_succ]
  refine wpAnyH_take (i := 4) (oi := _) (v := ?_) rfl (by kernel_rfl) (by kernel_rfl) (by kernel_rfl) (fun _ _ _ h => h) (Or.inl ⟨by rfl, ?_⟩) (by first | assumption | trivial) ?_
  rotate_left
  · intro w hSw
    try dsimp only at hSw
    go_simp
    try with_reducible rfl
  try simp only [Act.put, List.getElem_toArray, List.getElem_cons_succ, List.getElem_cons_zero, List.setIfInBounds_toArray, List.set_cons_zero, List.set_cons_succ]
  refine wpAnyH_ready (rs := [5]) (by kernel_rfl) (by simp) ?_
  refine AllReadyH.cons (o := _) rfl (fun K hK => ?_) AllReadyH.nil
  go_simp
  refine (list_no _ HB24.out (by (try simp only [List.length_append, List.length_map, List.length_cons, List.length_nil]); omega)).mono ?_
  rintro e w25 ⟨rfl, ⟨s25, hb_⟩, k_⟩
  have HB25 := Lib.hid hb_
  have HK25 := Lib.hid (HK24.out.trans k_)
  have HM25 := Lib.hid (HM24.out.kp k_ (HB24.out.ne HM24.out (by decide)) (by decide))
  clear hb_ k_
  refine hK.out _ _ (HM25.out.at 3 _ rfl) (fun hHeld => ?_)
  clear hK K
  try simp only [Act.put, List.getElem_toArray, List.getElem_cons_succ, List.getElem_cons_zero, List.setIfInBounds_toArray, List.set_cons_zero, List.set_cons_succ]
  refine wpAnyH_done (by kernel_rfl) ?_ _
  clear hHeld HWD
  clear HB23 HK23 HM23 HB24 HK24 HM24
  obtain ⟨w26, hwd⟩ : ∃ z, w25.drew = z := ⟨_, rfl⟩
  have fd : Fr [] w25 w26 := by rw [← hwd]; exact (Fr.refl [] w25).drew
  have HB26 := Lib.hid (HB25.out.new fd)
  have HK26 := Lib.hid (HK25.out.trans (Kp.of fd))
  have HM26 := Lib.hid (HM25.out.keep fd (by simp))
  have HWD := Lib.hid hwd
  clear fd hwd
  go_upto_region 15 with fail
  refine wp_region_held_drew (S := fun W => W.cell? ⟨M, 4, none⟩ = some (.slice none 0 0)) (by kernel_rfl) (by rw [HWD.out]; exact HM26.out.at 4 _ rfl) (fun hHeld => ?_)
  rw [HWD.out] at hHeld ⊢
  refine wpAnyH_take (i := 0) (oi := _) (v := ?_) rfl (by kernel_rfl) (by kernel_rfl) (by kernel_rfl) (fun _ _ _ h => h) (Or.inl ⟨by rfl, ?_⟩) (by first | assumption | trivial) ?_
  rotate_left
  · intro w hSw
    try dsimp only at hSw
    go_simp
    try with_reducible rfl
  try simp only [Act.put, List.getElem_toArray, List.getElem_cons_succ, List.getElem_cons_zero, List.setIfInBounds_toArray, List.set_cons_zero, List.set_cons_succ]
  refine wpAnyH_take (i := 1) (oi := _) (v := ?_) rfl (by kernel_rfl) (by kernel_rfl) (by kernel_rfl) (fun _ _ _ h => h) (Or.inl ⟨by rfl, ?_⟩) (by first | assumption | trivial) ?_
  rotate_left
  · intro w hSw
    try dsimp only at hSw
    go_simp
    try with_reducible rfl
  try simp only [Act.put, List.getElem_toArray, List.getElem_cons_succ, List.getElem_cons_zero, List.setIfInBounds_toArray, List.set_cons_zero, List.set_cons_succ]
  refine wpAnyH_take (i := 2) (oi := _) (v := ?_) rfl (by kernel_rfl) (by kernel_rfl) (by kernel_rfl) (fun _ _ _ h => h) (Or.inl ⟨by rfl, ?_⟩) (by first | assumption | trivial) ?_
  rotate_left
  · intro w hSw
    try dsimp only at hSw
    go_simp
    try with_reducible rfl
  try simp only [Act.put, List.getElem_toArray, List.getElem_cons_succ, List.getElem_cons_zero, List.setIfInBounds_toArray, List.set_cons_zero, List.set_cons_succ]
  refine wpAnyH_take (i := 3) (oi := _) (v := ?_) rfl (by kernel_rfl) (by kernel_rfl) (by kernel_rfl) (fun _ _ _ h => h) (Or.inl ⟨by rfl, ?_⟩) (by first | assumption | trivial) ?_
  rotate_left
  · intro w hSw
    try dsimp only at hSw
    go_simp
    try with_reducible rfl
  try simp only [Act.put, List.getElem_toArray, List.getElem_cons_succ, List.getElem_cons_zero, List.setIfInBounds_toArray, List.set_cons_zero, List.set_cons_succ]
  refine wpAnyH_take (i := 4) (oi := _) (v := ?_) rfl (by kernel_rfl) (by kernel_rfl) (by kernel_rfl) (fun _ _ _ h => h) (Or.inl ⟨by rfl, ?_⟩) (by first | assumption | trivial) ?_
  rotate_left
  · intro w hSw
    try dsimp only at hSw
    go_simp
    try with_reducible rfl
  try simp only [Act.put, List.getElem_toArray, List.getElem_cons_succ, List.getElem_cons_zero, List.setIfInBounds_toArray, List.set_cons_zero, List.set_cons_succ]
  refine wpAnyH_take (i := 5) (oi := _) (v := ?_) rfl (by kernel_rfl) (by kernel_rfl) (by kernel_rfl) (fun _ _ _ h => h) (Or.inl ⟨by rfl, ?_⟩) (by first | assumption | trivial) ?_
  rotate_left
  · intro w hSw
    try dsimp only at hSw
    go_simp
    try with_reducible rfl
  try simp only [Act.put, List.getElem_toArray, List.getElem_cons_succ, List.getElem_cons_zero, List.setIfInBounds_toArray, List.set_cons_zero, List.set_cons_succ]
  refine wpAnyH_take (i := 6) (oi := _) (v := ?_) rfl (by kernel_rfl) (by kernel_rfl) (by kernel_rfl) (fun _ _ _ h => h) (Or.inl ⟨by rfl, ?_⟩) (by first | assumption | trivial) ?_
  rotate_left
  · intro w hSw
    try dsimp only at hSw
    go_simp
    try with_reducible rfl
  try simp only [Act.put, List.getElem_toArray, List.getElem_cons_succ, List.getElem_cons_zero, List.setIfInBounds_toArray, List.set_cons_zero, List.set_cons_succ]
  refine wpAnyH_ready (rs := [7]) (by kernel_rfl) (by simp) ?_
  refine AllReadyH.cons (o := _) rfl (fun K hK => ?_) AllReadyH.nil
  go_simp
  refine (number_any 0 (by decide) _ HB26.out (by (try simp only [List.length_append, List.length_map, List.length_cons, List.length_nil]); omega)).mono ?_
  rintro e w27 ⟨rfl, ⟨s27, hb_⟩, k_⟩
  have HB27 := Lib.hid hb_
  have HK27 := Lib.hid (HK26.out.trans k_)
  have HM27 := Lib.hid (HM26.out.kp k_ (HB26.out.ne HM26.out (by decide)) (by decide))
  clear hb_ k_
  refine hK.out _ _ (HM27.out.at 4 _ rfl) (fun hHeld => ?_)
  clear hK K
  try simp only [Act.put, List.getElem_toArray, List.getElem_cons_succ, List.getElem_cons_zero, List.setIfInBounds_toArray, List.set_cons_zero, List.set_cons_succ]
  refine wpAnyH_done (by kernel_rfl) ?_ _
  clear hHeld HWD
  clear HB25 HK25 HM25 HB26 HK26 HM26
  have cn : w27.cell? ⟨M, 4, none⟩ = some (.slice none 0 0) := HM27.out.at 4 _ rfl
  go_wp2
  refine wp_loop_rounds 1 ?_
  rw [rounds_succ]
  go_upto_region 23 with fail
  clear cn
  obtain ⟨w28, hwd⟩ : ∃ z, w27.drew = z := ⟨_, rfl⟩
  have fd : Fr [] w27 w28 := by rw [← hwd]; exact (Fr.refl [] w27).drew
  have HB28 := Lib.hid (HB27.out.new fd)
  have HK28 := Lib.hid (HK27.out.trans (Kp.of fd))
  have HM28 := Lib.hid (HM27.out.keep fd (by simp))
  have HWD := Lib.hid hwd
  clear fd hwd
  go_upto_region 23 with fail
  refine wp_region_held_drew (S := fun W => W.cell? ⟨M, 5, none⟩ = some (.slice none 0 0)) (by kernel_rfl) (by rw [HWD.out]; exact HM28.out.at 5 _ rfl) (fun hHeld => ?_)
  rw [HWD.out] at hHeld ⊢
  refine wpAnyH_take (i := 0) (oi := _) (v := ?_) rfl (by kernel_rfl) (by kernel_rfl) (by kernel_rfl) (fun _ _ _ h => h) (Or.inl ⟨by rfl, ?_⟩) (by first | assumption | trivial) ?_
  rotate_left
  · intro w hSw
    try dsimp only at hSw
    go_simp
    try with_reducible rfl
  try simp only [Act.put, List.getElem_toArray, List.getElem_cons_succ, List.getElem_cons_zero, List.setIfInBounds_toArray, List.set_cons_zero, List.set_cons_succ]
  refine wpAnyH_take (i := 1) (oi := _) (v := ?_) rfl (by kernel_rfl) (by kernel_rfl) (by kernel_rfl) (fun _ _ _ h => h) (Or.inl ⟨by rfl, ?_⟩) (by first | assumption | trivial) ?_
  rotate_left
  · intro w hSw
    try dsimp only at hSw
    go_simp
    try with_reducible rfl
  try simp only [Act.put, List.getElem_toArray, List.getElem_cons_succ, List.getElem_cons_zero, List.setIfInBounds_toArray, List.set_cons_zero, List.set_cons_succ]
  refine wpAnyH_take (i := 2) (oi := _) (v := ?_) rfl (by kernel_rfl) (by kernel_rfl) (by kernel_rfl) (fun _ _ _ h => h) (Or.inl ⟨by rfl, ?_⟩) (by first | assumption | trivial) ?_
  rotate_left
  · intro w hSw
    try dsimp only at hSw
    go_simp
    try with_reducible rfl
  try simp only [Act.put, List.getElem_toArray, List.getElem_cons_succ, List.getElem_cons_zero, List.setIfInBounds_toArray, List.set_cons_zero, List.set_cons_succ]
  refine wpAnyH_take (i := 3) (oi := _) (v := ?_) rfl (by kernel_rfl) (by kernel_rfl) (by kernel_rfl) (fun _ _ _ h => h) (Or.inl ⟨by rfl, ?_⟩) (by first | assumption | trivial) ?_
  rotate_left
  · intro w hSw
    try dsimp only at hSw
    go_simp
    try with_reducible rfl
  try simp only [Act.put, List.getElem_toArray, List.getElem_cons_succ, List.getElem_cons_zero, List.setIfInBounds_toArray, List.set_cons_zero, List.set_cons_succ]
  refine wpAnyH_take (i := 4) (oi := _) (v := ?_) rfl (by kernel_rfl) (by kernel_rfl) (by kernel_rfl) (fun _ _ _ h => h) (Or.inl ⟨by rfl, ?_⟩) (by first | assumption | trivial) ?_
  rotate_left
  · intro w hSw
    try dsimp only at hSw
    go_simp
    try with_reducible rfl
  try simp only [Act.put, List.getElem_toArray, List.getElem_cons_succ, List.getElem_cons_zero, List.setIfInBounds_toArray, List.set_cons_zero, List.set_cons_succ]
  refine wpAnyH_take (i := 5) (oi := _) (v := ?_) rfl (by kernel_rfl) (by kernel_rfl) (by kernel_rfl) (fun _ _ _ h => h) (Or.inl ⟨by rfl, ?_⟩) (by first | assumption | trivial) ?_
  rotate_left
  · intro w hSw
    try dsimp only at hSw
    go_simp
    try with_reducible rfl
  try simp only [Act.put, List.getElem_toArray, List.getElem_cons_succ, List.getElem_cons_zero, List.setIfInBounds_toArray, List.set_cons_zero, List.set_cons_succ]
  refine wpAnyH_take (i := 6) (oi := _) (v := ?_) rfl (by kernel_rfl) (by kernel_rfl) (by kernel_rfl) (fun _ _ _ h => h) (Or.inl ⟨by rfl, ?_⟩) (by first | assumption | trivial) ?_
  rotate_left
  · intro w hSw
    try dsimp only at hSw
    go_simp
    try with_reducible rfl
  try simp only [Act.put, List.getElem_toArray, List.getElem_cons_succ, List.getElem_cons_zero, List.setIfInBounds_toArray, List.set_cons_zero, List.set_cons_succ]
  refine wpAnyH_ready (rs := [7]) (by kernel_rfl) (by simp) ?_
  refine AllReadyH.cons (o := _) rfl (fun K hK => ?_) AllReadyH.nil
  go_simp
  refine (number_any 0 (by decide) _ HB28.out (by (try simp only [List.length_append, List.length_map, List.length_cons, List.length_nil]); omega)).mono ?_
  rintro e w29 ⟨rfl, ⟨s29, hb_⟩, k_⟩
  have HB29 := Lib.hid hb_
  have HK29 := Lib.hid (HK28.out.trans k_)
  have HM29 := Lib.hid (HM28.out.kp k_ (HB28.out.ne HM28.out (by decide)) (by decide))
  clear hb_ k_
  refine hK.out _ _ (HM29.out.at 5 _ rfl) (fun hHeld => ?_)
  clear hK K
  try simp only [Act.put, List.getElem_toArray, List.getElem_cons_succ, List.getElem_cons_zero, List.setIfInBounds_toArray, List.set_cons_zero, List.set_cons_succ]
  refine wpAnyH_done (by kernel_rfl) ?_ _
  clear hHeld HWD
  clear HB27 HK27 HM27 HB28 HK28 HM28
  have cn : w29.cell? ⟨M, 5, none⟩ = some (.slice none 0 0) := HM29.out.at 5 _ rfl
  go_wp2
  refine wp_loop_rounds 1 ?_
  rw [rounds_succ]
  go_upto_region 29 with fail
  clear cn
  obtain ⟨w30, hwd⟩ : ∃ z, w29.drew = z := ⟨_, rfl⟩
  have fd : Fr [] w29 w30 := by rw [← hwd]; exact (Fr.refl [] w29).drew
  have HB30 := Lib.hid (HB29.out.new fd)
  have HK30 := Lib.hid (HK29.out.trans (Kp.of fd))
  have HM30 := Lib.hid (HM29.out.keep fd (by simp))
  have HWD := Lib.hid hwd
  clear fd hwd
  go_upto_region 29 with fail
  refine wp_region_held_drew (S := fun W => W.cell? ⟨M, 6, none⟩ = some (.slice none 0 0)) (by kernel_rfl) (by rw [HWD.out]; exact HM30.out.at 6 _ rfl) (fun hHeld => ?_)
  rw [HWD.out] at hHeld ⊢
  refine wpAnyH_take (i := 0) (oi := _) (v := ?_) rfl (by kernel_rfl) (by kernel_rfl) (by kernel_rfl) (fun _ _ _ h => h) (Or.inl ⟨by rfl, ?_⟩) (by first | assumption | trivial) ?_
  rotate_left
  · intro w hSw
    try dsimp only at hSw
    go_simp
    try with_reducible rfl
  try simp only [Act.put, List.getElem_toArray, List.getElem_cons_succ, List.getElem_cons_zero, List.setIfInBounds_toArray, List.set_cons_zero, List.set_cons_succ]
  refine wpAnyH_take (i := 1) (oi := _) (v := ?_) rfl (by kernel_rfl) (by kernel_rfl) (by kernel_rfl) (fun _ _ _ h => h) (Or.inl ⟨by rfl, ?_⟩) (by first | assumption | trivial) ?_
  rotate_left
  · intro w hSw
    try dsimp only at hSw
    go_simp
    try with_reducible rfl
  try simp only [Act.put, List.getElem_toArray, List.getElem_cons_succ, List.getElem_cons_zero, List.setIfInBounds_toArray, List.set_cons_zero, List.set_cons_succ]
  refine wpAnyH_take (i := 2) (oi := _) (v := ?_) rfl (by kernel_rfl) (by kernel_rfl) (by kernel_rfl) (fun _ _ _ h => h) (Or.inl ⟨by rfl, ?_⟩) (by first | assumption | trivial) ?_
  rotate_left
  · intro w hSw
    try dsimp only at hSw
    go_simp
    try with_reducible rfl
  try simp only [Act.put, List.getElem_toArray, List.getElem_cons_succ, List.getElem_cons_zero, List.setIfInBounds_toArray, List.set_cons_zero, List.set_cons_succ]
  refine wpAnyH_take (i := 3) (oi := _) (v := ?_) rfl (by kernel_rfl) (by kernel_rfl) (by kernel_rfl) (fun _ _ _ h => h) (Or.inl ⟨by rfl, ?_⟩) (by first | assumption | trivial) ?_
  rotate_left
  · intro w hSw
    try dsimp only at hSw
    go_simp
    try with_reducible rfl
  try simp only [Act.put, List.getElem_toArray, List.getElem_cons_succ, List.getElem_cons_zero, List.setIfInBounds_toArray, List.set_cons_zero, List.set_cons_succ]
  refine wpAnyH_take (i := 4) (oi := _) (v := ?_) rfl (by kernel_rfl) (by kernel_rfl) (by kernel_rfl) (fun _ _ _ h => h) (Or.inl ⟨by rfl, ?_⟩) (by first | assumption | trivial) ?_
  rotate_left
  · intro w hSw
    try dsimp only at hSw
    go_simp
    try with_reducible rfl
  try simp only [Act.put, List.getElem_toArray, List.getElem_cons_succ, List.getElem_cons_zero, List.setIfInBounds_toArray, List.set_cons_zero, List.set_cons_succ]
  refine wpAnyH_take (i := 5) (oi := _) (v := ?_) rfl (by kernel_rfl) (by kernel_rfl) (by kernel_rfl) (fun _ _ _ h => h) (Or.inl ⟨by rfl, ?_⟩) (by first | assumption | trivial) ?_
  rotate_left
  · intro w hSw
    try dsimp only at hSw
    go_simp
    try with_reducible rfl
  try simp only [Act.put, List.getElem_toArray, List.getElem_cons_succ, List.getElem_cons_zero, List.setIfInBounds_toArray, List.set_cons_zero, List.set_cons_succ]
  refine wpAnyH_take (i := 6) (oi := _) (v := ?_) rfl (by kernel_rfl) (by kernel_rfl) (by kernel_rfl) (fun _ _ _ h => h) (Or.inl ⟨by rfl, ?_⟩) (by first | assumption | trivial) ?_
  rotate_left
  · intro w hSw
    try dsimp only at hSw
    go_simp
    try with_reducible rfl
  try simp only [Act.put, List.getElem_toArray, List.getElem_cons_succ, List.getElem_cons_zero, List.setIfInBounds_toArray, List.set_cons_zero, List.set_cons_succ]
  refine wpAnyH_ready (rs := [7]) (by kernel_rfl) (by simp) ?_
  refine AllReadyH.cons (o := _) rfl (fun K hK => ?_) AllReadyH.nil
  go_simp
  refine (number_any 0 (by decide) _ HB30.out (by (try simp only [List.length_append, List.length_map, List.length_cons, List.length_nil]); omega)).mono ?_
  rintro e w31 ⟨rfl, ⟨s31, hb_⟩, k_⟩
  have HB31 := Lib.hid hb_
  have HK31 := Lib.hid (HK30.out.trans k_)
  have HM31 := Lib.hid (HM30.out.kp k_ (HB30.out.ne HM30.out (by decide)) (by decide))
  clear hb_ k_
  refine hK.out _ _ (HM31.out.at 6 _ rfl) (fun hHeld => ?_)
  clear hK K
  try simp only [Act.put, List.getElem_toArray, List.getElem_cons_succ, List.getElem_cons_zero, List.setIfInBounds_toArray, List.set_cons_zero, List.set_cons_succ]
  refine wpAnyH_done (by kernel_rfl) ?_ _
  clear hHeld HWD
  clear HB29 HK29 HM29 HB30 HK30 HM30
  have cn : w31.cell? ⟨M, 6, none⟩ = some (.slice none 0 0) := HM31.out.at 6 _ rfl
  go_wp2
  refine wp_loop_rounds 1 ?_
  rw [rounds_succ]
  go_upto_region 38 with fail
  clear cn
  obtain ⟨w32, hwd⟩ : ∃ z, w31.drew = z := ⟨_, rfl⟩
  have fd : Fr [] w31 w32 := by rw [← hwd]; exact (Fr.refl [] w31).drew
  have HB32 := Lib.hid (HB31.out.new fd)
  have HK32 := Lib.hid (HK31.out.trans (Kp.of fd))
  have HM32 := Lib.hid (HM31.out.keep fd (by simp))
  have HWD := Lib.hid hwd
  clear fd hwd
  go_upto_region 38 with fail
  refine wp_region_held_drew (S := fun W => W.cell? ⟨M, 7, none⟩ = some (.slice none 0 0)) (by kernel_rfl) (by rw [HWD.out]; exact HM32.out.at 7 _ rfl) (fun hHeld => ?_)
  rw [HWD.out] at hHeld ⊢
  refine wpAnyH_take (i := 0) (oi := _) (v := ?_) rfl (by kernel_rfl) (by kernel_rfl) (by kernel_rfl) (fun _ _ _ h => h) (Or.inl ⟨by rfl, ?_⟩) (by first | assumption | trivial) ?_
  rotate_left
  · intro w hSw
    try dsimp only at hSw
    go_simp
    try with_reducible rfl
  try simp only [Act.put, List.getElem_toArray, List.getElem_cons_succ, List.getElem_cons_zero, List.setIfInBounds_toArray, List.set_cons_zero, List.set_cons_succ]
  refine wpAnyH_take (i := 1) (oi := _) (v := ?_) rfl (by kernel_rfl) (by kernel_rfl) (by kernel_rfl) (fun _ _ _ h => h) (Or.inl ⟨by rfl, ?_⟩) (by first | assumption | trivial) ?_
  rotate_left
  · intro w hSw
    try dsimp only at hSw
    go_simp
    try with_reducible rfl
  try simp only [Act.put, List.getElem_toArray, List.getElem_cons_succ, List.getElem_cons_zero, List.setIfInBounds_toArray, List.set_cons_zero, List.set_cons_succ]
  refine wpAnyH_take (i := 2) (oi := _) (v := ?_) rfl (by kernel_rfl) (by kernel_rfl) (by kernel_rfl) (fun _ _ _ h => h) (Or.inl ⟨by rfl, ?_⟩) (by first | assumption | trivial) ?_
  rotate_left
  · intro w hSw
    try dsimp only at hSw
    go_simp
    try with_reducible rfl
  try simp only [Act.put, List.getElem_toArray, List.getElem_cons_succ, List.getElem_cons_zero, List.setIfInBounds_toArray, List.set_cons_zero, List.set_cons_succ]
  refine wpAnyH_take (i := 3) (oi := _) (v := ?_) rfl (by kernel_rfl) (by kernel_rfl) (by kernel_rfl) (fun _ _ _ h => h) (Or.inl ⟨by rfl, ?_⟩) (by first | assumption | trivial) ?_
  rotate_left
  · intro w hSw
    try dsimp only at hSw
    go_simp
    try with_reducible rfl
  try simp only [Act.put, List.getElem_toArray, List.getElem_cons_succ, List.getElem_cons_zero, List.setIfInBounds_toArray, List.set_cons_zero, List.set_cons_succ]
  refine wpAnyH_take (i := 4) (oi := _) (v := ?_) rfl (by kernel_rfl) (by kernel_rfl) (by kernel_rfl) (fun _ _ _ h => h) (Or.inl ⟨by rfl, ?_⟩) (by first | assumption | trivial) ?_
  rotate_left
  · intro w hSw
    try dsimp only at hSw
    go_simp
    try with_reducible rfl
  try simp only [Act.put, List.getElem_toArray, List.getElem_cons_succ, List.getElem_cons_zero, List.setIfInBounds_toArray, List.set_cons_zero, List.set_cons_succ]
  refine wpAnyH_take (i := 5) (oi := _) (v := ?_) rfl (by kernel_rfl) (by kernel_rfl) (by kernel_rfl) (fun _ _ _ h => h) (Or.inl ⟨by rfl, ?_⟩) (by first | assumption | trivial) ?_
  rotate_left
  · intro w hSw
    try dsimp only at hSw
    go_simp
    try with_reducible rfl
  try simp only [Act.put, List.getElem_toArray, List.getElem_cons_succ, List.getElem_cons_zero, List.setIfInBounds_toArray, List.set_cons_zero, List.set_cons_succ]
  refine wpAnyH_take (i := 6) (oi := _) (v := ?_) rfl (by kernel_rfl) (by kernel_rfl) (by kernel_rfl) (fun _ _ _ h => h) (Or.inl ⟨by rfl, ?_⟩) (by first | assumption | trivial) ?_
  rotate_left
  · intro w hSw
    try dsimp only at hSw
    go_simp
    try with_reducible rfl
  try simp only [Act.put, List.getElem_toArray, List.getElem_cons_succ, List.getElem_cons_zero, List.setIfInBounds_toArray, List.set_cons_zero, List.set_cons_succ]
  refine wpAnyH_ready (rs := [7]) (by kernel_rfl) (by simp) ?_
  refine AllReadyH.cons (o := _) rfl (fun K hK => ?_) AllReadyH.nil
  go_simp
  refine (number_any 0 (by decide) _ HB32.out (by (try simp only [List.length_append, List.length_map, List.length_cons, List.length_nil]); omega)).mono ?_
  rintro e w33 ⟨rfl, ⟨s33, hb_⟩, k_⟩
  have HB33 := Lib.hid hb_
  have HK33 := Lib.hid (HK32.out.trans k_)
  have HM33 := Lib.hid (HM32.out.kp k_ (HB32.out.ne HM32.out (by decide)) (by decide))
  clear hb_ k_
  refine hK.out _ _ (HM33.out.at 7 _ rfl) (fun hHeld => ?_)
  clear hK K
  try simp only [Act.put, List.getElem_toArray, List.getElem_cons_succ, List.getElem_cons_zero, List.setIfInBounds_toArray, List.set_cons_zero, List.set_cons_succ]
  refine wpAnyH_done (by kernel_rfl) ?_ _
  clear hHeld HWD
  clear HB31 HK31 HM31 HB32 HK32 HM32
  have cn : w33.cell? ⟨M, 7, none⟩ = some (.slice none 0 0) := HM33.out.at 7 _ rfl
  go_wp2
  refine wp_loop_rounds 1 ?_
  rw [rounds_succ]
  go_wp2
  go_end0
  exact ⟨rfl, ⟨_, by simpa [zz, bodyZ] using HB33.out⟩, HK33.out⟩
end Go.Proofs.YtemihaijhcpnfaaGreatDoor
