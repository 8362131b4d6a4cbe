/- The snapshot's buffer: numbers that may be below 0, a truth, bytes, a list. -/
import Derived.Test.YtemihaijhcpnfaaGreatDoorE1
namespace Go.Proofs.YtemihaijhcpnfaaGreatDoor
open Go.RowKit
set_option linter.unusedVariables false
set_option linter.unusedSimpArgs false
set_option maxRecDepth 100000
set_option maxHeartbeats 8000000

def zz (z : Int) : UInt8 := if z = 0 then 0 else 1
def intsC (zs : List Int) : List Value := zs.map (Value.int .i64)
/-- A row of numbers as ints is given it. -/
def IntArg (w : World) (p : Nat) (v : Value) (zs : List Int) : Prop := (zs = [] ∧ ∃ a c, v = .slice a 0 c) ∨ ∃ E n, v = .slice (some ⟨E, 0, none⟩) n n ∧ n = zs.length ∧ Blk w E 3 (intsC zs) ∧ E ≠ p
theorem BufOut.step {B p : Nat} {w w1 : World} {bs : List UInt8} {e : Ending} {w' : World} (k : Kp B p w w1) (h : BufOut B w1 p bs e w') : BufOut B w p bs e w' := ⟨h.1, h.2.1, k.trans h.2.2⟩
theorem ints_any (v : Value) (zs : List Int) {B p : Nat} {s : Sli} {bs : List UInt8} (w : World) (h : Buf B w p s bs) (hn : bs.length + zs.length ≤ 100000) (hz : ∀ z ∈ zs, z = 0 ∨ z = -1) (hv : IntArg w p v zs) :
    Calls Tryz.prog 83 #[.pointer (some ⟨p, 0, none⟩), v] w (BufOut B w p (bs ++ zs.map zz)) := by
  have HBF := Lib.hid h
  have HNB := Lib.hid hn
  have HZ := Lib.hid hz
  rcases hv with ⟨rfl, a, c, rfl⟩ | ⟨E0, n, rfl, hlen, hE, hEp⟩
  · go_enter Tryz.func83, Tryz.ntmps83
    go_wp2
    refine wp_loop_rounds 1 ?_
    rw [rounds_succ]
    go_wp2
    go_end0
    exact ⟨rfl, ⟨s, by simpa using HBF.out⟩, Kp.of (Fr.refl [] _)⟩
  have HE := Lib.hid hE
  have HEP := Lib.hid hEp
  have HL := Lib.hid hlen
  have hnn : n ≤ 100000 := by omega
  clear hE hEp h hz hn hlen
  go_enter Tryz.func83, Tryz.ntmps83
  go_wp2
  go_loopw [8] (fun i wr => ∃ (wz : World) (q : Nat) (sq : Sli), wz = wr ∧ i = .int .i64 q ∧ q ≤ n ∧ Buf B wr p sq (bs ++ (zs.take q).map zz) ∧ Kp B p w wr) (fun i _ => n - (intOf i).toNat)
  case atStart => exact ⟨_, 0, s, rfl, rfl, by omega, by simpa using HBF.out, Kp.of (Fr.refl [] _)⟩
  case round =>
    obtain ⟨wr, q, sq, hwz, rfl, hq, hbq, hkq⟩ := hrel
    subst hwz
    have HBQ := Lib.hid hbq
    have HKQ := Lib.hid hkq
    clear hbq hkq
    by_cases hlt : q < n
    · have hlt' : (q : Int) < (n : Int) := by omega
      have hq0 : (0 : Int) ≤ (q : Int) := by omega
      obtain ⟨z, hze⟩ : ∃ z, zs[q]? = some z := ⟨_, List.getElem?_eq_getElem (by have := HL.out; omega)⟩
      have hz1 := HZ.out z (List.mem_of_getElem? hze)
      have hcell : wr.cell? ⟨E0, q, none⟩ = some (.int .i64 z) := by
        have h := (HE.out.kp HKQ.out HEP.out (by decide)).at q (.int .i64 z) (by simp [intsC, hze])
        rwa [Nat.zero_add] at h
      have htk : (zs.take (q + 1)).map zz = (zs.take q).map zz ++ [zz z] := by
        rw [List.take_add_one, hze]
        simp
      have HTK := Lib.hid htk
      have HLE := Lib.hid (show (bs ++ (zs.take q).map zz).length ≤ 100000 from by have := HNB.out; simp only [List.length_append, List.length_map, List.length_take]; have := HL.out; omega)
      clear htk
      have hfin : ∀ (sx : Sli) (wx : World), Buf B wx p sx ((bs ++ (zs.take q).map zz) ++ [zz z]) → Buf B wx p sx (bs ++ (zs.take (q + 1)).map zz) := fun sx wx hx => by
        rw [HTK.out, ← List.append_assoc]
        exact hx
      have HFIN := Lib.hid hfin
      clear hfin
      rcases hz1 with rfl | rfl
      · go_wp2_with fail
        refine (number_any 0 (by decide) _ HBQ.out HLE.out).mono ?_
        rintro e w2 ⟨rfl, ⟨s2, hb2⟩, k2⟩
        have HB2 := Lib.hid hb2
        have HK2 := Lib.hid k2
        clear hb2 k2
        go_wp2_with fail
        go_roundw
        case rel => exact ⟨_, q + 1, s2, rfl, by go_num, by omega, HFIN.out _ _ HB2.out, HKQ.out.trans HK2.out⟩
        case measure => simp [intOf]; omega
      · go_wp2_with fail
        refine (number_any 1 (by decide) _ HBQ.out HLE.out).mono ?_
        rintro e w2 ⟨rfl, ⟨s2, hb2⟩, k2⟩
        have HB2 := Lib.hid hb2
        have HK2 := Lib.hid k2
        clear hb2 k2
        go_wp2_with fail
        go_roundw
        case rel => exact ⟨_, q + 1, s2, rfl, by go_num, by omega, HFIN.out _ _ HB2.out, HKQ.out.trans HK2.out⟩
        case measure => simp [intOf]; omega
    · have hlt' : ¬ (q : Int) < (n : Int) := by omega
      go_wp2
      go_end0
      refine ⟨rfl, ⟨sq, ?_⟩, HKQ.out⟩
      have h := HBQ.out
      rwa [List.take_of_length_le (by have := HL.out; omega)] at h
theorem truth_no (E0 : Nat) {B p : Nat} {s : Sli} {bs : List UInt8} (w : World) (h : Buf B w p s bs) (hn : bs.length ≤ 100000) (hE : Blk w E0 4 [.bool false]) :
    Calls Tryz.prog 85 #[.pointer (some ⟨p, 0, none⟩), .slice (some ⟨E0, 0, none⟩) 1 1] w (BufOut B w p (bs ++ [0])) := by
  have HN := Lib.hid hn
  have c0 : w.cell? ⟨E0, 0, none⟩ = some (.bool false) := hE.at 0 _ rfl
  have HBF := Lib.hid h
  have HE := Lib.hid hE
  clear h hE hn
  go_enter Tryz.func85, Tryz.ntmps85
  go_wp2
  refine wp_loop_rounds 2 ?_
  rw [rounds_succ]
  go_upto_region 6 with fail
  have c0 : w.cell? ⟨p, 0, none⟩ = some (.slice s.1 s.2.1 s.2.2) := HBF.out.blk.at 0 _ rfl
  refine wp_region_lit ?_
  refine wpList_plain rfl (fun K hK => ?_)
  go_simp
  refine hK _ _ ?_
  clear hK K
  refine wpList_plain rfl (fun K hK => ?_)
  go_simp
  refine hK _ _ ?_
  clear hK K
  refine wpList_plain rfl (fun K hK => ?_)
  go_simp
  refine hK _ _ ?_
  clear hK K
  refine wpList_plain rfl (fun K hK => ?_)
  go_simp
  refine hK _ _ ?_
  clear hK K
  refine wpList_plain rfl (fun K hK => ?_)
  go_simp
  refine hK _ _ ?_
  clear hK K
  refine wpList_plain rfl (fun K hK => ?_)
  go_simp
  refine hK _ _ ?_
  clear hK K
  try simp only [Act.put, List.getElem_toArray, List.getElem_cons_succ, List.getElem_cons_zero, List.setIfInBounds_toArray, List.set_cons_zero, List.set_cons_succ]
  obtain ⟨w1, hw1⟩ : ∃ z, w.alloc (.cells #[byteV 0] 5) = z := ⟨_, rfl⟩
  obtain ⟨E1, hE1⟩ : ∃ z, w.heap.size = z := ⟨_, rfl⟩
  have hb1 : Blk w1 E1 5 [byteV 0] := by rw [← hw1, ← hE1]; exact Blk.made w _ [byteV 0]
  have f1 : Fr [] w w1 := by rw [← hw1]; exact (Fr.refl [] w).alloc _
  refine wpList_val rfl (v := .slice (some ⟨E1, 0, none⟩) 1 1) (w' := w1) ?_ ?_
  · refine exec_bsl (V := byteV 0) rfl (by simp [Act.eval, byteV]) ?_
    rw [bslU8, hw1, hE1]
  try simp only [Act.put, List.getElem_toArray, List.getElem_cons_succ, List.getElem_cons_zero, List.setIfInBounds_toArray, List.set_cons_zero, List.set_cons_succ]
  have HR1 := Lib.hid (show RowV w1 (.slice (some ⟨E1, 0, none⟩) 1 1) 1 1 (bsV [0]) from ⟨rfl, .inr ⟨E1, 0, 1, rfl, hb1.lt, hb1.at⟩⟩)
  have HF1 := Lib.hid f1
  have HB1 := Lib.hid (HBF.out.new f1)
  clear hw1 hE1 hb1 f1 c0
  refine wpList_append_any elemU8 rfl _ _ rfl B (v := slv s) (n := bs.length) (xs := bsV bs) rfl HB1.out.row (X := .slice (some ⟨E1, 0, none⟩) 1 1) (m := 1) (news := bsV [0]) rfl HR1.out (bsV_one _) (by have := HN.out; omega) (by decide) HB1.out.low ?_
  intro s2 w2 ho2 f2
  try simp only [Act.put, List.getElem_toArray, List.getElem_cons_succ, List.getElem_cons_zero, List.setIfInBounds_toArray, List.set_cons_zero, List.set_cons_succ]
  refine wpList_plain rfl (fun K hK => ?_)
  go_simp
  refine hK _ _ ?_
  clear hK K
  refine wpList_plain rfl (fun K hK => ?_)
  go_simp
  refine hK _ _ ?_
  clear hK K
  try simp only [Act.put, List.getElem_toArray, List.getElem_cons_succ, List.getElem_cons_zero, List.setIfInBounds_toArray, List.set_cons_zero, List.set_cons_succ]
  have HO2 := Lib.hid ho2
  have HBK := Lib.hid (HB1.out.blk.keep f2 (fun hm => blkNe HB1.out.blk HB1.out.row (by decide) (by simpa using hm)))
  have HK1 := Lib.hid (Kp.trans (B := B) (p := p) (Kp.of HF1.out) (Kp.row HB1.out.row f2))
  have HLW := Lib.hid (Nat.le_trans HB1.out.low f2.size)
  clear ho2 f2
  obtain ⟨w3, hst, hb_, hf_⟩ := store_cell (t := 22) (o := 0) (slv s2) size22 rfl rfl HBK.out (by show 0 + 1 ≤ 1; omega)
  refine wpList_skp rfl (w' := w3) ?_ ?_
  · show Sem.run Tryz.prog ((Instr.storeAt 22 (.pointer (some ⟨p, 0, none⟩)) (slv s2)) >>= fun _ => pure Next.skip) _ = _
    rw [Sem.run_bind, hst]
    rfl
  clear hst
  try simp only [Act.put, List.getElem_toArray, List.getElem_cons_succ, List.getElem_cons_zero, List.setIfInBounds_toArray, List.set_cons_zero, List.set_cons_succ]
  refine wpList_nil ?_
  try simp only [Act.put, List.getElem_toArray, List.getElem_cons_succ, List.getElem_cons_zero, List.setIfInBounds_toArray, List.set_cons_zero, List.set_cons_succ]
  have HB3 := Lib.hid (show Buf B w3 p s2 (bs ++ [0]) from ⟨hb_, by rw [List.length_append, List.length_singleton, ← bsV_add]; exact rowFr' HO2.out hf_ (fun g hg hm => by rw [List.mem_singleton] at hm; subst hm; exact blkNe HBK.out HO2.out (by decide) hg), Nat.le_trans HLW.out hf_.size⟩)
  have HK3 := Lib.hid (HK1.out.trans (Kp.p hf_))
  clear hb_ hf_ HB1 HR1 HF1 HO2 HBK HK1 HLW
  go_wp2
  rw [rounds_succ]
  go_wp2
  go_end0
  exact ⟨rfl, ⟨s2, HB3.out⟩, HK3.out⟩
theorem text_no (a : Option Addr) (c : Nat) {B p : Nat} {s : Sli} {bs : List UInt8} (w : World) (h : Buf B w p s bs) (hn : bs.length ≤ 100000) :
    Calls Tryz.prog 86 #[.pointer (some ⟨p, 0, none⟩), .slice a 0 c] w (BufOut B w p (bs ++ [0])) := by
  have HN := Lib.hid hn
  have HBF0 := Lib.hid h
  clear h hn
  go_enter Tryz.func86, Tryz.ntmps86
  go_wp2_with fail
  refine (number_any 0 (by decide) _ HBF0.out HN.out).mono ?_
  rintro e w1 ⟨rfl, ⟨s1, hb1⟩, k1⟩
  have HBF := Lib.hid hb1
  have HK1 := Lib.hid k1
  clear hb1 k1
  go_upto_region 1 with fail
  have c0 : w1.cell? ⟨p, 0, none⟩ = some (.slice s1.1 s1.2.1 s1.2.2) := HBF.out.blk.at 0 _ rfl
  refine wp_region_lit ?_
  refine wpList_plain rfl (fun K hK => ?_)
  go_simp
  refine hK _ _ ?_
  clear hK K
  refine wpList_plain rfl (fun K hK => ?_)
  go_simp
  refine hK _ _ ?_
  clear hK K
  refine wpList_plain rfl (fun K hK => ?_)
  go_simp
  refine hK _ _ ?_
  clear hK K
  refine wpList_plain rfl (fun K hK => ?_)
  go_simp
  refine hK _ _ ?_
  clear hK K
  refine wpList_plain rfl (fun K hK => ?_)
  go_simp
  refine hK _ _ ?_
  clear hK K
  refine wpList_plain rfl (fun K hK => ?_)
  go_simp
  refine hK _ _ ?_
  clear hK K
  try simp only [Act.put, List.getElem_toArray, List.getElem_cons_succ, List.getElem_cons_zero, List.setIfInBounds_toArray, List.set_cons_zero, List.set_cons_succ]
  refine wpList_append_any elemU8 rfl _ _ rfl B (v := slv s1) (n := (bs ++ [0]).length) (xs := bsV (bs ++ [0])) rfl HBF.out.row (X := .slice a 0 c) (m := 0) (news := []) rfl (RowV.nil _ 1 a c) (by simp) (by have := HN.out; simp only [List.length_append, List.length_singleton]; omega) (by decide) HBF.out.low ?_
  intro s2 w2 ho2 f2
  try simp only [Act.put, List.getElem_toArray, List.getElem_cons_succ, List.getElem_cons_zero, List.setIfInBounds_toArray, List.set_cons_zero, List.set_cons_succ]
  refine wpList_plain rfl (fun K hK => ?_)
  go_simp
  refine hK _ _ ?_
  clear hK K
  refine wpList_plain rfl (fun K hK => ?_)
  go_simp
  refine hK _ _ ?_
  clear hK K
  try simp only [Act.put, List.getElem_toArray, List.getElem_cons_succ, List.getElem_cons_zero, List.setIfInBounds_toArray, List.set_cons_zero, List.set_cons_succ]
  have HO2 := Lib.hid ho2
  have HBK := Lib.hid (HBF.out.blk.keep f2 (fun hm => blkNe HBF.out.blk HBF.out.row (by decide) (by simpa using hm)))
  have HK2 := Lib.hid (Kp.trans (B := B) (p := p) HK1.out (Kp.row HBF.out.row f2))
  have HLW := Lib.hid (Nat.le_trans HBF.out.low f2.size)
  clear ho2 f2
  obtain ⟨w3, hst, hb_, hf_⟩ := store_cell (t := 22) (o := 0) (slv s2) size22 rfl rfl HBK.out (by show 0 + 1 ≤ 1; omega)
  refine wpList_skp rfl (w' := w3) ?_ ?_
  · show Sem.run Tryz.prog ((Instr.storeAt 22 (.pointer (some ⟨p, 0, none⟩)) (slv s2)) >>= fun _ => pure Next.skip) _ = _
    rw [Sem.run_bind, hst]
    rfl
  clear hst
  try simp only [Act.put, List.getElem_toArray, List.getElem_cons_succ, List.getElem_cons_zero, List.setIfInBounds_toArray, List.set_cons_zero, List.set_cons_succ]
  refine wpList_nil ?_
  try simp only [Act.put, List.getElem_toArray, List.getElem_cons_succ, List.getElem_cons_zero, List.setIfInBounds_toArray, List.set_cons_zero, List.set_cons_succ]
  have HB3 := Lib.hid (show Buf B w3 p s2 (bs ++ [0]) from ⟨hb_, by
    have := rowFr' HO2.out hf_ (fun g hg hm => by rw [List.mem_singleton] at hm; subst hm; exact blkNe HBK.out HO2.out (by decide) hg)
    rwa [List.append_nil, Nat.add_zero] at this, Nat.le_trans HLW.out hf_.size⟩)
  have HK3 := Lib.hid (HK2.out.trans (Kp.p hf_))
  clear hb_ hf_
  go_wp2
  go_end0
  exact ⟨rfl, ⟨s2, HB3.out⟩, HK3.out⟩
theorem list_no {B p : Nat} {s : Sli} {bs : List UInt8} (w : World) (h : Buf B w p s bs) (hn : bs.length ≤ 90000) :
    Calls Tryz.prog 87 #[.pointer (some ⟨p, 0, none⟩), .slice none 0 0] w (BufOut B w p (bs ++ [0])) := by
  have HN := Lib.hid hn
  have HBF0 := Lib.hid h
  clear h hn
  go_enter Tryz.func87, Tryz.ntmps87
  go_wp2_with fail
  refine (number_any 0 (by decide) _ HBF0.out (by have := HN.out; omega)).mono ?_
  rintro e w1 ⟨rfl, ⟨s1, hb1⟩, k1⟩
  have HBF := Lib.hid hb1
  have HK1 := Lib.hid k1
  clear hb1 k1
  go_wp2_with fail
  refine (ints_any (.slice none 0 0) [] _ HBF.out (by have := HN.out; simp only [List.length_append, List.length_singleton, List.length_nil]; omega) (by simp) (.inl ⟨rfl, _, _, rfl⟩)).mono ?_
  rintro e w2 ⟨rfl, ⟨s2, hb2⟩, k2⟩
  have HB2 := Lib.hid hb2
  have HK2 := Lib.hid k2
  clear hb2 k2
  go_wp2
  go_end0
  exact ⟨rfl, ⟨s2, by simpa using HB2.out⟩, HK1.out.trans HK2.out⟩
end Go.Proofs.YtemihaijhcpnfaaGreatDoor
