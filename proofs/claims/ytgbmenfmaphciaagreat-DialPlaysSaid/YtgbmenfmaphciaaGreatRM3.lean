/- The reference's connections in memory, with their bytes: Copy. -/
/- The reference's streams in memory, with their bytes: the ends closed. -/
/- The reference's connections in memory, with their bytes: a direction closed. -/
/- The reference's connections in memory, with their bytes: an end closed. -/
/- Rows of structs in memory: lists of records, each with its cells; structs built. -/
/- The reference's connections without bytes: Copy. -/
/- The reference's connections without bytes: New. -/
import Derived.Test.YtgbmenfmaphciaaGreatTK
import Derived.Test.YtgbmenfmaphciaaGreatG1
import Derived.RegionTactic
import Derived.RegionCalls
import Derived.Deep.RegionHeld3
import Derived.Test.YtgbmenfmaphciaaGreatPD
import Derived.Test.YtgbmenfmaphciaaGreatRM1
import Derived.Outline
import Derived.Deep.Cut
namespace Go.Proofs.YtgbmenfmaphciaaGreat
set_option linter.unusedVariables false
set_option linter.unusedSimpArgs false
set_option linter.unusedSectionVars false
open Go.RowKit
set_option linter.unusedVariables false
set_option linter.unusedSimpArgs false
set_option maxRecDepth 100000
set_option maxHeartbeats 8000000
theorem wp_vl {P : Program} {o : Oper} {a : Act} {w w' : World} {Q : Exit → Act → World → Prop} {K : Act → World → Prop} {v : Value} (hrun : (execOp a.eval o).run P w = .ok (.value v) w') (hK : K (a.put o.dst v) w') : o.wp P a w K Q := by
 unfold Oper.wp
 rw [hrun]
 exact hK
structure CC where
 s0 : SS
 s1 : SS
 a0 : Bool
 a1 : Bool
structure Q4 where
 b0 : Sli
 r0 : Sli
 b1 : Sli
 r1 : Sli
def cnC (x : CC) (q : Q4) : List Value := stC x.s0 q.b0 q.r0 ++ (stC x.s1 q.b1 q.r1 ++ [.bool x.a0, .bool x.a1])
theorem cnC_one (x : CC) (q : Q4) : ∀ u ∈ cnC x q, u.oneCell' = true := by
 intro u hu
 unfold cnC at hu
 rcases List.mem_append.1 hu with hu | hu
 ·exact stC_one _ _ _ u hu
 ·rcases List.mem_append.1 hu with hu | hu
  ·exact stC_one _ _ _ u hu
  ·simp only [List.mem_cons, List.not_mem_nil, or_false] at hu
   rcases hu with rfl | rfl <;> rfl
def zCn : List Value := zSt ++ (zSt ++ [.bool false, .bool false])
structure CnB (w : World) (x : CC) (q : Q4) : Prop where
 b0 : Bs w q.b0 x.s0.buf
 r0 : Bs w q.r0 x.s0.rest
 b1 : Bs w q.b1 x.s1.buf
 r1 : Bs w q.r1 x.s1.rest
structure CnO (w : World) (B : Nat) (x : CC) (q : Q4) : Prop where
 b0 : BsO w B q.b0 x.s0.buf
 r0 : BsO w B q.r0 x.s0.rest
 b1 : BsO w B q.b1 x.s1.buf
 r1 : BsO w B q.r1 x.s1.rest
theorem CnB.new {w w' : World} {x : CC} {q : Q4} (h : CnB w x q) (f : Fr [] w w') : CnB w' x q := ⟨h.b0.new f, h.r0.new f, h.b1.new f, h.r1.new f⟩
theorem CnO.new {w w' : World} {B : Nat} {x : CC} {q : Q4} (h : CnO w B x q) (f : Fr [] w w') : CnO w' B x q := ⟨h.b0.new f, h.r0.new f, h.b1.new f, h.r1.new f⟩
theorem CnO.base {w : World} {B B' : Nat} {x : CC} {q : Q4} (h : CnO w B x q) (hb : B' ≤ B) : CnO w B' x q := ⟨h.b0.base hb, h.r0.base hb, h.b1.base hb, h.r1.base hb⟩
theorem CnO.b {w : World} {B : Nat} {x : CC} {q : Q4} (h : CnO w B x q) : CnB w x q := ⟨h.b0.bs, h.r0.bs, h.b1.bs, h.r1.bs⟩
theorem BsO.store {w w' : World} {B b : Nat} {t : TypeId} {ys : List Value} {s : Sli} {l : List UInt8} (h : BsO w B s l) (hb : Blk w b t ys) (f : Fr [b] w w') (hne : t ≠ 5) : BsO w' B s l :=
 rowFr' h f (fun g hg hm => by rw [List.mem_singleton] at hm; subst hm; exact blkNe hb h hne hg)
theorem CnO.store {w w' : World} {B b : Nat} {t : TypeId} {ys : List Value} {x : CC} {q : Q4} (h : CnO w B x q) (hb : Blk w b t ys) (f : Fr [b] w w') (hne : t ≠ 5) : CnO w' B x q :=
 ⟨h.b0.store hb f hne, h.r0.store hb f hne, h.b1.store hb f hne, h.r1.store hb f hne⟩
structure CC.fit (x : CC) : Prop where
 n0 : x.s0.buf.length + x.s0.rest.length ≤ 200000
 n1 : x.s1.buf.length + x.s1.rest.length ≤ 200000
theorem dCopy_any (x : CC) (q : Q4) (w : World) (hb : CnB w x q) (hn : x.fit) :
  Calls Tryz.prog 85 #[.agg (cnC x q).toArray] w fun e w' => ∃ q', e = .returned (.agg (cnC x q').toArray) ∧ CnO w' w.heap.size x q' ∧ Fr [] w w' := by
 have HQ := Lib.hid hb
 have HN := Lib.hid hn
 clear hb hn
 obtain ⟨B, hB⟩ : ∃ B, w.heap.size = B := ⟨_, rfl⟩
 obtain ⟨wA, hwA⟩ : ∃ z, ((w.alloc (.cells (cnC x q).toArray 99)).alloc (.cells #[.int .i64 0, .slice none 0 0, .bool false, .slice none 0 0, .int .i64 0, .int .i64 0, .int .i64 0, .int .i64 0, .slice none 0 0, .bool false, .slice none 0 0, .int .i64 0, .int .i64 0, .int .i64 0, .bool false, .bool false] 99)).drew = z := ⟨_, rfl⟩
 have hb1 : Blk wA B 99 (cnC x q) := by
  rw [← hwA, ← hB]
  exact (Blk.made w _ (cnC x q)).keep (((Fr.refl [] _).alloc _).drew) (by simp)
 have hr1 : Blk wA (B + 1) 99 zCn := by
  have h := Blk.made (w.alloc (.cells (cnC x q).toArray 99)) 99 zCn
  rw [show (w.alloc (.cells (cnC x q).toArray 99)).heap.size = B + 1 from by rw [← hB]; simp] at h
  rw [← hwA]
  exact h
 have hf : Fr [] w wA := by rw [← hwA]; exact (((Fr.refl [] w).alloc _).alloc _).drew
 have HB := Lib.hid hb1
 have HR := Lib.hid hr1
 have HF := Lib.hid hf
 have HBS := Lib.hid hB
 have HWA := Lib.hid hwA
 clear hb1 hr1 hf hB hwA
 go_enter Tryz.func85, Tryz.ntmps85
 go_upto_region 1 with fail
 refine wp_region_held_drew (S := fun _ => True) (by kernel_rfl) trivial (fun hHeld => ?_)
 clear hHeld
 rw [HWA.out]
 simp only [HBS.out]
 refine tvZ 0 (?_) rfl ?_ ?_
 rotate_left
 ·intro w hSw
  go_simp
  try with_reducible rfl
 try simp only [Act.put, nrZ]
 refine tvZ 1 (?_) rfl ?_ ?_
 rotate_left
 ·intro w hSw
  go_simp
  try with_reducible rfl
 try simp only [Act.put, nrZ]
 refine tvZ 4 (?_) rfl ?_ ?_
 rotate_left
 ·intro w hSw
  go_simp
  try with_reducible rfl
 try simp only [Act.put, nrZ]
 refine tvZ 5 (?_) rfl ?_ ?_
 rotate_left
 ·intro w hSw
  go_simp
  try with_reducible rfl
 try simp only [Act.put, nrZ]
 refine tvZ 8 (?_) rfl ?_ ?_
 rotate_left
 ·intro w hSw
  go_simp
  try with_reducible rfl
 try simp only [Act.put, nrZ]
 refine tvZ 11 (?_) rfl ?_ ?_
 rotate_left
 ·intro w hSw
  go_simp
  try with_reducible rfl
 try simp only [Act.put, nrZ]
 refine wpAnyH_ready (rs := [2, 6]) (by kernel_rfl) (by simp) ?_
 refine AllReadyH.cons (o := _) rfl (fun K hK => ?_) (AllReadyH.cons (o := _) rfl (fun K hK => ?_) AllReadyH.nil)
 ·skip
  split
  rotate_left
  ·rename_i hno
   exact absurd rfl hno
  refine ldY (load_all agg90 size90 (xs := stC x.s0 q.b0 q.r0) rfl (show LiesAt wA B 0 (stC x.s0 q.b0 q.r0) from HB.out.at.part (k := 0) (n := 7) rfl)) ?_
  refine hK.out _ _ trivial (fun hHeld => ?_)
  clear hHeld hK K
  try simp only [Act.put, nrZ]
  refine wpAnyH_ready (rs := [3, 6]) (by kernel_rfl) (by simp) ?_
  refine AllReadyH.cons (o := _) rfl (fun K hK => ?_) (AllReadyH.cons (o := _) rfl (fun K hK => ?_) AllReadyH.nil)
  ·skip
   go_simp
   refine (sCopy_any x.s0 q.b0 q.r0 _ (HQ.out.b0.new HF.out) (HQ.out.r0.new HF.out) HN.out.n0).mono ?_
   rintro e w1 ⟨b0', r0', rfl, hob, hor, f1⟩
   have HB1 := Lib.hid (HB.out.keep f1 (by simp))
   have HR1 := Lib.hid (HR.out.keep f1 (by simp))
   have HF1 := Lib.hid (HF.out.step f1)
   have HO1 := Lib.hid (And.intro (hob.base HF.out.size) (hor.base HF.out.size))
   clear hob hor f1
   refine hK.out _ _ trivial (fun hHeld => ?_)
   clear hHeld hK K
   try simp only [Act.put, nrZ]
   refine rdZ 6 (fun K hK => ?_)
   split
   rotate_left
   ·rename_i hno
    exact absurd rfl hno
   refine ldY (load_all agg90 size90 (xs := stC x.s1 q.b1 q.r1) rfl (show LiesAt w1 B 7 (stC x.s1 q.b1 q.r1) from HB1.out.at.part (k := 7) (n := 7) rfl)) ?_
   refine hK.out _ _ trivial (fun hHeld => ?_)
   clear hHeld hK K
   try simp only [Act.put, nrZ]
   refine tvZ 9 (?_) rfl ?_ ?_
   rotate_left
   ·intro w hSw
    go_simp
    try with_reducible rfl
   try simp only [Act.put, nrZ]
   refine rdZ 7 (fun K hK => ?_)
   go_simp
   refine (sCopy_any x.s1 q.b1 q.r1 _ (HQ.out.b1.new HF1.out) (HQ.out.r1.new HF1.out) HN.out.n1).mono ?_
   rintro e w2 ⟨b1', r1', rfl, hob, hor, f2⟩
   have HB2 := Lib.hid (HB1.out.keep f2 (by simp))
   have HR2 := Lib.hid (HR1.out.keep f2 (by simp))
   have HF2 := Lib.hid (HF1.out.step f2)
   have HO2 := Lib.hid (CnO.mk (x := x) (q := ⟨b0', r0', b1', r1'⟩) (HO1.out.1.new f2) (HO1.out.2.new f2) (hob.base HF1.out.size) (hor.base HF1.out.size))
   clear hob hor f2 HB1 HR1 HF1 HO1
   refine hK.out _ _ trivial (fun hHeld => ?_)
   clear hHeld hK K
   try simp only [Act.put, nrZ]
   refine rdZ 10 (fun K hK => ?_)
   obtain ⟨w3, hst, hb_, hf_⟩ := store_part (t := 95) (o := 0) (stC x.s0 b0' r0') size90 rfl (stC_one _ _ _) HB2.out (by show 0 + 7 ≤ 16; omega)
   split
   rotate_left
   ·rename_i hno
    exact absurd rfl hno
   refine stY hst ?_
   clear hst
   refine hK.out _ _ trivial (fun hHeld => ?_)
   clear hHeld hK K
   try simp only [Act.put, nrZ]
   have HB3 := Lib.hid (show Blk w3 B 99 (cnC x ⟨b0', r0', q.b1, q.r1⟩) from hb_)
   have HR3 := Lib.hid (HR2.out.keep hf_ (by simp))
   have HF3 := Lib.hid (HF2.out.own1 (S := []) (B := 0) hf_ (by have := HBS.out; omega))
   have HO3 := Lib.hid (HO2.out.store HB2.out hf_ (by decide))
   clear hb_ hf_ HB2 HR2 HF2 HO2
   refine tvZ 12 (?_) rfl ?_ ?_
   rotate_left
   ·intro w hSw
    go_simp
    try with_reducible rfl
   try simp only [Act.put, nrZ]
   refine rdZ 13 (fun K hK => ?_)
   obtain ⟨w4, hst, hb_, hf_⟩ := store_part (t := 95) (o := 7) (stC x.s1 b1' r1') size90 rfl (stC_one _ _ _) HB3.out (by show 7 + 7 ≤ 16; omega)
   split
   rotate_left
   ·rename_i hno
    exact absurd rfl hno
   refine stY hst ?_
   clear hst
   refine hK.out _ _ trivial (fun hHeld => ?_)
   clear hHeld hK K
   try simp only [Act.put, nrZ]
   have HB4 := Lib.hid (show Blk w4 B 99 (cnC x ⟨b0', r0', b1', r1'⟩) from hb_)
   have HR4 := Lib.hid (HR3.out.keep hf_ (by simp))
   have HF4 := Lib.hid (HF3.out.own1 (S := []) (B := 0) hf_ (by have := HBS.out; omega))
   have HO4 := Lib.hid (HO3.out.store HB3.out hf_ (by decide))
   clear hb_ hf_ HB3 HR3 HF3 HO3
   refine wpAnyH_done (by kernel_rfl) ?_ _
   go_upto_region 2 with fail
   refine wp_region_lit ?_
   refine ldZ (load_all agg94 size94 (xs := cnC x ⟨b0', r0', b1', r1'⟩) rfl HB4.out.at) ?_
   obtain ⟨w5, hst, hb_, hf_⟩ := store_all (t := 99) (cnC x ⟨b0', r0', b1', r1'⟩) size94 rfl (cnC_one _ _) HR4.out rfl
   refine stZ hst ?_
   clear hst
   refine wpList_nil ?_
   try simp only [Act.put, nrZ]
   have HR5 := Lib.hid hb_
   have HF5 := Lib.hid (HF4.out.own1 (S := []) (B := 0) hf_ (by have := HBS.out; omega))
   have HO5 := Lib.hid (HO4.out.store HR4.out hf_ (by decide))
   clear hb_ hf_
   go_wp2
   have hl := load_var agg94 size94 (xs := cnC x ⟨b0', r0', b1', r1'⟩) rfl HR5.out.at
   refine bodyPost_ret (v := .agg (cnC x ⟨b0', r0', b1', r1'⟩).toArray) (by simp [results, Tryz.results85, as_addr, hl]) rfl ?_
   exact ⟨⟨b0', r0', b1', r1'⟩, rfl, HO5.out, HF5.out⟩
  ·skip
   split
   rotate_left
   ·rename_i hno
    exact absurd rfl hno
   refine ldY (load_all agg90 size90 (xs := stC x.s1 q.b1 q.r1) rfl (show LiesAt wA B 7 (stC x.s1 q.b1 q.r1) from HB.out.at.part (k := 7) (n := 7) rfl)) ?_
   refine hK.out _ _ trivial (fun hHeld => ?_)
   clear hHeld hK K
   try simp only [Act.put, nrZ]
   refine rdZ 3 (fun K hK => ?_)
   go_simp
   refine (sCopy_any x.s0 q.b0 q.r0 _ (HQ.out.b0.new HF.out) (HQ.out.r0.new HF.out) HN.out.n0).mono ?_
   rintro e w1 ⟨b0', r0', rfl, hob, hor, f1⟩
   have HB1 := Lib.hid (HB.out.keep f1 (by simp))
   have HR1 := Lib.hid (HR.out.keep f1 (by simp))
   have HF1 := Lib.hid (HF.out.step f1)
   have HO1 := Lib.hid (And.intro (hob.base HF.out.size) (hor.base HF.out.size))
   clear hob hor f1
   refine hK.out _ _ trivial (fun hHeld => ?_)
   clear hHeld hK K
   try simp only [Act.put, nrZ]
   refine tvZ 9 (?_) rfl ?_ ?_
   rotate_left
   ·intro w hSw
    go_simp
    try with_reducible rfl
   try simp only [Act.put, nrZ]
   refine rdZ 7 (fun K hK => ?_)
   go_simp
   refine (sCopy_any x.s1 q.b1 q.r1 _ (HQ.out.b1.new HF1.out) (HQ.out.r1.new HF1.out) HN.out.n1).mono ?_
   rintro e w2 ⟨b1', r1', rfl, hob, hor, f2⟩
   have HB2 := Lib.hid (HB1.out.keep f2 (by simp))
   have HR2 := Lib.hid (HR1.out.keep f2 (by simp))
   have HF2 := Lib.hid (HF1.out.step f2)
   have HO2 := Lib.hid (CnO.mk (x := x) (q := ⟨b0', r0', b1', r1'⟩) (HO1.out.1.new f2) (HO1.out.2.new f2) (hob.base HF1.out.size) (hor.base HF1.out.size))
   clear hob hor f2 HB1 HR1 HF1 HO1
   refine hK.out _ _ trivial (fun hHeld => ?_)
   clear hHeld hK K
   try simp only [Act.put, nrZ]
   refine rdZ 10 (fun K hK => ?_)
   obtain ⟨w3, hst, hb_, hf_⟩ := store_part (t := 95) (o := 0) (stC x.s0 b0' r0') size90 rfl (stC_one _ _ _) HB2.out (by show 0 + 7 ≤ 16; omega)
   split
   rotate_left
   ·rename_i hno
    exact absurd rfl hno
   refine stY hst ?_
   clear hst
   refine hK.out _ _ trivial (fun hHeld => ?_)
   clear hHeld hK K
   try simp only [Act.put, nrZ]
   have HB3 := Lib.hid (show Blk w3 B 99 (cnC x ⟨b0', r0', q.b1, q.r1⟩) from hb_)
   have HR3 := Lib.hid (HR2.out.keep hf_ (by simp))
   have HF3 := Lib.hid (HF2.out.own1 (S := []) (B := 0) hf_ (by have := HBS.out; omega))
   have HO3 := Lib.hid (HO2.out.store HB2.out hf_ (by decide))
   clear hb_ hf_ HB2 HR2 HF2 HO2
   refine tvZ 12 (?_) rfl ?_ ?_
   rotate_left
   ·intro w hSw
    go_simp
    try with_reducible rfl
   try simp only [Act.put, nrZ]
   refine rdZ 13 (fun K hK => ?_)
   obtain ⟨w4, hst, hb_, hf_⟩ := store_part (t := 95) (o := 7) (stC x.s1 b1' r1') size90 rfl (stC_one _ _ _) HB3.out (by show 7 + 7 ≤ 16; omega)
   split
   rotate_left
   ·rename_i hno
    exact absurd rfl hno
   refine stY hst ?_
   clear hst
   refine hK.out _ _ trivial (fun hHeld => ?_)
   clear hHeld hK K
   try simp only [Act.put, nrZ]
   have HB4 := Lib.hid (show Blk w4 B 99 (cnC x ⟨b0', r0', b1', r1'⟩) from hb_)
   have HR4 := Lib.hid (HR3.out.keep hf_ (by simp))
   have HF4 := Lib.hid (HF3.out.own1 (S := []) (B := 0) hf_ (by have := HBS.out; omega))
   have HO4 := Lib.hid (HO3.out.store HB3.out hf_ (by decide))
   clear hb_ hf_ HB3 HR3 HF3 HO3
   refine wpAnyH_done (by kernel_rfl) ?_ _
   go_upto_region 2 with fail
   refine wp_region_lit ?_
   refine ldZ (load_all agg94 size94 (xs := cnC x ⟨b0', r0', b1', r1'⟩) rfl HB4.out.at) ?_
   obtain ⟨w5, hst, hb_, hf_⟩ := store_all (t := 99) (cnC x ⟨b0', r0', b1', r1'⟩) size94 rfl (cnC_one _ _) HR4.out rfl
   refine stZ hst ?_
   clear hst
   refine wpList_nil ?_
   try simp only [Act.put, nrZ]
   have HR5 := Lib.hid hb_
   have HF5 := Lib.hid (HF4.out.own1 (S := []) (B := 0) hf_ (by have := HBS.out; omega))
   have HO5 := Lib.hid (HO4.out.store HR4.out hf_ (by decide))
   clear hb_ hf_
   go_wp2
   have hl := load_var agg94 size94 (xs := cnC x ⟨b0', r0', b1', r1'⟩) rfl HR5.out.at
   refine bodyPost_ret (v := .agg (cnC x ⟨b0', r0', b1', r1'⟩).toArray) (by simp [results, Tryz.results85, as_addr, hl]) rfl ?_
   exact ⟨⟨b0', r0', b1', r1'⟩, rfl, HO5.out, HF5.out⟩
 ·skip
  split
  rotate_left
  ·rename_i hno
   exact absurd rfl hno
  refine ldY (load_all agg90 size90 (xs := stC x.s1 q.b1 q.r1) rfl (show LiesAt wA B 7 (stC x.s1 q.b1 q.r1) from HB.out.at.part (k := 7) (n := 7) rfl)) ?_
  refine hK.out _ _ trivial (fun hHeld => ?_)
  clear hHeld hK K
  try simp only [Act.put, nrZ]
  refine rdZ 2 (fun K hK => ?_)
  split
  rotate_left
  ·rename_i hno
   exact absurd rfl hno
  refine ldY (load_all agg90 size90 (xs := stC x.s0 q.b0 q.r0) rfl (show LiesAt wA B 0 (stC x.s0 q.b0 q.r0) from HB.out.at.part (k := 0) (n := 7) rfl)) ?_
  refine hK.out _ _ trivial (fun hHeld => ?_)
  clear hHeld hK K
  try simp only [Act.put, nrZ]
  refine rdZ 3 (fun K hK => ?_)
  go_simp
  refine (sCopy_any x.s0 q.b0 q.r0 _ (HQ.out.b0.new HF.out) (HQ.out.r0.new HF.out) HN.out.n0).mono ?_
  rintro e w1 ⟨b0', r0', rfl, hob, hor, f1⟩
  have HB1 := Lib.hid (HB.out.keep f1 (by simp))
  have HR1 := Lib.hid (HR.out.keep f1 (by simp))
  have HF1 := Lib.hid (HF.out.step f1)
  have HO1 := Lib.hid (And.intro (hob.base HF.out.size) (hor.base HF.out.size))
  clear hob hor f1
  refine hK.out _ _ trivial (fun hHeld => ?_)
  clear hHeld hK K
  try simp only [Act.put, nrZ]
  refine tvZ 9 (?_) rfl ?_ ?_
  rotate_left
  ·intro w hSw
   go_simp
   try with_reducible rfl
  try simp only [Act.put, nrZ]
  refine rdZ 7 (fun K hK => ?_)
  go_simp
  refine (sCopy_any x.s1 q.b1 q.r1 _ (HQ.out.b1.new HF1.out) (HQ.out.r1.new HF1.out) HN.out.n1).mono ?_
  rintro e w2 ⟨b1', r1', rfl, hob, hor, f2⟩
  have HB2 := Lib.hid (HB1.out.keep f2 (by simp))
  have HR2 := Lib.hid (HR1.out.keep f2 (by simp))
  have HF2 := Lib.hid (HF1.out.step f2)
  have HO2 := Lib.hid (CnO.mk (x := x) (q := ⟨b0', r0', b1', r1'⟩) (HO1.out.1.new f2) (HO1.out.2.new f2) (hob.base HF1.out.size) (hor.base HF1.out.size))
  clear hob hor f2 HB1 HR1 HF1 HO1
  refine hK.out _ _ trivial (fun hHeld => ?_)
  clear hHeld hK K
  try simp only [Act.put, nrZ]
  refine rdZ 10 (fun K hK => ?_)
  obtain ⟨w3, hst, hb_, hf_⟩ := store_part (t := 95) (o := 0) (stC x.s0 b0' r0') size90 rfl (stC_one _ _ _) HB2.out (by show 0 + 7 ≤ 16; omega)
  split
  rotate_left
  ·rename_i hno
   exact absurd rfl hno
  refine stY hst ?_
  clear hst
  refine hK.out _ _ trivial (fun hHeld => ?_)
  clear hHeld hK K
  try simp only [Act.put, nrZ]
  have HB3 := Lib.hid (show Blk w3 B 99 (cnC x ⟨b0', r0', q.b1, q.r1⟩) from hb_)
  have HR3 := Lib.hid (HR2.out.keep hf_ (by simp))
  have HF3 := Lib.hid (HF2.out.own1 (S := []) (B := 0) hf_ (by have := HBS.out; omega))
  have HO3 := Lib.hid (HO2.out.store HB2.out hf_ (by decide))
  clear hb_ hf_ HB2 HR2 HF2 HO2
  refine tvZ 12 (?_) rfl ?_ ?_
  rotate_left
  ·intro w hSw
   go_simp
   try with_reducible rfl
  try simp only [Act.put, nrZ]
  refine rdZ 13 (fun K hK => ?_)
  obtain ⟨w4, hst, hb_, hf_⟩ := store_part (t := 95) (o := 7) (stC x.s1 b1' r1') size90 rfl (stC_one _ _ _) HB3.out (by show 7 + 7 ≤ 16; omega)
  split
  rotate_left
  ·rename_i hno
   exact absurd rfl hno
  refine stY hst ?_
  clear hst
  refine hK.out _ _ trivial (fun hHeld => ?_)
  clear hHeld hK K
  try simp only [Act.put, nrZ]
  have HB4 := Lib.hid (show Blk w4 B 99 (cnC x ⟨b0', r0', b1', r1'⟩) from hb_)
  have HR4 := Lib.hid (HR3.out.keep hf_ (by simp))
  have HF4 := Lib.hid (HF3.out.own1 (S := []) (B := 0) hf_ (by have := HBS.out; omega))
  have HO4 := Lib.hid (HO3.out.store HB3.out hf_ (by decide))
  clear hb_ hf_ HB3 HR3 HF3 HO3
  refine wpAnyH_done (by kernel_rfl) ?_ _
  go_upto_region 2 with fail
  refine wp_region_lit ?_
  refine ldZ (load_all agg94 size94 (xs := cnC x ⟨b0', r0', b1', r1'⟩) rfl HB4.out.at) ?_
  obtain ⟨w5, hst, hb_, hf_⟩ := store_all (t := 99) (cnC x ⟨b0', r0', b1', r1'⟩) size94 rfl (cnC_one _ _) HR4.out rfl
  refine stZ hst ?_
  clear hst
  refine wpList_nil ?_
  try simp only [Act.put, nrZ]
  have HR5 := Lib.hid hb_
  have HF5 := Lib.hid (HF4.out.own1 (S := []) (B := 0) hf_ (by have := HBS.out; omega))
  have HO5 := Lib.hid (HO4.out.store HR4.out hf_ (by decide))
  clear hb_ hf_
  go_wp2
  have hl := load_var agg94 size94 (xs := cnC x ⟨b0', r0', b1', r1'⟩) rfl HR5.out.at
  refine bodyPost_ret (v := .agg (cnC x ⟨b0', r0', b1', r1'⟩).toArray) (by simp [results, Tryz.results85, as_addr, hl]) rfl ?_
  exact ⟨⟨b0', r0', b1', r1'⟩, rfl, HO5.out, HF5.out⟩
theorem refCodeG (e : Int) (h : e = 13 ∨ e = 14) (w : World) : Calls Tryz.prog 140 #[.int .i64 e] w fun r w' => r = .returned (.bool true) ∧ w' = w := by
 rcases h with rfl | rfl
 ·go_enter Tryz.func140, Tryz.ntmps140
  go_wp2
  go_ret
  exact ⟨rfl, rfl⟩
 ·go_enter Tryz.func140, Tryz.ntmps140
  go_wp2
  go_ret
  exact ⟨rfl, rfl⟩
theorem refEndG (e : Int) (h : e = 0 ∨ e = 1) (w : World) : Calls Tryz.prog 57 #[.int .i64 e] w fun r w' => r = .returned (.bool true) ∧ w' = w := by
 rcases h with rfl | rfl
 ·go_enter Tryz.func57, Tryz.ntmps57
  go_wp2
  go_ret
  exact ⟨rfl, rfl⟩
 ·go_enter Tryz.func57, Tryz.ntmps57
  go_wp2
  go_ret
  exact ⟨rfl, rfl⟩
def SS.closeW (x : SS) (e : Int) : SS × Int := if x.wr = 0 then ({ x with wr := e }, 0) else (x, 14)
def SS.closeRb (x : SS) (b : Sli) : Sli := if x.rd = 0 then (none, 0, 0) else b
def SS.closeR (x : SS) (e : Int) : SS × Int := if x.rd = 0 then ({ x with rd := e, buf := [] }, 0) else (x, 14)
theorem sCloseW_any (x : SS) (b r : Sli) (w : World) :
  Calls Tryz.prog 119 #[.agg (stC x b r).toArray, .int .i64 13] w fun e w' => e = .returned (.tuple #[.agg (stC (x.closeW 13).1 b r).toArray, .int .i64 (x.closeW 13).2]) ∧ Fr [] w w' := by
 unfold SS.closeW
 by_cases h0 : x.wr = 0
 ·skip
  rw [if_pos h0]
  have d0 : (x.wr == 0) = true := beq_iff_eq.2 h0
  have d1 : decide (x.wr = 0) = true := decide_eq_true h0
  clear h0
  obtain ⟨B, hB⟩ : ∃ B, w.heap.size = B := ⟨_, rfl⟩
  obtain ⟨wA, hwA⟩ : ∃ z, (w.alloc (.cells (stC x b r).toArray 95)).alloc (.cells #[.int .i64 0, .slice none 0 0, .bool false, .slice none 0 0, .int .i64 0, .int .i64 0, .int .i64 0] 95) = z := ⟨_, rfl⟩
  have hb1 : Blk wA B 95 (stC x b r) := by
   rw [← hwA, ← hB]
   exact (Blk.made w _ (stC x b r)).keep ((Fr.refl [] _).alloc _) (by simp)
  have hr1 : Blk wA (B + 1) 95 zSt := by
   have h := Blk.made (w.alloc (.cells (stC x b r).toArray 95)) 95 zSt
   rw [show (w.alloc (.cells (stC x b r).toArray 95)).heap.size = B + 1 from by rw [← hB]; simp] at h
   rw [← hwA]
   exact h
  have hf : Fr [] w wA := by rw [← hwA]; exact ((Fr.refl [] w).alloc _).alloc _
  have HB := Lib.hid hb1
  have HR := Lib.hid hr1
  have HF := Lib.hid hf
  have HBS := Lib.hid hB
  have HWA := Lib.hid hwA
  have c5 : wA.cell? ⟨B, 5, none⟩ = some (.int .i64 x.wr) := hb1.at 5 _ rfl
  clear hb1 hr1 hf hB hwA
  go_enter Tryz.func119, Tryz.ntmps119
  go_wp2_with fail
  rw [HWA.out]
  simp only [HBS.out]
  refine (refCodeG 13 (.inl rfl) _).mono ?_
  rintro e w' ⟨rfl, rfl⟩
  go_upto_region 5 with fail
  clear c5
  refine wp_region_lit ?_
  iterate 2 (refine wpList_plain rfl (fun K hK => ?_); go_simp; refine hK _ _ ?_; clear hK K)
  try simp only [Act.put, nrZ]
  obtain ⟨w2, hst, hb_, hf_⟩ := store_cell (t := 42) (o := 5) (.int .i64 13) size30 rfl rfl HB.out (by show 5 + 1 ≤ 7; omega)
  refine stZ hst ?_
  clear hst
  refine wpList_nil ?_
  try simp only [Act.put, nrZ]
  have HB2 := Lib.hid (show Blk w2 B 95 (stC { x with wr := 13 } b r) from hb_)
  have HR2 := Lib.hid (HR.out.keep hf_ (by simp))
  have HF2 := Lib.hid (HF.out.own1 (S := []) (B := 0) hf_ (by have := HBS.out; omega))
  clear hb_ hf_ HB HR HF
  have HR := HR2
  go_upto_region 6 with fail
  refine wp_region_lit ?_
  refine ldZ (load_all agg90 size90 (xs := stC { x with wr := 13 } b r) rfl HB2.out.at) ?_
  obtain ⟨w9, hst, hb_, hf_⟩ := store_all (t := 95) (stC { x with wr := 13 } b r) size90 rfl (stC_one _ _ _) HR.out rfl
  refine stZ hst ?_
  clear hst
  refine wpList_plain rfl (fun K hK => ?_); go_simp; refine hK _ _ ?_; clear hK K
  refine wpList_nil ?_
  try simp only [Act.put, nrZ]
  have HR9 := Lib.hid hb_
  have HF9 := Lib.hid (HF2.out.own1 (S := []) (B := 0) hf_ (by have := HBS.out; omega))
  clear hb_ hf_
  go_wp2
  have hl := load_var agg90 size90 (xs := stC { x with wr := 13 } b r) rfl HR9.out.at
  refine bodyPost_ret (v := .tuple #[.agg (stC { x with wr := 13 } b r).toArray, .int .i64 0]) (by simp [results, Tryz.results119, as_addr, hl]) rfl ?_
  exact ⟨rfl, HF9.out⟩
 ·skip
  rw [if_neg h0]
  have d0 : (x.wr == 0) = false := beq_eq_false_iff_ne.2 h0
  have d1 : decide (x.wr = 0) = false := decide_eq_false h0
  clear h0
  obtain ⟨B, hB⟩ : ∃ B, w.heap.size = B := ⟨_, rfl⟩
  obtain ⟨wA, hwA⟩ : ∃ z, (w.alloc (.cells (stC x b r).toArray 95)).alloc (.cells #[.int .i64 0, .slice none 0 0, .bool false, .slice none 0 0, .int .i64 0, .int .i64 0, .int .i64 0] 95) = z := ⟨_, rfl⟩
  have hb1 : Blk wA B 95 (stC x b r) := by
   rw [← hwA, ← hB]
   exact (Blk.made w _ (stC x b r)).keep ((Fr.refl [] _).alloc _) (by simp)
  have hr1 : Blk wA (B + 1) 95 zSt := by
   have h := Blk.made (w.alloc (.cells (stC x b r).toArray 95)) 95 zSt
   rw [show (w.alloc (.cells (stC x b r).toArray 95)).heap.size = B + 1 from by rw [← hB]; simp] at h
   rw [← hwA]
   exact h
  have hf : Fr [] w wA := by rw [← hwA]; exact ((Fr.refl [] w).alloc _).alloc _
  have HB := Lib.hid hb1
  have HR := Lib.hid hr1
  have HF := Lib.hid hf
  have HBS := Lib.hid hB
  have HWA := Lib.hid hwA
  have c5 : wA.cell? ⟨B, 5, none⟩ = some (.int .i64 x.wr) := hb1.at 5 _ rfl
  clear hb1 hr1 hf hB hwA
  go_enter Tryz.func119, Tryz.ntmps119
  go_wp2_with fail
  rw [HWA.out]
  simp only [HBS.out]
  refine (refCodeG 13 (.inl rfl) _).mono ?_
  rintro e w' ⟨rfl, rfl⟩
  go_upto_region 4 with fail
  clear c5
  refine wp_region_lit ?_
  refine ldZ (load_all agg90 size90 (xs := stC x b r) rfl HB.out.at) ?_
  obtain ⟨w9, hst, hb_, hf_⟩ := store_all (t := 95) (stC x b r) size90 rfl (stC_one _ _ _) HR.out rfl
  refine stZ hst ?_
  clear hst
  refine wpList_plain rfl (fun K hK => ?_); go_simp; refine hK _ _ ?_; clear hK K
  refine wpList_nil ?_
  try simp only [Act.put, nrZ]
  have HR9 := Lib.hid hb_
  have HF9 := Lib.hid (HF.out.own1 (S := []) (B := 0) hf_ (by have := HBS.out; omega))
  clear hb_ hf_
  go_wp2
  have hl := load_var agg90 size90 (xs := stC x b r) rfl HR9.out.at
  refine bodyPost_ret (v := .tuple #[.agg (stC x b r).toArray, .int .i64 14]) (by simp [results, Tryz.results119, as_addr, hl]) rfl ?_
  exact ⟨rfl, HF9.out⟩
theorem sCloseR_any (x : SS) (b r : Sli) (w : World) :
  Calls Tryz.prog 120 #[.agg (stC x b r).toArray, .int .i64 14] w fun e w' => e = .returned (.tuple #[.agg (stC (x.closeR 14).1 (x.closeRb b) r).toArray, .int .i64 (x.closeR 14).2]) ∧ Fr [] w w' := by
 unfold SS.closeR SS.closeRb
 by_cases h0 : x.rd = 0
 ·skip
  rw [if_pos h0, if_pos h0]
  have d0 : (x.rd == 0) = true := beq_iff_eq.2 h0
  have d1 : decide (x.rd = 0) = true := decide_eq_true h0
  clear h0
  obtain ⟨B, hB⟩ : ∃ B, w.heap.size = B := ⟨_, rfl⟩
  obtain ⟨wA, hwA⟩ : ∃ z, (w.alloc (.cells (stC x b r).toArray 95)).alloc (.cells #[.int .i64 0, .slice none 0 0, .bool false, .slice none 0 0, .int .i64 0, .int .i64 0, .int .i64 0] 95) = z := ⟨_, rfl⟩
  have hb1 : Blk wA B 95 (stC x b r) := by
   rw [← hwA, ← hB]
   exact (Blk.made w _ (stC x b r)).keep ((Fr.refl [] _).alloc _) (by simp)
  have hr1 : Blk wA (B + 1) 95 zSt := by
   have h := Blk.made (w.alloc (.cells (stC x b r).toArray 95)) 95 zSt
   rw [show (w.alloc (.cells (stC x b r).toArray 95)).heap.size = B + 1 from by rw [← hB]; simp] at h
   rw [← hwA]
   exact h
  have hf : Fr [] w wA := by rw [← hwA]; exact ((Fr.refl [] w).alloc _).alloc _
  have HB := Lib.hid hb1
  have HR := Lib.hid hr1
  have HF := Lib.hid hf
  have HBS := Lib.hid hB
  have HWA := Lib.hid hwA
  have c5 : wA.cell? ⟨B, 6, none⟩ = some (.int .i64 x.rd) := hb1.at 6 _ rfl
  clear hb1 hr1 hf hB hwA
  go_enter Tryz.func120, Tryz.ntmps120
  go_wp2_with fail
  rw [HWA.out]
  simp only [HBS.out]
  refine (refCodeG 14 (.inr rfl) _).mono ?_
  rintro e w' ⟨rfl, rfl⟩
  go_upto_region 5 with fail
  clear c5
  refine wp_region_lit ?_
  iterate 2 (refine wpList_plain rfl (fun K hK => ?_); go_simp; refine hK _ _ ?_; clear hK K)
  try simp only [Act.put, nrZ]
  obtain ⟨w2, hst, hb_, hf_⟩ := store_cell (t := 42) (o := 6) (.int .i64 14) size30 rfl rfl HB.out (by show 6 + 1 ≤ 7; omega)
  refine stZ hst ?_
  clear hst
  have HB1 := Lib.hid (show Blk w2 B 95 (stC { x with rd := 14 } b r) from hb_)
  have HR1 := Lib.hid (HR.out.keep hf_ (by simp))
  have HF1 := Lib.hid (HF.out.own1 (S := []) (B := 0) hf_ (by have := HBS.out; omega))
  clear hb_ hf_ HB HR HF
  refine wpList_plain rfl (fun K hK => ?_); go_simp; refine hK _ _ ?_; clear hK K
  try simp only [Act.put, nrZ]
  obtain ⟨w3, hst, hb_, hf_⟩ := store_cell (t := 93) (o := 1) (slv (none, 0, 0)) size22 rfl rfl HB1.out (by show 1 + 1 ≤ 7; omega)
  refine stZ hst ?_
  clear hst
  refine wpList_nil ?_
  try simp only [Act.put, nrZ]
  have HB2 := Lib.hid (show Blk w3 B 95 (stC { x with rd := 14, buf := [] } (none, 0, 0) r) from hb_)
  have HR2 := Lib.hid (HR1.out.keep hf_ (by simp))
  have HF2 := Lib.hid (HF1.out.own1 (S := []) (B := 0) hf_ (by have := HBS.out; omega))
  clear hb_ hf_ HB1 HR1 HF1
  have HR := HR2
  go_upto_region 6 with fail
  refine wp_region_lit ?_
  refine ldZ (load_all agg90 size90 (xs := stC { x with rd := 14, buf := [] } (none, 0, 0) r) rfl HB2.out.at) ?_
  obtain ⟨w9, hst, hb_, hf_⟩ := store_all (t := 95) (stC { x with rd := 14, buf := [] } (none, 0, 0) r) size90 rfl (stC_one _ _ _) HR.out rfl
  refine stZ hst ?_
  clear hst
  refine wpList_plain rfl (fun K hK => ?_); go_simp; refine hK _ _ ?_; clear hK K
  refine wpList_nil ?_
  try simp only [Act.put, nrZ]
  have HR9 := Lib.hid hb_
  have HF9 := Lib.hid (HF2.out.own1 (S := []) (B := 0) hf_ (by have := HBS.out; omega))
  clear hb_ hf_
  go_wp2
  have hl := load_var agg90 size90 (xs := stC { x with rd := 14, buf := [] } (none, 0, 0) r) rfl HR9.out.at
  refine bodyPost_ret (v := .tuple #[.agg (stC { x with rd := 14, buf := [] } (none, 0, 0) r).toArray, .int .i64 0]) (by simp [results, Tryz.results120, as_addr, hl]) rfl ?_
  exact ⟨rfl, HF9.out⟩
 ·skip
  rw [if_neg h0, if_neg h0]
  have d0 : (x.rd == 0) = false := beq_eq_false_iff_ne.2 h0
  have d1 : decide (x.rd = 0) = false := decide_eq_false h0
  clear h0
  obtain ⟨B, hB⟩ : ∃ B, w.heap.size = B := ⟨_, rfl⟩
  obtain ⟨wA, hwA⟩ : ∃ z, (w.alloc (.cells (stC x b r).toArray 95)).alloc (.cells #[.int .i64 0, .slice none 0 0, .bool false, .slice none 0 0, .int .i64 0, .int .i64 0, .int .i64 0] 95) = z := ⟨_, rfl⟩
  have hb1 : Blk wA B 95 (stC x b r) := by
   rw [← hwA, ← hB]
   exact (Blk.made w _ (stC x b r)).keep ((Fr.refl [] _).alloc _) (by simp)
  have hr1 : Blk wA (B + 1) 95 zSt := by
   have h := Blk.made (w.alloc (.cells (stC x b r).toArray 95)) 95 zSt
   rw [show (w.alloc (.cells (stC x b r).toArray 95)).heap.size = B + 1 from by rw [← hB]; simp] at h
   rw [← hwA]
   exact h
  have hf : Fr [] w wA := by rw [← hwA]; exact ((Fr.refl [] w).alloc _).alloc _
  have HB := Lib.hid hb1
  have HR := Lib.hid hr1
  have HF := Lib.hid hf
  have HBS := Lib.hid hB
  have HWA := Lib.hid hwA
  have c5 : wA.cell? ⟨B, 6, none⟩ = some (.int .i64 x.rd) := hb1.at 6 _ rfl
  clear hb1 hr1 hf hB hwA
  go_enter Tryz.func120, Tryz.ntmps120
  go_wp2_with fail
  rw [HWA.out]
  simp only [HBS.out]
  refine (refCodeG 14 (.inr rfl) _).mono ?_
  rintro e w' ⟨rfl, rfl⟩
  go_upto_region 4 with fail
  clear c5
  refine wp_region_lit ?_
  refine ldZ (load_all agg90 size90 (xs := stC x b r) rfl HB.out.at) ?_
  obtain ⟨w9, hst, hb_, hf_⟩ := store_all (t := 95) (stC x b r) size90 rfl (stC_one _ _ _) HR.out rfl
  refine stZ hst ?_
  clear hst
  refine wpList_plain rfl (fun K hK => ?_); go_simp; refine hK _ _ ?_; clear hK K
  refine wpList_nil ?_
  try simp only [Act.put, nrZ]
  have HR9 := Lib.hid hb_
  have HF9 := Lib.hid (HF.out.own1 (S := []) (B := 0) hf_ (by have := HBS.out; omega))
  clear hb_ hf_
  go_wp2
  have hl := load_var agg90 size90 (xs := stC x b r) rfl HR9.out.at
  refine bodyPost_ret (v := .tuple #[.agg (stC x b r).toArray, .int .i64 14]) (by simp [results, Tryz.results120, as_addr, hl]) rfl ?_
  exact ⟨rfl, HF9.out⟩
def CC.closeW (x : CC) (e : Bool) : CC × Int := if e then ({ x with s1 := (x.s1.closeW 13).1 }, (x.s1.closeW 13).2) else ({ x with s0 := (x.s0.closeW 13).1 }, (x.s0.closeW 13).2)
def CC.closeR (x : CC) (e : Bool) : CC × Int := if e then ({ x with s0 := (x.s0.closeR 14).1 }, (x.s0.closeR 14).2) else ({ x with s1 := (x.s1.closeR 14).1 }, (x.s1.closeR 14).2)
def CC.closeRq (x : CC) (q : Q4) (e : Bool) : Q4 := if e then { q with b0 := x.s0.closeRb q.b0 } else { q with b1 := x.s1.closeRb q.b1 }
theorem dCloseW_0 (x : CC) (q : Q4) (w : World) :
  Calls Tryz.prog 96 #[.agg (cnC x q).toArray, .int .i64 0] w fun e w' => e = .returned (.tuple #[.agg (cnC (x.closeW false).1 q).toArray, .int .i64 (x.closeW false).2]) ∧ Fr [] w w' := by
 obtain ⟨B, hB⟩ : ∃ B, w.heap.size = B := ⟨_, rfl⟩
 obtain ⟨wA, hwA⟩ : ∃ z, (w.alloc (.cells (cnC x q).toArray 99)).alloc (.cells #[.int .i64 0, .slice none 0 0, .bool false, .slice none 0 0, .int .i64 0, .int .i64 0, .int .i64 0, .int .i64 0, .slice none 0 0, .bool false, .slice none 0 0, .int .i64 0, .int .i64 0, .int .i64 0, .bool false, .bool false] 99) = z := ⟨_, rfl⟩
 have hb1 : Blk wA B 99 (cnC x q) := by
  rw [← hwA, ← hB]
  exact (Blk.made w _ (cnC x q)).keep ((Fr.refl [] _).alloc _) (by simp)
 have hr1 : Blk wA (B + 1) 99 zCn := by
  have h := Blk.made (w.alloc (.cells (cnC x q).toArray 99)) 99 zCn
  rw [show (w.alloc (.cells (cnC x q).toArray 99)).heap.size = B + 1 from by rw [← hB]; simp] at h
  rw [← hwA]
  exact h
 have hf : Fr [] w wA := by rw [← hwA]; exact ((Fr.refl [] w).alloc _).alloc _
 have HB := Lib.hid hb1
 have HR := Lib.hid hr1
 have HF := Lib.hid hf
 have HBS := Lib.hid hB
 have HWA := Lib.hid hwA
 clear hb1 hr1 hf hB hwA
 
 go_enter Tryz.func96, Tryz.ntmps96
 go_wp2_with fail
 rw [HWA.out]
 simp only [HBS.out]
 refine (refEndG 0 (by omega) _).mono ?_
 rintro e w' ⟨rfl, rfl⟩
 go_upto_region 3 with fail
 have hw1 : IntKind.i64.wrap 1 = 1 := by decide
 have hw0 : IntKind.i64.wrap 0 = 0 := by decide
 refine wp_region_lit ?_
 iterate 3 (refine wpList_plain rfl (fun K hK => ?_); go_simp; refine hK _ _ ?_; clear hK K)
 try simp only [Act.put, nrZ]
 refine ldZ (load_all agg90 size90 (xs := stC x.s0 q.b0 q.r0) rfl (show LiesAt w' B 0 (stC x.s0 q.b0 q.r0) from HB.out.at.part (k := 0) (n := 7) rfl)) ?_
 refine wpList_plain rfl (fun K hK => ?_)
 go_simp
 refine (sCloseW_any x.s0 q.b0 q.r0 _).mono ?_
 rintro e w1 ⟨rfl, f1⟩
 refine hK _ _ ?_
 clear hK K
 try simp only [Act.put, nrZ]
 have HB1 := Lib.hid (HB.out.keep f1 (by simp))
 have HR1 := Lib.hid (HR.out.keep f1 (by simp))
 have HF1 := Lib.hid (HF.out.step f1)
 clear f1 HB HR HF HWA
 iterate 4 (refine wpList_plain rfl (fun K hK => ?_); go_simp; refine hK _ _ ?_; clear hK K)
 try simp only [Act.put, nrZ]
 obtain ⟨E1, hE1⟩ : ∃ E, w1.heap.size = E := ⟨_, rfl⟩
 obtain ⟨wx, hwx⟩ : ∃ z, w1.alloc (.cells #[.int .i64 0, .slice none 0 0, .bool false, .slice none 0 0, .int .i64 0, .int .i64 0, .int .i64 0] 95) = z := ⟨_, rfl⟩
 have hbx : Blk wx E1 95 zSt := by rw [← hwx, ← hE1]; exact Blk.made w1 95 zSt
 have fx : Fr [] w1 wx := by rw [← hwx]; exact (Fr.refl [] w1).alloc _
 rw [hwx]
 simp only [hE1]
 have HE1 := Lib.hid (show w.heap.size ≤ E1 from by rw [← hE1]; exact HF1.out.size)
 have HEB := Lib.hid (show B < E1 ∧ B + 1 < E1 from by rw [← hE1]; exact ⟨HB1.out.lt, HR1.out.lt⟩)
 have HB2 := Lib.hid (HB1.out.keep fx (by simp))
 have HR2 := Lib.hid (HR1.out.keep fx (by simp))
 have HF2 := Lib.hid (HF1.out.step fx)
 have HX2 := Lib.hid hbx
 clear fx hbx hwx hE1 HB1 HR1 HF1
 obtain ⟨w2, hst, hb_, hf_⟩ := store_all (t := 95) (stC (x.s0.closeW 13).1 q.b0 q.r0) size90 rfl (stC_one _ _ _) HX2.out rfl
 refine stZ hst ?_
 clear hst
 have HX3 := Lib.hid hb_
 have HB3 := Lib.hid (HB2.out.keep hf_ (fun hm => by rw [List.mem_singleton] at hm; have := HEB.out; omega))
 have HR3 := Lib.hid (HR2.out.keep hf_ (fun hm => by rw [List.mem_singleton] at hm; have := HEB.out; omega))
 have HF3 := Lib.hid (HF2.out.own1 (S := []) (B := 0) hf_ HE1.out)
 clear hb_ hf_ HB2 HR2 HF2 HX2
 refine wpList_plain rfl (fun K hK => ?_); go_simp; refine hK _ _ ?_; clear hK K
 refine wpList_nil ?_
 try simp only [Act.put, nrZ]
 go_upto_region 4 with fail
 refine wp_region_lit ?_
 refine wpList_plain rfl (fun K hK => ?_); go_simp; refine hK _ _ ?_; clear hK K
 try simp only [Act.put, nrZ]
 refine ldZ (load_all agg90 size90 (xs := stC (x.s0.closeW 13).1 q.b0 q.r0) rfl HX3.out.at) ?_
 iterate 2 (refine wpList_plain rfl (fun K hK => ?_); go_simp; refine hK _ _ ?_; clear hK K)
 try simp only [Act.put, nrZ]
 obtain ⟨w3, hst, hb_, hf_⟩ := store_part (t := 95) (o := 0) (stC (x.s0.closeW 13).1 q.b0 q.r0) size90 rfl (stC_one _ _ _) HB3.out (by show 0 + 7 ≤ 16; omega)
 refine stZ hst ?_
 clear hst
 refine wpList_nil ?_
 try simp only [Act.put, nrZ]
 have HB4 := Lib.hid (show Blk w3 B 99 (cnC (x.closeW false).1 q) from hb_)
 have HR4 := Lib.hid (HR3.out.keep hf_ (by simp))
 have HF4 := Lib.hid (HF3.out.own1 (S := []) (B := 0) hf_ (by have := HBS.out; omega))
 clear hb_ hf_ HB3 HR3 HF3 HX3
 go_upto_region 5 with fail
 refine wp_region_lit ?_
 refine ldZ (load_all agg94 size94 (xs := cnC (x.closeW false).1 q) rfl HB4.out.at) ?_
 refine wpList_plain rfl (fun K hK => ?_); go_simp; refine hK _ _ ?_; clear hK K
 try simp only [Act.put, nrZ]
 obtain ⟨w4, hst, hb_, hf_⟩ := store_all (t := 99) (cnC (x.closeW false).1 q) size94 rfl (cnC_one _ _) HR4.out rfl
 refine stZ hst ?_
 clear hst
 refine wpList_plain rfl (fun K hK => ?_); go_simp; refine hK _ _ ?_; clear hK K
 refine wpList_nil ?_
 try simp only [Act.put, nrZ]
 have HR5 := Lib.hid hb_
 have HF5 := Lib.hid (HF4.out.own1 (S := []) (B := 0) hf_ (by have := HBS.out; omega))
 clear hb_ hf_
 go_wp2
 have hl := load_var agg94 size94 (xs := cnC (x.closeW false).1 q) rfl HR5.out.at
 refine bodyPost_ret (v := .tuple #[.agg (cnC (x.closeW false).1 q).toArray, .int .i64 (x.s0.closeW 13).2]) (by simp [results, Tryz.results96, as_addr, hl]) rfl ?_
 exact ⟨rfl, HF5.out⟩
theorem dCloseW_1 (x : CC) (q : Q4) (w : World) :
  Calls Tryz.prog 96 #[.agg (cnC x q).toArray, .int .i64 1] w fun e w' => e = .returned (.tuple #[.agg (cnC (x.closeW true).1 q).toArray, .int .i64 (x.closeW true).2]) ∧ Fr [] w w' := by
 obtain ⟨B, hB⟩ : ∃ B, w.heap.size = B := ⟨_, rfl⟩
 obtain ⟨wA, hwA⟩ : ∃ z, (w.alloc (.cells (cnC x q).toArray 99)).alloc (.cells #[.int .i64 0, .slice none 0 0, .bool false, .slice none 0 0, .int .i64 0, .int .i64 0, .int .i64 0, .int .i64 0, .slice none 0 0, .bool false, .slice none 0 0, .int .i64 0, .int .i64 0, .int .i64 0, .bool false, .bool false] 99) = z := ⟨_, rfl⟩
 have hb1 : Blk wA B 99 (cnC x q) := by
  rw [← hwA, ← hB]
  exact (Blk.made w _ (cnC x q)).keep ((Fr.refl [] _).alloc _) (by simp)
 have hr1 : Blk wA (B + 1) 99 zCn := by
  have h := Blk.made (w.alloc (.cells (cnC x q).toArray 99)) 99 zCn
  rw [show (w.alloc (.cells (cnC x q).toArray 99)).heap.size = B + 1 from by rw [← hB]; simp] at h
  rw [← hwA]
  exact h
 have hf : Fr [] w wA := by rw [← hwA]; exact ((Fr.refl [] w).alloc _).alloc _
 have HB := Lib.hid hb1
 have HR := Lib.hid hr1
 have HF := Lib.hid hf
 have HBS := Lib.hid hB
 have HWA := Lib.hid hwA
 clear hb1 hr1 hf hB hwA
 
 go_enter Tryz.func96, Tryz.ntmps96
 go_wp2_with fail
 rw [HWA.out]
 simp only [HBS.out]
 refine (refEndG 1 (by omega) _).mono ?_
 rintro e w' ⟨rfl, rfl⟩
 go_upto_region 3 with fail
 have hw1 : IntKind.i64.wrap 1 = 1 := by decide
 have hw0 : IntKind.i64.wrap 0 = 0 := by decide
 refine wp_region_lit ?_
 iterate 3 (refine wpList_plain rfl (fun K hK => ?_); go_simp; refine hK _ _ ?_; clear hK K)
 try simp only [Act.put, nrZ]
 refine ldZ (load_all agg90 size90 (xs := stC x.s1 q.b1 q.r1) rfl (show LiesAt w' B 7 (stC x.s1 q.b1 q.r1) from HB.out.at.part (k := 7) (n := 7) rfl)) ?_
 refine wpList_plain rfl (fun K hK => ?_)
 go_simp
 refine (sCloseW_any x.s1 q.b1 q.r1 _).mono ?_
 rintro e w1 ⟨rfl, f1⟩
 refine hK _ _ ?_
 clear hK K
 try simp only [Act.put, nrZ]
 have HB1 := Lib.hid (HB.out.keep f1 (by simp))
 have HR1 := Lib.hid (HR.out.keep f1 (by simp))
 have HF1 := Lib.hid (HF.out.step f1)
 clear f1 HB HR HF HWA
 iterate 4 (refine wpList_plain rfl (fun K hK => ?_); go_simp; refine hK _ _ ?_; clear hK K)
 try simp only [Act.put, nrZ]
 obtain ⟨E1, hE1⟩ : ∃ E, w1.heap.size = E := ⟨_, rfl⟩
 obtain ⟨wx, hwx⟩ : ∃ z, w1.alloc (.cells #[.int .i64 0, .slice none 0 0, .bool false, .slice none 0 0, .int .i64 0, .int .i64 0, .int .i64 0] 95) = z := ⟨_, rfl⟩
 have hbx : Blk wx E1 95 zSt := by rw [← hwx, ← hE1]; exact Blk.made w1 95 zSt
 have fx : Fr [] w1 wx := by rw [← hwx]; exact (Fr.refl [] w1).alloc _
 rw [hwx]
 simp only [hE1]
 have HE1 := Lib.hid (show w.heap.size ≤ E1 from by rw [← hE1]; exact HF1.out.size)
 have HEB := Lib.hid (show B < E1 ∧ B + 1 < E1 from by rw [← hE1]; exact ⟨HB1.out.lt, HR1.out.lt⟩)
 have HB2 := Lib.hid (HB1.out.keep fx (by simp))
 have HR2 := Lib.hid (HR1.out.keep fx (by simp))
 have HF2 := Lib.hid (HF1.out.step fx)
 have HX2 := Lib.hid hbx
 clear fx hbx hwx hE1 HB1 HR1 HF1
 obtain ⟨w2, hst, hb_, hf_⟩ := store_all (t := 95) (stC (x.s1.closeW 13).1 q.b1 q.r1) size90 rfl (stC_one _ _ _) HX2.out rfl
 refine stZ hst ?_
 clear hst
 have HX3 := Lib.hid hb_
 have HB3 := Lib.hid (HB2.out.keep hf_ (fun hm => by rw [List.mem_singleton] at hm; have := HEB.out; omega))
 have HR3 := Lib.hid (HR2.out.keep hf_ (fun hm => by rw [List.mem_singleton] at hm; have := HEB.out; omega))
 have HF3 := Lib.hid (HF2.out.own1 (S := []) (B := 0) hf_ HE1.out)
 clear hb_ hf_ HB2 HR2 HF2 HX2
 refine wpList_plain rfl (fun K hK => ?_); go_simp; refine hK _ _ ?_; clear hK K
 refine wpList_nil ?_
 try simp only [Act.put, nrZ]
 go_upto_region 4 with fail
 refine wp_region_lit ?_
 refine wpList_plain rfl (fun K hK => ?_); go_simp; refine hK _ _ ?_; clear hK K
 try simp only [Act.put, nrZ]
 refine ldZ (load_all agg90 size90 (xs := stC (x.s1.closeW 13).1 q.b1 q.r1) rfl HX3.out.at) ?_
 iterate 2 (refine wpList_plain rfl (fun K hK => ?_); go_simp; refine hK _ _ ?_; clear hK K)
 try simp only [Act.put, nrZ]
 obtain ⟨w3, hst, hb_, hf_⟩ := store_part (t := 95) (o := 7) (stC (x.s1.closeW 13).1 q.b1 q.r1) size90 rfl (stC_one _ _ _) HB3.out (by show 7 + 7 ≤ 16; omega)
 refine stZ hst ?_
 clear hst
 refine wpList_nil ?_
 try simp only [Act.put, nrZ]
 have HB4 := Lib.hid (show Blk w3 B 99 (cnC (x.closeW true).1 q) from hb_)
 have HR4 := Lib.hid (HR3.out.keep hf_ (by simp))
 have HF4 := Lib.hid (HF3.out.own1 (S := []) (B := 0) hf_ (by have := HBS.out; omega))
 clear hb_ hf_ HB3 HR3 HF3 HX3
 go_upto_region 5 with fail
 refine wp_region_lit ?_
 refine ldZ (load_all agg94 size94 (xs := cnC (x.closeW true).1 q) rfl HB4.out.at) ?_
 refine wpList_plain rfl (fun K hK => ?_); go_simp; refine hK _ _ ?_; clear hK K
 try simp only [Act.put, nrZ]
 obtain ⟨w4, hst, hb_, hf_⟩ := store_all (t := 99) (cnC (x.closeW true).1 q) size94 rfl (cnC_one _ _) HR4.out rfl
 refine stZ hst ?_
 clear hst
 refine wpList_plain rfl (fun K hK => ?_); go_simp; refine hK _ _ ?_; clear hK K
 refine wpList_nil ?_
 try simp only [Act.put, nrZ]
 have HR5 := Lib.hid hb_
 have HF5 := Lib.hid (HF4.out.own1 (S := []) (B := 0) hf_ (by have := HBS.out; omega))
 clear hb_ hf_
 go_wp2
 have hl := load_var agg94 size94 (xs := cnC (x.closeW true).1 q) rfl HR5.out.at
 refine bodyPost_ret (v := .tuple #[.agg (cnC (x.closeW true).1 q).toArray, .int .i64 (x.s1.closeW 13).2]) (by simp [results, Tryz.results96, as_addr, hl]) rfl ?_
 exact ⟨rfl, HF5.out⟩
theorem dCloseR_0 (x : CC) (q : Q4) (w : World) :
  Calls Tryz.prog 97 #[.agg (cnC x q).toArray, .int .i64 0] w fun e w' => e = .returned (.tuple #[.agg (cnC (x.closeR false).1 (x.closeRq q false)).toArray, .int .i64 (x.closeR false).2]) ∧ Fr [] w w' := by
 obtain ⟨B, hB⟩ : ∃ B, w.heap.size = B := ⟨_, rfl⟩
 obtain ⟨wA, hwA⟩ : ∃ z, (w.alloc (.cells (cnC x q).toArray 99)).alloc (.cells #[.int .i64 0, .slice none 0 0, .bool false, .slice none 0 0, .int .i64 0, .int .i64 0, .int .i64 0, .int .i64 0, .slice none 0 0, .bool false, .slice none 0 0, .int .i64 0, .int .i64 0, .int .i64 0, .bool false, .bool false] 99) = z := ⟨_, rfl⟩
 have hb1 : Blk wA B 99 (cnC x q) := by
  rw [← hwA, ← hB]
  exact (Blk.made w _ (cnC x q)).keep ((Fr.refl [] _).alloc _) (by simp)
 have hr1 : Blk wA (B + 1) 99 zCn := by
  have h := Blk.made (w.alloc (.cells (cnC x q).toArray 99)) 99 zCn
  rw [show (w.alloc (.cells (cnC x q).toArray 99)).heap.size = B + 1 from by rw [← hB]; simp] at h
  rw [← hwA]
  exact h
 have hf : Fr [] w wA := by rw [← hwA]; exact ((Fr.refl [] w).alloc _).alloc _
 have HB := Lib.hid hb1
 have HR := Lib.hid hr1
 have HF := Lib.hid hf
 have HBS := Lib.hid hB
 have HWA := Lib.hid hwA
 clear hb1 hr1 hf hB hwA
 
 go_enter Tryz.func97, Tryz.ntmps97
 go_wp2_with fail
 rw [HWA.out]
 simp only [HBS.out]
 refine (refEndG 0 (by omega) _).mono ?_
 rintro e w' ⟨rfl, rfl⟩
 go_upto_region 3 with fail
 have hw1 : IntKind.i64.wrap 1 = 1 := by decide
 have hw0 : IntKind.i64.wrap 0 = 0 := by decide
 refine wp_region_lit ?_
 iterate 4 (refine wpList_plain rfl (fun K hK => ?_); go_simp; refine hK _ _ ?_; clear hK K)
 try simp only [Act.put, nrZ]
 refine ldZ (load_all agg90 size90 (xs := stC x.s1 q.b1 q.r1) rfl (show LiesAt w' B 7 (stC x.s1 q.b1 q.r1) from HB.out.at.part (k := 7) (n := 7) rfl)) ?_
 refine wpList_plain rfl (fun K hK => ?_)
 go_simp
 refine (sCloseR_any x.s1 q.b1 q.r1 _).mono ?_
 rintro e w1 ⟨rfl, f1⟩
 refine hK _ _ ?_
 clear hK K
 try simp only [Act.put, nrZ]
 have HB1 := Lib.hid (HB.out.keep f1 (by simp))
 have HR1 := Lib.hid (HR.out.keep f1 (by simp))
 have HF1 := Lib.hid (HF.out.step f1)
 clear f1 HB HR HF HWA
 iterate 4 (refine wpList_plain rfl (fun K hK => ?_); go_simp; refine hK _ _ ?_; clear hK K)
 try simp only [Act.put, nrZ]
 obtain ⟨E1, hE1⟩ : ∃ E, w1.heap.size = E := ⟨_, rfl⟩
 obtain ⟨wx, hwx⟩ : ∃ z, w1.alloc (.cells #[.int .i64 0, .slice none 0 0, .bool false, .slice none 0 0, .int .i64 0, .int .i64 0, .int .i64 0] 95) = z := ⟨_, rfl⟩
 have hbx : Blk wx E1 95 zSt := by rw [← hwx, ← hE1]; exact Blk.made w1 95 zSt
 have fx : Fr [] w1 wx := by rw [← hwx]; exact (Fr.refl [] w1).alloc _
 rw [hwx]
 simp only [hE1]
 have HE1 := Lib.hid (show w.heap.size ≤ E1 from by rw [← hE1]; exact HF1.out.size)
 have HEB := Lib.hid (show B < E1 ∧ B + 1 < E1 from by rw [← hE1]; exact ⟨HB1.out.lt, HR1.out.lt⟩)
 have HB2 := Lib.hid (HB1.out.keep fx (by simp))
 have HR2 := Lib.hid (HR1.out.keep fx (by simp))
 have HF2 := Lib.hid (HF1.out.step fx)
 have HX2 := Lib.hid hbx
 clear fx hbx hwx hE1 HB1 HR1 HF1
 obtain ⟨w2, hst, hb_, hf_⟩ := store_all (t := 95) (stC (x.s1.closeR 14).1 (x.s1.closeRb q.b1) q.r1) size90 rfl (stC_one _ _ _) HX2.out rfl
 refine stZ hst ?_
 clear hst
 have HX3 := Lib.hid hb_
 have HB3 := Lib.hid (HB2.out.keep hf_ (fun hm => by rw [List.mem_singleton] at hm; have := HEB.out; omega))
 have HR3 := Lib.hid (HR2.out.keep hf_ (fun hm => by rw [List.mem_singleton] at hm; have := HEB.out; omega))
 have HF3 := Lib.hid (HF2.out.own1 (S := []) (B := 0) hf_ HE1.out)
 clear hb_ hf_ HB2 HR2 HF2 HX2
 refine wpList_plain rfl (fun K hK => ?_); go_simp; refine hK _ _ ?_; clear hK K
 refine wpList_nil ?_
 try simp only [Act.put, nrZ]
 go_upto_region 4 with fail
 refine wp_region_lit ?_
 iterate 2 (refine wpList_plain rfl (fun K hK => ?_); go_simp; refine hK _ _ ?_; clear hK K)
 try simp only [Act.put, nrZ]
 refine ldZ (load_all agg90 size90 (xs := stC (x.s1.closeR 14).1 (x.s1.closeRb q.b1) q.r1) rfl HX3.out.at) ?_
 iterate 2 (refine wpList_plain rfl (fun K hK => ?_); go_simp; refine hK _ _ ?_; clear hK K)
 try simp only [Act.put, nrZ]
 obtain ⟨w3, hst, hb_, hf_⟩ := store_part (t := 95) (o := 7) (stC (x.s1.closeR 14).1 (x.s1.closeRb q.b1) q.r1) size90 rfl (stC_one _ _ _) HB3.out (by show 7 + 7 ≤ 16; omega)
 refine stZ hst ?_
 clear hst
 refine wpList_nil ?_
 try simp only [Act.put, nrZ]
 have HB4 := Lib.hid (show Blk w3 B 99 (cnC (x.closeR false).1 (x.closeRq q false)) from hb_)
 have HR4 := Lib.hid (HR3.out.keep hf_ (by simp))
 have HF4 := Lib.hid (HF3.out.own1 (S := []) (B := 0) hf_ (by have := HBS.out; omega))
 clear hb_ hf_ HB3 HR3 HF3 HX3
 go_upto_region 5 with fail
 refine wp_region_lit ?_
 refine ldZ (load_all agg94 size94 (xs := cnC (x.closeR false).1 (x.closeRq q false)) rfl HB4.out.at) ?_
 refine wpList_plain rfl (fun K hK => ?_); go_simp; refine hK _ _ ?_; clear hK K
 try simp only [Act.put, nrZ]
 obtain ⟨w4, hst, hb_, hf_⟩ := store_all (t := 99) (cnC (x.closeR false).1 (x.closeRq q false)) size94 rfl (cnC_one _ _) HR4.out rfl
 refine stZ hst ?_
 clear hst
 refine wpList_plain rfl (fun K hK => ?_); go_simp; refine hK _ _ ?_; clear hK K
 refine wpList_nil ?_
 try simp only [Act.put, nrZ]
 have HR5 := Lib.hid hb_
 have HF5 := Lib.hid (HF4.out.own1 (S := []) (B := 0) hf_ (by have := HBS.out; omega))
 clear hb_ hf_
 go_wp2
 have hl := load_var agg94 size94 (xs := cnC (x.closeR false).1 (x.closeRq q false)) rfl HR5.out.at
 refine bodyPost_ret (v := .tuple #[.agg (cnC (x.closeR false).1 (x.closeRq q false)).toArray, .int .i64 (x.s1.closeR 14).2]) (by simp [results, Tryz.results97, as_addr, hl]) rfl ?_
 exact ⟨rfl, HF5.out⟩
theorem dCloseR_1 (x : CC) (q : Q4) (w : World) :
  Calls Tryz.prog 97 #[.agg (cnC x q).toArray, .int .i64 1] w fun e w' => e = .returned (.tuple #[.agg (cnC (x.closeR true).1 (x.closeRq q true)).toArray, .int .i64 (x.closeR true).2]) ∧ Fr [] w w' := by
 obtain ⟨B, hB⟩ : ∃ B, w.heap.size = B := ⟨_, rfl⟩
 obtain ⟨wA, hwA⟩ : ∃ z, (w.alloc (.cells (cnC x q).toArray 99)).alloc (.cells #[.int .i64 0, .slice none 0 0, .bool false, .slice none 0 0, .int .i64 0, .int .i64 0, .int .i64 0, .int .i64 0, .slice none 0 0, .bool false, .slice none 0 0, .int .i64 0, .int .i64 0, .int .i64 0, .bool false, .bool false] 99) = z := ⟨_, rfl⟩
 have hb1 : Blk wA B 99 (cnC x q) := by
  rw [← hwA, ← hB]
  exact (Blk.made w _ (cnC x q)).keep ((Fr.refl [] _).alloc _) (by simp)
 have hr1 : Blk wA (B + 1) 99 zCn := by
  have h := Blk.made (w.alloc (.cells (cnC x q).toArray 99)) 99 zCn
  rw [show (w.alloc (.cells (cnC x q).toArray 99)).heap.size = B + 1 from by rw [← hB]; simp] at h
  rw [← hwA]
  exact h
 have hf : Fr [] w wA := by rw [← hwA]; exact ((Fr.refl [] w).alloc _).alloc _
 have HB := Lib.hid hb1
 have HR := Lib.hid hr1
 have HF := Lib.hid hf
 have HBS := Lib.hid hB
 have HWA := Lib.hid hwA
 clear hb1 hr1 hf hB hwA
 
 go_enter Tryz.func97, Tryz.ntmps97
 go_wp2_with fail
 rw [HWA.out]
 simp only [HBS.out]
 refine (refEndG 1 (by omega) _).mono ?_
 rintro e w' ⟨rfl, rfl⟩
 go_upto_region 3 with fail
 have hw1 : IntKind.i64.wrap 1 = 1 := by decide
 have hw0 : IntKind.i64.wrap 0 = 0 := by decide
 refine wp_region_lit ?_
 iterate 4 (refine wpList_plain rfl (fun K hK => ?_); go_simp; refine hK _ _ ?_; clear hK K)
 try simp only [Act.put, nrZ]
 refine ldZ (load_all agg90 size90 (xs := stC x.s0 q.b0 q.r0) rfl (show LiesAt w' B 0 (stC x.s0 q.b0 q.r0) from HB.out.at.part (k := 0) (n := 7) rfl)) ?_
 refine wpList_plain rfl (fun K hK => ?_)
 go_simp
 refine (sCloseR_any x.s0 q.b0 q.r0 _).mono ?_
 rintro e w1 ⟨rfl, f1⟩
 refine hK _ _ ?_
 clear hK K
 try simp only [Act.put, nrZ]
 have HB1 := Lib.hid (HB.out.keep f1 (by simp))
 have HR1 := Lib.hid (HR.out.keep f1 (by simp))
 have HF1 := Lib.hid (HF.out.step f1)
 clear f1 HB HR HF HWA
 iterate 4 (refine wpList_plain rfl (fun K hK => ?_); go_simp; refine hK _ _ ?_; clear hK K)
 try simp only [Act.put, nrZ]
 obtain ⟨E1, hE1⟩ : ∃ E, w1.heap.size = E := ⟨_, rfl⟩
 obtain ⟨wx, hwx⟩ : ∃ z, w1.alloc (.cells #[.int .i64 0, .slice none 0 0, .bool false, .slice none 0 0, .int .i64 0, .int .i64 0, .int .i64 0] 95) = z := ⟨_, rfl⟩
 have hbx : Blk wx E1 95 zSt := by rw [← hwx, ← hE1]; exact Blk.made w1 95 zSt
 have fx : Fr [] w1 wx := by rw [← hwx]; exact (Fr.refl [] w1).alloc _
 rw [hwx]
 simp only [hE1]
 have HE1 := Lib.hid (show w.heap.size ≤ E1 from by rw [← hE1]; exact HF1.out.size)
 have HEB := Lib.hid (show B < E1 ∧ B + 1 < E1 from by rw [← hE1]; exact ⟨HB1.out.lt, HR1.out.lt⟩)
 have HB2 := Lib.hid (HB1.out.keep fx (by simp))
 have HR2 := Lib.hid (HR1.out.keep fx (by simp))
 have HF2 := Lib.hid (HF1.out.step fx)
 have HX2 := Lib.hid hbx
 clear fx hbx hwx hE1 HB1 HR1 HF1
 obtain ⟨w2, hst, hb_, hf_⟩ := store_all (t := 95) (stC (x.s0.closeR 14).1 (x.s0.closeRb q.b0) q.r0) size90 rfl (stC_one _ _ _) HX2.out rfl
 refine stZ hst ?_
 clear hst
 have HX3 := Lib.hid hb_
 have HB3 := Lib.hid (HB2.out.keep hf_ (fun hm => by rw [List.mem_singleton] at hm; have := HEB.out; omega))
 have HR3 := Lib.hid (HR2.out.keep hf_ (fun hm => by rw [List.mem_singleton] at hm; have := HEB.out; omega))
 have HF3 := Lib.hid (HF2.out.own1 (S := []) (B := 0) hf_ HE1.out)
 clear hb_ hf_ HB2 HR2 HF2 HX2
 refine wpList_plain rfl (fun K hK => ?_); go_simp; refine hK _ _ ?_; clear hK K
 refine wpList_nil ?_
 try simp only [Act.put, nrZ]
 go_upto_region 4 with fail
 refine wp_region_lit ?_
 iterate 2 (refine wpList_plain rfl (fun K hK => ?_); go_simp; refine hK _ _ ?_; clear hK K)
 try simp only [Act.put, nrZ]
 refine ldZ (load_all agg90 size90 (xs := stC (x.s0.closeR 14).1 (x.s0.closeRb q.b0) q.r0) rfl HX3.out.at) ?_
 iterate 2 (refine wpList_plain rfl (fun K hK => ?_); go_simp; refine hK _ _ ?_; clear hK K)
 try simp only [Act.put, nrZ]
 obtain ⟨w3, hst, hb_, hf_⟩ := store_part (t := 95) (o := 0) (stC (x.s0.closeR 14).1 (x.s0.closeRb q.b0) q.r0) size90 rfl (stC_one _ _ _) HB3.out (by show 0 + 7 ≤ 16; omega)
 refine stZ hst ?_
 clear hst
 refine wpList_nil ?_
 try simp only [Act.put, nrZ]
 have HB4 := Lib.hid (show Blk w3 B 99 (cnC (x.closeR true).1 (x.closeRq q true)) from hb_)
 have HR4 := Lib.hid (HR3.out.keep hf_ (by simp))
 have HF4 := Lib.hid (HF3.out.own1 (S := []) (B := 0) hf_ (by have := HBS.out; omega))
 clear hb_ hf_ HB3 HR3 HF3 HX3
 go_upto_region 5 with fail
 refine wp_region_lit ?_
 refine ldZ (load_all agg94 size94 (xs := cnC (x.closeR true).1 (x.closeRq q true)) rfl HB4.out.at) ?_
 refine wpList_plain rfl (fun K hK => ?_); go_simp; refine hK _ _ ?_; clear hK K
 try simp only [Act.put, nrZ]
 obtain ⟨w4, hst, hb_, hf_⟩ := store_all (t := 99) (cnC (x.closeR true).1 (x.closeRq q true)) size94 rfl (cnC_one _ _) HR4.out rfl
 refine stZ hst ?_
 clear hst
 refine wpList_plain rfl (fun K hK => ?_); go_simp; refine hK _ _ ?_; clear hK K
 refine wpList_nil ?_
 try simp only [Act.put, nrZ]
 have HR5 := Lib.hid hb_
 have HF5 := Lib.hid (HF4.out.own1 (S := []) (B := 0) hf_ (by have := HBS.out; omega))
 clear hb_ hf_
 go_wp2
 have hl := load_var agg94 size94 (xs := cnC (x.closeR true).1 (x.closeRq q true)) rfl HR5.out.at
 refine bodyPost_ret (v := .tuple #[.agg (cnC (x.closeR true).1 (x.closeRq q true)).toArray, .int .i64 (x.s0.closeR 14).2]) (by simp [results, Tryz.results97, as_addr, hl]) rfl ?_
 exact ⟨rfl, HF5.out⟩
def CC.shut (x : CC) (e : Bool) : CC := if e then { x with a1 := true } else { x with a0 := true }
def CC.isShut (x : CC) (e : Bool) : Bool := if e then x.a1 else x.a0
def CC.close (x : CC) (e : Bool) : CC × Int := if x.isShut e = true then (x, 14) else ((((x.shut e).closeW e).1.closeR e).1, 0)
def CC.closeq (x : CC) (q : Q4) (e : Bool) : Q4 := if x.isShut e = true then q else ((x.shut e).closeW e).1.closeRq q e
theorem size4g : ∀ w, (sizeOf 4).run Tryz.prog w = .ok 1 w := fun w => by kernel_rfl
theorem dClose_0 (x : CC) (q : Q4) (w : World) :
  Calls Tryz.prog 60 #[.agg (cnC x q).toArray, .int .i64 0] w fun e w' => e = .returned (.tuple #[.agg (cnC (x.close false).1 (x.closeq q false)).toArray, .int .i64 (x.close false).2]) ∧ Fr [] w w' := by
 unfold CC.close CC.closeq
 have hsh : x.isShut false = x.a0 := rfl
 cases ha : x.a0 with
 | true =>
  rw [hsh, ha, if_pos rfl, if_pos rfl]
  clear hsh
  obtain ⟨B, hB⟩ : ∃ B, w.heap.size = B := ⟨_, rfl⟩
  obtain ⟨wA, hwA⟩ : ∃ z, (w.alloc (.cells (cnC x q).toArray 99)).alloc (.cells #[.int .i64 0, .slice none 0 0, .bool false, .slice none 0 0, .int .i64 0, .int .i64 0, .int .i64 0, .int .i64 0, .slice none 0 0, .bool false, .slice none 0 0, .int .i64 0, .int .i64 0, .int .i64 0, .bool false, .bool false] 99) = z := ⟨_, rfl⟩
  have hb1 : Blk wA B 99 (cnC x q) := by
   rw [← hwA, ← hB]
   exact (Blk.made w _ (cnC x q)).keep ((Fr.refl [] _).alloc _) (by simp)
  have hr1 : Blk wA (B + 1) 99 zCn := by
   have h := Blk.made (w.alloc (.cells (cnC x q).toArray 99)) 99 zCn
   rw [show (w.alloc (.cells (cnC x q).toArray 99)).heap.size = B + 1 from by rw [← hB]; simp] at h
   rw [← hwA]
   exact h
  have hf : Fr [] w wA := by rw [← hwA]; exact ((Fr.refl [] w).alloc _).alloc _
  have HB := Lib.hid hb1
  have HR := Lib.hid hr1
  have HF := Lib.hid hf
  have HBS := Lib.hid hB
  have HWA := Lib.hid hwA
  clear hb1 hr1 hf hB hwA
  
  have c14 : wA.cell? ⟨B, 14, none⟩ = some (.bool true) := by
   rw [← ha]
   exact HB.out.at 14 _ rfl
  go_enter Tryz.func60, Tryz.ntmps60
  go_wp2_with fail
  rw [HWA.out]
  simp only [HBS.out]
  refine (refEndG 0 (by omega) _).mono ?_
  rintro e w' ⟨rfl, rfl⟩
  go_upto_region 4 with fail
  clear c14
  refine wp_region_lit ?_
  refine ldZ (load_all agg94 size94 (xs := cnC x q) rfl HB.out.at) ?_
  obtain ⟨w9, hst, hb_, hf_⟩ := store_all (t := 99) (cnC x q) size94 rfl (cnC_one _ _) HR.out rfl
  refine stZ hst ?_
  clear hst
  refine wpList_plain rfl (fun K hK => ?_); go_simp; refine hK _ _ ?_; clear hK K
  refine wpList_nil ?_
  try simp only [Act.put, nrZ]
  have HR9 := Lib.hid hb_
  have HF9 := Lib.hid (HF.out.own1 (S := []) (B := 0) hf_ (by have := HBS.out; omega))
  clear hb_ hf_
  go_wp2
  have hl := load_var agg94 size94 (xs := cnC x q) rfl HR9.out.at
  refine bodyPost_ret (v := .tuple #[.agg (cnC x q).toArray, .int .i64 14]) (by simp [results, Tryz.results60, as_addr, hl]) rfl ?_
  exact ⟨rfl, HF9.out⟩
 | false =>
  rw [hsh, ha, if_neg (by decide), if_neg (by decide)]
  clear hsh
  obtain ⟨B, hB⟩ : ∃ B, w.heap.size = B := ⟨_, rfl⟩
  obtain ⟨wA, hwA⟩ : ∃ z, (w.alloc (.cells (cnC x q).toArray 99)).alloc (.cells #[.int .i64 0, .slice none 0 0, .bool false, .slice none 0 0, .int .i64 0, .int .i64 0, .int .i64 0, .int .i64 0, .slice none 0 0, .bool false, .slice none 0 0, .int .i64 0, .int .i64 0, .int .i64 0, .bool false, .bool false] 99) = z := ⟨_, rfl⟩
  have hb1 : Blk wA B 99 (cnC x q) := by
   rw [← hwA, ← hB]
   exact (Blk.made w _ (cnC x q)).keep ((Fr.refl [] _).alloc _) (by simp)
  have hr1 : Blk wA (B + 1) 99 zCn := by
   have h := Blk.made (w.alloc (.cells (cnC x q).toArray 99)) 99 zCn
   rw [show (w.alloc (.cells (cnC x q).toArray 99)).heap.size = B + 1 from by rw [← hB]; simp] at h
   rw [← hwA]
   exact h
  have hf : Fr [] w wA := by rw [← hwA]; exact ((Fr.refl [] w).alloc _).alloc _
  have HB := Lib.hid hb1
  have HR := Lib.hid hr1
  have HF := Lib.hid hf
  have HBS := Lib.hid hB
  have HWA := Lib.hid hwA
  clear hb1 hr1 hf hB hwA
  
  have c14 : wA.cell? ⟨B, 14, none⟩ = some (.bool false) := by
   rw [← ha]
   exact HB.out.at 14 _ rfl
  go_enter Tryz.func60, Tryz.ntmps60
  go_wp2_with fail
  rw [HWA.out]
  simp only [HBS.out]
  refine (refEndG 0 (by omega) _).mono ?_
  rintro e w' ⟨rfl, rfl⟩
  go_upto_region 5 with fail
  clear c14
  refine wp_region_lit ?_
  iterate 3 (refine wpList_plain rfl (fun K hK => ?_); go_simp; refine hK _ _ ?_; clear hK K)
  try simp only [Act.put, nrZ]
  obtain ⟨w1, hst, hb_, hf_⟩ := store_cell (t := 4) (o := 14) (.bool true) size4g rfl rfl HB.out (by show 14 + 1 ≤ 16; omega)
  refine stZ hst ?_
  clear hst
  refine wpList_nil ?_
  try simp only [Act.put, nrZ]
  have HB1 := Lib.hid (show Blk w1 B 99 (cnC (x.shut false) q) from hb_)
  have HR1 := Lib.hid (HR.out.keep hf_ (by simp))
  have HF1 := Lib.hid (HF.out.own1 (S := []) (B := 0) hf_ (by have := HBS.out; omega))
  clear hb_ hf_ HB HR HF HWA
  go_upto_region 6 with fail
  refine wp_region_lit ?_
  refine ldZ (load_all agg94 size94 (xs := cnC (x.shut false) q) rfl HB1.out.at) ?_
  refine wpList_plain rfl (fun K hK => ?_); go_simp; refine hK _ _ ?_; clear hK K
  try simp only [Act.put, nrZ]
  refine wpList_plain rfl (fun K hK => ?_)
  go_simp
  refine (dCloseW_0 (x.shut false) q _).mono ?_
  rintro e w2 ⟨rfl, f1⟩
  refine hK _ _ ?_
  clear hK K
  try simp only [Act.put, nrZ]
  iterate 3 (refine wpList_plain rfl (fun K hK => ?_); go_simp; refine hK _ _ ?_; clear hK K)
  try simp only [Act.put, nrZ]
  have HBx := Lib.hid (HB1.out.keep f1 (by simp))
  have HRx := Lib.hid (HR1.out.keep f1 (by simp))
  have HFx := Lib.hid (HF1.out.step f1)
  clear f1 HB1 HR1 HF1
  obtain ⟨w3, hst, hb_, hf_⟩ := store_all (t := 99) (cnC ((x.shut false).closeW false).1 q) size94 rfl (cnC_one _ _) HBx.out rfl
  refine stZ hst ?_
  clear hst
  refine wpList_nil ?_
  try simp only [Act.put, nrZ]
  have HB2 := Lib.hid (show Blk w3 B 99 (cnC ((x.shut false).closeW false).1 q) from hb_)
  have HR2 := Lib.hid (HRx.out.keep hf_ (by simp))
  have HF2 := Lib.hid (HFx.out.own1 (S := []) (B := 0) hf_ (by have := HBS.out; omega))
  clear hb_ hf_ HBx HRx HFx
  go_upto_region 7 with fail
  refine wp_region_lit ?_
  refine ldZ (load_all agg94 size94 (xs := cnC ((x.shut false).closeW false).1 q) rfl HB2.out.at) ?_
  refine wpList_plain rfl (fun K hK => ?_); go_simp; refine hK _ _ ?_; clear hK K
  try simp only [Act.put, nrZ]
  refine wpList_plain rfl (fun K hK => ?_)
  go_simp
  refine (dCloseR_0 ((x.shut false).closeW false).1 q _).mono ?_
  rintro e w4 ⟨rfl, f1⟩
  refine hK _ _ ?_
  clear hK K
  try simp only [Act.put, nrZ]
  iterate 3 (refine wpList_plain rfl (fun K hK => ?_); go_simp; refine hK _ _ ?_; clear hK K)
  try simp only [Act.put, nrZ]
  have HBx := Lib.hid (HB2.out.keep f1 (by simp))
  have HRx := Lib.hid (HR2.out.keep f1 (by simp))
  have HFx := Lib.hid (HF2.out.step f1)
  clear f1 HB2 HR2 HF2
  obtain ⟨w5, hst, hb_, hf_⟩ := store_all (t := 99) (cnC (((x.shut false).closeW false).1.closeR false).1 (((x.shut false).closeW false).1.closeRq q false)) size94 rfl (cnC_one _ _) HBx.out rfl
  refine stZ hst ?_
  clear hst
  refine wpList_nil ?_
  try simp only [Act.put, nrZ]
  have HB3 := Lib.hid (show Blk w5 B 99 (cnC (((x.shut false).closeW false).1.closeR false).1 (((x.shut false).closeW false).1.closeRq q false)) from hb_)
  have HR3 := Lib.hid (HRx.out.keep hf_ (by simp))
  have HF3 := Lib.hid (HFx.out.own1 (S := []) (B := 0) hf_ (by have := HBS.out; omega))
  clear hb_ hf_ HBx HRx HFx
  go_upto_region 8 with fail
  refine wp_region_lit ?_
  refine ldZ (load_all agg94 size94 (xs := cnC (((x.shut false).closeW false).1.closeR false).1 (((x.shut false).closeW false).1.closeRq q false)) rfl HB3.out.at) ?_
  obtain ⟨w9, hst, hb_, hf_⟩ := store_all (t := 99) (cnC (((x.shut false).closeW false).1.closeR false).1 (((x.shut false).closeW false).1.closeRq q false)) size94 rfl (cnC_one _ _) HR3.out rfl
  refine stZ hst ?_
  clear hst
  refine wpList_plain rfl (fun K hK => ?_); go_simp; refine hK _ _ ?_; clear hK K
  refine wpList_nil ?_
  try simp only [Act.put, nrZ]
  have HR9 := Lib.hid hb_
  have HF9 := Lib.hid (HF3.out.own1 (S := []) (B := 0) hf_ (by have := HBS.out; omega))
  clear hb_ hf_
  go_wp2
  have hl := load_var agg94 size94 (xs := cnC (((x.shut false).closeW false).1.closeR false).1 (((x.shut false).closeW false).1.closeRq q false)) rfl HR9.out.at
  refine bodyPost_ret (v := .tuple #[.agg (cnC (((x.shut false).closeW false).1.closeR false).1 (((x.shut false).closeW false).1.closeRq q false)).toArray, .int .i64 0]) (by simp [results, Tryz.results60, as_addr, hl]) rfl ?_
  exact ⟨rfl, HF9.out⟩
theorem dClose_1 (x : CC) (q : Q4) (w : World) :
  Calls Tryz.prog 60 #[.agg (cnC x q).toArray, .int .i64 1] w fun e w' => e = .returned (.tuple #[.agg (cnC (x.close true).1 (x.closeq q true)).toArray, .int .i64 (x.close true).2]) ∧ Fr [] w w' := by
 unfold CC.close CC.closeq
 have hsh : x.isShut true = x.a1 := rfl
 cases ha : x.a1 with
 | true =>
  rw [hsh, ha, if_pos rfl, if_pos rfl]
  clear hsh
  obtain ⟨B, hB⟩ : ∃ B, w.heap.size = B := ⟨_, rfl⟩
  obtain ⟨wA, hwA⟩ : ∃ z, (w.alloc (.cells (cnC x q).toArray 99)).alloc (.cells #[.int .i64 0, .slice none 0 0, .bool false, .slice none 0 0, .int .i64 0, .int .i64 0, .int .i64 0, .int .i64 0, .slice none 0 0, .bool false, .slice none 0 0, .int .i64 0, .int .i64 0, .int .i64 0, .bool false, .bool false] 99) = z := ⟨_, rfl⟩
  have hb1 : Blk wA B 99 (cnC x q) := by
   rw [← hwA, ← hB]
   exact (Blk.made w _ (cnC x q)).keep ((Fr.refl [] _).alloc _) (by simp)
  have hr1 : Blk wA (B + 1) 99 zCn := by
   have h := Blk.made (w.alloc (.cells (cnC x q).toArray 99)) 99 zCn
   rw [show (w.alloc (.cells (cnC x q).toArray 99)).heap.size = B + 1 from by rw [← hB]; simp] at h
   rw [← hwA]
   exact h
  have hf : Fr [] w wA := by rw [← hwA]; exact ((Fr.refl [] w).alloc _).alloc _
  have HB := Lib.hid hb1
  have HR := Lib.hid hr1
  have HF := Lib.hid hf
  have HBS := Lib.hid hB
  have HWA := Lib.hid hwA
  clear hb1 hr1 hf hB hwA
  
  have c14 : wA.cell? ⟨B, 15, none⟩ = some (.bool true) := by
   rw [← ha]
   exact HB.out.at 15 _ rfl
  go_enter Tryz.func60, Tryz.ntmps60
  go_wp2_with fail
  rw [HWA.out]
  simp only [HBS.out]
  refine (refEndG 1 (by omega) _).mono ?_
  rintro e w' ⟨rfl, rfl⟩
  go_upto_region 4 with fail
  clear c14
  refine wp_region_lit ?_
  refine ldZ (load_all agg94 size94 (xs := cnC x q) rfl HB.out.at) ?_
  obtain ⟨w9, hst, hb_, hf_⟩ := store_all (t := 99) (cnC x q) size94 rfl (cnC_one _ _) HR.out rfl
  refine stZ hst ?_
  clear hst
  refine wpList_plain rfl (fun K hK => ?_); go_simp; refine hK _ _ ?_; clear hK K
  refine wpList_nil ?_
  try simp only [Act.put, nrZ]
  have HR9 := Lib.hid hb_
  have HF9 := Lib.hid (HF.out.own1 (S := []) (B := 0) hf_ (by have := HBS.out; omega))
  clear hb_ hf_
  go_wp2
  have hl := load_var agg94 size94 (xs := cnC x q) rfl HR9.out.at
  refine bodyPost_ret (v := .tuple #[.agg (cnC x q).toArray, .int .i64 14]) (by simp [results, Tryz.results60, as_addr, hl]) rfl ?_
  exact ⟨rfl, HF9.out⟩
 | false =>
  rw [hsh, ha, if_neg (by decide), if_neg (by decide)]
  clear hsh
  obtain ⟨B, hB⟩ : ∃ B, w.heap.size = B := ⟨_, rfl⟩
  obtain ⟨wA, hwA⟩ : ∃ z, (w.alloc (.cells (cnC x q).toArray 99)).alloc (.cells #[.int .i64 0, .slice none 0 0, .bool false, .slice none 0 0, .int .i64 0, .int .i64 0, .int .i64 0, .int .i64 0, .slice none 0 0, .bool false, .slice none 0 0, .int .i64 0, .int .i64 0, .int .i64 0, .bool false, .bool false] 99) = z := ⟨_, rfl⟩
  have hb1 : Blk wA B 99 (cnC x q) := by
   rw [← hwA, ← hB]
   exact (Blk.made w _ (cnC x q)).keep ((Fr.refl [] _).alloc _) (by simp)
  have hr1 : Blk wA (B + 1) 99 zCn := by
   have h := Blk.made (w.alloc (.cells (cnC x q).toArray 99)) 99 zCn
   rw [show (w.alloc (.cells (cnC x q).toArray 99)).heap.size = B + 1 from by rw [← hB]; simp] at h
   rw [← hwA]
   exact h
  have hf : Fr [] w wA := by rw [← hwA]; exact ((Fr.refl [] w).alloc _).alloc _
  have HB := Lib.hid hb1
  have HR := Lib.hid hr1
  have HF := Lib.hid hf
  have HBS := Lib.hid hB
  have HWA := Lib.hid hwA
  clear hb1 hr1 hf hB hwA
  
  have c14 : wA.cell? ⟨B, 15, none⟩ = some (.bool false) := by
   rw [← ha]
   exact HB.out.at 15 _ rfl
  go_enter Tryz.func60, Tryz.ntmps60
  go_wp2_with fail
  rw [HWA.out]
  simp only [HBS.out]
  refine (refEndG 1 (by omega) _).mono ?_
  rintro e w' ⟨rfl, rfl⟩
  go_upto_region 5 with fail
  clear c14
  refine wp_region_lit ?_
  iterate 3 (refine wpList_plain rfl (fun K hK => ?_); go_simp; refine hK _ _ ?_; clear hK K)
  try simp only [Act.put, nrZ]
  obtain ⟨w1, hst, hb_, hf_⟩ := store_cell (t := 4) (o := 15) (.bool true) size4g rfl rfl HB.out (by show 15 + 1 ≤ 16; omega)
  refine stZ hst ?_
  clear hst
  refine wpList_nil ?_
  try simp only [Act.put, nrZ]
  have HB1 := Lib.hid (show Blk w1 B 99 (cnC (x.shut true) q) from hb_)
  have HR1 := Lib.hid (HR.out.keep hf_ (by simp))
  have HF1 := Lib.hid (HF.out.own1 (S := []) (B := 0) hf_ (by have := HBS.out; omega))
  clear hb_ hf_ HB HR HF HWA
  go_upto_region 6 with fail
  refine wp_region_lit ?_
  refine ldZ (load_all agg94 size94 (xs := cnC (x.shut true) q) rfl HB1.out.at) ?_
  refine wpList_plain rfl (fun K hK => ?_); go_simp; refine hK _ _ ?_; clear hK K
  try simp only [Act.put, nrZ]
  refine wpList_plain rfl (fun K hK => ?_)
  go_simp
  refine (dCloseW_1 (x.shut true) q _).mono ?_
  rintro e w2 ⟨rfl, f1⟩
  refine hK _ _ ?_
  clear hK K
  try simp only [Act.put, nrZ]
  iterate 3 (refine wpList_plain rfl (fun K hK => ?_); go_simp; refine hK _ _ ?_; clear hK K)
  try simp only [Act.put, nrZ]
  have HBx := Lib.hid (HB1.out.keep f1 (by simp))
  have HRx := Lib.hid (HR1.out.keep f1 (by simp))
  have HFx := Lib.hid (HF1.out.step f1)
  clear f1 HB1 HR1 HF1
  obtain ⟨w3, hst, hb_, hf_⟩ := store_all (t := 99) (cnC ((x.shut true).closeW true).1 q) size94 rfl (cnC_one _ _) HBx.out rfl
  refine stZ hst ?_
  clear hst
  refine wpList_nil ?_
  try simp only [Act.put, nrZ]
  have HB2 := Lib.hid (show Blk w3 B 99 (cnC ((x.shut true).closeW true).1 q) from hb_)
  have HR2 := Lib.hid (HRx.out.keep hf_ (by simp))
  have HF2 := Lib.hid (HFx.out.own1 (S := []) (B := 0) hf_ (by have := HBS.out; omega))
  clear hb_ hf_ HBx HRx HFx
  go_upto_region 7 with fail
  refine wp_region_lit ?_
  refine ldZ (load_all agg94 size94 (xs := cnC ((x.shut true).closeW true).1 q) rfl HB2.out.at) ?_
  refine wpList_plain rfl (fun K hK => ?_); go_simp; refine hK _ _ ?_; clear hK K
  try simp only [Act.put, nrZ]
  refine wpList_plain rfl (fun K hK => ?_)
  go_simp
  refine (dCloseR_1 ((x.shut true).closeW true).1 q _).mono ?_
  rintro e w4 ⟨rfl, f1⟩
  refine hK _ _ ?_
  clear hK K
  try simp only [Act.put, nrZ]
  iterate 3 (refine wpList_plain rfl (fun K hK => ?_); go_simp; refine hK _ _ ?_; clear hK K)
  try simp only [Act.put, nrZ]
  have HBx := Lib.hid (HB2.out.keep f1 (by simp))
  have HRx := Lib.hid (HR2.out.keep f1 (by simp))
  have HFx := Lib.hid (HF2.out.step f1)
  clear f1 HB2 HR2 HF2
  obtain ⟨w5, hst, hb_, hf_⟩ := store_all (t := 99) (cnC (((x.shut true).closeW true).1.closeR true).1 (((x.shut true).closeW true).1.closeRq q true)) size94 rfl (cnC_one _ _) HBx.out rfl
  refine stZ hst ?_
  clear hst
  refine wpList_nil ?_
  try simp only [Act.put, nrZ]
  have HB3 := Lib.hid (show Blk w5 B 99 (cnC (((x.shut true).closeW true).1.closeR true).1 (((x.shut true).closeW true).1.closeRq q true)) from hb_)
  have HR3 := Lib.hid (HRx.out.keep hf_ (by simp))
  have HF3 := Lib.hid (HFx.out.own1 (S := []) (B := 0) hf_ (by have := HBS.out; omega))
  clear hb_ hf_ HBx HRx HFx
  go_upto_region 8 with fail
  refine wp_region_lit ?_
  refine ldZ (load_all agg94 size94 (xs := cnC (((x.shut true).closeW true).1.closeR true).1 (((x.shut true).closeW true).1.closeRq q true)) rfl HB3.out.at) ?_
  obtain ⟨w9, hst, hb_, hf_⟩ := store_all (t := 99) (cnC (((x.shut true).closeW true).1.closeR true).1 (((x.shut true).closeW true).1.closeRq q true)) size94 rfl (cnC_one _ _) HR3.out rfl
  refine stZ hst ?_
  clear hst
  refine wpList_plain rfl (fun K hK => ?_); go_simp; refine hK _ _ ?_; clear hK K
  refine wpList_nil ?_
  try simp only [Act.put, nrZ]
  have HR9 := Lib.hid hb_
  have HF9 := Lib.hid (HF3.out.own1 (S := []) (B := 0) hf_ (by have := HBS.out; omega))
  clear hb_ hf_
  go_wp2
  have hl := load_var agg94 size94 (xs := cnC (((x.shut true).closeW true).1.closeR true).1 (((x.shut true).closeW true).1.closeRq q true)) rfl HR9.out.at
  refine bodyPost_ret (v := .tuple #[.agg (cnC (((x.shut true).closeW true).1.closeR true).1 (((x.shut true).closeW true).1.closeRq q true)).toArray, .int .i64 0]) (by simp [results, Tryz.results60, as_addr, hl]) rfl ?_
  exact ⟨rfl, HF9.out⟩
theorem flat_len {sz : Nat} : ∀ {Xs : List (List Value)}, (∀ X ∈ Xs, X.length = sz) → Xs.flatten.length = Xs.length * sz
 | [], _ => by simp
 | X :: r, h => by
  have h1 := h X List.mem_cons_self
  have h2 := flat_len (Xs := r) (fun Y hY => h Y (List.mem_cons_of_mem _ hY))
  simp only [List.flatten_cons, List.length_append, List.length_cons, h1, h2, Nat.add_mul, Nat.one_mul]
  omega
theorem flat_at {sz : Nat} : ∀ {Xs : List (List Value)} {i : Nat} {X : List Value}, (∀ X ∈ Xs, X.length = sz) → Xs[i]? = some X → (Xs.flatten.drop (i * sz)).take sz = X
 | [], i, X, _, h => by simp at h
 | Y :: r, 0, X, hl, h => by
  simp only [List.getElem?_cons_zero, Option.some.injEq] at h
  subst h
  have h1 := hl Y List.mem_cons_self
  simp only [List.flatten_cons, Nat.zero_mul, List.drop_zero]
  rw [← h1, List.take_left]
 | Y :: r, i + 1, X, hl, h => by
  have h1 := hl Y List.mem_cons_self
  have h2 := flat_at (Xs := r) (i := i) (fun Y hY => hl Y (List.mem_cons_of_mem _ hY)) (by simpa using h)
  rw [List.flatten_cons, Nat.add_mul, Nat.one_mul, Nat.add_comm, ← List.drop_drop]
  rw [← h1, List.drop_left, h1]
  exact h2
theorem flat_drop {sz : Nat} : ∀ {Xs : List (List Value)} (i : Nat), (∀ X ∈ Xs, X.length = sz) → Xs.flatten.drop (i * sz) = (Xs.drop i).flatten
 | [], i, _ => by simp
 | Y :: r, 0, hl => by simp
 | Y :: r, i + 1, hl => by
  have h1 := hl Y List.mem_cons_self
  rw [List.flatten_cons, Nat.add_mul, Nat.one_mul, Nat.add_comm, ← List.drop_drop, ← h1, List.drop_left, h1, List.drop_succ_cons]
  exact flat_drop i (fun Y hY => hl Y (List.mem_cons_of_mem _ hY))
theorem flat_take {sz : Nat} : ∀ {Xs : List (List Value)} (i : Nat), (∀ X ∈ Xs, X.length = sz) → Xs.flatten.take (i * sz) = (Xs.take i).flatten
 | [], i, _ => by simp
 | Y :: r, 0, hl => by simp
 | Y :: r, i + 1, hl => by
  have h1 := hl Y List.mem_cons_self
  have h2 := flat_take (Xs := r) i (fun Y hY => hl Y (List.mem_cons_of_mem _ hY))
  rw [List.flatten_cons, List.take_succ_cons, List.flatten_cons, ← h2, List.take_append, h1, Nat.add_mul, Nat.one_mul, Nat.add_sub_cancel]
  rw [List.take_of_length_le (by omega)]
theorem flat_one {Xs : List (List Value)} (h : ∀ X ∈ Xs, ∀ u ∈ X, u.oneCell' = true) : ∀ u ∈ Xs.flatten, u.oneCell' = true := by
 intro u hu
 obtain ⟨X, hX, huX⟩ := List.mem_flatten.1 hu
 exact h X hX u huX
section
variable {α : Type}
structure Recs (sz : Nat) (El : List Value → α → Prop) (Xs : List (List Value)) (D : List α) : Prop where
 len : Xs.length = D.length
 sz : ∀ X ∈ Xs, X.length = sz
 one : ∀ X ∈ Xs, ∀ u ∈ X, u.oneCell' = true
 el : ∀ (i : Nat) (X : List Value) (y : α), Xs[i]? = some X → D[i]? = some y → El X y
variable {sz : Nat} {El El' : List Value → α → Prop} {Xs : List (List Value)} {D : List α}
theorem Recs.nil : Recs sz El [] ([] : List α) := ⟨rfl, (fun X hX => by cases hX), (fun X hX => by cases hX), (fun i X y h => by simp at h)⟩
theorem Recs.mono (h : Recs sz El Xs D) (hm : ∀ X y, El X y → El' X y) : Recs sz El' Xs D := ⟨h.len, h.sz, h.one, fun i X y hX hy => hm _ _ (h.el i X y hX hy)⟩
theorem Recs.push (h : Recs sz El Xs D) {X : List Value} {y : α} (h1 : X.length = sz) (h2 : ∀ u ∈ X, u.oneCell' = true) (h3 : El X y) : Recs sz El (Xs ++ [X]) (D ++ [y]) := by
 refine ⟨by simp [h.len], ?_, ?_, ?_⟩
 ·intro Y hY
  rcases List.mem_append.1 hY with hY | hY
  ·exact h.sz Y hY
  ·rw [List.mem_singleton] at hY
   rw [hY]
   exact h1
 ·intro Y hY
  rcases List.mem_append.1 hY with hY | hY
  ·exact h.one Y hY
  ·rw [List.mem_singleton] at hY
   rw [hY]
   exact h2
 ·intro i Y z hY hz
  rcases Nat.lt_trichotomy i Xs.length with hi | hi | hi
  ·rw [List.getElem?_append_left hi] at hY
   rw [List.getElem?_append_left (by rw [← h.len]; exact hi)] at hz
   exact h.el i Y z hY hz
  ·subst hi
   rw [h.len] at hz
   simp at hY hz
   rw [← hY, ← hz]
   exact h3
  ·rw [List.getElem?_eq_none (by simp; omega)] at hY
   cases hY
theorem Recs.take (h : Recs sz El Xs D) (k : Nat) : Recs sz El (Xs.take k) (D.take k) := by
 refine ⟨by simp [h.len], fun X hX => h.sz X (List.mem_of_mem_take hX), fun X hX => h.one X (List.mem_of_mem_take hX), fun i X y hX hy => ?_⟩
 rw [List.getElem?_take] at hX hy
 split at hX
 ·rename_i hk
  rw [if_pos hk] at hy
  exact h.el i X y hX hy
 ·cases hX
theorem Recs.drop (h : Recs sz El Xs D) (k : Nat) : Recs sz El (Xs.drop k) (D.drop k) := by
 refine ⟨by simp [h.len], fun X hX => h.sz X (List.mem_of_mem_drop hX), fun X hX => h.one X (List.mem_of_mem_drop hX), fun i X y hX hy => ?_⟩
 rw [List.getElem?_drop] at hX hy
 exact h.el _ X y hX hy
theorem Recs.app {Ys : List (List Value)} {E : List α} (h : Recs sz El Xs D) (k : Recs sz El Ys E) : Recs sz El (Xs ++ Ys) (D ++ E) := by
 refine ⟨by simp [h.len, k.len], ?_, ?_, ?_⟩
 ·intro Y hY
  rcases List.mem_append.1 hY with hY | hY
  ·exact h.sz Y hY
  ·exact k.sz Y hY
 ·intro Y hY
  rcases List.mem_append.1 hY with hY | hY
  ·exact h.one Y hY
  ·exact k.one Y hY
 ·intro i Y z hY hz
  by_cases hi : i < Xs.length
  ·rw [List.getElem?_append_left hi] at hY
   rw [List.getElem?_append_left (by rw [← h.len]; exact hi)] at hz
   exact h.el i Y z hY hz
  ·rw [List.getElem?_append_right (by omega)] at hY
   rw [List.getElem?_append_right (by rw [← h.len]; omega), ← h.len] at hz
   exact k.el _ Y z hY hz
theorem Recs.set (h : Recs sz El Xs D) (i : Nat) {X : List Value} {y : α} (h1 : X.length = sz) (h2 : ∀ u ∈ X, u.oneCell' = true) (h3 : El X y) : Recs sz El (Xs.set i X) (D.set i y) := by
 refine ⟨by simp [h.len], ?_, ?_, ?_⟩
 ·intro Y hY
  rcases List.mem_or_eq_of_mem_set hY with hY | rfl
  ·exact h.sz Y hY
  ·exact h1
 ·intro Y hY
  rcases List.mem_or_eq_of_mem_set hY with hY | rfl
  ·exact h.one Y hY
  ·exact h2
 ·intro j Y z hY hz
  by_cases hij : i = j
  ·subst hij
   rw [List.getElem?_set] at hY hz
   simp only [if_true] at hY hz
   split at hY
   ·split at hz
    ·cases hY
     cases hz
     exact h3
    ·cases hz
   ·cases hY
  ·rw [List.getElem?_set_ne hij] at hY hz
   exact h.el j Y z hY hz
end
def RowR {α : Type} (sz : Nat) (El : World → List Value → α → Prop) (w : World) (v : Value) (D : List α) : Prop := ∃ Xs, Recs sz (El w) Xs D ∧ RowV w v D.length sz Xs.flatten
def RowO {α : Type} (e : TypeId) (sz : Nat) (El : World → List Value → α → Prop) (w : World) (B : Nat) (v : Value) (D : List α) : Prop := ∃ Xs, Recs sz (El w) Xs D ∧ w.ownsRow B e sz v D.length Xs.flatten
section
variable {α : Type} {sz : Nat} {El : World → List Value → α → Prop} {w w' : World} {v : Value} {D : List α}
theorem RowR.val (h : RowR sz El w v D) : ∃ a c, v = .slice a D.length c := by
 obtain ⟨Xs, _, h2⟩ := h
 exact h2.val
theorem RowR.new (h : RowR sz El w v D) (hEl : ∀ X y, El w X y → El w' X y) (f : Fr [] w w') : RowR sz El w' v D := by
 obtain ⟨Xs, h1, h2⟩ := h
 exact ⟨Xs, h1.mono hEl, h2.new f⟩
theorem RowR.lies (h : RowR sz El w v D) {i : Nat} {y : α} (hy : D[i]? = some y) : ∃ g off c X, v = .slice (some ⟨g, off, none⟩) D.length c ∧ g < w.heap.size ∧ X.length = sz ∧ LiesAt w g (off + i * sz) X ∧ El w X y := by
 obtain ⟨Xs, h1, h2⟩ := h
 have hi := (List.getElem?_eq_some_iff.1 hy).1
 have hX := List.getElem?_eq_getElem (l := Xs) (i := i) (by rw [h1.len]; exact hi)
 obtain ⟨g, off, c, rfl, hg, hl⟩ := h2.at hi
 rw [flat_at h1.sz hX] at hl
 exact ⟨g, off, c, _, rfl, hg, h1.sz _ (List.getElem_mem _), hl, h1.el i _ y hX hy⟩
theorem RowR.nil (w : World) (a : Option Addr) (c : Nat) : RowR sz El w (.slice a 0 c) ([] : List α) := ⟨[], Recs.nil, RowV.nil w sz a c⟩
end
def lsC (x : PN.PL) (q : Sli) : List Value := [.int .i64 x.ref, .string x.s, .int .i64 x.p, .int .i64 x.most, .slice q.1 q.2.1 q.2.2]
theorem lsC_one (x : PN.PL) (q : Sli) : ∀ u ∈ lsC x q, u.oneCell' = true := by
 intro u hu
 simp only [lsC, List.mem_cons, List.not_mem_nil, or_false] at hu
 rcases hu with rfl | rfl | rfl | rfl | rfl <;> rfl
def intsV (l : List Int) : List Value := l.map (Value.int .i64)
theorem intsV_one (l : List Int) : ∀ u ∈ intsV l, u.oneCell' = true := by
 intro u hu
 obtain ⟨x, _, rfl⟩ := List.mem_map.1 hu
 rfl
structure PG where
 ref : Nat
 c : CC
def pgC (y : PG) (q : Q4) : List Value := .int .i64 y.ref :: cnC y.c q
theorem pgC_one (y : PG) (q : Q4) : ∀ u ∈ pgC y q, u.oneCell' = true := by
 intro u hu
 rcases List.mem_cons.1 hu with rfl | hu
 ·rfl
 ·exact cnC_one _ _ u hu
def ElL (w : World) (X : List Value) (y : PN.PL) : Prop := ∃ q : Sli, X = lsC y q ∧ RowV w (slv q) y.l.length 1 (intsV y.l)
def ElC (w : World) (X : List Value) (y : PG) : Prop := ∃ q : Q4, X = pgC y q ∧ CnB w y.c q
def ElLO (B : Nat) (w : World) (X : List Value) (y : PN.PL) : Prop := ∃ q : Sli, X = lsC y q ∧ w.ownsRow B 3 1 (slv q) y.l.length (intsV y.l)
def ElCO (B : Nat) (w : World) (X : List Value) (y : PG) : Prop := ∃ q : Q4, X = pgC y q ∧ CnO w B y.c q
theorem ElL.new {w w' : World} {X : List Value} {y : PN.PL} (h : ElL w X y) (f : Fr [] w w') : ElL w' X y := by
 obtain ⟨q, h1, h2⟩ := h
 exact ⟨q, h1, h2.new f⟩
theorem ElC.new {w w' : World} {X : List Value} {y : PG} (h : ElC w X y) (f : Fr [] w w') : ElC w' X y := by
 obtain ⟨q, h1, h2⟩ := h
 exact ⟨q, h1, h2.new f⟩
theorem ElLO.el {B : Nat} {w : World} {X : List Value} {y : PN.PL} (h : ElLO B w X y) : ElL w X y := by
 obtain ⟨q, h1, h2⟩ := h
 exact ⟨q, h1, RowV.of_own h2⟩
theorem ElCO.el {B : Nat} {w : World} {X : List Value} {y : PG} (h : ElCO B w X y) : ElC w X y := by
 obtain ⟨q, h1, h2⟩ := h
 exact ⟨q, h1, h2.b⟩
abbrev LRow : World → Value → List PN.PL → Prop := RowR 5 ElL
abbrev CRow : World → Value → List PG → Prop := RowR 17 ElC
def qBlk (X : List Value) : Option Nat := (X[4]?).bind Value.ownBlock
def Sep (Xs : List (List Value)) : Prop := Xs.Pairwise fun X Y => ∀ g, qBlk X = some g → qBlk Y ≠ some g
def LOwn (w : World) (B : Nat) (v : Value) (D : List PN.PL) : Prop := ∃ Xs, Recs 5 (ElLO B w) Xs D ∧ w.ownsRow B 122 5 v D.length Xs.flatten ∧ Sep Xs
theorem Sep.ne {Xs : List (List Value)} (h : Sep Xs) {i j : Nat} {X Y : List Value} (hij : i ≠ j) (hX : Xs[i]? = some X) (hY : Xs[j]? = some Y) : ∀ g, qBlk X = some g → qBlk Y ≠ some g := by
 obtain ⟨hi, rfl⟩ := List.getElem?_eq_some_iff.1 hX
 obtain ⟨hj, rfl⟩ := List.getElem?_eq_some_iff.1 hY
 have hp := List.pairwise_iff_getElem.1 h
 rcases Nat.lt_or_gt_of_ne hij with hl | hl
 ·exact hp i j hi hj hl
 ·intro g h1 h2
  exact hp j i hj hi hl g h2 h1
abbrev COwn (w : World) (B : Nat) : Value → List PG → Prop := RowO 138 17 (ElCO B) w B
section
variable {w w' : World} {B : Nat} {v : Value} {D : List PN.PL} {C : List PG}
theorem LRow.next (h : LRow w v D) (f : Fr [] w w') : LRow w' v D := RowR.new h (fun X y h => ElL.new h f) f
theorem CRow.next (h : CRow w v C) (f : Fr [] w w') : CRow w' v C := RowR.new h (fun X y h => ElC.new h f) f
theorem LOwn.row (h : LOwn w B v D) : LRow w v D := by
 obtain ⟨Xs, h1, h2, _⟩ := h
 exact ⟨Xs, h1.mono (fun X y h => h.el), RowV.of_own h2⟩
theorem COwn.row (h : COwn w B v C) : CRow w v C := by
 obtain ⟨Xs, h1, h2⟩ := h
 exact ⟨Xs, h1.mono (fun X y h => h.el), RowV.of_own h2⟩
theorem LOwn.next (h : LOwn w B v D) (f : Fr [] w w') : LOwn w' B v D := by
 obtain ⟨Xs, h1, h2, h3⟩ := h
 exact ⟨Xs, h1.mono (fun X y ⟨q, e1, e2⟩ => ⟨q, e1, rowNew e2 f⟩), rowNew h2 f, h3⟩
theorem COwn.next (h : COwn w B v C) (f : Fr [] w w') : COwn w' B v C := by
 obtain ⟨Xs, h1, h2⟩ := h
 exact ⟨Xs, h1.mono (fun X y ⟨q, e1, e2⟩ => ⟨q, e1, e2.new f⟩), rowNew h2 f⟩
theorem LOwn.base {B' : Nat} (h : LOwn w B v D) (hb : B' ≤ B) : LOwn w B' v D := by
 obtain ⟨Xs, h1, h2, h3⟩ := h
 exact ⟨Xs, h1.mono (fun X y ⟨q, e1, e2⟩ => ⟨q, e1, rowBase e2 hb⟩), rowBase h2 hb, h3⟩
theorem COwn.base {B' : Nat} (h : COwn w B v C) (hb : B' ≤ B) : COwn w B' v C := by
 obtain ⟨Xs, h1, h2⟩ := h
 exact ⟨Xs, h1.mono (fun X y ⟨q, e1, e2⟩ => ⟨q, e1, e2.base hb⟩), rowBase h2 hb⟩
theorem LOwn.far {b : Nat} {t : TypeId} {ys : List Value} (h : LOwn w B v D) (hb : Blk w b t ys) (f : Fr [b] w w') (h1 : t ≠ 122) (h2 : t ≠ 3) : LOwn w' B v D := by
 obtain ⟨Xs, r1, r2, r3⟩ := h
 exact ⟨Xs, r1.mono (fun X y ⟨q, e1, e2⟩ => ⟨q, e1, rowFr' e2 f (fun g hg hm => by rw [List.mem_singleton] at hm; subst hm; exact blkNe hb e2 h2 hg)⟩), rowFr' r2 f (fun g hg hm => by rw [List.mem_singleton] at hm; subst hm; exact blkNe hb r2 h1 hg), r3⟩
theorem COwn.far {b : Nat} {t : TypeId} {ys : List Value} (h : COwn w B v C) (hb : Blk w b t ys) (f : Fr [b] w w') (h1 : t ≠ 138) (h2 : t ≠ 5) : COwn w' B v C := by
 obtain ⟨Xs, r1, r2⟩ := h
 exact ⟨Xs, r1.mono (fun X y ⟨q, e1, e2⟩ => ⟨q, e1, e2.store hb f h2⟩), rowFr' r2 f (fun g hg hm => by rw [List.mem_singleton] at hm; subst hm; exact blkNe hb r2 h1 hg)⟩
theorem rowFar {w w' : World} {B B' n m sz sz' : Nat} {t e : TypeId} {v u : Value} {xs ys : List Value} (h : w.ownsRow B e sz v n xs) (hu : w.ownsRow B' t sz' u m ys) (f : Fr u.ownBlock.toList w w') (hne : t ≠ e) : w'.ownsRow B e sz v n xs :=
 rowFr' h f (fun g hg hm => by
  have : u.ownBlock = some g := by simpa using hm
  exact rowApart hu h hne g hg this)
theorem LOwn.farRow {B' n sz : Nat} {e : TypeId} {u : Value} {xs : List Value} (h : LOwn w B v D) (hu : w.ownsRow B' e sz u n xs) (f : Fr u.ownBlock.toList w w') (h1 : e ≠ 122) (h2 : e ≠ 3) : LOwn w' B v D := by
 obtain ⟨Xs, r1, r2, r3⟩ := h
 exact ⟨Xs, r1.mono (fun X y ⟨q, e1, e2⟩ => ⟨q, e1, rowFar e2 hu f h2⟩), rowFar r2 hu f h1, r3⟩
theorem COwn.farRow {B' n sz : Nat} {e : TypeId} {u : Value} {xs : List Value} (h : COwn w B v C) (hu : w.ownsRow B' e sz u n xs) (f : Fr u.ownBlock.toList w w') (h1 : e ≠ 138) (h2 : e ≠ 5) : COwn w' B v C := by
 obtain ⟨Xs, r1, r2⟩ := h
 exact ⟨Xs, r1.mono (fun X y ⟨q, e1, e2⟩ => ⟨q, e1, ⟨rowFar e2.b0 hu f h2, rowFar e2.r0 hu f h2, rowFar e2.b1 hu f h2, rowFar e2.r1 hu f h2⟩⟩), rowFar r2 hu f h1⟩
end
theorem agg100 : ∀ w, (isAgg 122).run Tryz.prog w = .ok true w := fun w => by kernel_rfl
theorem size100 : ∀ w, (sizeOf 122).run Tryz.prog w = .ok 5 w := fun w => by kernel_rfl
theorem agg34 : ∀ w, (isAgg 31).run Tryz.prog w = .ok true w := fun w => by kernel_rfl
theorem size34 : ∀ w, (sizeOf 31).run Tryz.prog w = .ok 2 w := fun w => by kernel_rfl
theorem size31 : ∀ w, (sizeOf 28).run Tryz.prog w = .ok 1 w := fun w => by kernel_rfl
theorem size32 : ∀ w, (sizeOf 29).run Tryz.prog w = .ok 1 w := fun w => by kernel_rfl
theorem size75 : ∀ w, (sizeOf 64).run Tryz.prog w = .ok 1 w := fun w => by kernel_rfl
section
variable {P : Program} {ops : Array Oper} {rest : List Oper} {o : Oper} {a : Act} {w w' : World} {Q : Exit → Act → World → Prop} {v : Value}
theorem exec_bsl {t : TypeId} {x : Operand} {V : Value} (ho : o.op = .buildSlice t 1 #[(0, x)]) (hx : a.eval x = V) (hrun : (Instr.buildSlice t 1 #[(0, V)]).run P w = .ok v w') : (execOp a.eval o).run P w = .ok (.value v) w' := by
 simp [execOp, ho, hx, hrun]
theorem exec_bld2 {t : TypeId} {x y : Operand} {V U : Value} (ho : o.op = .build t #[(0, x), (1, y)]) (hx : a.eval x = V) (hy : a.eval y = U) (hrun : (Instr.build t #[(0, V), (1, U)]).run P w = .ok v w') : (execOp a.eval o).run P w = .ok (.value v) w' := by
 simp [execOp, ho, hx, hy, hrun]
end
theorem bldConn (y : PG) (q : Q4) : ∀ w, (Instr.build 138 #[(0, .int .i64 y.ref), (1, .agg (cnC y.c q).toArray)]).run Tryz.prog w = .ok (.agg (pgC y q).toArray) w := fun w => by kernel_rfl
theorem bslConn (y : PG) (q : Q4) : ∀ w : World, (Instr.buildSlice 29 1 #[(0, .agg (pgC y q).toArray)]).run Tryz.prog w = .ok (.slice (some ⟨w.heap.size, 0, none⟩) 1 1) (w.alloc (.cells (pgC y q).toArray 138)) := fun w => by kernel_rfl
theorem bslLis (y : PN.PL) (q : Sli) : ∀ w : World, (Instr.buildSlice 28 1 #[(0, .agg (lsC y q).toArray)]).run Tryz.prog w = .ok (.slice (some ⟨w.heap.size, 0, none⟩) 1 1) (w.alloc (.cells (lsC y q).toArray 122)) := fun w => by kernel_rfl
def stL (c w r : Int) : List Value := [.int .i64 c, .slice none 0 0, .bool false, .slice none 0 0, .int .i64 0, .int .i64 w, .int .i64 r]
theorem stL_one (c w r : Int) : ∀ u ∈ stL c w r, u.oneCell' = true := by
 intro u hu
 simp only [stL, List.mem_cons, List.not_mem_nil, or_false] at hu
 rcases hu with rfl | rfl | rfl | rfl | rfl | rfl | rfl <;> rfl
def cnL (c w0 r0 w1 r1 : Int) (a0 a1 : Bool) : List Value := stL c w0 r0 ++ (stL c w1 r1 ++ [.bool a0, .bool a1])
def zeroL : List Value := cnL 0 0 0 0 0 false false
theorem cnL_one (c w0 r0 w1 r1 : Int) (a0 a1 : Bool) : ∀ u ∈ cnL c w0 r0 w1 r1 a0 a1, u.oneCell' = true := by
 intro u hu
 unfold cnL at hu
 rcases List.mem_append.1 hu with hu | hu
 ·exact stL_one _ _ _ u hu
 ·rcases List.mem_append.1 hu with hu | hu
  ·exact stL_one _ _ _ u hu
  ·simp only [List.mem_cons, List.not_mem_nil, or_false] at hu
   rcases hu with rfl | rfl <;> rfl
theorem dnNew_ok (c : Int) (hc : 0 ≤ c ∧ c ≤ 4096) (w : World) :
  Calls Tryz.prog 34 #[.int .i64 c, .int .i64 c] w fun e w' => e = .returned (.tuple #[.agg (cnL c 0 0 0 0 false false).toArray, .int .i64 0]) ∧ Fr [] w w' := by
 obtain ⟨R, hR⟩ : ∃ R, w.heap.size = R := ⟨_, rfl⟩
 obtain ⟨wR, hwR⟩ : ∃ z, w.alloc (.cells #[.int .i64 0, .slice none 0 0, .bool false, .slice none 0 0, .int .i64 0, .int .i64 0, .int .i64 0, .int .i64 0, .slice none 0 0, .bool false, .slice none 0 0, .int .i64 0, .int .i64 0, .int .i64 0, .bool false, .bool false] 99) = z := ⟨_, rfl⟩
 have hr : Blk wR R 99 zeroL := by
  rw [← hwR, ← hR]
  exact Blk.made w 99 zeroL
 have hf : Fr [] w wR := by rw [← hwR]; exact (Fr.refl [] w).alloc _
 have HR := Lib.hid hr
 have HF := Lib.hid hf
 have HRS := Lib.hid hR
 have HWR := Lib.hid hwR
 have hN : ∀ W, Calls Tryz.prog 74 #[.int .i64 c] W fun e w' => e = .returned (.tuple #[.agg #[.int .i64 c, .slice none 0 0, .bool false, .slice none 0 0, .int .i64 0, .int .i64 0, .int .i64 0], .int .i64 0]) ∧ Fr [] W w' := fun W => by
  have h := stNew_any c W
  rw [if_pos hc, if_pos hc] at h
  exact h
 have HN := Lib.hid hN
 clear hr hf hR hwR hN hc
 go_enter Tryz.func34, Tryz.ntmps34
 go_wp2_with fail
 rw [HWR.out]
 simp only [HRS.out]
 refine (HN.out _).mono ?_
 rintro e w1 ⟨rfl, f1⟩
 have HR1 := Lib.hid (HR.out.keep f1 (by simp))
 have HF1 := Lib.hid (HF.out.step f1)
 clear f1 HR HF HWR
 obtain ⟨E1, hE1⟩ : ∃ E, w1.heap.size = E := ⟨_, rfl⟩
 obtain ⟨w2, hw2⟩ : ∃ z, w1.alloc (.cells #[.int .i64 c, .slice none 0 0, .bool false, .slice none 0 0, .int .i64 0, .int .i64 0, .int .i64 0] 95) = z := ⟨_, rfl⟩
 have HB1 := Lib.hid (show Blk w2 E1 95 (stL c 0 0) from by rw [← hw2, ← hE1]; exact Blk.made w1 95 (stL c 0 0))
 have f2 : Fr [] w1 w2 := by rw [← hw2]; exact (Fr.refl [] w1).alloc _
 have HR2 := Lib.hid (HR1.out.keep f2 (by simp))
 have HF2 := Lib.hid (HF1.out.step f2)
 have HE1 := Lib.hid hE1
 have HW2 := Lib.hid hw2
 clear f2 hE1 hw2
 go_wp2_with fail
 rw [HW2.out]
 refine (HN.out _).mono ?_
 rintro e w3 ⟨rfl, f3⟩
 simp only [HE1.out]
 have HB3 := Lib.hid (HB1.out.keep f3 (by simp))
 have HR3 := Lib.hid (HR2.out.keep f3 (by simp))
 have HF3 := Lib.hid (HF2.out.step f3)
 clear f3 HB1 HR2 HF2 HW2
 obtain ⟨E2, hE2⟩ : ∃ E, w3.heap.size = E := ⟨_, rfl⟩
 obtain ⟨w4, hw4⟩ : ∃ z, w3.alloc (.cells #[.int .i64 c, .slice none 0 0, .bool false, .slice none 0 0, .int .i64 0, .int .i64 0, .int .i64 0] 95) = z := ⟨_, rfl⟩
 have HB4 := Lib.hid (show Blk w4 E2 95 (stL c 0 0) from by rw [← hw4, ← hE2]; exact Blk.made w3 95 (stL c 0 0))
 have f4 : Fr [] w3 w4 := by rw [← hw4]; exact (Fr.refl [] w3).alloc _
 have HB5 := Lib.hid (HB3.out.keep f4 (by simp))
 have HR4 := Lib.hid (HR3.out.keep f4 (by simp))
 have HF4 := Lib.hid (HF3.out.step f4)
 have HE2 := Lib.hid hE2
 have HW4 := Lib.hid hw4
 clear f4 hE2 hw4 HN
 go_upto_region 5 with fail
 rw [HW4.out]
 simp only [HE2.out]
 refine wp_region_lit ?_
 refine ldZ (load_all agg90 size90 rfl HB5.out.at) ?_
 refine ldZ (load_all agg90 size90 rfl HB4.out.at) ?_
 refine wpList_val rfl (v := .agg (stL c 0 0 ++ stL c 0 0).toArray) (w' := w4) (by kernel_rfl) ?_
 try simp only [Act.put, nrZ]
 refine wpList_val rfl (v := .agg (cnL c 0 0 0 0 false false).toArray) (w' := w4) (by kernel_rfl) ?_
 try simp only [Act.put, nrZ]
 obtain ⟨w5, hst, hb5, f5⟩ := store_all (t := 99) (cnL c 0 0 0 0 false false) size94 rfl (cnL_one c 0 0 0 0 false false) HR4.out rfl
 refine stZ hst ?_
 refine wpList_plain rfl (fun K hK => ?_); go_simp; refine hK _ _ ?_; clear hK K
 refine wpList_nil ?_
 try simp only [Act.put, nrZ]
 have HR5 := Lib.hid hb5
 have HF5 := Lib.hid (HF4.out.trans f5 (fun x hx hl => by rw [List.mem_singleton] at hx; have := HRS.out; omega))
 clear hst hb5 f5
 go_wp2
 have hl := load_var agg94 size94 (xs := cnL c 0 0 0 0 false false) rfl HR5.out.at
 refine bodyPost_ret (v := .tuple #[.agg (cnL c 0 0 0 0 false false).toArray, .int .i64 0]) (by simp [results, Tryz.results34, as_addr, hl]) rfl ?_
 exact ⟨rfl, HF5.out⟩
end Go.Proofs.YtgbmenfmaphciaaGreat
