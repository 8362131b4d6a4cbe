/- The reference's streams in memory, with their bytes: Copy, CloseWrite, CloseRead. -/
/- The reference's connections in memory, with their bytes: Copy. -/
import Derived.Test.YtmdhlodafjpnmaaGreatG0
import Derived.Test.YtmdhlodafjpnmaaGreatRM3
import Derived.Deep.Cut
import Derived.Outline
import Derived.RegionTactic
import Derived.RegionCalls
import Derived.Deep.RegionHeld3
namespace Go.Proofs.YtmdhlodafjpnmaaGreat
open Go.RowKit
set_option linter.unusedVariables false
set_option linter.unusedSimpArgs false
set_option maxRecDepth 100000
set_option maxHeartbeats 8000000

/-- A stream, plain. -/
structure SS where
  cap : Int
  buf : List UInt8
  busy : Bool
  rest : List UInt8
  acc : Int
  wr : Int
  rd : Int
def byteV (x : UInt8) : Value := .int .u8 (x.toNat : Int)
def bsV (l : List UInt8) : List Value := l.map byteV
theorem bsV_len (l : List UInt8) : (bsV l).length = l.length * 1 := by simp [bsV]
theorem bsV_one (l : List UInt8) : ∀ u ∈ bsV l, u.oneCell' = true := by
  intro u hu
  obtain ⟨x, _, rfl⟩ := List.mem_map.1 hu
  rfl
/-- Its cells, with the slices of its bytes. -/
def stC (x : SS) (b r : Sli) : List Value := [.int .i64 x.cap, .slice b.1 b.2.1 b.2.2, .bool x.busy, .slice r.1 r.2.1 r.2.2, .int .i64 x.acc, .int .i64 x.wr, .int .i64 x.rd]
theorem stC_one (x : SS) (b r : Sli) : ∀ u ∈ stC x b r, u.oneCell' = true := by
  intro u hu
  simp only [stC, List.mem_cons, List.not_mem_nil, or_false] at hu
  rcases hu with rfl | rfl | rfl | rfl | rfl | rfl | rfl <;> rfl
def Bs (w : World) (s : Sli) (l : List UInt8) : Prop := RowV w (slv s) l.length 1 (bsV l)
def BsO (w : World) (B : Nat) (s : Sli) (l : List UInt8) : Prop := w.ownsRow B 5 1 (slv s) l.length (bsV l)
theorem Bs.new {w w' : World} {s : Sli} {l : List UInt8} (h : Bs w s l) (f : Fr [] w w') : Bs w' s l := RowV.new h f
theorem BsO.new {w w' : World} {B : Nat} {s : Sli} {l : List UInt8} (h : BsO w B s l) (f : Fr [] w w') : BsO w' B s l := rowNew h f
theorem BsO.bs {w : World} {B : Nat} {s : Sli} {l : List UInt8} (h : BsO w B s l) : Bs w s l := RowV.of_own h
theorem BsO.base {w : World} {B B' : Nat} {s : Sli} {l : List UInt8} (h : BsO w B s l) (hb : B' ≤ B) : BsO w B' s l := rowBase h hb
theorem BsO.nil (w : World) (B : Nat) : BsO w B (none, 0, 0) [] := World.ownsRow_nil _ _ _ _
theorem size22 : ∀ w, (sizeOf 22).run Tryz.prog w = .ok 1 w := fun w => by kernel_rfl
theorem size30 : ∀ w, (sizeOf 30).run Tryz.prog w = .ok 1 w := fun w => by kernel_rfl
theorem size3 : ∀ w, (sizeOf 3).run Tryz.prog w = .ok 1 w := fun w => by kernel_rfl
/-- One cell of a block, stored. -/
theorem store_cell {w : World} {b o : Nat} {t t' : TypeId} {ys : List Value} (v : Value) (hS : ∀ w, (sizeOf t).run Tryz.prog w = .ok 1 w) (hv : v.cells = #[v]) (h1 : v.oneCell' = true) (hb : Blk w b t' ys) (hc : o + 1 ≤ ys.length) :
    ∃ w', (Instr.storeAt t (.pointer (some ⟨b, o, none⟩)) v).run Tryz.prog w = .ok () w' ∧ Blk w' b t' (ys.take o ++ [v] ++ ys.drop (o + 1)) ∧ Fr [b] w w' := by
  have hst := run_storeCells_at Tryz.prog b o t' [v] 0 ys.toArray w hb (by simp only [List.size_toArray, List.length_singleton]; omega) (fun u hu => by rw [List.mem_singleton] at hu; rw [hu]; exact h1)
  have hs : (Instr.sureAddr (.pointer (some ⟨b, o, none⟩))).run Tryz.prog w = .ok ⟨b, o, none⟩ w := by simp [Instr.sureAddr]
  have hrow : (List.take (o + 0) ys.toArray.toList ++ [v] ++ List.drop (o + 0 + [v].length) ys.toArray.toList) = ys.take o ++ [v] ++ ys.drop (o + 1) := by simp
  rw [hrow] at hst
  refine ⟨_, ?_, setRow_heap w b ys.toArray _ _ _ hb, ?_⟩
  · unfold Instr.storeAt
    rw [Sem.run_bind, hs]
    simp only [Result.andThen_ok]
    unfold storeVar
    rw [Sem.run_bind, hS]
    simp only [Result.andThen_ok]
    rw [if_neg (by rw [hv]; simp)]
    rw [hv]
    exact hst
  · exact ⟨rfl, rfl, rfl, by simp [World.setRow], fun k hk hn => setRow_other w b k _ (by simpa using hn)⟩
def zSt : List Value := [.int .i64 0, .slice none 0 0, .bool false, .slice none 0 0, .int .i64 0, .int .i64 0, .int .i64 0]
theorem Fr.own1 {S : List Nat} {B b : Nat} {w w1 w2 : World} (h : Fr [] w w1) (f : Fr [b] w1 w2) (hb : w.heap.size ≤ b) : Fr [] w w2 := h.trans f (fun x hx hl => by rw [List.mem_singleton] at hx; omega)
theorem blkNe {w : World} {b base n sz : Nat} {t e : TypeId} {ys xs : List Value} {v : Value} (hb : Blk w b t ys) (h : w.ownsRow base e sz v n xs) (hne : t ≠ e) : v.ownBlock ≠ some b := by
  intro hv
  rcases h.2 with ⟨rfl, _⟩ | ⟨g, cap, cur, rfl, h2, h3, h4⟩
  · simp [Value.ownBlock] at hv
  · simp [Value.ownBlock] at hv
    subst hv
    unfold Blk at hb
    rw [hb] at h3
    simp only [Option.some.injEq, Obj.cells.injEq] at h3
    exact hne h3.2.1
theorem RowV.low {w : World} {v : Value} {n sz : Nat} {xs : List Value} (h : RowV w v n sz xs) (hn : 0 < n) : ∀ g, v.ownBlock = some g → g < w.heap.size := by
  intro g hg
  rcases h.2 with ⟨h0, _⟩ | ⟨g', off, c, rfl, h1, _⟩
  · omega
  · simp [Value.ownBlock] at hg
    subst hg
    exact h1
theorem sCopy_any (x : SS) (b r : Sli) (w : World) (hb : Bs w b x.buf) (hr : Bs w r x.rest) (hn : x.buf.length + x.rest.length ≤ 200000) :
    Calls Tryz.prog 134 #[.agg (stC x b r).toArray] w fun e w' => ∃ b' r', e = .returned (.agg (stC x b' r').toArray) ∧ BsO w' w.heap.size b' x.buf ∧ BsO w' w.heap.size r' x.rest ∧ Fr [] w w' := by
  obtain ⟨lb, hlb⟩ : ∃ l, x.buf = l := ⟨_, rfl⟩
  obtain ⟨lr, hlr⟩ : ∃ l, x.rest = l := ⟨_, rfl⟩
  rw [hlb] at hb hn ⊢
  rw [hlr] at hr hn ⊢
  unfold BsO
  have hqb : RowV w (slv b) lb.length 1 (bsV lb) := hb
  have hqr : RowV w (slv r) lr.length 1 (bsV lr) := hr
  clear hlb hlr hb hr
  obtain ⟨B, hB⟩ : ∃ B, w.heap.size = B := ⟨_, rfl⟩
  obtain ⟨wA, hwA⟩ : ∃ z, (w.alloc (.cells (stC x b r).toArray 90)).alloc (.cells #[.int .i64 0, .slice none 0 0, .bool false, .slice none 0 0, .int .i64 0, .int .i64 0, .int .i64 0] 90) = z := ⟨_, rfl⟩
  have hb1 : Blk wA B 90 (stC x b r) := by
    rw [← hwA, ← hB]
    exact (Blk.made w _ (stC x b r)).keep ((Fr.refl [] _).alloc _) (by simp)
  have hr1 : Blk wA (B + 1) 90 zSt := by
    have h := Blk.made (w.alloc (.cells (stC x b r).toArray 90)) 90 zSt
    rw [show (w.alloc (.cells (stC x b r).toArray 90)).heap.size = B + 1 from by rw [← hB]; simp] at h
    rw [← hwA]
    exact h
  have hf : Fr [] w wA := by rw [← hwA]; exact ((Fr.refl [] w).alloc _).alloc _
  have HB := Lib.hid hb1
  have HR := Lib.hid hr1
  have HF := Lib.hid hf
  have HBS := Lib.hid hB
  have HWA := Lib.hid hwA
  have HQB := Lib.hid (hqb.new hf)
  have HQR := Lib.hid hqr
  clear hb1 hr1 hf hB hwA hqb hqr
  go_enter Tryz.func134, Tryz.ntmps134
  go_upto_region 1 with fail
  rw [HWA.out]
  simp only [HBS.out]
  have c1 : wA.cell? ⟨B, 1, none⟩ = some (.slice b.1 b.2.1 b.2.2) := HB.out.at 1 _ rfl
  refine wp_region_lit ?_
  refine wpList_plain rfl (fun K hK => ?_); go_simp; refine hK _ _ ?_; clear hK K
  refine wpList_plain rfl (fun K hK => ?_); go_simp; refine hK _ _ ?_; clear hK K
  refine wpList_append_any elemU8 rfl _ _ rfl B (v := .slice none 0 0) (n := 0) (xs := []) rfl (World.ownsRow_nil _ _ _ _) (X := slv b) (m := lb.length) (news := bsV lb) rfl HQB.out (bsV_one lb) (by omega) (by decide) (by have := HBS.out; have := HF.out.size; omega) ?_
  intro b' w1 ho1 f1
  have f1 : Fr [] wA w1 := f1
  rw [Nat.zero_add, List.nil_append] at ho1
  try simp only [Act.put, List.getElem_toArray, List.getElem_cons_succ, List.getElem_cons_zero, List.setIfInBounds_toArray, List.set_cons_zero, List.set_cons_succ]
  refine wpList_plain rfl (fun K hK => ?_); go_simp; refine hK _ _ ?_; clear hK K
  try simp only [Act.put, List.getElem_toArray, List.getElem_cons_succ, List.getElem_cons_zero, List.setIfInBounds_toArray, List.set_cons_zero, List.set_cons_succ]
  have HB1 := Lib.hid (HB.out.keep f1 (by simp))
  have HR1 := Lib.hid (HR.out.keep f1 (by simp))
  have HF1 := Lib.hid (HF.out.step f1)
  have HO1 := Lib.hid ho1
  clear ho1 f1 c1 HB HR HF HQB
  obtain ⟨w2, hst, hb_, hf_⟩ := store_cell (t := 22) (o := 1) (slv b') size22 rfl rfl HB1.out (by show 1 + 1 ≤ 7; omega)
  refine wpList_skp rfl (w' := w2) ?_ ?_
  · show Sem.run Tryz.prog ((Instr.storeAt 22 (.pointer (some ⟨B, 1, none⟩)) (slv b')) >>= fun _ => pure Next.skip) _ = _
    rw [Sem.run_bind, hst]
    rfl
  clear hst
  try simp only [Act.put, List.getElem_toArray, List.getElem_cons_succ, List.getElem_cons_zero, List.setIfInBounds_toArray, List.set_cons_zero, List.set_cons_succ]
  refine wpList_nil ?_
  try simp only [Act.put, List.getElem_toArray, List.getElem_cons_succ, List.getElem_cons_zero, List.setIfInBounds_toArray, List.set_cons_zero, List.set_cons_succ]
  have hb_ : Blk w2 B 90 (stC x b' r) := hb_
  have HB2 := Lib.hid hb_
  have HR2 := Lib.hid (HR1.out.keep hf_ (by simp))
  have HF2 := Lib.hid (HF1.out.own1 (S := []) (B := 0) hf_ (by have := HBS.out; omega))
  have HO2 := Lib.hid (rowFr' HO1.out hf_ (fun g hg hm => by rw [List.mem_singleton] at hm; subst hm; exact blkNe HB1.out HO1.out (by decide) hg))
  have HQR2 := Lib.hid (HQR.out.new HF2.out)
  clear hb_ hf_ HB1 HR1 HF1 HO1 HQR
  go_upto_region 2 with fail
  have c3 : w2.cell? ⟨B, 3, none⟩ = some (.slice r.1 r.2.1 r.2.2) := HB2.out.at 3 _ rfl
  refine wp_region_lit ?_
  refine wpList_plain rfl (fun K hK => ?_); go_simp; refine hK _ _ ?_; clear hK K
  refine wpList_plain rfl (fun K hK => ?_); go_simp; refine hK _ _ ?_; clear hK K
  refine wpList_append_any elemU8 rfl _ _ rfl B (v := .slice none 0 0) (n := 0) (xs := []) rfl (World.ownsRow_nil _ _ _ _) (X := slv r) (m := lr.length) (news := bsV lr) rfl HQR2.out (bsV_one lr) (by omega) (by decide) (by have := HBS.out; have := HF2.out.size; omega) ?_
  intro r' w3 ho3 f3
  have f3 : Fr [] w2 w3 := f3
  rw [Nat.zero_add, List.nil_append] at ho3
  try simp only [Act.put, List.getElem_toArray, List.getElem_cons_succ, List.getElem_cons_zero, List.setIfInBounds_toArray, List.set_cons_zero, List.set_cons_succ]
  refine wpList_plain rfl (fun K hK => ?_); go_simp; refine hK _ _ ?_; clear hK K
  try simp only [Act.put, List.getElem_toArray, List.getElem_cons_succ, List.getElem_cons_zero, List.setIfInBounds_toArray, List.set_cons_zero, List.set_cons_succ]
  have HB3 := Lib.hid (HB2.out.keep f3 (by simp))
  have HR3 := Lib.hid (HR2.out.keep f3 (by simp))
  have HF3 := Lib.hid (HF2.out.step f3)
  have HO3 := Lib.hid (rowNew HO2.out f3)
  have HP3 := Lib.hid ho3
  clear ho3 f3 c3 HB2 HR2 HF2 HQR2 HO2
  obtain ⟨w4, hst, hb_, hf_⟩ := store_cell (t := 22) (o := 3) (slv r') size22 rfl rfl HB3.out (by show 3 + 1 ≤ 7; omega)
  refine wpList_skp rfl (w' := w4) ?_ ?_
  · show Sem.run Tryz.prog ((Instr.storeAt 22 (.pointer (some ⟨B, 3, none⟩)) (slv r')) >>= fun _ => pure Next.skip) _ = _
    rw [Sem.run_bind, hst]
    rfl
  clear hst
  try simp only [Act.put, List.getElem_toArray, List.getElem_cons_succ, List.getElem_cons_zero, List.setIfInBounds_toArray, List.set_cons_zero, List.set_cons_succ]
  refine wpList_nil ?_
  try simp only [Act.put, List.getElem_toArray, List.getElem_cons_succ, List.getElem_cons_zero, List.setIfInBounds_toArray, List.set_cons_zero, List.set_cons_succ]
  have hb_ : Blk w4 B 90 (stC x b' r') := hb_
  have HB4 := Lib.hid hb_
  have HR4 := Lib.hid (HR3.out.keep hf_ (by simp))
  have HF4 := Lib.hid (HF3.out.own1 (S := []) (B := 0) hf_ (by have := HBS.out; omega))
  have HO4 := Lib.hid (rowFr' HO3.out hf_ (fun g hg hm => by rw [List.mem_singleton] at hm; subst hm; exact blkNe HB3.out HO3.out (by decide) hg))
  have HP4 := Lib.hid (rowFr' HP3.out hf_ (fun g hg hm => by rw [List.mem_singleton] at hm; subst hm; exact blkNe HB3.out HP3.out (by decide) hg))
  clear hb_ hf_ HB3 HR3 HF3 HO3 HP3
  go_upto_region 3 with fail
  refine wp_region_lit ?_
  refine wpList_val rfl (v := .agg (stC x b' r').toArray) (w' := w4) ?_ ?_
  · show Sem.run Tryz.prog ((Instr.loadAt 90 (.pointer (some ⟨B, 0, none⟩))) >>= fun x => pure (Next.value x)) w4 = _
    rw [Sem.run_bind, load_all agg90 size90 (xs := stC x b' r') rfl HB4.out.at]
    rfl
  try simp only [Act.put, List.getElem_toArray, List.getElem_cons_succ, List.getElem_cons_zero, List.setIfInBounds_toArray, List.set_cons_zero, List.set_cons_succ]
  obtain ⟨w5, hst, hb_, hf_⟩ := store_all (t := 90) (stC x b' r') size90 rfl (stC_one x b' r') HR4.out rfl
  refine wpList_skp rfl (w' := w5) ?_ ?_
  · show Sem.run Tryz.prog ((Instr.storeAt 90 (.pointer (some ⟨B + 1, 0, none⟩)) (.agg (stC x b' r').toArray)) >>= fun _ => pure Next.skip) _ = _
    rw [Sem.run_bind, hst]
    rfl
  clear hst
  try simp only [Act.put, List.getElem_toArray, List.getElem_cons_succ, List.getElem_cons_zero, List.setIfInBounds_toArray, List.set_cons_zero, List.set_cons_succ]
  refine wpList_nil ?_
  try simp only [Act.put, List.getElem_toArray, List.getElem_cons_succ, List.getElem_cons_zero, List.setIfInBounds_toArray, List.set_cons_zero, List.set_cons_succ]
  have HR5 := Lib.hid hb_
  have HF5 := Lib.hid (HF4.out.own1 (S := []) (B := 0) hf_ (by have := HBS.out; omega))
  have HO5 := Lib.hid (rowFr' HO4.out hf_ (fun g hg hm => by rw [List.mem_singleton] at hm; subst hm; exact blkNe HR4.out HO4.out (by decide) hg))
  have HP5 := Lib.hid (rowFr' HP4.out hf_ (fun g hg hm => by rw [List.mem_singleton] at hm; subst hm; exact blkNe HR4.out HP4.out (by decide) hg))
  clear hb_ hf_
  go_wp2
  have hl := load_var agg90 size90 (xs := stC x b' r') rfl HR5.out.at
  refine bodyPost_ret (v := .agg (stC x b' r').toArray) (by simp [results, Tryz.results134, as_addr, hl]) rfl ?_
  exact ⟨b', r', rfl, by rw [HBS.out]; exact HO5.out, by rw [HBS.out]; exact HP5.out, HF5.out⟩
end Go.Proofs.YtmdhlodafjpnmaaGreat
namespace Go.Proofs.YtmdhlodafjpnmaaGreat
open Go.RowKit
set_option linter.unusedVariables false
set_option linter.unusedSimpArgs false
set_option maxRecDepth 100000
set_option maxHeartbeats 8000000

theorem wp_vl {P : Program} {o : Oper} {a : Act} {w w' : World} {Q : Exit → Act → World → Prop} {K : Act → World → Prop} {v : Value} (hrun : (execOp a.eval o).run P w = .ok (.value v) w') (hK : K (a.put o.dst v) w') : o.wp P a w K Q := by
  unfold Oper.wp
  rw [hrun]
  exact hK
/-- A connection, plain. -/
structure CC where
  s0 : SS
  s1 : SS
  a0 : Bool
  a1 : Bool
/-- The slices of its bytes. -/
structure Q4 where
  b0 : Sli
  r0 : Sli
  b1 : Sli
  r1 : Sli
def cnC (x : CC) (q : Q4) : List Value := stC x.s0 q.b0 q.r0 ++ (stC x.s1 q.b1 q.r1 ++ [.bool x.a0, .bool x.a1])
theorem cnC_one (x : CC) (q : Q4) : ∀ u ∈ cnC x q, u.oneCell' = true := by
  intro u hu
  unfold cnC at hu
  rcases List.mem_append.1 hu with hu | hu
  · exact stC_one _ _ _ u hu
  · rcases List.mem_append.1 hu with hu | hu
    · exact stC_one _ _ _ u hu
    · simp only [List.mem_cons, List.not_mem_nil, or_false] at hu
      rcases hu with rfl | rfl <;> rfl
def zCn : List Value := zSt ++ (zSt ++ [.bool false, .bool false])
/-- What the slices hold. -/
structure CnB (w : World) (x : CC) (q : Q4) : Prop where
  b0 : Bs w q.b0 x.s0.buf
  r0 : Bs w q.r0 x.s0.rest
  b1 : Bs w q.b1 x.s1.buf
  r1 : Bs w q.r1 x.s1.rest
structure CnO (w : World) (B : Nat) (x : CC) (q : Q4) : Prop where
  b0 : BsO w B q.b0 x.s0.buf
  r0 : BsO w B q.r0 x.s0.rest
  b1 : BsO w B q.b1 x.s1.buf
  r1 : BsO w B q.r1 x.s1.rest
theorem CnB.new {w w' : World} {x : CC} {q : Q4} (h : CnB w x q) (f : Fr [] w w') : CnB w' x q := ⟨h.b0.new f, h.r0.new f, h.b1.new f, h.r1.new f⟩
theorem CnO.new {w w' : World} {B : Nat} {x : CC} {q : Q4} (h : CnO w B x q) (f : Fr [] w w') : CnO w' B x q := ⟨h.b0.new f, h.r0.new f, h.b1.new f, h.r1.new f⟩
theorem CnO.base {w : World} {B B' : Nat} {x : CC} {q : Q4} (h : CnO w B x q) (hb : B' ≤ B) : CnO w B' x q := ⟨h.b0.base hb, h.r0.base hb, h.b1.base hb, h.r1.base hb⟩
theorem CnO.b {w : World} {B : Nat} {x : CC} {q : Q4} (h : CnO w B x q) : CnB w x q := ⟨h.b0.bs, h.r0.bs, h.b1.bs, h.r1.bs⟩
/-- A store into a block of another kind. -/
theorem BsO.store {w w' : World} {B b : Nat} {t : TypeId} {ys : List Value} {s : Sli} {l : List UInt8} (h : BsO w B s l) (hb : Blk w b t ys) (f : Fr [b] w w') (hne : t ≠ 5) : BsO w' B s l :=
  rowFr' h f (fun g hg hm => by rw [List.mem_singleton] at hm; subst hm; exact blkNe hb h hne hg)
theorem CnO.store {w w' : World} {B b : Nat} {t : TypeId} {ys : List Value} {x : CC} {q : Q4} (h : CnO w B x q) (hb : Blk w b t ys) (f : Fr [b] w w') (hne : t ≠ 5) : CnO w' B x q :=
  ⟨h.b0.store hb f hne, h.r0.store hb f hne, h.b1.store hb f hne, h.r1.store hb f hne⟩
structure CC.fit (x : CC) : Prop where
  n0 : x.s0.buf.length + x.s0.rest.length ≤ 200000
  n1 : x.s1.buf.length + x.s1.rest.length ≤ 200000
theorem dCopy_any (x : CC) (q : Q4) (w : World) (hb : CnB w x q) (hn : x.fit) :
    Calls Tryz.prog 91 #[.agg (cnC x q).toArray] w fun e w' => ∃ q', e = .returned (.agg (cnC x q').toArray) ∧ CnO w' w.heap.size x q' ∧ Fr [] w w' := by
  have HQ := Lib.hid hb
  have HN := Lib.hid hn
  clear hb hn
  obtain ⟨B, hB⟩ : ∃ B, w.heap.size = B := ⟨_, rfl⟩
  obtain ⟨wA, hwA⟩ : ∃ z, ((w.alloc (.cells (cnC x q).toArray 94)).alloc (.cells #[.int .i64 0, .slice none 0 0, .bool false, .slice none 0 0, .int .i64 0, .int .i64 0, .int .i64 0, .int .i64 0, .slice none 0 0, .bool false, .slice none 0 0, .int .i64 0, .int .i64 0, .int .i64 0, .bool false, .bool false] 94)).drew = z := ⟨_, rfl⟩
  have hb1 : Blk wA B 94 (cnC x q) := by
    rw [← hwA, ← hB]
    exact (Blk.made w _ (cnC x q)).keep (((Fr.refl [] _).alloc _).drew) (by simp)
  have hr1 : Blk wA (B + 1) 94 zCn := by
    have h := Blk.made (w.alloc (.cells (cnC x q).toArray 94)) 94 zCn
    rw [show (w.alloc (.cells (cnC x q).toArray 94)).heap.size = B + 1 from by rw [← hB]; simp] at h
    rw [← hwA]
    exact h
  have hf : Fr [] w wA := by rw [← hwA]; exact (((Fr.refl [] w).alloc _).alloc _).drew
  have HB := Lib.hid hb1
  have HR := Lib.hid hr1
  have HF := Lib.hid hf
  have HBS := Lib.hid hB
  have HWA := Lib.hid hwA
  clear hb1 hr1 hf hB hwA
  go_enter Tryz.func91, Tryz.ntmps91
  go_upto_region 1 with fail
  refine wp_region_held_drew (S := fun _ => True) (by kernel_rfl) trivial (fun hHeld => ?_)
  clear hHeld
  rw [HWA.out]
  simp only [HBS.out]
  refine wpAnyH_take (i := 0) (oi := _) (v := ?_) rfl (by kernel_rfl) (by kernel_rfl) (by kernel_rfl) (fun _ _ _ h => h) (Or.inl ⟨by rfl, ?_⟩) (by first | assumption | trivial) ?_
  rotate_left
  · intro w hSw
    go_simp
    try with_reducible rfl
  try simp only [Act.put, List.getElem_toArray, List.getElem_cons_succ, List.getElem_cons_zero, List.setIfInBounds_toArray, List.set_cons_zero, List.set_cons_succ]
  refine wpAnyH_take (i := 1) (oi := _) (v := ?_) rfl (by kernel_rfl) (by kernel_rfl) (by kernel_rfl) (fun _ _ _ h => h) (Or.inl ⟨by rfl, ?_⟩) (by first | assumption | trivial) ?_
  rotate_left
  · intro w hSw
    go_simp
    try with_reducible rfl
  try simp only [Act.put, List.getElem_toArray, List.getElem_cons_succ, List.getElem_cons_zero, List.setIfInBounds_toArray, List.set_cons_zero, List.set_cons_succ]
  refine wpAnyH_take (i := 4) (oi := _) (v := ?_) rfl (by kernel_rfl) (by kernel_rfl) (by kernel_rfl) (fun _ _ _ h => h) (Or.inl ⟨by rfl, ?_⟩) (by first | assumption | trivial) ?_
  rotate_left
  · intro w hSw
    go_simp
    try with_reducible rfl
  try simp only [Act.put, List.getElem_toArray, List.getElem_cons_succ, List.getElem_cons_zero, List.setIfInBounds_toArray, List.set_cons_zero, List.set_cons_succ]
  refine wpAnyH_take (i := 5) (oi := _) (v := ?_) rfl (by kernel_rfl) (by kernel_rfl) (by kernel_rfl) (fun _ _ _ h => h) (Or.inl ⟨by rfl, ?_⟩) (by first | assumption | trivial) ?_
  rotate_left
  · intro w hSw
    go_simp
    try with_reducible rfl
  try simp only [Act.put, List.getElem_toArray, List.getElem_cons_succ, List.getElem_cons_zero, List.setIfInBounds_toArray, List.set_cons_zero, List.set_cons_succ]
  refine wpAnyH_take (i := 8) (oi := _) (v := ?_) rfl (by kernel_rfl) (by kernel_rfl) (by kernel_rfl) (fun _ _ _ h => h) (Or.inl ⟨by rfl, ?_⟩) (by first | assumption | trivial) ?_
  rotate_left
  · intro w hSw
    go_simp
    try with_reducible rfl
  try simp only [Act.put, List.getElem_toArray, List.getElem_cons_succ, List.getElem_cons_zero, List.setIfInBounds_toArray, List.set_cons_zero, List.set_cons_succ]
  refine wpAnyH_take (i := 11) (oi := _) (v := ?_) rfl (by kernel_rfl) (by kernel_rfl) (by kernel_rfl) (fun _ _ _ h => h) (Or.inl ⟨by rfl, ?_⟩) (by first | assumption | trivial) ?_
  rotate_left
  · intro w hSw
    go_simp
    try with_reducible rfl
  try simp only [Act.put, List.getElem_toArray, List.getElem_cons_succ, List.getElem_cons_zero, List.setIfInBounds_toArray, List.set_cons_zero, List.set_cons_succ]
  refine wpAnyH_ready (rs := [2, 6]) (by kernel_rfl) (by simp) ?_
  refine AllReadyH.cons (o := _) rfl (fun K hK => ?_) (AllReadyH.cons (o := _) rfl (fun K hK => ?_) AllReadyH.nil)
  · skip
    split
    rotate_left
    · rename_i hno
      exact absurd rfl hno
    refine wp_vl (v := .agg (stC x.s0 q.b0 q.r0).toArray) (w' := wA) ?_ ?_
    · show Sem.run Tryz.prog ((Instr.loadAt 90 (.pointer (some ⟨B, 0, none⟩))) >>= fun x => pure (Next.value x)) wA = _
      rw [Sem.run_bind, load_all agg90 size90 (xs := stC x.s0 q.b0 q.r0) rfl (show LiesAt wA B 0 (stC x.s0 q.b0 q.r0) from HB.out.at.part (k := 0) (n := 7) rfl)]
      rfl
    refine hK.out _ _ trivial (fun hHeld => ?_)
    clear hHeld hK K
    try simp only [Act.put, List.getElem_toArray, List.getElem_cons_succ, List.getElem_cons_zero, List.setIfInBounds_toArray, List.set_cons_zero, List.set_cons_succ]
    refine wpAnyH_ready (rs := [3, 6]) (by kernel_rfl) (by simp) ?_
    refine AllReadyH.cons (o := _) rfl (fun K hK => ?_) (AllReadyH.cons (o := _) rfl (fun K hK => ?_) AllReadyH.nil)
    · skip
      go_simp
      refine (sCopy_any x.s0 q.b0 q.r0 _ (HQ.out.b0.new HF.out) (HQ.out.r0.new HF.out) HN.out.n0).mono ?_
      rintro e w1 ⟨b0', r0', rfl, hob, hor, f1⟩
      have HB1 := Lib.hid (HB.out.keep f1 (by simp))
      have HR1 := Lib.hid (HR.out.keep f1 (by simp))
      have HF1 := Lib.hid (HF.out.step f1)
      have HO1 := Lib.hid (And.intro (hob.base HF.out.size) (hor.base HF.out.size))
      clear hob hor f1
      refine hK.out _ _ trivial (fun hHeld => ?_)
      clear hHeld hK K
      try simp only [Act.put, List.getElem_toArray, List.getElem_cons_succ, List.getElem_cons_zero, List.setIfInBounds_toArray, List.set_cons_zero, List.set_cons_succ]
      refine wpAnyH_ready (rs := [6]) (by kernel_rfl) (by simp) ?_
      refine AllReadyH.cons (o := _) rfl (fun K hK => ?_) AllReadyH.nil
      split
      rotate_left
      · rename_i hno
        exact absurd rfl hno
      refine wp_vl (v := .agg (stC x.s1 q.b1 q.r1).toArray) (w' := w1) ?_ ?_
      · show Sem.run Tryz.prog ((Instr.loadAt 90 (.pointer (some ⟨B, 7, none⟩))) >>= fun x => pure (Next.value x)) w1 = _
        rw [Sem.run_bind, load_all agg90 size90 (xs := stC x.s1 q.b1 q.r1) rfl (show LiesAt w1 B 7 (stC x.s1 q.b1 q.r1) from HB1.out.at.part (k := 7) (n := 7) rfl)]
        rfl
      refine hK.out _ _ trivial (fun hHeld => ?_)
      clear hHeld hK K
      try simp only [Act.put, List.getElem_toArray, List.getElem_cons_succ, List.getElem_cons_zero, List.setIfInBounds_toArray, List.set_cons_zero, List.set_cons_succ]
      refine wpAnyH_take (i := 9) (oi := _) (v := ?_) rfl (by kernel_rfl) (by kernel_rfl) (by kernel_rfl) (fun _ _ _ h => h) (Or.inl ⟨by rfl, ?_⟩) (by first | assumption | trivial) ?_
      rotate_left
      · intro w hSw
        go_simp
        try with_reducible rfl
      try simp only [Act.put, List.getElem_toArray, List.getElem_cons_succ, List.getElem_cons_zero, List.setIfInBounds_toArray, List.set_cons_zero, List.set_cons_succ]
      refine wpAnyH_ready (rs := [7]) (by kernel_rfl) (by simp) ?_
      refine AllReadyH.cons (o := _) rfl (fun K hK => ?_) AllReadyH.nil
      go_simp
      refine (sCopy_any x.s1 q.b1 q.r1 _ (HQ.out.b1.new HF1.out) (HQ.out.r1.new HF1.out) HN.out.n1).mono ?_
      rintro e w2 ⟨b1', r1', rfl, hob, hor, f2⟩
      have HB2 := Lib.hid (HB1.out.keep f2 (by simp))
      have HR2 := Lib.hid (HR1.out.keep f2 (by simp))
      have HF2 := Lib.hid (HF1.out.step f2)
      have HO2 := Lib.hid (CnO.mk (x := x) (q := ⟨b0', r0', b1', r1'⟩) (HO1.out.1.new f2) (HO1.out.2.new f2) (hob.base HF1.out.size) (hor.base HF1.out.size))
      clear hob hor f2 HB1 HR1 HF1 HO1
      refine hK.out _ _ trivial (fun hHeld => ?_)
      clear hHeld hK K
      try simp only [Act.put, List.getElem_toArray, List.getElem_cons_succ, List.getElem_cons_zero, List.setIfInBounds_toArray, List.set_cons_zero, List.set_cons_succ]
      refine wpAnyH_ready (rs := [10]) (by kernel_rfl) (by simp) ?_
      refine AllReadyH.cons (o := _) rfl (fun K hK => ?_) AllReadyH.nil
      obtain ⟨w3, hst, hb_, hf_⟩ := store_part (t := 90) (o := 0) (stC x.s0 b0' r0') size90 rfl (stC_one _ _ _) HB2.out (by show 0 + 7 ≤ 16; omega)
      split
      rotate_left
      · rename_i hno
        exact absurd rfl hno
      refine wp_skp (w' := w3) ?_ ?_
      · show Sem.run Tryz.prog ((Instr.storeAt 90 (.pointer (some ⟨B, 0, none⟩)) (.agg (stC x.s0 b0' r0').toArray)) >>= fun _ => pure Next.skip) _ = _
        rw [Sem.run_bind, hst]
        rfl
      clear hst
      refine hK.out _ _ trivial (fun hHeld => ?_)
      clear hHeld hK K
      try simp only [Act.put, List.getElem_toArray, List.getElem_cons_succ, List.getElem_cons_zero, List.setIfInBounds_toArray, List.set_cons_zero, List.set_cons_succ]
      have HB3 := Lib.hid (show Blk w3 B 94 (cnC x ⟨b0', r0', q.b1, q.r1⟩) from hb_)
      have HR3 := Lib.hid (HR2.out.keep hf_ (by simp))
      have HF3 := Lib.hid (HF2.out.own1 (S := []) (B := 0) hf_ (by have := HBS.out; omega))
      have HO3 := Lib.hid (HO2.out.store HB2.out hf_ (by decide))
      clear hb_ hf_ HB2 HR2 HF2 HO2
      refine wpAnyH_take (i := 12) (oi := _) (v := ?_) rfl (by kernel_rfl) (by kernel_rfl) (by kernel_rfl) (fun _ _ _ h => h) (Or.inl ⟨by rfl, ?_⟩) (by first | assumption | trivial) ?_
      rotate_left
      · intro w hSw
        go_simp
        try with_reducible rfl
      try simp only [Act.put, List.getElem_toArray, List.getElem_cons_succ, List.getElem_cons_zero, List.setIfInBounds_toArray, List.set_cons_zero, List.set_cons_succ]
      refine wpAnyH_ready (rs := [13]) (by kernel_rfl) (by simp) ?_
      refine AllReadyH.cons (o := _) rfl (fun K hK => ?_) AllReadyH.nil
      obtain ⟨w4, hst, hb_, hf_⟩ := store_part (t := 90) (o := 7) (stC x.s1 b1' r1') size90 rfl (stC_one _ _ _) HB3.out (by show 7 + 7 ≤ 16; omega)
      split
      rotate_left
      · rename_i hno
        exact absurd rfl hno
      refine wp_skp (w' := w4) ?_ ?_
      · show Sem.run Tryz.prog ((Instr.storeAt 90 (.pointer (some ⟨B, 7, none⟩)) (.agg (stC x.s1 b1' r1').toArray)) >>= fun _ => pure Next.skip) _ = _
        rw [Sem.run_bind, hst]
        rfl
      clear hst
      refine hK.out _ _ trivial (fun hHeld => ?_)
      clear hHeld hK K
      try simp only [Act.put, List.getElem_toArray, List.getElem_cons_succ, List.getElem_cons_zero, List.setIfInBounds_toArray, List.set_cons_zero, List.set_cons_succ]
      have HB4 := Lib.hid (show Blk w4 B 94 (cnC x ⟨b0', r0', b1', r1'⟩) from hb_)
      have HR4 := Lib.hid (HR3.out.keep hf_ (by simp))
      have HF4 := Lib.hid (HF3.out.own1 (S := []) (B := 0) hf_ (by have := HBS.out; omega))
      have HO4 := Lib.hid (HO3.out.store HB3.out hf_ (by decide))
      clear hb_ hf_ HB3 HR3 HF3 HO3
      refine wpAnyH_done (by kernel_rfl) ?_ _
      go_upto_region 2 with fail
      refine wp_region_lit ?_
      refine wpList_val rfl (v := .agg (cnC x ⟨b0', r0', b1', r1'⟩).toArray) (w' := w4) ?_ ?_
      · show Sem.run Tryz.prog ((Instr.loadAt 94 (.pointer (some ⟨B, 0, none⟩))) >>= fun x => pure (Next.value x)) w4 = _
        rw [Sem.run_bind, load_all agg94 size94 (xs := cnC x ⟨b0', r0', b1', r1'⟩) rfl HB4.out.at]
        rfl
      try simp only [Act.put, List.getElem_toArray, List.getElem_cons_succ, List.getElem_cons_zero, List.setIfInBounds_toArray, List.set_cons_zero, List.set_cons_succ]
      obtain ⟨w5, hst, hb_, hf_⟩ := store_all (t := 94) (cnC x ⟨b0', r0', b1', r1'⟩) size94 rfl (cnC_one _ _) HR4.out rfl
      refine wpList_skp rfl (w' := w5) ?_ ?_
      · show Sem.run Tryz.prog ((Instr.storeAt 94 (.pointer (some ⟨B + 1, 0, none⟩)) (.agg (cnC x ⟨b0', r0', b1', r1'⟩).toArray)) >>= fun _ => pure Next.skip) _ = _
        rw [Sem.run_bind, hst]
        rfl
      clear hst
      try simp only [Act.put, List.getElem_toArray, List.getElem_cons_succ, List.getElem_cons_zero, List.setIfInBounds_toArray, List.set_cons_zero, List.set_cons_succ]
      refine wpList_nil ?_
      try simp only [Act.put, List.getElem_toArray, List.getElem_cons_succ, List.getElem_cons_zero, List.setIfInBounds_toArray, List.set_cons_zero, List.set_cons_succ]
      have HR5 := Lib.hid hb_
      have HF5 := Lib.hid (HF4.out.own1 (S := []) (B := 0) hf_ (by have := HBS.out; omega))
      have HO5 := Lib.hid (HO4.out.store HR4.out hf_ (by decide))
      clear hb_ hf_
      go_wp2
      have hl := load_var agg94 size94 (xs := cnC x ⟨b0', r0', b1', r1'⟩) rfl HR5.out.at
      refine bodyPost_ret (v := .agg (cnC x ⟨b0', r0', b1', r1'⟩).toArray) (by simp [results, Tryz.results91, as_addr, hl]) rfl ?_
      exact ⟨⟨b0', r0', b1', r1'⟩, rfl, HO5.out, HF5.out⟩
    · skip
      split
      rotate_left
      · rename_i hno
        exact absurd rfl hno
      refine wp_vl (v := .agg (stC x.s1 q.b1 q.r1).toArray) (w' := wA) ?_ ?_
      · show Sem.run Tryz.prog ((Instr.loadAt 90 (.pointer (some ⟨B, 7, none⟩))) >>= fun x => pure (Next.value x)) wA = _
        rw [Sem.run_bind, load_all agg90 size90 (xs := stC x.s1 q.b1 q.r1) rfl (show LiesAt wA B 7 (stC x.s1 q.b1 q.r1) from HB.out.at.part (k := 7) (n := 7) rfl)]
        rfl
      refine hK.out _ _ trivial (fun hHeld => ?_)
      clear hHeld hK K
      try simp only [Act.put, List.getElem_toArray, List.getElem_cons_succ, List.getElem_cons_zero, List.setIfInBounds_toArray, List.set_cons_zero, List.set_cons_succ]
      refine wpAnyH_ready (rs := [3]) (by kernel_rfl) (by simp) ?_
      refine AllReadyH.cons (o := _) rfl (fun K hK => ?_) AllReadyH.nil
      go_simp
      refine (sCopy_any x.s0 q.b0 q.r0 _ (HQ.out.b0.new HF.out) (HQ.out.r0.new HF.out) HN.out.n0).mono ?_
      rintro e w1 ⟨b0', r0', rfl, hob, hor, f1⟩
      have HB1 := Lib.hid (HB.out.keep f1 (by simp))
      have HR1 := Lib.hid (HR.out.keep f1 (by simp))
      have HF1 := Lib.hid (HF.out.step f1)
      have HO1 := Lib.hid (And.intro (hob.base HF.out.size) (hor.base HF.out.size))
      clear hob hor f1
      refine hK.out _ _ trivial (fun hHeld => ?_)
      clear hHeld hK K
      try simp only [Act.put, List.getElem_toArray, List.getElem_cons_succ, List.getElem_cons_zero, List.setIfInBounds_toArray, List.set_cons_zero, List.set_cons_succ]
      refine wpAnyH_take (i := 9) (oi := _) (v := ?_) rfl (by kernel_rfl) (by kernel_rfl) (by kernel_rfl) (fun _ _ _ h => h) (Or.inl ⟨by rfl, ?_⟩) (by first | assumption | trivial) ?_
      rotate_left
      · intro w hSw
        go_simp
        try with_reducible rfl
      try simp only [Act.put, List.getElem_toArray, List.getElem_cons_succ, List.getElem_cons_zero, List.setIfInBounds_toArray, List.set_cons_zero, List.set_cons_succ]
      refine wpAnyH_ready (rs := [7]) (by kernel_rfl) (by simp) ?_
      refine AllReadyH.cons (o := _) rfl (fun K hK => ?_) AllReadyH.nil
      go_simp
      refine (sCopy_any x.s1 q.b1 q.r1 _ (HQ.out.b1.new HF1.out) (HQ.out.r1.new HF1.out) HN.out.n1).mono ?_
      rintro e w2 ⟨b1', r1', rfl, hob, hor, f2⟩
      have HB2 := Lib.hid (HB1.out.keep f2 (by simp))
      have HR2 := Lib.hid (HR1.out.keep f2 (by simp))
      have HF2 := Lib.hid (HF1.out.step f2)
      have HO2 := Lib.hid (CnO.mk (x := x) (q := ⟨b0', r0', b1', r1'⟩) (HO1.out.1.new f2) (HO1.out.2.new f2) (hob.base HF1.out.size) (hor.base HF1.out.size))
      clear hob hor f2 HB1 HR1 HF1 HO1
      refine hK.out _ _ trivial (fun hHeld => ?_)
      clear hHeld hK K
      try simp only [Act.put, List.getElem_toArray, List.getElem_cons_succ, List.getElem_cons_zero, List.setIfInBounds_toArray, List.set_cons_zero, List.set_cons_succ]
      refine wpAnyH_ready (rs := [10]) (by kernel_rfl) (by simp) ?_
      refine AllReadyH.cons (o := _) rfl (fun K hK => ?_) AllReadyH.nil
      obtain ⟨w3, hst, hb_, hf_⟩ := store_part (t := 90) (o := 0) (stC x.s0 b0' r0') size90 rfl (stC_one _ _ _) HB2.out (by show 0 + 7 ≤ 16; omega)
      split
      rotate_left
      · rename_i hno
        exact absurd rfl hno
      refine wp_skp (w' := w3) ?_ ?_
      · show Sem.run Tryz.prog ((Instr.storeAt 90 (.pointer (some ⟨B, 0, none⟩)) (.agg (stC x.s0 b0' r0').toArray)) >>= fun _ => pure Next.skip) _ = _
        rw [Sem.run_bind, hst]
        rfl
      clear hst
      refine hK.out _ _ trivial (fun hHeld => ?_)
      clear hHeld hK K
      try simp only [Act.put, List.getElem_toArray, List.getElem_cons_succ, List.getElem_cons_zero, List.setIfInBounds_toArray, List.set_cons_zero, List.set_cons_succ]
      have HB3 := Lib.hid (show Blk w3 B 94 (cnC x ⟨b0', r0', q.b1, q.r1⟩) from hb_)
      have HR3 := Lib.hid (HR2.out.keep hf_ (by simp))
      have HF3 := Lib.hid (HF2.out.own1 (S := []) (B := 0) hf_ (by have := HBS.out; omega))
      have HO3 := Lib.hid (HO2.out.store HB2.out hf_ (by decide))
      clear hb_ hf_ HB2 HR2 HF2 HO2
      refine wpAnyH_take (i := 12) (oi := _) (v := ?_) rfl (by kernel_rfl) (by kernel_rfl) (by kernel_rfl) (fun _ _ _ h => h) (Or.inl ⟨by rfl, ?_⟩) (by first | assumption | trivial) ?_
      rotate_left
      · intro w hSw
        go_simp
        try with_reducible rfl
      try simp only [Act.put, List.getElem_toArray, List.getElem_cons_succ, List.getElem_cons_zero, List.setIfInBounds_toArray, List.set_cons_zero, List.set_cons_succ]
      refine wpAnyH_ready (rs := [13]) (by kernel_rfl) (by simp) ?_
      refine AllReadyH.cons (o := _) rfl (fun K hK => ?_) AllReadyH.nil
      obtain ⟨w4, hst, hb_, hf_⟩ := store_part (t := 90) (o := 7) (stC x.s1 b1' r1') size90 rfl (stC_one _ _ _) HB3.out (by show 7 + 7 ≤ 16; omega)
      split
      rotate_left
      · rename_i hno
        exact absurd rfl hno
      refine wp_skp (w' := w4) ?_ ?_
      · show Sem.run Tryz.prog ((Instr.storeAt 90 (.pointer (some ⟨B, 7, none⟩)) (.agg (stC x.s1 b1' r1').toArray)) >>= fun _ => pure Next.skip) _ = _
        rw [Sem.run_bind, hst]
        rfl
      clear hst
      refine hK.out _ _ trivial (fun hHeld => ?_)
      clear hHeld hK K
      try simp only [Act.put, List.getElem_toArray, List.getElem_cons_succ, List.getElem_cons_zero, List.setIfInBounds_toArray, List.set_cons_zero, List.set_cons_succ]
      have HB4 := Lib.hid (show Blk w4 B 94 (cnC x ⟨b0', r0', b1', r1'⟩) from hb_)
      have HR4 := Lib.hid (HR3.out.keep hf_ (by simp))
      have HF4 := Lib.hid (HF3.out.own1 (S := []) (B := 0) hf_ (by have := HBS.out; omega))
      have HO4 := Lib.hid (HO3.out.store HB3.out hf_ (by decide))
      clear hb_ hf_ HB3 HR3 HF3 HO3
      refine wpAnyH_done (by kernel_rfl) ?_ _
      go_upto_region 2 with fail
      refine wp_region_lit ?_
      refine wpList_val rfl (v := .agg (cnC x ⟨b0', r0', b1', r1'⟩).toArray) (w' := w4) ?_ ?_
      · show Sem.run Tryz.prog ((Instr.loadAt 94 (.pointer (some ⟨B, 0, none⟩))) >>= fun x => pure (Next.value x)) w4 = _
        rw [Sem.run_bind, load_all agg94 size94 (xs := cnC x ⟨b0', r0', b1', r1'⟩) rfl HB4.out.at]
        rfl
      try simp only [Act.put, List.getElem_toArray, List.getElem_cons_succ, List.getElem_cons_zero, List.setIfInBounds_toArray, List.set_cons_zero, List.set_cons_succ]
      obtain ⟨w5, hst, hb_, hf_⟩ := store_all (t := 94) (cnC x ⟨b0', r0', b1', r1'⟩) size94 rfl (cnC_one _ _) HR4.out rfl
      refine wpList_skp rfl (w' := w5) ?_ ?_
      · show Sem.run Tryz.prog ((Instr.storeAt 94 (.pointer (some ⟨B + 1, 0, none⟩)) (.agg (cnC x ⟨b0', r0', b1', r1'⟩).toArray)) >>= fun _ => pure Next.skip) _ = _
        rw [Sem.run_bind, hst]
        rfl
      clear hst
      try simp only [Act.put, List.getElem_toArray, List.getElem_cons_succ, List.getElem_cons_zero, List.setIfInBounds_toArray, List.set_cons_zero, List.set_cons_succ]
      refine wpList_nil ?_
      try simp only [Act.put, List.getElem_toArray, List.getElem_cons_succ, List.getElem_cons_zero, List.setIfInBounds_toArray, List.set_cons_zero, List.set_cons_succ]
      have HR5 := Lib.hid hb_
      have HF5 := Lib.hid (HF4.out.own1 (S := []) (B := 0) hf_ (by have := HBS.out; omega))
      have HO5 := Lib.hid (HO4.out.store HR4.out hf_ (by decide))
      clear hb_ hf_
      go_wp2
      have hl := load_var agg94 size94 (xs := cnC x ⟨b0', r0', b1', r1'⟩) rfl HR5.out.at
      refine bodyPost_ret (v := .agg (cnC x ⟨b0', r0', b1', r1'⟩).toArray) (by simp [results, Tryz.results91, as_addr, hl]) rfl ?_
      exact ⟨⟨b0', r0', b1', r1'⟩, rfl, HO5.out, HF5.out⟩
  · skip
    split
    rotate_left
    · rename_i hno
      exact absurd rfl hno
    refine wp_vl (v := .agg (stC x.s1 q.b1 q.r1).toArray) (w' := wA) ?_ ?_
    · show Sem.run Tryz.prog ((Instr.loadAt 90 (.pointer (some ⟨B, 7, none⟩))) >>= fun x => pure (Next.value x)) wA = _
      rw [Sem.run_bind, load_all agg90 size90 (xs := stC x.s1 q.b1 q.r1) rfl (show LiesAt wA B 7 (stC x.s1 q.b1 q.r1) from HB.out.at.part (k := 7) (n := 7) rfl)]
      rfl
    refine hK.out _ _ trivial (fun hHeld => ?_)
    clear hHeld hK K
    try simp only [Act.put, List.getElem_toArray, List.getElem_cons_succ, List.getElem_cons_zero, List.setIfInBounds_toArray, List.set_cons_zero, List.set_cons_succ]
    refine wpAnyH_ready (rs := [2]) (by kernel_rfl) (by simp) ?_
    refine AllReadyH.cons (o := _) rfl (fun K hK => ?_) AllReadyH.nil
    split
    rotate_left
    · rename_i hno
      exact absurd rfl hno
    refine wp_vl (v := .agg (stC x.s0 q.b0 q.r0).toArray) (w' := wA) ?_ ?_
    · show Sem.run Tryz.prog ((Instr.loadAt 90 (.pointer (some ⟨B, 0, none⟩))) >>= fun x => pure (Next.value x)) wA = _
      rw [Sem.run_bind, load_all agg90 size90 (xs := stC x.s0 q.b0 q.r0) rfl (show LiesAt wA B 0 (stC x.s0 q.b0 q.r0) from HB.out.at.part (k := 0) (n := 7) rfl)]
      rfl
    refine hK.out _ _ trivial (fun hHeld => ?_)
    clear hHeld hK K
    try simp only [Act.put, List.getElem_toArray, List.getElem_cons_succ, List.getElem_cons_zero, List.setIfInBounds_toArray, List.set_cons_zero, List.set_cons_succ]
    refine wpAnyH_ready (rs := [3]) (by kernel_rfl) (by simp) ?_
    refine AllReadyH.cons (o := _) rfl (fun K hK => ?_) AllReadyH.nil
    go_simp
    refine (sCopy_any x.s0 q.b0 q.r0 _ (HQ.out.b0.new HF.out) (HQ.out.r0.new HF.out) HN.out.n0).mono ?_
    rintro e w1 ⟨b0', r0', rfl, hob, hor, f1⟩
    have HB1 := Lib.hid (HB.out.keep f1 (by simp))
    have HR1 := Lib.hid (HR.out.keep f1 (by simp))
    have HF1 := Lib.hid (HF.out.step f1)
    have HO1 := Lib.hid (And.intro (hob.base HF.out.size) (hor.base HF.out.size))
    clear hob hor f1
    refine hK.out _ _ trivial (fun hHeld => ?_)
    clear hHeld hK K
    try simp only [Act.put, List.getElem_toArray, List.getElem_cons_succ, List.getElem_cons_zero, List.setIfInBounds_toArray, List.set_cons_zero, List.set_cons_succ]
    refine wpAnyH_take (i := 9) (oi := _) (v := ?_) rfl (by kernel_rfl) (by kernel_rfl) (by kernel_rfl) (fun _ _ _ h => h) (Or.inl ⟨by rfl, ?_⟩) (by first | assumption | trivial) ?_
    rotate_left
    · intro w hSw
      go_simp
      try with_reducible rfl
    try simp only [Act.put, List.getElem_toArray, List.getElem_cons_succ, List.getElem_cons_zero, List.setIfInBounds_toArray, List.set_cons_zero, List.set_cons_succ]
    refine wpAnyH_ready (rs := [7]) (by kernel_rfl) (by simp) ?_
    refine AllReadyH.cons (o := _) rfl (fun K hK => ?_) AllReadyH.nil
    go_simp
    refine (sCopy_any x.s1 q.b1 q.r1 _ (HQ.out.b1.new HF1.out) (HQ.out.r1.new HF1.out) HN.out.n1).mono ?_
    rintro e w2 ⟨b1', r1', rfl, hob, hor, f2⟩
    have HB2 := Lib.hid (HB1.out.keep f2 (by simp))
    have HR2 := Lib.hid (HR1.out.keep f2 (by simp))
    have HF2 := Lib.hid (HF1.out.step f2)
    have HO2 := Lib.hid (CnO.mk (x := x) (q := ⟨b0', r0', b1', r1'⟩) (HO1.out.1.new f2) (HO1.out.2.new f2) (hob.base HF1.out.size) (hor.base HF1.out.size))
    clear hob hor f2 HB1 HR1 HF1 HO1
    refine hK.out _ _ trivial (fun hHeld => ?_)
    clear hHeld hK K
    try simp only [Act.put, List.getElem_toArray, List.getElem_cons_succ, List.getElem_cons_zero, List.setIfInBounds_toArray, List.set_cons_zero, List.set_cons_succ]
    refine wpAnyH_ready (rs := [10]) (by kernel_rfl) (by simp) ?_
    refine AllReadyH.cons (o := _) rfl (fun K hK => ?_) AllReadyH.nil
    obtain ⟨w3, hst, hb_, hf_⟩ := store_part (t := 90) (o := 0) (stC x.s0 b0' r0') size90 rfl (stC_one _ _ _) HB2.out (by show 0 + 7 ≤ 16; omega)
    split
    rotate_left
    · rename_i hno
      exact absurd rfl hno
    refine wp_skp (w' := w3) ?_ ?_
    · show Sem.run Tryz.prog ((Instr.storeAt 90 (.pointer (some ⟨B, 0, none⟩)) (.agg (stC x.s0 b0' r0').toArray)) >>= fun _ => pure Next.skip) _ = _
      rw [Sem.run_bind, hst]
      rfl
    clear hst
    refine hK.out _ _ trivial (fun hHeld => ?_)
    clear hHeld hK K
    try simp only [Act.put, List.getElem_toArray, List.getElem_cons_succ, List.getElem_cons_zero, List.setIfInBounds_toArray, List.set_cons_zero, List.set_cons_succ]
    have HB3 := Lib.hid (show Blk w3 B 94 (cnC x ⟨b0', r0', q.b1, q.r1⟩) from hb_)
    have HR3 := Lib.hid (HR2.out.keep hf_ (by simp))
    have HF3 := Lib.hid (HF2.out.own1 (S := []) (B := 0) hf_ (by have := HBS.out; omega))
    have HO3 := Lib.hid (HO2.out.store HB2.out hf_ (by decide))
    clear hb_ hf_ HB2 HR2 HF2 HO2
    refine wpAnyH_take (i := 12) (oi := _) (v := ?_) rfl (by kernel_rfl) (by kernel_rfl) (by kernel_rfl) (fun _ _ _ h => h) (Or.inl ⟨by rfl, ?_⟩) (by first | assumption | trivial) ?_
    rotate_left
    · intro w hSw
      go_simp
      try with_reducible rfl
    try simp only [Act.put, List.getElem_toArray, List.getElem_cons_succ, List.getElem_cons_zero, List.setIfInBounds_toArray, List.set_cons_zero, List.set_cons_succ]
    refine wpAnyH_ready (rs := [13]) (by kernel_rfl) (by simp) ?_
    refine AllReadyH.cons (o := _) rfl (fun K hK => ?_) AllReadyH.nil
    obtain ⟨w4, hst, hb_, hf_⟩ := store_part (t := 90) (o := 7) (stC x.s1 b1' r1') size90 rfl (stC_one _ _ _) HB3.out (by show 7 + 7 ≤ 16; omega)
    split
    rotate_left
    · rename_i hno
      exact absurd rfl hno
    refine wp_skp (w' := w4) ?_ ?_
    · show Sem.run Tryz.prog ((Instr.storeAt 90 (.pointer (some ⟨B, 7, none⟩)) (.agg (stC x.s1 b1' r1').toArray)) >>= fun _ => pure Next.skip) _ = _
      rw [Sem.run_bind, hst]
      rfl
    clear hst
    refine hK.out _ _ trivial (fun hHeld => ?_)
    clear hHeld hK K
    try simp only [Act.put, List.getElem_toArray, List.getElem_cons_succ, List.getElem_cons_zero, List.setIfInBounds_toArray, List.set_cons_zero, List.set_cons_succ]
    have HB4 := Lib.hid (show Blk w4 B 94 (cnC x ⟨b0', r0', b1', r1'⟩) from hb_)
    have HR4 := Lib.hid (HR3.out.keep hf_ (by simp))
    have HF4 := Lib.hid (HF3.out.own1 (S := []) (B := 0) hf_ (by have := HBS.out; omega))
    have HO4 := Lib.hid (HO3.out.store HB3.out hf_ (by decide))
    clear hb_ hf_ HB3 HR3 HF3 HO3
    refine wpAnyH_done (by kernel_rfl) ?_ _
    go_upto_region 2 with fail
    refine wp_region_lit ?_
    refine wpList_val rfl (v := .agg (cnC x ⟨b0', r0', b1', r1'⟩).toArray) (w' := w4) ?_ ?_
    · show Sem.run Tryz.prog ((Instr.loadAt 94 (.pointer (some ⟨B, 0, none⟩))) >>= fun x => pure (Next.value x)) w4 = _
      rw [Sem.run_bind, load_all agg94 size94 (xs := cnC x ⟨b0', r0', b1', r1'⟩) rfl HB4.out.at]
      rfl
    try simp only [Act.put, List.getElem_toArray, List.getElem_cons_succ, List.getElem_cons_zero, List.setIfInBounds_toArray, List.set_cons_zero, List.set_cons_succ]
    obtain ⟨w5, hst, hb_, hf_⟩ := store_all (t := 94) (cnC x ⟨b0', r0', b1', r1'⟩) size94 rfl (cnC_one _ _) HR4.out rfl
    refine wpList_skp rfl (w' := w5) ?_ ?_
    · show Sem.run Tryz.prog ((Instr.storeAt 94 (.pointer (some ⟨B + 1, 0, none⟩)) (.agg (cnC x ⟨b0', r0', b1', r1'⟩).toArray)) >>= fun _ => pure Next.skip) _ = _
      rw [Sem.run_bind, hst]
      rfl
    clear hst
    try simp only [Act.put, List.getElem_toArray, List.getElem_cons_succ, List.getElem_cons_zero, List.setIfInBounds_toArray, List.set_cons_zero, List.set_cons_succ]
    refine wpList_nil ?_
    try simp only [Act.put, List.getElem_toArray, List.getElem_cons_succ, List.getElem_cons_zero, List.setIfInBounds_toArray, List.set_cons_zero, List.set_cons_succ]
    have HR5 := Lib.hid hb_
    have HF5 := Lib.hid (HF4.out.own1 (S := []) (B := 0) hf_ (by have := HBS.out; omega))
    have HO5 := Lib.hid (HO4.out.store HR4.out hf_ (by decide))
    clear hb_ hf_
    go_wp2
    have hl := load_var agg94 size94 (xs := cnC x ⟨b0', r0', b1', r1'⟩) rfl HR5.out.at
    refine bodyPost_ret (v := .agg (cnC x ⟨b0', r0', b1', r1'⟩).toArray) (by simp [results, Tryz.results91, as_addr, hl]) rfl ?_
    exact ⟨⟨b0', r0', b1', r1'⟩, rfl, HO5.out, HF5.out⟩
end Go.Proofs.YtmdhlodafjpnmaaGreat
