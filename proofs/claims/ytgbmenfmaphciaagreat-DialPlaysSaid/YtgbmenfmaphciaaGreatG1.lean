/- The reference's streams in memory, with their bytes: Copy, CloseWrite, CloseRead. -/
import Derived.Test.YtgbmenfmaphciaaGreatTK
import Derived.Test.YtgbmenfmaphciaaGreatRM1
import Derived.Deep.Cut
import Derived.Outline
namespace Go.Proofs.YtgbmenfmaphciaaGreat
set_option linter.unusedVariables false
set_option linter.unusedSimpArgs false
set_option linter.unusedSectionVars false
open Go.RowKit
set_option linter.unusedVariables false
set_option linter.unusedSimpArgs false
set_option maxRecDepth 100000
set_option maxHeartbeats 8000000
structure SS where
 cap : Int
 buf : List UInt8
 busy : Bool
 rest : List UInt8
 acc : Int
 wr : Int
 rd : Int
def byteV (x : UInt8) : Value := .int .u8 (x.toNat : Int)
def bsV (l : List UInt8) : List Value := l.map byteV
theorem bsV_one (l : List UInt8) : ∀ u ∈ bsV l, u.oneCell' = true := by
 intro u hu
 obtain ⟨x, _, rfl⟩ := List.mem_map.1 hu
 rfl
def stC (x : SS) (b r : Sli) : List Value := [.int .i64 x.cap, .slice b.1 b.2.1 b.2.2, .bool x.busy, .slice r.1 r.2.1 r.2.2, .int .i64 x.acc, .int .i64 x.wr, .int .i64 x.rd]
theorem stC_one (x : SS) (b r : Sli) : ∀ u ∈ stC x b r, u.oneCell' = true := by
 intro u hu
 simp only [stC, List.mem_cons, List.not_mem_nil, or_false] at hu
 rcases hu with rfl | rfl | rfl | rfl | rfl | rfl | rfl <;> rfl
def Bs (w : World) (s : Sli) (l : List UInt8) : Prop := RowV w (slv s) l.length 1 (bsV l)
def BsO (w : World) (B : Nat) (s : Sli) (l : List UInt8) : Prop := w.ownsRow B 5 1 (slv s) l.length (bsV l)
theorem Bs.new {w w' : World} {s : Sli} {l : List UInt8} (h : Bs w s l) (f : Fr [] w w') : Bs w' s l := RowV.new h f
theorem BsO.new {w w' : World} {B : Nat} {s : Sli} {l : List UInt8} (h : BsO w B s l) (f : Fr [] w w') : BsO w' B s l := rowNew h f
theorem BsO.bs {w : World} {B : Nat} {s : Sli} {l : List UInt8} (h : BsO w B s l) : Bs w s l := RowV.of_own h
theorem BsO.base {w : World} {B B' : Nat} {s : Sli} {l : List UInt8} (h : BsO w B s l) (hb : B' ≤ B) : BsO w B' s l := rowBase h hb
theorem BsO.nil (w : World) (B : Nat) : BsO w B (none, 0, 0) [] := World.ownsRow_nil _ _ _ _
theorem size22 : ∀ w, (sizeOf 93).run Tryz.prog w = .ok 1 w := fun w => by kernel_rfl
theorem size30 : ∀ w, (sizeOf 42).run Tryz.prog w = .ok 1 w := fun w => by kernel_rfl
theorem size3 : ∀ w, (sizeOf 3).run Tryz.prog w = .ok 1 w := fun w => by kernel_rfl
theorem store_cell {w : World} {b o : Nat} {t t' : TypeId} {ys : List Value} (v : Value) (hS : ∀ w, (sizeOf t).run Tryz.prog w = .ok 1 w) (hv : v.cells = #[v]) (h1 : v.oneCell' = true) (hb : Blk w b t' ys) (hc : o + 1 ≤ ys.length) :
  ∃ w', (Instr.storeAt t (.pointer (some ⟨b, o, none⟩)) v).run Tryz.prog w = .ok () w' ∧ Blk w' b t' (ys.take o ++ [v] ++ ys.drop (o + 1)) ∧ Fr [b] w w' := by
 have hst := run_storeCells_at Tryz.prog b o t' [v] 0 ys.toArray w hb (by simp only [List.size_toArray, List.length_singleton]; omega) (fun u hu => by rw [List.mem_singleton] at hu; rw [hu]; exact h1)
 have hs : (Instr.sureAddr (.pointer (some ⟨b, o, none⟩))).run Tryz.prog w = .ok ⟨b, o, none⟩ w := by simp [Instr.sureAddr]
 have hrow : (List.take (o + 0) ys.toArray.toList ++ [v] ++ List.drop (o + 0 + [v].length) ys.toArray.toList) = ys.take o ++ [v] ++ ys.drop (o + 1) := by simp
 rw [hrow] at hst
 refine ⟨_, ?_, setRow_heap w b ys.toArray _ _ _ hb, ?_⟩
 ·unfold Instr.storeAt
  rw [Sem.run_bind, hs]
  simp only [Result.andThen_ok]
  unfold storeVar
  rw [Sem.run_bind, hS]
  simp only [Result.andThen_ok]
  rw [if_neg (by rw [hv]; simp)]
  rw [hv]
  exact hst
 ·exact ⟨rfl, rfl, rfl, by simp [World.setRow], fun k hk hn => setRow_other w b k _ (by simpa using hn)⟩
def zSt : List Value := [.int .i64 0, .slice none 0 0, .bool false, .slice none 0 0, .int .i64 0, .int .i64 0, .int .i64 0]
theorem Fr.own1 {S : List Nat} {B b : Nat} {w w1 w2 : World} (h : Fr [] w w1) (f : Fr [b] w1 w2) (hb : w.heap.size ≤ b) : Fr [] w w2 := h.trans f (fun x hx hl => by rw [List.mem_singleton] at hx; omega)
theorem blkNe {w : World} {b base n sz : Nat} {t e : TypeId} {ys xs : List Value} {v : Value} (hb : Blk w b t ys) (h : w.ownsRow base e sz v n xs) (hne : t ≠ e) : v.ownBlock ≠ some b := by
 intro hv
 rcases h.2 with ⟨rfl, _⟩ | ⟨g, cap, cur, rfl, h2, h3, h4⟩
 ·simp [Value.ownBlock] at hv
 ·simp [Value.ownBlock] at hv
  subst hv
  unfold Blk at hb
  rw [hb] at h3
  simp only [Option.some.injEq, Obj.cells.injEq] at h3
  exact hne h3.2.1
theorem RowV.low {w : World} {v : Value} {n sz : Nat} {xs : List Value} (h : RowV w v n sz xs) (hn : 0 < n) : ∀ g, v.ownBlock = some g → g < w.heap.size := by
 intro g hg
 rcases h.2 with ⟨h0, _⟩ | ⟨g', off, c, rfl, h1, _⟩
 ·omega
 ·simp [Value.ownBlock] at hg
  subst hg
  exact h1
theorem sCopy_any (x : SS) (b r : Sli) (w : World) (hb : Bs w b x.buf) (hr : Bs w r x.rest) (hn : x.buf.length + x.rest.length ≤ 200000) :
  Calls Tryz.prog 114 #[.agg (stC x b r).toArray] w fun e w' => ∃ b' r', e = .returned (.agg (stC x b' r').toArray) ∧ BsO w' w.heap.size b' x.buf ∧ BsO w' w.heap.size r' x.rest ∧ Fr [] w w' := by
 obtain ⟨lb, hlb⟩ : ∃ l, x.buf = l := ⟨_, rfl⟩
 obtain ⟨lr, hlr⟩ : ∃ l, x.rest = l := ⟨_, rfl⟩
 rw [hlb] at hb hn ⊢
 rw [hlr] at hr hn ⊢
 unfold BsO
 have hqb : RowV w (slv b) lb.length 1 (bsV lb) := hb
 have hqr : RowV w (slv r) lr.length 1 (bsV lr) := hr
 clear hlb hlr hb hr
 obtain ⟨B, hB⟩ : ∃ B, w.heap.size = B := ⟨_, rfl⟩
 obtain ⟨wA, hwA⟩ : ∃ z, (w.alloc (.cells (stC x b r).toArray 95)).alloc (.cells #[.int .i64 0, .slice none 0 0, .bool false, .slice none 0 0, .int .i64 0, .int .i64 0, .int .i64 0] 95) = z := ⟨_, rfl⟩
 have hb1 : Blk wA B 95 (stC x b r) := by
  rw [← hwA, ← hB]
  exact (Blk.made w _ (stC x b r)).keep ((Fr.refl [] _).alloc _) (by simp)
 have hr1 : Blk wA (B + 1) 95 zSt := by
  have h := Blk.made (w.alloc (.cells (stC x b r).toArray 95)) 95 zSt
  rw [show (w.alloc (.cells (stC x b r).toArray 95)).heap.size = B + 1 from by rw [← hB]; simp] at h
  rw [← hwA]
  exact h
 have hf : Fr [] w wA := by rw [← hwA]; exact ((Fr.refl [] w).alloc _).alloc _
 have HB := Lib.hid hb1
 have HR := Lib.hid hr1
 have HF := Lib.hid hf
 have HBS := Lib.hid hB
 have HWA := Lib.hid hwA
 have HQB := Lib.hid (hqb.new hf)
 have HQR := Lib.hid hqr
 clear hb1 hr1 hf hB hwA hqb hqr
 go_enter Tryz.func114, Tryz.ntmps114
 go_upto_region 1 with fail
 rw [HWA.out]
 simp only [HBS.out]
 have c1 : wA.cell? ⟨B, 1, none⟩ = some (.slice b.1 b.2.1 b.2.2) := HB.out.at 1 _ rfl
 refine wp_region_lit ?_
 iterate 2 (refine wpList_plain rfl (fun K hK => ?_); go_simp; refine hK _ _ ?_; clear hK K)
 refine wpList_append_any elemU8 rfl _ _ rfl B (v := .slice none 0 0) (n := 0) (xs := []) rfl (World.ownsRow_nil _ _ _ _) (X := slv b) (m := lb.length) (news := bsV lb) rfl HQB.out (bsV_one lb) (by omega) (by decide) (by have := HBS.out; have := HF.out.size; omega) ?_
 intro b' w1 ho1 f1
 have f1 : Fr [] wA w1 := f1
 rw [Nat.zero_add, List.nil_append] at ho1
 try simp only [Act.put, nrZ]
 refine wpList_plain rfl (fun K hK => ?_); go_simp; refine hK _ _ ?_; clear hK K
 try simp only [Act.put, nrZ]
 have HB1 := Lib.hid (HB.out.keep f1 (by simp))
 have HR1 := Lib.hid (HR.out.keep f1 (by simp))
 have HF1 := Lib.hid (HF.out.step f1)
 have HO1 := Lib.hid ho1
 clear ho1 f1 c1 HB HR HF HQB
 obtain ⟨w2, hst, hb_, hf_⟩ := store_cell (t := 93) (o := 1) (slv b') size22 rfl rfl HB1.out (by show 1 + 1 ≤ 7; omega)
 refine stZ hst ?_
 clear hst
 refine wpList_nil ?_
 try simp only [Act.put, nrZ]
 have hb_ : Blk w2 B 95 (stC x b' r) := hb_
 have HB2 := Lib.hid hb_
 have HR2 := Lib.hid (HR1.out.keep hf_ (by simp))
 have HF2 := Lib.hid (HF1.out.own1 (S := []) (B := 0) hf_ (by have := HBS.out; omega))
 have HO2 := Lib.hid (rowFr' HO1.out hf_ (fun g hg hm => by rw [List.mem_singleton] at hm; subst hm; exact blkNe HB1.out HO1.out (by decide) hg))
 have HQR2 := Lib.hid (HQR.out.new HF2.out)
 clear hb_ hf_ HB1 HR1 HF1 HO1 HQR
 go_upto_region 2 with fail
 have c3 : w2.cell? ⟨B, 3, none⟩ = some (.slice r.1 r.2.1 r.2.2) := HB2.out.at 3 _ rfl
 refine wp_region_lit ?_
 iterate 2 (refine wpList_plain rfl (fun K hK => ?_); go_simp; refine hK _ _ ?_; clear hK K)
 refine wpList_append_any elemU8 rfl _ _ rfl B (v := .slice none 0 0) (n := 0) (xs := []) rfl (World.ownsRow_nil _ _ _ _) (X := slv r) (m := lr.length) (news := bsV lr) rfl HQR2.out (bsV_one lr) (by omega) (by decide) (by have := HBS.out; have := HF2.out.size; omega) ?_
 intro r' w3 ho3 f3
 have f3 : Fr [] w2 w3 := f3
 rw [Nat.zero_add, List.nil_append] at ho3
 try simp only [Act.put, nrZ]
 refine wpList_plain rfl (fun K hK => ?_); go_simp; refine hK _ _ ?_; clear hK K
 try simp only [Act.put, nrZ]
 have HB3 := Lib.hid (HB2.out.keep f3 (by simp))
 have HR3 := Lib.hid (HR2.out.keep f3 (by simp))
 have HF3 := Lib.hid (HF2.out.step f3)
 have HO3 := Lib.hid (rowNew HO2.out f3)
 have HP3 := Lib.hid ho3
 clear ho3 f3 c3 HB2 HR2 HF2 HQR2 HO2
 obtain ⟨w4, hst, hb_, hf_⟩ := store_cell (t := 93) (o := 3) (slv r') size22 rfl rfl HB3.out (by show 3 + 1 ≤ 7; omega)
 refine stZ hst ?_
 clear hst
 refine wpList_nil ?_
 try simp only [Act.put, nrZ]
 have hb_ : Blk w4 B 95 (stC x b' r') := hb_
 have HB4 := Lib.hid hb_
 have HR4 := Lib.hid (HR3.out.keep hf_ (by simp))
 have HF4 := Lib.hid (HF3.out.own1 (S := []) (B := 0) hf_ (by have := HBS.out; omega))
 have HO4 := Lib.hid (rowFr' HO3.out hf_ (fun g hg hm => by rw [List.mem_singleton] at hm; subst hm; exact blkNe HB3.out HO3.out (by decide) hg))
 have HP4 := Lib.hid (rowFr' HP3.out hf_ (fun g hg hm => by rw [List.mem_singleton] at hm; subst hm; exact blkNe HB3.out HP3.out (by decide) hg))
 clear hb_ hf_ HB3 HR3 HF3 HO3 HP3
 go_upto_region 3 with fail
 refine wp_region_lit ?_
 refine ldZ (load_all agg90 size90 (xs := stC x b' r') rfl HB4.out.at) ?_
 obtain ⟨w5, hst, hb_, hf_⟩ := store_all (t := 95) (stC x b' r') size90 rfl (stC_one x b' r') HR4.out rfl
 refine stZ hst ?_
 clear hst
 refine wpList_nil ?_
 try simp only [Act.put, nrZ]
 have HR5 := Lib.hid hb_
 have HF5 := Lib.hid (HF4.out.own1 (S := []) (B := 0) hf_ (by have := HBS.out; omega))
 have HO5 := Lib.hid (rowFr' HO4.out hf_ (fun g hg hm => by rw [List.mem_singleton] at hm; subst hm; exact blkNe HR4.out HO4.out (by decide) hg))
 have HP5 := Lib.hid (rowFr' HP4.out hf_ (fun g hg hm => by rw [List.mem_singleton] at hm; subst hm; exact blkNe HR4.out HP4.out (by decide) hg))
 clear hb_ hf_
 go_wp2
 have hl := load_var agg90 size90 (xs := stC x b' r') rfl HR5.out.at
 refine bodyPost_ret (v := .agg (stC x b' r').toArray) (by simp [results, Tryz.results114, as_addr, hl]) rfl ?_
 exact ⟨b', r', rfl, by rw [HBS.out]; exact HO5.out, by rw [HBS.out]; exact HP5.out, HF5.out⟩
end Go.Proofs.YtgbmenfmaphciaaGreat
