/- The program's streams with bytes, in memory: ropes, places of bytes, streams; what keeps them. -/
/- Ropes: of, Len. -/
/- Plain: what the program's streams do. -/
import Derived.Test.YtmdhlodafjpnmaaGreatB8
import Derived.Test.YtmdhlodafjpnmaaGreatPairW
namespace Go.Proofs.YtmdhlodafjpnmaaGreat
open Go.RowKit
set_option linter.unusedVariables false
set_option linter.unusedSimpArgs false
set_option maxRecDepth 100000
set_option maxHeartbeats 4000000

/-- The slice of a rope's parts with the bytes l: no part, or one that holds all of them; the blocks belong to nobody (3). -/
def RopeB (w : World) (own : Nat → Nat) (p : Sli) (l : List UInt8) : Prop :=
  (l = [] ∧ p.2.1 = 0) ∨ ∃ b off c x, p = (some ⟨b, off, none⟩, 1, c) ∧ 1 ≤ c ∧ own b = 3 ∧ w.cell? ⟨b, off, none⟩ = some (slv x) ∧ Bs w x l ∧ x.2.1 = l.length ∧ x.2.1 ≤ x.2.2 ∧ 0 < l.length ∧ ∀ g, (slv x).ownBlock = some g → own g = 3
/-- A stream's cells. -/
def stB (x : SS) (st : Value) (p : Sli) : List Value := [st, .bool x.busy, .slice p.1 p.2.1 p.2.2, .int .i64 (x.rest.length : Nat), .int .i64 x.acc, .int .i64 x.wr, .int .i64 x.rd]
/-- What a stream can be. -/
structure StOk (x : SS) : Prop where
  cap0 : 0 ≤ x.cap
  cap1 : x.cap ≤ 4096
  buf : (x.buf.length : Int) ≤ x.cap
  acc0 : 0 ≤ x.acc
  acc1 : x.acc + (x.rest.length : Nat) ≤ 65536
  wr : 0 ≤ x.wr ∧ x.wr ≤ 1000
  rd : 0 ≤ x.rd ∧ x.rd ≤ 1000
  shut : x.rd ≠ 0 → x.buf = []
  idle : x.busy = false → x.rest = [] ∧ x.acc = 0
  full : x.busy = true → x.wr = 0 → x.rd = 0 → x.rest = [] ∨ (x.buf.length : Int) = x.cap
/-- The place of a stream's bytes; its blocks belong to c. -/
def StoreB (w : World) (own : Nat → Nat) (c s : Nat) (cap : Int) (buf : List UInt8) (st : Value) : Prop :=
  (cap = 0 ∧ buf = [] ∧ st = .iface 246 (.agg #[])) ∨
  ∃ r g l cp f n, own r = c ∧ own g = c ∧ r ≠ s ∧ g ≠ s ∧ r ≠ g ∧ (l.length : Int) = cap ∧ cont l f n = buf ∧ n = buf.length ∧ RgAt w r g l cp f n ∧ st = .iface 251 (.agg #[.pointer (some ⟨r, 0, none⟩)])
structure StrA (w : World) (own : Nat → Nat) (c s : Nat) (x : SS) : Prop where
  os : own s = c
  at_ : ∃ st p, Blk w s 209 (stB x st p) ∧ StoreB w own c s x.cap x.buf st ∧ RopeB w own p x.rest
structure StrB (w : World) (own : Nat → Nat) (c s : Nat) (x : SS) : Prop where
  a : StrA w own c s x
  ok : StOk x
theorem bs_low {w : World} {x : Sli} {l : List UInt8} (h : Bs w x l) (hl : 0 < l.length) : ∀ g, (slv x).ownBlock = some g → g < w.heap.size := RowV.low h hl
section
variable {S : List Nat} {w w' : World} {own own' : Nat → Nat} {c s : Nat} {p : Sli} {l : List UInt8} {x : SS} {cap : Int} {st : Value}
theorem RopeB.keep (h : RopeB w own p l) (f : Fr S w w') (hS : ∀ z ∈ S, z < w.heap.size → own z ≠ 3) : RopeB w' own p l := by
  rcases h with h | ⟨b, off, c, x, h1, h2, h3, h4, h5, h6, h7, h8, h9⟩
  · exact .inl h
  · exact .inr ⟨b, off, c, x, h1, h2, h3, f.keep h4 (fun hm => hS b hm (cell_lt h4) h3), RowV.not h5 f (fun g hg hm => hS g hm (bs_low h5 h8 g hg) (h9 g hg)), h6, h7, h8, h9⟩
theorem RopeB.new (h : RopeB w own p l) (f : Fr [] w w') : RopeB w' own p l := h.keep f (fun z hz => by cases hz)
theorem RopeB.ext (h : RopeB w own p l) (he : Ext w own own') : RopeB w own' p l := by
  rcases h with h | ⟨b, off, c, x, h1, h2, h3, h4, h5, h6, h7, h8, h9⟩
  · exact .inl h
  · exact .inr ⟨b, off, c, x, h1, h2, (he _ (cell_lt h4)).trans h3, h4, h5, h6, h7, h8, fun g hg => (he _ (bs_low h5 h8 g hg)).trans (h9 g hg)⟩
theorem RopeB.nil (w : World) (own : Nat → Nat) : RopeB w own (none, 0, 0) [] := .inl ⟨rfl, rfl⟩
theorem StoreB.keep (h : StoreB w own c s cap l st) (f : Fr S w w') (hS : ∀ z ∈ S, z < w.heap.size → own z ≠ c) : StoreB w' own c s cap l st := by
  rcases h with h | ⟨r, g, l', cp, fr, n, h1, h2, h3, h4, h5, h6, h7, h8, h9, h10⟩
  · exact .inl h
  · exact .inr ⟨r, g, l', cp, fr, n, h1, h2, h3, h4, h5, h6, h7, h8, h9.keep f (fun hm => hS r hm h9.blk.lt h1) (fun hm => hS g hm h9.row.lt h2), h10⟩
/-- .. where only the stream's own block has turned. -/
theorem StoreB.keep1 (h : StoreB w own c s cap l st) (f : Fr [s] w w') : StoreB w' own c s cap l st := by
  rcases h with h | ⟨r, g, l', cp, fr, n, h1, h2, h3, h4, h5, h6, h7, h8, h9, h10⟩
  · exact .inl h
  · exact .inr ⟨r, g, l', cp, fr, n, h1, h2, h3, h4, h5, h6, h7, h8, h9.keep f (by simpa using h3) (by simpa using h4), h10⟩
theorem StoreB.ext (h : StoreB w own c s cap l st) (he : Ext w own own') : StoreB w own' c s cap l st := by
  rcases h with h | ⟨r, g, l', cp, fr, n, h1, h2, h3, h4, h5, h6, h7, h8, h9, h10⟩
  · exact .inl h
  · exact .inr ⟨r, g, l', cp, fr, n, (he _ h9.blk.lt).trans h1, (he _ h9.row.lt).trans h2, h3, h4, h5, h6, h7, h8, h9, h10⟩
theorem StrA.keep (h : StrA w own c s x) (f : Fr S w w') (hS : ∀ z ∈ S, z < w.heap.size → own z ≠ c ∧ own z ≠ 3) : StrA w' own c s x := by
  obtain ⟨st, p, h1, h2, h3⟩ := h.at_
  exact ⟨h.os, ⟨st, p, h1.keep f (fun hm => (hS s hm h1.lt).1 h.os), h2.keep f (fun z hz hl => (hS z hz hl).1), h3.keep f (fun z hz hl => (hS z hz hl).2)⟩⟩
theorem StrA.new (h : StrA w own c s x) (f : Fr [] w w') : StrA w' own c s x := h.keep f (fun z hz => by cases hz)
theorem StrA.lt (h : StrA w own c s x) : s < w.heap.size := by
  obtain ⟨st, p, h1, _⟩ := h.at_
  exact h1.lt
theorem StrA.ext (h : StrA w own c s x) (he : Ext w own own') : StrA w own' c s x := by
  obtain ⟨st, p, h1, h2, h3⟩ := h.at_
  exact ⟨(he _ h1.lt).trans h.os, ⟨st, p, h1, h2.ext he, h3.ext he⟩⟩
theorem StrB.keep (h : StrB w own c s x) (f : Fr S w w') (hS : ∀ z ∈ S, z < w.heap.size → own z ≠ c ∧ own z ≠ 3) : StrB w' own c s x := ⟨h.a.keep f hS, h.ok⟩
theorem StrB.new (h : StrB w own c s x) (f : Fr [] w w') : StrB w' own c s x := ⟨h.a.new f, h.ok⟩
theorem StrB.lt (h : StrB w own c s x) : s < w.heap.size := h.a.lt
theorem StrB.ext (h : StrB w own c s x) (he : Ext w own own') : StrB w own' c s x := ⟨h.a.ext he, h.ok⟩
end
theorem stB_one (x : SS) (st : Value) (p : Sli) (h : st.oneCell' = true) : ∀ u ∈ stB x st p, u.oneCell' = true := by
  intro u hu
  simp only [stB, List.mem_cons, List.not_mem_nil, or_false] at hu
  rcases hu with rfl | rfl | rfl | rfl | rfl | rfl | rfl <;> first | rfl | exact h
/-- An open stream that holds nothing. -/
def ss0 (cap : Int) : SS := ⟨cap, [], false, [], 0, 0, 0⟩
theorem ss0_ok {cap : Int} (h : 0 ≤ cap) (h' : cap ≤ 4096) : StOk (ss0 cap) := ⟨h, h', by simpa [ss0] using h, by simp [ss0], by simp [ss0], by simp [ss0], by simp [ss0], by simp [ss0], by simp [ss0], by simp [ss0]⟩
end Go.Proofs.YtmdhlodafjpnmaaGreat
namespace Go.Proofs.YtmdhlodafjpnmaaGreat
open List renaming getElem_toArray → qj1, getElem_cons_succ → qj2, getElem_cons_zero → qj3, setIfInBounds_toArray → qj4, set_cons_zero → qj5, set_cons_succ → qj6
open Go.RowKit
set_option linter.unusedVariables false
set_option linter.unusedSimpArgs false
set_option maxRecDepth 100000
set_option maxHeartbeats 4000000

/-- A rope's value. -/
def ropeV (p : Sli) (n : Nat) : Value := .agg #[.slice p.1 p.2.1 p.2.2, .int .i64 n]
theorem aggRope : ∀ w, (isAgg 128).run Tryz.prog w = .ok true w := fun w => by kernel_rfl
theorem sizeRope : ∀ w, (sizeOf 128).run Tryz.prog w = .ok 2 w := fun w => by kernel_rfl
theorem bldRope1 (a : Option Addr) (n c : Nat) : ∀ w, (Instr.build 128 #[(0, .slice a n c)]).run Tryz.prog w = .ok (.agg #[.slice a n c, .int .i64 0]) w := fun w => by kernel_rfl
theorem bldRope0 : ∀ w, (Instr.build 128 #[]).run Tryz.prog w = .ok (.agg #[.slice none 0 0, .int .i64 0]) w := fun w => by kernel_rfl
theorem bldRope2 (a : Option Addr) (n c : Nat) (k : Int) : ∀ w, (Instr.build 128 #[(0, .slice a n c), (1, .int .i64 k)]).run Tryz.prog w = .ok (.agg #[.slice a n c, .int .i64 k]) w := fun w => by kernel_rfl
theorem rope_one (a : Option Addr) (n c : Nat) (k : Int) : ∀ u ∈ [Value.slice a n c, .int .i64 k], u.oneCell' = true := by
  intro u hu
  simp only [List.mem_cons, List.not_mem_nil, or_false] at hu
  rcases hu with rfl | rfl <;> rfl
theorem ropeLen_any (p : Sli) (n : Nat) (w : World) :
    Calls Tryz.prog 206 #[.agg #[.slice p.1 p.2.1 p.2.2, .int .i64 n]] w fun e w' => e = .returned (.int .i64 n) ∧ Fr [] w w' := by
  go_enter Tryz.func206, Tryz.ntmps206
  go_wp2
  go_ret
  exact ⟨rfl, (Fr.refl [] w).alloc _⟩
/-- of, of no part or one. -/
theorem ropeOf_any {w : World} {own : Nat → Nat} {p : Sli} {l : List UInt8} (h : RopeB w own p l) (hl : l.length ≤ 65536) :
    Calls Tryz.prog 113 #[.slice p.1 p.2.1 p.2.2] w fun e w' => e = .returned (.tuple #[.agg #[.slice p.1 p.2.1 p.2.2, .int .i64 l.length], .int .i64 0]) ∧ Fr [] w w' := by
  obtain ⟨a, n, c⟩ := p
  obtain ⟨m, hm⟩ : ∃ m, l.length = m := ⟨_, rfl⟩
  rw [hm] at hl ⊢
  have hcase : (n = 0 ∧ m = 0) ∨ (n = 1 ∧ ∃ b off xa xc, a = some ⟨b, off, none⟩ ∧ w.cell? ⟨b, off, none⟩ = some (.slice xa m xc)) := by
    rcases h with ⟨rfl, h0⟩ | ⟨b, off, c', x, h1, _, _, h4, _, h6, _⟩
    · exact .inl ⟨h0, by rw [← hm]; rfl⟩
    · simp only [Prod.mk.injEq] at h1
      obtain ⟨rfl, rfl, rfl⟩ := h1
      obtain ⟨xa, xn, xc⟩ := x
      refine .inr ⟨rfl, b, off, xa, xc, rfl, ?_⟩
      rw [h4, slv]
      simp only at h6
      rw [h6, hm]
  have HN := Lib.hid (show n ≤ 1 from by rcases hcase with h | h <;> omega)
  have HCASE := Lib.hid hcase
  have hn1 : ¬ 1024 < n := by have := HN.out; omega
  have hn2 : ¬ (1024 : Int) < n := by have := HN.out; omega
  clear h hm hcase
  obtain ⟨A, hA⟩ : ∃ A, w.heap.size = A := ⟨_, rfl⟩
  obtain ⟨wA, hwA⟩ : ∃ z, w.alloc (.cells #[.slice none 0 0, .int .i64 0] 128) = z := ⟨_, rfl⟩
  have hbA : Blk wA A 128 [.slice none 0 0, .int .i64 0] := by rw [← hwA, ← hA]; exact Blk.made w 128 _
  have fA : Fr [] w wA := by rw [← hwA]; exact (Fr.refl [] w).alloc _
  have HBA := Lib.hid hbA
  have HFA := Lib.hid fA
  have HWA := Lib.hid hwA
  have HA := Lib.hid hA
  clear hbA fA hwA hA
  go_enter Tryz.func113, Tryz.ntmps113
  go_upto_region 1 with fail
  rw [HWA.out]
  simp only [HA.out]
  have hb1 := bldRope1 a n c
  refine wp_region_lit ?_
  refine wpList_plain rfl (fun K hK => ?_); go_simp; refine hK _ _ ?_; clear hK K
  refine wpList_plain rfl (fun K hK => ?_); go_simp; refine hK _ _ ?_; clear hK K
  try simp only [Act.put, qj1, qj2, qj3, qj4, qj5, qj6]
  refine wpList_plain rfl (fun K hK => ?_); go_simp; refine hK _ _ ?_; clear hK K
  try simp only [Act.put, qj1, qj2, qj3, qj4, qj5, qj6]
  obtain ⟨R, hA_⟩ : ∃ A, wA.heap.size = A := ⟨_, rfl⟩
  obtain ⟨wB, hw_⟩ : ∃ z, wA.alloc (.cells #[.slice none 0 0, .int .i64 0] 128) = z := ⟨_, rfl⟩
  have hB_ : Blk wB R 128 [.slice none 0 0, .int .i64 0] := by rw [← hw_, ← hA_]; exact Blk.made wA 128 _
  have hF_ : Fr [] wA wB := by rw [← hw_]; exact (Fr.refl [] wA).alloc _
  rw [hw_]
  simp only [hA_]
  have HR := Lib.hid hA_
  have HBR := Lib.hid hB_
  have HFwB := Lib.hid hF_
  clear hA_ hw_ hB_ hF_
  obtain ⟨wC, hst, hb_, hf_⟩ := store_all (t := 128) [.slice a n c, .int .i64 0] sizeRope rfl (rope_one a n c 0) HBR.out rfl
  refine wpList_skp rfl (w' := wC) ?_ ?_
  · show Sem.run Tryz.prog ((Instr.storeAt 128 (.pointer (some ⟨R, 0, none⟩)) (.agg #[.slice a n c, .int .i64 0])) >>= fun _ => pure Next.skip) _ = _
    rw [Sem.run_bind, hst]
    rfl
  clear hst
  try simp only [Act.put, qj1, qj2, qj3, qj4, qj5, qj6]
  refine wpList_nil ?_
  try simp only [Act.put, qj1, qj2, qj3, qj4, qj5, qj6]
  have HFC := Lib.hid ((HFA.out.step HFwB.out).trans hf_ (fun x hx hl => by rw [List.mem_singleton] at hx; have := HR.out; have := HFA.out.size; omega))
  have HAR := Lib.hid (show A ≠ R from fun h => by have := HBA.out.lt; have := HR.out; omega)
  have HBC := Lib.hid hb_
  have HBA2 := Lib.hid ((HBA.out.keep HFwB.out (by simp)).keep hf_ (by simpa using HAR.out))
  clear hb_ hf_ HBA HFwB HBR
  go_wp2
  go_loopw [15, 6, 3] (fun i u e wr => ∃ (wz : World) (j : Nat), wz = wr ∧ e = .int .i64 0 ∧ i = .int .i64 j ∧ j ≤ n ∧ Blk wr R 128 [.slice a n c, .int .i64 (if j = 0 then 0 else m : Nat)] ∧ Blk wr A 128 [.slice none 0 0, .int .i64 0] ∧ Fr [] w wr) (fun i _ _ _ => n - (intOf i).toNat)
  case atStart => exact ⟨_, 0, rfl, rfl, rfl, Nat.zero_le _, HBC.out, HBA2.out, HFC.out⟩
  case round =>
    obtain ⟨wr, j, hwz, rfl, rfl, hj, hb, hba, hf⟩ := hrel
    subst hwz
    have HB := Lib.hid hb
    have HBAA := Lib.hid hba
    have HF := Lib.hid hf
    clear hb hba hf
    by_cases hlt : j < n
    · obtain ⟨rfl, rfl⟩ : j = 0 ∧ n = 1 := by have := HN.out; omega
      rcases HCASE.out with ⟨h0, _⟩ | ⟨_, b, off, xa, xc, rfl, hc⟩
      · cases h0
      have c1 := HF.out.keep hc (by simp)
      have k0 : wr.cell? ⟨R, 1, none⟩ = some (.int .i64 0) := HB.out.at 1 _ rfl
      have hw : IntKind.i64.wrap ((0 : Int) + m) = m := by rw [IntWalk.i64_in _ (by omega)]; omega
      have hw0 : IntKind.i64.wrap (m : Int) = m := IntWalk.i64_in _ (by omega)
      go_upto_region 7 with fail
      refine wp_region_lit ?_
      refine wpList_plain rfl (fun K hK => ?_); go_simp; refine hK _ _ ?_; clear hK K
      refine wpList_plain rfl (fun K hK => ?_); go_simp; refine hK _ _ ?_; clear hK K
      refine wpList_plain rfl (fun K hK => ?_); go_simp; refine hK _ _ ?_; clear hK K
      refine wpList_plain rfl (fun K hK => ?_); go_simp; refine hK _ _ ?_; clear hK K
      refine wpList_plain rfl (fun K hK => ?_); go_simp; refine hK _ _ ?_; clear hK K
      refine wpList_plain rfl (fun K hK => ?_); go_simp; refine hK _ _ ?_; clear hK K
      try simp only [Act.put, qj1, qj2, qj3, qj4, qj5, qj6]
      obtain ⟨ws, hst, hb_, hf_⟩ := store_cell (t := 3) (o := 1) (.int .i64 m) size3 rfl rfl HB.out (by simp)
      refine wpList_skp rfl (w' := ws) ?_ ?_
      · show Sem.run Tryz.prog ((Instr.storeAt 3 (.pointer (some ⟨R, 1, none⟩)) (.int .i64 m)) >>= fun _ => pure Next.skip) _ = _
        rw [Sem.run_bind, hst]
        rfl
      clear hst
      try simp only [Act.put, qj1, qj2, qj3, qj4, qj5, qj6]
      refine wpList_nil ?_
      try simp only [Act.put, qj1, qj2, qj3, qj4, qj5, qj6]
      have HB2 := Lib.hid (show Blk ws R 128 [.slice (some ⟨b, off, none⟩) 1 c, .int .i64 m] from hb_)
      have HBA3 := Lib.hid (HBAA.out.keep hf_ (by simpa using HAR.out))
      have HF2 := Lib.hid (HF.out.trans hf_ (fun x hx hl => by rw [List.mem_singleton] at hx; have := HR.out; have := HFA.out.size; omega))
      have k1 : ws.cell? ⟨R, 1, none⟩ = some (.int .i64 m) := HB2.out.at 1 _ rfl
      have hbig : ¬ (65536 : Int) < m := by omega
      have hbig2 : ¬ 65536 < m := by omega
      clear hb_ hf_ HB HBAA
      go_wp2
      go_roundw
      case rel => exact ⟨.int .i64 0, _, .int .i64 1, ⟨rfl, 1, rfl, by omega, by simpa using HB2.out, HBA3.out, HF2.out⟩, rfl, rfl, rfl⟩
      case measure => simp [intOf]
    · obtain rfl : j = n := by omega
      have hfin : (if j = 0 then 0 else m : Nat) = m := by
        rcases HCASE.out with ⟨h0, h1⟩ | ⟨h0, _⟩
        · rw [if_pos h0, h1]
        · rw [if_neg (by omega)]
      have HB2 := Lib.hid (show Blk wr R 128 [.slice a j c, .int .i64 m] from by rw [← hfin]; exact HB.out)
      clear HB hfin
      go_upto_region 11 with fail
      refine wp_region_lit ?_
      refine wpList_val rfl (v := .agg ([.slice a j c, .int .i64 m]).toArray) (w' := wr) ?_ ?_
      · show Sem.run Tryz.prog ((Instr.loadAt 128 (.pointer (some ⟨R, 0, none⟩))) >>= fun x => pure (Next.value x)) wr = _
        rw [Sem.run_bind, load_all aggRope sizeRope (xs := [.slice a j c, .int .i64 m]) rfl HB2.out.at]
        rfl
      try simp only [Act.put, qj1, qj2, qj3, qj4, qj5, qj6]
      obtain ⟨ws, hst, hb_, hf_⟩ := store_all (t := 128) [.slice a j c, .int .i64 m] sizeRope rfl (rope_one a j c m) HBAA.out rfl
      refine wpList_skp rfl (w' := ws) ?_ ?_
      · show Sem.run Tryz.prog ((Instr.storeAt 128 (.pointer (some ⟨A, 0, none⟩)) (.agg ([.slice a j c, .int .i64 m] : List Value).toArray)) >>= fun _ => pure Next.skip) _ = _
        rw [Sem.run_bind, hst]
        rfl
      clear hst
      try simp only [Act.put, qj1, qj2, qj3, qj4, qj5, qj6]
      refine wpList_plain rfl (fun K hK => ?_); go_simp; refine hK _ _ ?_; clear hK K
      refine wpList_nil ?_
      try simp only [Act.put, qj1, qj2, qj3, qj4, qj5, qj6]
      have HF2 := Lib.hid (HF.out.trans hf_ (fun x hx hl => by rw [List.mem_singleton] at hx; have := HA.out; omega))
      have hl := load_var aggRope sizeRope (xs := [.slice a j c, .int .i64 m]) rfl hb_.at
      clear hb_ hf_
      go_wp2
      refine bodyPost_ret (v := .tuple #[.agg #[.slice a j c, .int .i64 m], .int .i64 0]) (by simp [results, Tryz.results113, as_addr, hl]) rfl ?_
      exact ⟨rfl, HF2.out⟩
end Go.Proofs.YtmdhlodafjpnmaaGreat
namespace Go.Proofs.YtmdhlodafjpnmaaGreat
set_option linter.unusedVariables false
set_option linter.unusedSimpArgs false

/-- What a stream can be, but for a write under way that has not been taken in yet. -/
structure StOk0 (x : SS) : Prop where
  cap0 : 0 ≤ x.cap
  cap1 : x.cap ≤ 4096
  buf : (x.buf.length : Int) ≤ x.cap
  acc0 : 0 ≤ x.acc
  acc1 : x.acc + (x.rest.length : Nat) ≤ 65536
  wr : 0 ≤ x.wr ∧ x.wr ≤ 1000
  rd : 0 ≤ x.rd ∧ x.rd ≤ 1000
  shut : x.rd ≠ 0 → x.buf = []
  idle : x.busy = false → x.rest = [] ∧ x.acc = 0
theorem StOk.ok0 {x : SS} (h : StOk x) : StOk0 x := ⟨h.cap0, h.cap1, h.buf, h.acc0, h.acc1, h.wr, h.rd, h.shut, h.idle⟩
def SS.isOpen (x : SS) : Bool := decide (x.wr = 0) && decide (x.rd = 0)
/-- How many bytes of the rest there is room for. -/
def SS.fillN (x : SS) : Nat := min (x.cap.toNat - x.buf.length) x.rest.length
/-- The stream once its buffer is filled. -/
def SS.fill (x : SS) : SS := if x.busy && x.isOpen then { x with buf := x.buf ++ x.rest.take x.fillN, rest := x.rest.drop x.fillN, acc := x.acc + (x.fillN : Nat) } else x
theorem isOpen_iff (x : SS) : x.isOpen = true ↔ x.wr = 0 ∧ x.rd = 0 := by simp [SS.isOpen]
theorem StOk0.fill {x : SS} (h : StOk0 x) : StOk x.fill := by
  unfold SS.fill
  by_cases hc : (x.busy && x.isOpen) = true
  · rw [if_pos hc]
    simp only [Bool.and_eq_true, isOpen_iff] at hc
    have h1 := h.cap0
    have h2 := h.buf
    have hn : x.fillN ≤ x.cap.toNat - x.buf.length ∧ x.fillN ≤ x.rest.length ∧ (x.fillN = x.cap.toNat - x.buf.length ∨ x.fillN = x.rest.length) := by unfold SS.fillN; omega
    have hcap : (x.cap.toNat : Int) = x.cap := Int.toNat_of_nonneg h1
    refine ⟨h1, h.cap1, ?_, ?_, ?_, h.wr, h.rd, ?_, ?_, ?_⟩
    · simp only [List.length_append, List.length_take]
      omega
    · have := h.acc0
      simp only
      omega
    · have := h.acc1
      simp only [List.length_drop]
      omega
    · intro hr
      exact absurd hc.2.2 hr
    · intro hb
      rw [hc.1] at hb
      cases hb
    · intro _ _ _
      simp only [List.length_append, List.length_take]
      rcases hn.2.2 with h3 | h3
      · right
        omega
      · left
        rw [h3]
        exact List.drop_of_length_le (Nat.le_refl _)
  · rw [if_neg hc]
    refine ⟨h.cap0, h.cap1, h.buf, h.acc0, h.acc1, h.wr, h.rd, h.shut, h.idle, ?_⟩
    intro h1 h2 h3
    exact absurd (by simp [h1, SS.isOpen, h2, h3]) hc
/-- Begin: the stream and the error. -/
def SS.begin (x : SS) (d : List UInt8) : SS × Int :=
  if x.wr ≠ 0 then (x, 14) else if x.rd ≠ 0 then (x, x.rd) else if x.busy then (x, 11) else (SS.fill { x with busy := true, rest := d, acc := 0 }, 0)
theorem StOk.begin {x : SS} (h : StOk x) {d : List UInt8} (hd : d.length ≤ 65536) : StOk (x.begin d).1 := by
  unfold SS.begin
  split
  · exact h
  · split
    · exact h
    · split
      · exact h
      · exact StOk0.fill ⟨h.cap0, h.cap1, h.buf, by simp, by simp only; omega, h.wr, h.rd, h.shut, by simp⟩
/-- What a read of at most m bytes takes: from the buffer, or of a write under way if there is none. -/
def SS.takeN (x : SS) (m : Nat) : List UInt8 × SS :=
  if x.cap = 0 then (if x.busy && x.isOpen then (x.rest.take m, { x with rest := x.rest.drop m, acc := x.acc + ((x.rest.take m).length : Nat) }) else ([], x))
  else (x.buf.take m, { x with buf := x.buf.drop m })
/-- Read: the stream, the bytes, the error. -/
def SS.read (x : SS) (m : Int) : SS × List UInt8 × Int :=
  if m < 0 ∨ 65536 < m then (x, [], 2) else if x.rd ≠ 0 then (x, [], 14) else if m = 0 then (x, [], 0)
  else if 0 < (x.takeN m.toNat).1.length then ((x.takeN m.toNat).2.fill, (x.takeN m.toNat).1, 0) else ((x.takeN m.toNat).2.fill, [], if x.wr ≠ 0 then x.wr else 16)
theorem StOk.takeN {x : SS} (h : StOk x) (m : Nat) : StOk0 (x.takeN m).2 := by
  unfold SS.takeN
  split
  · split
    · rename_i h1 h2
      simp only [Bool.and_eq_true, isOpen_iff] at h2
      have h3 := h.acc0
      have h4 := h.acc1
      refine ⟨h.cap0, h.cap1, h.buf, by simp only; omega, ?_, h.wr, h.rd, h.shut, ?_⟩
      · simp only [List.length_drop, List.length_take]
        omega
      · intro hb
        rw [h2.1] at hb
        cases hb
    · exact h.ok0
  · have h3 := h.buf
    refine ⟨h.cap0, h.cap1, ?_, h.acc0, h.acc1, h.wr, h.rd, ?_, h.idle⟩
    · simp only [List.length_drop]
      omega
    · intro hr
      simp only
      rw [h.shut hr, List.drop_nil]
theorem StOk.read {x : SS} (h : StOk x) (m : Int) : StOk (x.read m).1 := by
  unfold SS.read
  repeat' split
  all_goals first | exact h | exact (h.takeN _).fill
end Go.Proofs.YtmdhlodafjpnmaaGreat
