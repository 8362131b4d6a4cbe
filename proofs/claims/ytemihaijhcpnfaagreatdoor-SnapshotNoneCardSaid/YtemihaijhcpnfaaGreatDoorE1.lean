/- The snapshot's buffer: a number, numbers, a truth, bytes, a list, each appended. -/
import Derived.Test.YtemihaijhcpnfaaGreatDoorG0
import Derived.Deep.Cut
import Derived.Outline
namespace Go.Proofs.YtemihaijhcpnfaaGreatDoor
open Go.RowKit
set_option linter.unusedVariables false
set_option linter.unusedSimpArgs false
set_option maxRecDepth 100000
set_option maxHeartbeats 8000000

def byteV (x : UInt8) : Value := .int .u8 (x.toNat : Int)
def bsV (l : List UInt8) : List Value := l.map byteV
theorem bsV_len (l : List UInt8) : (bsV l).length = l.length * 1 := by simp [bsV]
theorem bsV_one (l : List UInt8) : ∀ u ∈ bsV l, u.oneCell' = true := by
  intro u hu
  obtain ⟨x, _, rfl⟩ := List.mem_map.1 hu
  rfl
theorem bsV_add (a b : List UInt8) : bsV a ++ bsV b = bsV (a ++ b) := by simp [bsV]
theorem size22 : ∀ w, (sizeOf 22).run Tryz.prog w = .ok 1 w := fun w => by kernel_rfl
/-- One cell of a block, stored. -/
theorem store_cell {w : World} {b o : Nat} {t t' : TypeId} {ys : List Value} (v : Value) (hS : ∀ w, (sizeOf t).run Tryz.prog w = .ok 1 w) (hv : v.cells = #[v]) (h1 : v.oneCell' = true) (hb : Blk w b t' ys) (hc : o + 1 ≤ ys.length) :
    ∃ w', (Instr.storeAt t (.pointer (some ⟨b, o, none⟩)) v).run Tryz.prog w = .ok () w' ∧ Blk w' b t' (ys.take o ++ [v] ++ ys.drop (o + 1)) ∧ Fr [b] w w' := by
  have hst := run_storeCells_at Tryz.prog b o t' [v] 0 ys.toArray w hb (by simp only [List.size_toArray, List.length_singleton]; omega) (fun u hu => by rw [List.mem_singleton] at hu; rw [hu]; exact h1)
  have hs : (Instr.sureAddr (.pointer (some ⟨b, o, none⟩))).run Tryz.prog w = .ok ⟨b, o, none⟩ w := by simp [Instr.sureAddr]
  have hrow : (List.take (o + 0) ys.toArray.toList ++ [v] ++ List.drop (o + 0 + [v].length) ys.toArray.toList) = ys.take o ++ [v] ++ ys.drop (o + 1) := by simp
  rw [hrow] at hst
  refine ⟨_, ?_, setRow_heap w b ys.toArray _ _ _ hb, ?_⟩
  · unfold Instr.storeAt
    rw [Sem.run_bind, hs]
    simp only [Result.andThen_ok]
    unfold storeVar
    rw [Sem.run_bind, hS]
    simp only [Result.andThen_ok]
    rw [if_neg (by rw [hv]; simp)]
    rw [hv]
    exact hst
  · exact ⟨rfl, rfl, rfl, by simp [World.setRow], fun k hk hn => setRow_other w b k _ (by simpa using hn)⟩
section
variable {P : Program} {o : Oper} {a : Act} {w w' : World} {v : Value}
theorem exec_bsl {t : TypeId} {x : Operand} {V : Value} (ho : o.op = .buildSlice t 1 #[(0, x)]) (hx : a.eval x = V) (hrun : (Instr.buildSlice t 1 #[(0, V)]).run P w = .ok v w') : (execOp a.eval o).run P w = .ok (.value v) w' := by
  simp [execOp, ho, hx, hrun]
end
theorem bslU8 (x : UInt8) : ∀ w : World, (Instr.buildSlice 22 1 #[(0, byteV x)]).run Tryz.prog w = .ok (.slice (some ⟨w.heap.size, 0, none⟩) 1 1) (w.alloc (.cells #[byteV x] 5)) := fun w => by kernel_rfl
def U8at (w : World) (x : Nat) : Prop := ∃ cs, w.heap[x]? = some (.cells cs 5)
/-- All that was there stays, but for block p and for blocks of bytes from B on. -/
structure Kp (B p : Nat) (w w' : World) : Prop where
  os : w'.os = w.os
  tape : w'.tape = w.tape
  output : w'.output = w.output
  size : w.heap.size ≤ w'.heap.size
  block : ∀ k, k < w.heap.size → k ≠ p → (k < B ∨ ¬ U8at w k) → w'.heap[k]? = w.heap[k]?
theorem Kp.of {B p : Nat} {w w' : World} (h : Fr [] w w') : Kp B p w w' := ⟨h.os, h.tape, h.output, h.size, fun k hk _ _ => h.block k hk (by simp)⟩
theorem Kp.p {B p : Nat} {w w' : World} (h : Fr [p] w w') : Kp B p w w' := ⟨h.os, h.tape, h.output, h.size, fun k hk hn _ => h.block k hk (by simpa using hn)⟩
theorem Kp.trans {B p : Nat} {a b c : World} (h : Kp B p a b) (k : Kp B p b c) : Kp B p a c :=
  ⟨k.os.trans h.os, k.tape.trans h.tape, k.output.trans h.output, Nat.le_trans h.size k.size, fun i hi hn hu => by
    have e := h.block i hi hn hu
    rw [← e]
    exact k.block i (Nat.lt_of_lt_of_le hi h.size) hn (hu.imp id (fun hu ⟨cs, hc⟩ => hu ⟨cs, e ▸ hc⟩))⟩
theorem Kp.row {B p n sz : Nat} {w w' : World} {v : Value} {xs : List Value} (h : w.ownsRow B 5 sz v n xs) (f : Fr v.ownBlock.toList w w') : Kp B p w w' :=
  ⟨f.os, f.tape, f.output, f.size, fun k hk _ hu => f.block k hk (fun hm => by
    rcases h.2 with ⟨rfl, _⟩ | ⟨g, cap, cur, rfl, h2, h3, h4⟩
    · simp [Value.ownBlock] at hm
    · simp [Value.ownBlock] at hm
      subst hm
      rcases hu with hu | hu
      · omega
      · exact hu ⟨_, h3⟩)⟩
theorem Kp.fr {B p : Nat} {w w' : World} (h : Kp B p w w') (hB : w.heap.size ≤ B) (hp : w.heap.size ≤ p) : Fr [] w w' :=
  ⟨h.os, h.tape, h.output, h.size, fun k hk _ => h.block k hk (by omega) (.inl (by omega))⟩
theorem Blk.kp {B p v : Nat} {w w' : World} {t : TypeId} {xs : List Value} (h : Blk w v t xs) (f : Kp B p w w') (hp : v ≠ p) (ht : t ≠ 5) : Blk w' v t xs := by
  have h' := h
  unfold Blk at h'
  exact (f.block v h.lt hp (.inr (fun ⟨cs, hc⟩ => by rw [h'] at hc; simp only [Option.some.injEq, Obj.cells.injEq] at hc; exact ht hc.2.1))).trans h
theorem Blk.low {B p v : Nat} {w w' : World} {t : TypeId} {xs : List Value} (h : Blk w v t xs) (f : Kp B p w w') (hp : v ≠ p) (hB : v < B) : Blk w' v t xs := (f.block v h.lt hp (.inl hB)).trans h
theorem blkNe {w : World} {b base n sz : Nat} {t e : TypeId} {ys xs : List Value} {v : Value} (hb : Blk w b t ys) (h : w.ownsRow base e sz v n xs) (hne : t ≠ e) : v.ownBlock ≠ some b := by
  intro hv
  rcases h.2 with ⟨rfl, _⟩ | ⟨g, cap, cur, rfl, h2, h3, h4⟩
  · simp [Value.ownBlock] at hv
  · simp [Value.ownBlock] at hv
    subst hv
    unfold Blk at hb
    rw [hb] at h3
    simp only [Option.some.injEq, Obj.cells.injEq] at h3
    exact hne h3.2.1
/-- The writer in block p, which holds the bytes bs in a row of its own from B on. -/
structure Buf (B : Nat) (w : World) (p : Nat) (s : Sli) (bs : List UInt8) : Prop where
  blk : Blk w p 109 [slv s]
  row : w.ownsRow B 5 1 (slv s) bs.length (bsV bs)
  low : B ≤ w.heap.size
theorem Buf.new {B p : Nat} {s : Sli} {bs : List UInt8} {w w' : World} (h : Buf B w p s bs) (f : Fr [] w w') : Buf B w' p s bs := ⟨h.blk.keep f (by simp), rowNew h.row f, Nat.le_trans h.low f.size⟩
/-- What a call of the buffer leaves. -/
def BufOut (B : Nat) (w : World) (p : Nat) (bs : List UInt8) (e : Ending) (w' : World) : Prop := e = .returned (.tuple #[]) ∧ (∃ s', Buf B w' p s' bs) ∧ Kp B p w w'
theorem number_any (x : UInt8) (hx : x.toNat < 128) {B p : Nat} {s : Sli} {bs : List UInt8} (w : World) (h : Buf B w p s bs) (hn : bs.length ≤ 100000) :
    Calls Tryz.prog 82 #[.pointer (some ⟨p, 0, none⟩), .int .u64 (x.toNat : Int)] w (BufOut B w p (bs ++ [x])) := by
  have HN := Lib.hid hn
  have HBF := Lib.hid h
  have hd : decide (128 ≤ (x.toNat : Int)) = false := decide_eq_false (by omega)
  have hd' : ¬ (128 ≤ (x.toNat : Int)) := by omega
  have hd2 : (x.toNat : Int) < 128 := by omega
  have hwr : IntKind.u8.wrap (x.toNat : Int) = x.toNat := by simp [IntKind.wrap, IntKind.bits, IntKind.signed]; omega
  clear hn h
  go_enter Tryz.func82, Tryz.ntmps82
  go_wp2
  refine wp_loop_rounds 1 ?_
  rw [rounds_succ]
  go_upto_region 3 with fail
  have c0 : w.cell? ⟨p, 0, none⟩ = some (.slice s.1 s.2.1 s.2.2) := HBF.out.blk.at 0 _ rfl
  refine wp_region_lit ?_
  refine wpList_plain rfl (fun K hK => ?_)
  go_simp
  refine hK _ _ ?_
  clear hK K
  refine wpList_plain rfl (fun K hK => ?_)
  go_simp
  refine hK _ _ ?_
  clear hK K
  refine wpList_plain rfl (fun K hK => ?_)
  go_simp
  refine hK _ _ ?_
  clear hK K
  refine wpList_plain rfl (fun K hK => ?_)
  go_simp
  refine hK _ _ ?_
  clear hK K
  refine wpList_plain rfl (fun K hK => ?_)
  go_simp
  refine hK _ _ ?_
  clear hK K
  refine wpList_plain rfl (fun K hK => ?_)
  go_simp
  refine hK _ _ ?_
  clear hK K
  refine wpList_plain rfl (fun K hK => ?_)
  go_simp
  refine hK _ _ ?_
  clear hK K
  try simp only [Act.put, List.getElem_toArray, List.getElem_cons_succ, List.getElem_cons_zero, List.setIfInBounds_toArray, List.set_cons_zero, List.set_cons_succ]
  obtain ⟨w1, hw1⟩ : ∃ z, w.alloc (.cells #[byteV x] 5) = z := ⟨_, rfl⟩
  obtain ⟨E1, hE1⟩ : ∃ z, w.heap.size = z := ⟨_, rfl⟩
  have hb1 : Blk w1 E1 5 [byteV x] := by rw [← hw1, ← hE1]; exact Blk.made w _ [byteV x]
  have f1 : Fr [] w w1 := by rw [← hw1]; exact (Fr.refl [] w).alloc _
  refine wpList_val rfl (v := .slice (some ⟨E1, 0, none⟩) 1 1) (w' := w1) ?_ ?_
  · refine exec_bsl (V := byteV x) rfl (by simp [Act.eval, byteV]) ?_
    rw [bslU8, hw1, hE1]
  try simp only [Act.put, List.getElem_toArray, List.getElem_cons_succ, List.getElem_cons_zero, List.setIfInBounds_toArray, List.set_cons_zero, List.set_cons_succ]
  have HR1 := Lib.hid (show RowV w1 (.slice (some ⟨E1, 0, none⟩) 1 1) 1 1 (bsV [x]) from ⟨rfl, .inr ⟨E1, 0, 1, rfl, hb1.lt, hb1.at⟩⟩)
  have HF1 := Lib.hid f1
  have HB1 := Lib.hid (HBF.out.new f1)
  clear hw1 hE1 hb1 f1 c0
  refine wpList_append_any elemU8 rfl _ _ rfl B (v := slv s) (n := bs.length) (xs := bsV bs) rfl HB1.out.row (X := .slice (some ⟨E1, 0, none⟩) 1 1) (m := 1) (news := bsV [x]) rfl HR1.out (bsV_one _) (by have := HN.out; omega) (by decide) HB1.out.low ?_
  intro s2 w2 ho2 f2
  try simp only [Act.put, List.getElem_toArray, List.getElem_cons_succ, List.getElem_cons_zero, List.setIfInBounds_toArray, List.set_cons_zero, List.set_cons_succ]
  refine wpList_plain rfl (fun K hK => ?_)
  go_simp
  refine hK _ _ ?_
  clear hK K
  refine wpList_plain rfl (fun K hK => ?_)
  go_simp
  refine hK _ _ ?_
  clear hK K
  try simp only [Act.put, List.getElem_toArray, List.getElem_cons_succ, List.getElem_cons_zero, List.setIfInBounds_toArray, List.set_cons_zero, List.set_cons_succ]
  have HO2 := Lib.hid ho2
  have HBK := Lib.hid (HB1.out.blk.keep f2 (fun hm => blkNe HB1.out.blk HB1.out.row (by decide) (by simpa using hm)))
  have HK1 := Lib.hid (Kp.trans (B := B) (p := p) (Kp.of HF1.out) (Kp.row HB1.out.row f2))
  have HLW := Lib.hid (Nat.le_trans HB1.out.low f2.size)
  clear ho2 f2
  obtain ⟨w3, hst, hb_, hf_⟩ := store_cell (t := 22) (o := 0) (slv s2) size22 rfl rfl HBK.out (by show 0 + 1 ≤ 1; omega)
  refine wpList_skp rfl (w' := w3) ?_ ?_
  · show Sem.run Tryz.prog ((Instr.storeAt 22 (.pointer (some ⟨p, 0, none⟩)) (slv s2)) >>= fun _ => pure Next.skip) _ = _
    rw [Sem.run_bind, hst]
    rfl
  clear hst
  try simp only [Act.put, List.getElem_toArray, List.getElem_cons_succ, List.getElem_cons_zero, List.setIfInBounds_toArray, List.set_cons_zero, List.set_cons_succ]
  refine wpList_nil ?_
  try simp only [Act.put, List.getElem_toArray, List.getElem_cons_succ, List.getElem_cons_zero, List.setIfInBounds_toArray, List.set_cons_zero, List.set_cons_succ]
  have HB3 := Lib.hid (show Buf B w3 p s2 (bs ++ [x]) from ⟨hb_, by rw [List.length_append, List.length_singleton, ← bsV_add]; exact rowFr' HO2.out hf_ (fun g hg hm => by rw [List.mem_singleton] at hm; subst hm; exact blkNe HBK.out HO2.out (by decide) hg), Nat.le_trans HLW.out hf_.size⟩)
  have HK3 := Lib.hid (HK1.out.trans (Kp.p hf_))
  clear hb_ hf_ HB1 HR1 HF1 HO2 HBK HK1 HLW
  go_wp2
  go_end0
  exact ⟨rfl, ⟨s2, HB3.out⟩, HK3.out⟩
end Go.Proofs.YtemihaijhcpnfaaGreatDoor
