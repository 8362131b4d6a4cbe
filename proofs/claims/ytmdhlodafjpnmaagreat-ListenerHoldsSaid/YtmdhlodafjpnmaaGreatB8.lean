/- Bytes copied into a block. -/
/- A ring takes bytes: Write. -/
/- A ring is made: New. -/
/- A ring is read from its front, and stays: Peek at offset 0. -/
/- Bytes cleared. -/
/- A ring drops bytes: Skip. -/
/- A ring is read: Read. -/
import Derived.Test.YtmdhlodafjpnmaaGreatB1
import Derived.Test.YtmdhlodafjpnmaaGreatBP3
import Derived.Laws.CopyOwn
namespace Go.Proofs.YtmdhlodafjpnmaaGreat
open Go.RowKit
set_option linter.unusedVariables false
set_option linter.unusedSimpArgs false
set_option maxRecDepth 100000
set_option maxHeartbeats 4000000

theorem Bs_elem {w : World} {a : Option Addr} {n cp : Nat} {l : List UInt8} (h : Bs w (a, n, cp) l) (k : Nat) (hk : k < l.length) : ∃ g off, a = some ⟨g, off, none⟩ ∧ g < w.heap.size ∧ w.cell? ⟨g, off + k, none⟩ = some (.int .u8 (((l[k]'hk).toNat : Nat) : Int)) := by
  obtain ⟨g, off, c, hv, hg, ha⟩ := RowV.at h (i := k) hk
  simp only [slv, Value.slice.injEq] at hv
  refine ⟨g, off, hv.1, hg, ?_⟩
  have := ha 0 (.int .u8 (((l[k]'hk).toNat : Nat) : Int)) (by
    rw [List.getElem?_take_of_lt (by omega), List.getElem?_drop]
    simp only [bsV, Nat.mul_one, Nat.add_zero]
    rw [List.getElem?_map, List.getElem?_eq_getElem hk]
    rfl)
  simpa using this
/-- v[lo:hi] of bytes. -/
theorem bs_slice {w : World} {a : Option Addr} {n cap : Nat} {src : List UInt8} (h : Bs w (a, n, cap) src) (hn : src.length = n) (hcap : n ≤ cap) (lo hi : Nat) (h1 : lo ≤ hi) (h2 : hi ≤ n) :
    ∃ a', (∀ W : World, (Instr.slice 22 (.slice a n cap) (some (.int .i64 lo)) (some (.int .i64 hi)) none).run Tryz.prog W = .ok (.slice a' (hi - lo) (cap - lo)) W) ∧ Bs w (a', hi - lo, cap - lo) ((src.drop lo).take (hi - lo)) ∧ (∀ b, (slv (a', hi - lo, cap - lo)).ownBlock = some b → (slv (a, n, cap)).ownBlock = some b) := by
  have ht : Tryz.prog.underlying 22 = some (.slice (Tryz.prog.elem 22)) := by kernel_rfl
  have hsz : ∀ W : World, (sizeOf (Tryz.prog.elem 22)).run Tryz.prog W = .ok 1 W := fun W => by kernel_rfl
  have hl : ((src.drop lo).take (hi - lo)).length = hi - lo := by rw [List.length_take, List.length_drop]; omega
  refine ⟨if cap = lo then a else a.map (·.add (lo * 1)), fun W => ?_, ?_, ?_⟩
  · rw [run_slice_lh W 22 a n cap ht .i64 .i64 lo hi (by omega) (by omega) (by omega), hsz]
    simp [Result.andThen, sliced]
  · refine ⟨by rw [bsV_len], ?_⟩
    by_cases h0 : hi - lo = 0
    · exact .inl ⟨by rw [hl]; exact h0, _, _, by rw [slv, h0]⟩
    · obtain ⟨g, off, rfl, hg, _⟩ := Bs_elem h 0 (by omega)
      rw [if_neg (by omega)]
      refine .inr ⟨g, off + lo, cap - lo, by rw [hl]; simp [slv, Addr.add_lit], hg, fun j u hj => ?_⟩
      unfold bsV at hj
      rw [List.getElem?_map, List.getElem?_take] at hj
      split at hj
      · rename_i hjl
        rw [List.getElem?_drop] at hj
        obtain ⟨y, hy, hu⟩ := Option.map_eq_some_iff.1 hj
        obtain ⟨hlt, hye⟩ := List.getElem?_eq_some_iff.1 hy
        obtain ⟨g', off', he, _, hc⟩ := Bs_elem h (lo + j) hlt
        simp only [Option.some.injEq, Addr.mk.injEq] at he
        obtain ⟨rfl, rfl, _⟩ := he
        rw [← hu, ← hye, Nat.add_assoc]
        exact hc
      · simp at hj
  · intro b hb
    rcases a with _ | ⟨g, off, sp⟩
    · simp [slv, Value.ownBlock] at hb
    · by_cases hc : cap = lo
      · rw [if_pos hc] at hb
        simpa [slv, Value.ownBlock] using hb
      · rw [if_neg hc] at hb
        have hb' : (if lo = 0 then (⟨g, off, sp⟩ : Addr) else ⟨g, off + lo, none⟩).block = b := by simpa [slv, Value.ownBlock, Addr.add] using hb
        have hg : g = b := by split at hb' <;> exact hb'
        subst hg
        rfl
theorem wpList_copy_bytes {w : World} {ops : Array Oper} {rest : List Oper} {o : Oper} {a : Act} {Q : Exit → Act → World → Prop} (hgd : o.guard = none) (d s : Operand)
    (ho : o.op = .call { callee := .builtin .copy, args := #[d, s], argTypes := #[22, 22] })
    (dp sp : Option Addr) (dLen dCap sLen sCap : Nat) (hd : a.eval d = .slice dp dLen dCap) (hs : a.eval s = .slice sp sLen sCap)
    (g off : Nat) (l src : List UInt8) (hb : Blk w g 5 (bsV l)) (hsl : src.length = sLen) (hsrc : Bs w (sp, sLen, sCap) src) (hdp : 0 < dLen → dp = some ⟨g, off, none⟩) (hfit : off + Nat.min sLen dLen ≤ l.length)
    (h : ∀ w', Blk w' g 5 (bsV (putAt l off (src.take dLen))) → Fr [g] w w' → wpList Tryz.prog ops Q rest (a.put o.dst (goInt (src.take dLen).length)) w') :
    wpList Tryz.prog ops Q (o :: rest) a w := by
  have hu := Tryz.underlying22
  have hsz : (Tryz.prog.info? 5).map (·.size) = some 1 := by kernel_rfl
  have hlen : (src.take dLen).length = Nat.min sLen dLen := by rw [List.length_take, hsl, Nat.min_comm]
  by_cases h0 : (src.take dLen).length = 0
  · have he := List.eq_nil_of_length_eq_zero h0
    rw [he] at h
    refine Go.wpList_copy_nothing hgd d s _ _ ho 5 hu hsz dp sp dLen dCap sLen sCap hd hs (by rw [← hlen]; exact h0) ?_
    have hp : putAt l off [] = l := by simp [putAt]
    rw [hp] at h
    exact h w hb (Fr.refl _ w)
  · have hmin : 0 < Nat.min sLen dLen := by omega
    have hd0 : 0 < dLen := Nat.lt_of_lt_of_le hmin (Nat.min_le_right _ _)
    have hs0 : 0 < src.length := by rw [hsl]; exact Nat.lt_of_lt_of_le hmin (Nat.min_le_left _ _)
    obtain rfl := hdp hd0
    obtain ⟨g2, off2, rfl, _, _⟩ := Bs_elem hsrc 0 hs0
    refine Go.wpList_copy_own hgd d s _ _ ho 5 hu hsz g off dLen dCap ⟨g2, off2, none⟩ sLen sCap hd hs _ _ hb (bsV (src.take dLen)) (by rw [bsV_len, Nat.mul_one, hlen]) ?_ ?_ (bsV_one _) ?_
    · intro j v hj
      obtain ⟨_, ⟨h1, _⟩ | ⟨g3, o3, c3, hv, _, hc⟩⟩ := hsrc
      · omega
      · simp only [slv, Value.slice.injEq, Option.some.injEq, Addr.mk.injEq] at hv
        obtain ⟨⟨rfl, rfl, _⟩, _, _⟩ := hv
        have h2 : (bsV src)[j]? = some v := by
          unfold bsV at hj ⊢
          rw [List.map_take] at hj
          rw [List.getElem?_take] at hj
          split at hj
          · exact hj
          · cases hj
        have h3 := hc j v h2
        first
          | (rw [Addr.add_lit]; exact h3)
          | (rw [Go.WideShapes.add_plain]; exact h3)
    · rw [bsV_len, Nat.mul_one, hlen]
      simpa [bsV] using hfit
    · rw [bsV_len, Nat.mul_one]
      have hr : (((bsV l).toArray.toList.take off ++ (bsV (src.take dLen) ++ (bsV l).toArray.toList.drop (off + (src.take dLen).length))).toArray : Array Value) = (bsV (putAt l off (src.take dLen))).toArray := by
        simp [bsV, putAt, List.map_append, List.map_take, List.map_drop]
      have hk := h _ (setRow_heap w g (bsV l).toArray ((bsV (putAt l off (src.take dLen))).toArray) _ _ hb) ⟨rfl, rfl, rfl, by simp [World.setRow], fun k hk hn => setRow_other w g k _ (by simpa using hn)⟩
      rw [hr]
      exact hk
end Go.Proofs.YtmdhlodafjpnmaaGreat
namespace Go.Proofs.YtmdhlodafjpnmaaGreat
open List renaming getElem_toArray → qj1, getElem_cons_succ → qj2, getElem_cons_zero → qj3, setIfInBounds_toArray → qj4, set_cons_zero → qj5, set_cons_succ → qj6
open Go.RowKit
set_option linter.unusedVariables false
set_option linter.unusedSimpArgs false
set_option maxRecDepth 100000
set_option maxHeartbeats 4000000

section
variable {P : Program} {o : Oper} {a : Act} {w w' : World} {v : Value}
theorem exec_slice_lh {t : TypeId} {x lo hi : Operand} {V L H : Value} (ho : o.op = .slice t x (some lo) (some hi) none) (hx : a.eval x = V) (hl : a.eval lo = L) (hh : a.eval hi = H) (ht : P.underlying t = some (.slice (P.elem t))) (hrun : (Instr.slice t V (some L) (some H) none).run P w = .ok v w') : (execOp a.eval o).run P w = .ok (.value v) w' := by
  simp [execOp, ho, hx, hl, hh, run_sliceAt_slice w t V (some L) (some H) none ht, hrun]
end
theorem und22 : Tryz.prog.underlying 22 = some (.slice (Tryz.prog.elem 22)) := by kernel_rfl
theorem putAt_app {l ex s : List UInt8} {o : Nat} (h : o + s.length ≤ l.length) : putAt (l ++ ex) o s = putAt l o s ++ ex := by
  unfold putAt
  rw [List.take_append_of_le_length (by omega), List.drop_append_of_le_length (by omega)]
  simp
theorem wpList_copy_row8 {w : World} {ops : Array Oper} {rest : List Oper} {o : Oper} {a : Act} {Q : Exit → Act → World → Prop} (hgd : o.guard = none) (d s : Operand)
    (ho : o.op = .call { callee := .builtin .copy, args := #[d, s], argTypes := #[22, 22] })
    (dp sp : Option Addr) (dLen dCap sLen sCap : Nat) (hd : a.eval d = .slice dp dLen dCap) (hs : a.eval s = .slice sp sLen sCap)
    (g off : Nat) (l src : List UInt8) (hb : Row8 w g l) (hsl : src.length = sLen) (hsrc : Bs w (sp, sLen, sCap) src) (hdp : 0 < dLen → dp = some ⟨g, off, none⟩) (hfit : off + Nat.min sLen dLen ≤ l.length)
    (h : ∀ w', Row8 w' g (putAt l off (src.take dLen)) → Fr [g] w w' → wpList Tryz.prog ops Q rest (a.put o.dst (goInt (src.take dLen).length)) w') :
    wpList Tryz.prog ops Q (o :: rest) a w := by
  obtain ⟨ex, hb⟩ := hb
  refine wpList_copy_bytes hgd d s ho dp sp dLen dCap sLen sCap hd hs g off (l ++ ex) src hb hsl hsrc hdp (by rw [List.length_append]; omega) (fun w' h1 h2 => h w' ⟨ex, ?_⟩ h2)
  rwa [putAt_app (by rw [List.length_take, hsl, Nat.min_comm]; exact hfit)] at h1
theorem ringWrite {w : World} {r g : Nat} {l : List UInt8} {cp f k : Nat} (h : RgAt w r g l cp f k) (s : Sli) (src : List UInt8) (hs : Bs w s src) (hcap : s.2.1 ≤ s.2.2) (hsep : ∀ b, (slv s).ownBlock = some b → b ≠ g) (hrg : r ≠ g) (hm : src.length ≤ 65536) :
    Calls Tryz.prog 223 #[.pointer (some ⟨r, 0, none⟩), .slice s.1 s.2.1 s.2.2] w fun e w' => e = .returned (.tuple #[.int .i64 (min src.length (l.length - k) : Nat), .int .i64 0]) ∧ RgAt w' r g (ringPut l f k (src.take (min src.length (l.length - k)))) cp f (k + min src.length (l.length - k)) ∧ Fr [r, g] w w' := by
  obtain ⟨sa, sn, sc⟩ := s
  obtain rfl : sn = src.length := by
    obtain ⟨a', c', he⟩ := RowV.val hs
    simp only [slv, Value.slice.injEq] at he
    exact he.2.1
  have HS := Lib.hid hs
  have HR := Lib.hid h
  have HSEP := Lib.hid hsep
  have hcap' : src.length ≤ sc := hcap
  have HCAP := Lib.hid hcap'
  have hk := h.hn
  have hl := h.hl
  have hf := h.hf
  obtain ⟨m, hme⟩ : ∃ m, src.length = m := ⟨_, rfl⟩
  obtain ⟨c, hc⟩ : ∃ c, l.length = c := ⟨_, rfl⟩
  have HME := Lib.hid hme
  have HC := Lib.hid hc
  rw [hc] at hk hl hf ⊢
  rw [hme] at hm ⊢
  obtain ⟨n, hn⟩ : ∃ n, min m (c - k) = n := ⟨_, rfl⟩
  rw [hn]
  have hnn : n ≤ m ∧ n ≤ c - k ∧ (n = m ∨ n = c - k) := by omega
  have hmin : (if (c : Int) - k < m then (c : Int) - k else (m : Int)) = n := by rcases hnn with ⟨h1, h2, h3 | h3⟩ <;> split <;> omega
  have hbig : decide (65536 < (m : Int)) = false := decide_eq_false (by omega)
  have hbig2 : ¬ 65536 < m := by omega
  have HFREE := Lib.hid (fun W (fW : Fr [] w W) => ringFree (h.new fW))
  have HZERO := Lib.hid (fun W (fW : Fr [] w W) => ringZero (h.new fW))
  rw [hc] at HFREE
  obtain ⟨p, hp⟩ : ∃ p, (f + k) % c = p := ⟨_, rfl⟩
  have hpc : p < c := by rw [← hp]; exact Nat.mod_lt _ (by omega)
  obtain ⟨q, hq⟩ : ∃ q, min n (c - p) = q := ⟨_, rfl⟩
  have hqn : q ≤ n ∧ q ≤ c - p := by omega
  obtain ⟨s', hs'⟩ : ∃ s', src.take n = s' := ⟨_, rfl⟩
  have hsn : s'.length = n := by rw [← hs', List.length_take]; omega
  have hput : ringPut l f k s' = putAt (putAt l p (s'.take q)) 0 (s'.drop q) := by
    unfold ringPut
    rw [hc, hp, hsn, hq]
  obtain ⟨l1, hl1⟩ : ∃ l1, putAt l p (s'.take q) = l1 := ⟨_, rfl⟩
  have hl1c : l1.length = c := by rw [← hl1, putAt_len (by rw [List.length_take]; omega), hc]
  rw [hs', hput, hl1]
  have HNN := Lib.hid hnn
  have HPP := Lib.hid hp
  have HQQ := Lib.hid hq
  have HS2 := Lib.hid hs'
  have HSN := Lib.hid hsn
  have HL1 := Lib.hid hl1
  have HL1C := Lib.hid hl1c
  have hwq : IntKind.i64.wrap ((q : Int) + ((n - q : Nat) : Int)) = n := by rw [IntWalk.i64_in _ (by omega)]; omega
  have hwq0 : IntKind.i64.wrap (q : Int) = q := IntWalk.i64_in _ (by omega)
  have hwk : IntKind.i64.wrap ((k : Int) + n) = (k : Int) + n := IntWalk.i64_in _ (by omega)
  have HQN := Lib.hid hqn
  have HSD := Lib.hid (show (src.drop q).take (n - q) = s'.drop q from by rw [← hs', List.drop_take])
  clear h hs hsep hcap hcap' hme hc hn hnn hp hq hs' hsn hput hl1 hl1c hqn
  go_enter Tryz.func223, Tryz.ntmps223
  go_wp2_with fail
  refine (HZERO.out _ (Fr.refl [] w)).mono ?_
  rintro e w1 ⟨rfl, f1⟩
  go_wp2_with fail
  refine (HFREE.out _ f1).mono ?_
  rintro e w2 ⟨rfl, f2⟩
  have k2 := ((HR.out.new f1).new f2).c2
  go_wp2_with fail
  refine (ringPieces ((HR.out.new f1).new f2) k n (by omega) (by rw [HC.out]; omega)).mono ?_
  rw [HC.out, HPP.out, HQQ.out]
  obtain ⟨z, hz⟩ : ∃ z, (if q = 0 then 0 else p) = z := ⟨_, rfl⟩
  rw [hz]
  replace hz := Lib.hid hz
  rintro e w3 ⟨rfl, f3⟩
  go_wp2_with fail
  have HZ := hz
  have HF3 := Lib.hid ((f1.step f2).step f3)
  clear hz f1 f2 f3 k2 hmin
  go_loopw [7, 29] (fun d i wr => ∃ (wz : World) (j : Nat), wz = wr ∧ i = .int .i64 j ∧ ((j = 0 ∧ d = .int .i64 0 ∧ Row8 wr g l) ∨ (j = 1 ∧ d = .int .i64 q ∧ Row8 wr g l1) ∨ (j = 2 ∧ d = .int .i64 n ∧ Row8 wr g (putAt l1 0 (s'.drop q)))) ∧ Fr [g] w wr) (fun _ i _ => 2 - (intOf i).toNat)
  case atStart => exact ⟨_, 0, rfl, rfl, .inl ⟨rfl, rfl, (HR.out.new HF3.out).row⟩, HF3.out.mono (fun x hx => by cases hx)⟩
  case round =>
    obtain ⟨wr, j, hwz, rfl, hcase, hfr⟩ := hrel
    subst hwz
    have HFR := Lib.hid hfr
    clear hfr
    have HROW := Lib.hid (RowV.not HS.out HFR.out (fun b hb hm => HSEP.out b hb (by simpa using hm)))
    have hi0 : ∀ W : World, (Instr.index 298 (.agg #[.slice (some ⟨g, z, none⟩) q q, .slice (some ⟨g, 0, none⟩) (n - q) (n - q)]) (.int .i64 0)).run Tryz.prog W = .ok (.slice (some ⟨g, z, none⟩) q q) W := fun W => by kernel_rfl
    have hi1 : ∀ W : World, (Instr.index 298 (.agg #[.slice (some ⟨g, z, none⟩) q q, .slice (some ⟨g, 0, none⟩) (n - q) (n - q)]) (.int .i64 1)).run Tryz.prog W = .ok (.slice (some ⟨g, 0, none⟩) (n - q) (n - q)) W := fun W => by kernel_rfl
    rcases hcase with ⟨rfl, rfl, hb⟩ | ⟨rfl, rfl, hb⟩ | ⟨rfl, rfl, hb⟩
    · skip
  
      have HB := Lib.hid hb
      clear hb
      go_upto_region 10 with fail
      refine wp_region_lit ?_
      refine wpList_plain rfl (fun K hK => ?_); go_simp; refine hK _ _ ?_; clear hK K
      refine wpList_plain rfl (fun K hK => ?_); go_simp; refine hK _ _ ?_; clear hK K
      refine wpList_plain rfl (fun K hK => ?_); go_simp; refine hK _ _ ?_; clear hK K
      refine wpList_plain rfl (fun K hK => ?_); go_simp; refine hK _ _ ?_; clear hK K
      refine wpList_plain rfl (fun K hK => ?_); go_simp; refine hK _ _ ?_; clear hK K
      try simp only [Act.put, qj1, qj2, qj3, qj4, qj5, qj6]
      obtain ⟨a', hrun, hbs, hown⟩ := bs_slice HROW.out rfl HCAP.out 0 n (by have := HQN.out; omega) (by rw [HME.out]; exact HNN.out.1)
      refine wpList_val rfl (v := .slice a' (n - 0) (sc - 0)) (w' := wr) ?_ ?_
      · refine exec_slice_lh (V := .slice sa m sc) (L := .int .i64 0) (H := .int .i64 n) rfl rfl rfl rfl und22 ?_
        have := hrun wr
        rw [HME.out] at this
        exact this
      try simp only [Act.put, qj1, qj2, qj3, qj4, qj5, qj6]
      refine wpList_copy_row8 rfl (.tmp 33) (.tmp 37) rfl (some ⟨g, z, none⟩) a' q q (n - 0) (sc - 0) rfl rfl g p l s' HB.out (by rw [HSN.out]; omega) (by have hh := hbs; simpa only [List.drop_zero, Nat.sub_zero, HS2.out] using hh) (fun h0 => by rw [← HZ.out, if_neg (by omega)]) (Nat.le_trans (Nat.add_le_add_left (Nat.min_le_right _ _) _) (by have := HQN.out; rw [HC.out]; omega)) (fun ws hb_ hf_ => ?_)
      rw [show (s').take q = s'.take q from rfl] at hb_ ⊢
      rw [show (s'.take q).length = q from by rw [List.length_take, HSN.out]; have := HQN.out; omega]
      clear hrun hbs hown
      try simp only [Act.put, qj1, qj2, qj3, qj4, qj5, qj6]
      refine wpList_plain rfl (fun K hK => ?_); go_simp; refine hK _ _ ?_; clear hK K
      refine wpList_plain rfl (fun K hK => ?_); go_simp; refine hK _ _ ?_; clear hK K
      refine wpList_nil ?_
      try simp only [Act.put, qj1, qj2, qj3, qj4, qj5, qj6]
      have HB2 := Lib.hid hb_
      have HF2 := Lib.hid (HFR.out.trans hf_ (fun x hx hl => hx))
      clear hb_ hf_
      go_wp2
      go_roundw
      case rel => exact ⟨_, 1, rfl, rfl, .inr (.inl ⟨rfl, by go_num, by rw [← HL1.out]; exact HB2.out⟩), HF2.out⟩
      case measure => simp [intOf]
    · skip
      have HB := Lib.hid hb
      clear hb
      go_upto_region 10 with fail
      refine wp_region_lit ?_
      refine wpList_plain rfl (fun K hK => ?_); go_simp; refine hK _ _ ?_; clear hK K
      refine wpList_plain rfl (fun K hK => ?_); go_simp; refine hK _ _ ?_; clear hK K
      refine wpList_plain rfl (fun K hK => ?_); go_simp; refine hK _ _ ?_; clear hK K
      refine wpList_plain rfl (fun K hK => ?_); go_simp; refine hK _ _ ?_; clear hK K
      refine wpList_plain rfl (fun K hK => ?_); go_simp; refine hK _ _ ?_; clear hK K
      try simp only [Act.put, qj1, qj2, qj3, qj4, qj5, qj6]
      obtain ⟨a', hrun, hbs, hown⟩ := bs_slice HROW.out rfl HCAP.out q n (by have := HQN.out; omega) (by rw [HME.out]; exact HNN.out.1)
      refine wpList_val rfl (v := .slice a' (n - q) (sc - q)) (w' := wr) ?_ ?_
      · refine exec_slice_lh (V := .slice sa m sc) (L := .int .i64 q) (H := .int .i64 n) rfl rfl rfl rfl und22 ?_
        have := hrun wr
        rw [HME.out] at this
        exact this
      try simp only [Act.put, qj1, qj2, qj3, qj4, qj5, qj6]
      refine wpList_copy_row8 rfl (.tmp 33) (.tmp 37) rfl (some ⟨g, 0, none⟩) a' (n - q) (n - q) (n - q) (sc - q) rfl rfl g 0 l1 (s'.drop q) HB.out (by rw [List.length_drop, HSN.out]) (by have hh := hbs; simpa only [HSD.out] using hh) (fun _ => rfl) (Nat.le_trans (Nat.add_le_add_left (Nat.min_le_right _ _) _) (by have := HQN.out; have := HNN.out; rw [HL1C.out]; omega)) (fun ws hb_ hf_ => ?_)
      rw [show ((s'.drop q)).take (n - q) = s'.drop q from List.take_of_length_le (by rw [List.length_drop, HSN.out]; omega)] at hb_ ⊢
      rw [show (s'.drop q).length = n - q from by rw [List.length_drop, HSN.out]]
      clear hrun hbs hown
      try simp only [Act.put, qj1, qj2, qj3, qj4, qj5, qj6]
      refine wpList_plain rfl (fun K hK => ?_); go_simp; refine hK _ _ ?_; clear hK K
      refine wpList_plain rfl (fun K hK => ?_); go_simp; refine hK _ _ ?_; clear hK K
      refine wpList_nil ?_
      try simp only [Act.put, qj1, qj2, qj3, qj4, qj5, qj6]
      have HB2 := Lib.hid hb_
      have HF2 := Lib.hid (HFR.out.trans hf_ (fun x hx hl => hx))
      clear hb_ hf_
      go_wp2
      go_roundw
      case rel => exact ⟨_, 2, rfl, rfl, .inr (.inr ⟨rfl, by go_num, HB2.out⟩), HF2.out⟩
      case measure => simp [intOf]
    · skip
      have HB := Lib.hid hb
      have HBK := Lib.hid ((HR.out.blk).keep HFR.out (by simpa using hrg))
      clear hb
      have c2 : wr.cell? ⟨r, 2, none⟩ = some (.int .i64 k) := by simpa using HBK.out.at 2 _ rfl
      go_upto_region 12 with fail
      refine wp_region_lit ?_
      refine wpList_plain rfl (fun K hK => ?_); go_simp; refine hK _ _ ?_; clear hK K
      refine wpList_plain rfl (fun K hK => ?_); go_simp; refine hK _ _ ?_; clear hK K
      refine wpList_plain rfl (fun K hK => ?_); go_simp; refine hK _ _ ?_; clear hK K
      refine wpList_plain rfl (fun K hK => ?_); go_simp; refine hK _ _ ?_; clear hK K
      refine wpList_plain rfl (fun K hK => ?_); go_simp; refine hK _ _ ?_; clear hK K
      refine wpList_plain rfl (fun K hK => ?_); go_simp; refine hK _ _ ?_; clear hK K
      refine wpList_plain rfl (fun K hK => ?_); go_simp; refine hK _ _ ?_; clear hK K
      refine wpList_plain rfl (fun K hK => ?_); go_simp; refine hK _ _ ?_; clear hK K
      try simp only [Act.put, qj1, qj2, qj3, qj4, qj5, qj6]
      obtain ⟨ws, hst, hb_, hf_⟩ := store_cell (t := 3) (o := 2) (.int .i64 ((k : Int) + n)) size3 rfl rfl HBK.out (by simp)
      refine wpList_skp rfl (w' := ws) ?_ ?_
      · show Sem.run Tryz.prog ((Instr.storeAt 3 (.pointer (some ⟨r, 2, none⟩)) (.int .i64 ((k : Int) + n))) >>= fun _ => pure Next.skip) _ = _
        rw [Sem.run_bind, hst]
        rfl
      clear hst
      try simp only [Act.put, qj1, qj2, qj3, qj4, qj5, qj6]
      refine wpList_nil ?_
      try simp only [Act.put, qj1, qj2, qj3, qj4, qj5, qj6]
      have HB2 := Lib.hid hb_
      have HROW2 := Lib.hid (HB.out.keep hf_ (by simpa using (Ne.symm hrg)))
      have HF2 := Lib.hid (show Fr [r, g] w ws from (HFR.out.mono (fun x hx _ => by rw [List.mem_singleton] at hx; subst hx; simp)).trans hf_ (fun x hx hl => by rw [List.mem_singleton] at hx; subst hx; simp))
      have HLEN := Lib.hid (show (putAt l1 0 (s'.drop q)).length = l.length from by rw [putAt_len (by rw [List.length_drop, HSN.out, HL1C.out]; have := HQN.out; have := HNN.out; omega), HL1C.out, HC.out])
      clear hb_ hf_
      go_wp2
      refine bodyPost_ret (v := .tuple #[.int .i64 (n : Nat), .int .i64 0]) (by simp [results, Tryz.results223]) rfl ?_
      refine ⟨rfl, ⟨?_, HROW2.out, by rw [HLEN.out]; exact HR.out.hf, by rw [HLEN.out, HC.out]; have := HNN.out; omega, by rw [HLEN.out]; exact HR.out.hl, by rw [HLEN.out]; exact HR.out.cap⟩, HF2.out⟩
      rw [HLEN.out]
      simpa using HB2.out
end Go.Proofs.YtmdhlodafjpnmaaGreat
namespace Go.Proofs.YtmdhlodafjpnmaaGreat
open List renaming getElem_toArray → qj1, getElem_cons_succ → qj2, getElem_cons_zero → qj3, setIfInBounds_toArray → qj4, set_cons_zero → qj5, set_cons_succ → qj6
open Go.RowKit
set_option linter.unusedVariables false
set_option linter.unusedSimpArgs false
set_option maxRecDepth 100000
set_option maxHeartbeats 4000000

/-- Bytes made. -/
theorem bs_make (c : Nat) (hc : c ≤ 100000) (w : World) : (Instr.makeSlice 22 (.int .i64 c) (.int .i64 c)).run Tryz.prog w = .ok (.slice (some ⟨w.heap.size, 0, none⟩) c c) (w.alloc (.cells (bsV (List.replicate c 0)).toArray 5)) := by
  obtain ⟨i, h1, h2, h3, h4⟩ := info_parts (show (Tryz.prog.info? 5).map (fun i => (i.zero, i.size, i.bytes)) = some (some (.int .u8 0), 1, 1) from by kernel_rfl)
  have hr := run_makeSlice w 22 5 i (.int .u8 0) Tryz.underlying22 h1 h2 .i64 .i64 c c (by omega) (by omega) (by rw [h3, Int.toNat_natCast]; omega) (by rw [h4]; omega) (by omega)
  rw [h3] at hr
  simp only [Int.toNat_natCast, Nat.mul_one] at hr
  have he : madeCells (Value.int .u8 0).cells c = (bsV (List.replicate c 0)).toArray := by
    have h5 : (madeCells (Value.int .u8 0).cells c).toList = bsV (List.replicate c 0) := by
      have h6 := toList_madeCells_one (.int .u8 0) c
      rw [show (Value.int .u8 0).cells = #[Value.int .u8 0] from rfl, h6]
      simp [bsV, byteV]
    rw [← h5]
  rw [he] at hr
  exact hr
theorem ringNew (c : Nat) (h1 : 1 ≤ c) (h2 : c ≤ 4096) (w : World) :
    Calls Tryz.prog 168 #[.int .i64 c] w fun e w' => ∃ r g, e = .returned (.tuple #[.pointer (some ⟨r, 0, none⟩), .int .i64 0]) ∧ RgAt w' r g (List.replicate c 0) c 0 0 ∧ Fr [] w w' ∧ w.heap.size ≤ r ∧ w.heap.size ≤ g ∧ r ≠ g := by
  have d1 : decide ((c : Int) < 1) = false := decide_eq_false (by omega)
  have d2 : decide (4096 < (c : Int)) = false := decide_eq_false (by omega)
  go_enter Tryz.func168, Tryz.ntmps168
  go_upto_region 3 with fail
  refine wp_region_lit ?_
  refine wpList_plain rfl (fun K hK => ?_); go_simp; refine hK _ _ ?_; clear hK K
  try simp only [Act.put, qj1, qj2, qj3, qj4, qj5, qj6]
  obtain ⟨g, hg⟩ : ∃ g, w.heap.size = g := ⟨_, rfl⟩
  obtain ⟨w1, hw1⟩ : ∃ z, w.alloc (.cells (bsV (List.replicate c 0)).toArray 5) = z := ⟨_, rfl⟩
  have hbg : Blk w1 g 5 (bsV (List.replicate c 0)) := by rw [← hw1, ← hg]; exact Blk.made w 5 _
  have f1 : Fr [] w w1 := by rw [← hw1]; exact (Fr.refl [] w).alloc _
  refine wpList_val rfl (v := .slice (some ⟨g, 0, none⟩) c c) (w' := w1) ?_ ?_
  · show Sem.run Tryz.prog ((Instr.makeSlice 22 (.int .i64 c) (.int .i64 c)) >>= fun x => pure (Next.value x)) w = _
    rw [Sem.run_bind, bs_make c (by omega) w, hg, hw1]
    rfl
  have HG := Lib.hid hg
  have HBG := Lib.hid hbg
  have HF1 := Lib.hid f1
  clear hg hw1 hbg f1
  try simp only [Act.put, qj1, qj2, qj3, qj4, qj5, qj6]
  refine wpList_plain rfl (fun K hK => ?_); go_simp; refine hK _ _ ?_; clear hK K
  refine wpList_plain rfl (fun K hK => ?_); go_simp; refine hK _ _ ?_; clear hK K
  try simp only [Act.put, qj1, qj2, qj3, qj4, qj5, qj6]
  obtain ⟨r, hr⟩ : ∃ r, w1.heap.size = r := ⟨_, rfl⟩
  obtain ⟨w2, hw2⟩ : ∃ z, w1.alloc (.cells #[.slice (some ⟨g, 0, none⟩) c c, .int .i64 0, .int .i64 0] 267) = z := ⟨_, rfl⟩
  have hbr : Blk w2 r 267 [.slice (some ⟨g, 0, none⟩) c c, .int .i64 0, .int .i64 0] := by rw [← hw2, ← hr]; exact Blk.made w1 267 _
  have f2 : Fr [] w1 w2 := by rw [← hw2]; exact (Fr.refl [] w1).alloc _
  rw [hw2]
  simp only [hr]
  have HR := Lib.hid hr
  have HBR := Lib.hid hbr
  have HF2 := Lib.hid f2
  clear hr hw2 hbr f2
  refine wpList_plain rfl (fun K hK => ?_); go_simp; refine hK _ _ ?_; clear hK K
  refine wpList_plain rfl (fun K hK => ?_); go_simp; refine hK _ _ ?_; clear hK K
  refine wpList_nil ?_
  try simp only [Act.put, qj1, qj2, qj3, qj4, qj5, qj6]
  go_wp2
  refine bodyPost_ret (v := .tuple #[.pointer (some ⟨r, 0, none⟩), .int .i64 0]) (by simp [results, Tryz.results168]) rfl ?_
  have hlt := HBG.out.lt
  have hrg := HR.out
  have hgg := HG.out
  exact ⟨r, g, rfl, ⟨by rw [List.length_replicate]; exact HBR.out, Row8.of (HBG.out.keep HF2.out (by simp)), by rw [List.length_replicate]; omega, Nat.zero_le _, by rw [List.length_replicate]; omega, by rw [List.length_replicate]; omega⟩, HF1.out.step HF2.out, by omega, by omega, by omega⟩
end Go.Proofs.YtmdhlodafjpnmaaGreat
namespace Go.Proofs.YtmdhlodafjpnmaaGreat
open List renaming getElem_toArray → qj1, getElem_cons_succ → qj2, getElem_cons_zero → qj3, setIfInBounds_toArray → qj4, set_cons_zero → qj5, set_cons_succ → qj6
open Go.RowKit
set_option linter.unusedVariables false
set_option linter.unusedSimpArgs false
set_option maxRecDepth 100000
set_option maxHeartbeats 4000000

section
variable {P : Program} {o : Oper} {a : Act} {w w' : World} {v : Value}
theorem exec_slice_fr {t : TypeId} {x lo : Operand} {V L : Value} (ho : o.op = .slice t x (some lo) none none) (hx : a.eval x = V) (hl : a.eval lo = L) (ht : P.underlying t = some (.slice (P.elem t))) (hrun : (Instr.slice t V (some L) none none).run P w = .ok v w') : (execOp a.eval o).run P w = .ok (.value v) w' := by
  simp [execOp, ho, hx, hl, run_sliceAt_slice w t V (some L) none none ht, hrun]
end
theorem bs_from (A n lo : Nat) (h : lo ≤ n) : ∃ a', (∀ W : World, (Instr.slice 22 (.slice (some ⟨A, 0, none⟩) n n) (some (.int .i64 lo)) none none).run Tryz.prog W = .ok (.slice a' (n - lo) (n - lo)) W) ∧ (0 < n - lo → a' = some ⟨A, lo, none⟩) := by
  have hsz : ∀ W : World, (sizeOf (Tryz.prog.elem 22)).run Tryz.prog W = .ok 1 W := fun W => by kernel_rfl
  refine ⟨if n = lo then some ⟨A, 0, none⟩ else (some (⟨A, 0, none⟩ : Addr)).map (·.add (lo * 1)), fun W => ?_, fun h0 => ?_⟩
  · rw [run_slice_l W 22 (some ⟨A, 0, none⟩) n n und22 .i64 lo (by omega) (by omega), hsz]
    simp [Result.andThen, sliced]
  · rw [if_neg (by omega)]
    simp [Addr.add_lit]
theorem bs_part {w : World} {g : Nat} {l : List UInt8} (h : Blk w g 5 (bsV l)) (i k z : Nat) (hik : i + k ≤ l.length) (hz : 0 < k → z = i) : Bs w (some ⟨g, z, none⟩, k, k) ((l.drop i).take k) := by
  have hl : ((l.drop i).take k).length = k := by rw [List.length_take, List.length_drop]; omega
  refine ⟨by rw [bsV_len], ?_⟩
  rw [hl]
  by_cases h0 : k = 0
  · subst h0
    exact .inl ⟨rfl, _, _, rfl⟩
  · obtain rfl := hz (by omega)
    refine .inr ⟨g, z, k, rfl, h.lt, fun j u hj => ?_⟩
    unfold bsV at hj
    rw [List.map_take, List.map_drop, List.getElem?_take] at hj
    split at hj
    · rw [List.getElem?_drop] at hj
      have := h.at (z + j) u hj
      rwa [Nat.zero_add] at this
    · cases hj
theorem bs_part8 {w : World} {g : Nat} {l : List UInt8} (h : Row8 w g l) (i k z : Nat) (hik : i + k ≤ l.length) (hz : 0 < k → z = i) : Bs w (some ⟨g, z, none⟩, k, k) ((l.drop i).take k) := by
  obtain ⟨ex, h⟩ := h
  have := bs_part h i k z (by rw [List.length_append]; omega) hz
  rwa [List.drop_append_of_le_length (by omega), List.take_append_of_le_length (by rw [List.length_drop]; omega)] at this
theorem own_blk {w : World} {B A : Nat} {s : List UInt8} (h : Blk w A 5 (bsV s)) (hB : B ≤ A) (hm : s.length ≤ maxLen) : BsO w B (some ⟨A, 0, none⟩, s.length, s.length) s := by
  refine ⟨by rw [bsV_len], .inr ⟨A, s.length, (bsV s).toArray, rfl, hB, h, ?_⟩⟩
  exact ⟨Nat.le_refl _, hm, by simp [bsV], by rw [Nat.mul_one]; exact List.take_of_length_le (by simp [bsV])⟩
theorem ringPeek {w : World} {r g : Nat} {l : List UInt8} {cp f k : Nat} (h : RgAt w r g l cp f k) (hrg : r ≠ g) (m : Nat) (hm : m ≤ 1000000) :
    Calls Tryz.prog 224 #[.pointer (some ⟨r, 0, none⟩), .int .i64 0, .int .i64 m] w fun e w' => ∃ v : Sli, e = .returned (.tuple #[slv v, .int .i64 0]) ∧ BsO w' w.heap.size v (cont l f (min m k)) ∧ Fr [] w w' := by
  have HR := Lib.hid h
  have hk := h.hn
  have hl := h.hl
  have hf := h.hf
  obtain ⟨c, hc⟩ : ∃ c, l.length = c := ⟨_, rfl⟩
  have HC := Lib.hid hc
  rw [hc] at hk hl hf
  have HZERO := Lib.hid (fun W (fW : Fr [] w W) => ringZero (h.new fW))
  have hm0 : ¬ (m : Int) < 0 := by omega
  have hm1 : decide ((m : Int) < 0) = false := decide_eq_false (by omega)
  clear h hc
  by_cases hk0 : k = 0
  · subst hk0
    rw [Nat.min_zero]
    go_enter Tryz.func224, Tryz.ntmps224
    go_wp2_with fail
    refine (HZERO.out _ (Fr.refl [] w)).mono ?_
    rintro e w1 ⟨rfl, f1⟩
    have k2 := (HR.out.new f1).c2
    go_wp2
    refine bodyPost_ret (v := .tuple #[.slice none 0 0, .int .i64 0]) (by simp [results, Tryz.results224]) rfl ?_
    exact ⟨(none, 0, 0), rfl, BsO.nil _ _, f1⟩
  obtain ⟨n, hn⟩ : ∃ n, min m k = n := ⟨_, rfl⟩
  rw [hn]
  have hnn : n ≤ m ∧ n ≤ k ∧ (n = m ∨ n = k) := by omega
  have hmin : (if k < m then (k : Int) else (m : Int)) = n := by rcases hnn with ⟨h1, h2, h3 | h3⟩ <;> split <;> omega
  have hk1 : ¬ (k : Int) ≤ 0 := by omega
  have hk2 : decide ((k : Int) ≤ 0) = false := decide_eq_false (by omega)
  have hwk : IntKind.i64.wrap (k : Int) = k := IntWalk.i64_in _ (by omega)
  have hnk : n ≤ k := hnn.2.1
  obtain ⟨q, hq⟩ : ∃ q, min n (c - f) = q := ⟨_, rfl⟩
  have hqn : q ≤ n ∧ q ≤ c - f := by omega
  have hwq : IntKind.i64.wrap ((q : Int) + ((n - q : Nat) : Int)) = n := by rw [IntWalk.i64_in _ (by omega)]; omega
  have hwq0 : IntKind.i64.wrap (q : Int) = q := IntWalk.i64_in _ (by omega)
  obtain ⟨s1, hs1⟩ : ∃ s1, (l.drop f).take q = s1 := ⟨_, rfl⟩
  obtain ⟨s2, hs2⟩ : ∃ s2, l.take (n - q) = s2 := ⟨_, rfl⟩
  have h1l : s1.length = q := by rw [← hs1, List.length_take, List.length_drop, HC.out]; omega
  have h2l : s2.length = n - q := by rw [← hs2, List.length_take, HC.out]; omega
  have hcont : cont l f n = s1 ++ s2 := by rw [cont_two (by rw [HC.out]; exact hf) (by rw [HC.out]; omega), HC.out, hq, hs1, hs2]
  have hput : putAt (putAt (List.replicate n 0) 0 s1) q s2 = s1 ++ s2 := by
    have := put_two s1 s2
    rw [h1l, h2l, show q + (n - q) = n from by omega] at this
    exact this
  rw [hcont]
  have HNN := Lib.hid hnn
  have HQQ := Lib.hid hq
  have HQN := Lib.hid hqn
  have HS1 := Lib.hid (And.intro hs1 h1l)
  have HS2 := Lib.hid (And.intro hs2 h2l)
  have HPUT := Lib.hid hput
  have HNK := Lib.hid hnk
  clear hnn hq hqn hs1 hs2 h1l h2l hput hcont hnk hn
  go_enter Tryz.func224, Tryz.ntmps224
  go_wp2_with fail
  refine (HZERO.out _ (Fr.refl [] w)).mono ?_
  rintro e w1 ⟨rfl, f1⟩
  have k2 := (HR.out.new f1).c2
  go_upto_region 7 with fail
  refine wp_region_lit ?_
  refine wpList_plain rfl (fun K hK => ?_); go_simp; refine hK _ _ ?_; clear hK K
  refine wpList_plain rfl (fun K hK => ?_); go_simp; refine hK _ _ ?_; clear hK K
  refine wpList_plain rfl (fun K hK => ?_); go_simp; refine hK _ _ ?_; clear hK K
  refine wpList_plain rfl (fun K hK => ?_); go_simp; refine hK _ _ ?_; clear hK K
  refine wpList_plain rfl (fun K hK => ?_); go_simp; refine hK _ _ ?_; clear hK K
  refine wpList_plain rfl (fun K hK => ?_); go_simp; refine hK _ _ ?_; clear hK K
  refine wpList_plain rfl (fun K hK => ?_); go_simp; refine hK _ _ ?_; clear hK K
  refine wpList_plain rfl (fun K hK => ?_); go_simp; refine hK _ _ ?_; clear hK K
  try simp only [Act.put, qj1, qj2, qj3, qj4, qj5, qj6]
  obtain ⟨A, hA⟩ : ∃ g, w1.heap.size = g := ⟨_, rfl⟩
  obtain ⟨w2, hw2⟩ : ∃ z, w1.alloc (.cells (bsV (List.replicate n 0)).toArray 5) = z := ⟨_, rfl⟩
  have hbA : Blk w2 A 5 (bsV (List.replicate n 0)) := by rw [← hw2, ← hA]; exact Blk.made w1 5 _
  have f2 : Fr [] w1 w2 := by rw [← hw2]; exact (Fr.refl [] w1).alloc _
  refine wpList_val rfl (v := .slice (some ⟨A, 0, none⟩) n n) (w' := w2) ?_ ?_
  · show Sem.run Tryz.prog ((Instr.makeSlice 22 (.int .i64 n) (.int .i64 n)) >>= fun x => pure (Next.value x)) w1 = _
    rw [Sem.run_bind, bs_make n (by have := HNK.out; omega) w1, hA, hw2]
    rfl
  have HA := Lib.hid (show w.heap.size ≤ A ∧ g < A ∧ r < A from by rw [← hA]; exact ⟨f1.size, (HR.out.new f1).row.lt, (HR.out.new f1).blk.lt⟩)
  have HBA := Lib.hid hbA
  have HF2 := Lib.hid (f1.step f2)
  clear hA hw2 hbA f1 f2 k2
  try simp only [Act.put, qj1, qj2, qj3, qj4, qj5, qj6]
  refine wpList_plain rfl (fun K hK => ?_); go_simp; refine hK _ _ ?_; clear hK K
  refine wpList_nil ?_
  try simp only [Act.put, qj1, qj2, qj3, qj4, qj5, qj6]
  go_wp2_with fail
  refine (ringPieces (HR.out.new HF2.out) 0 n (by omega) (by rw [HC.out]; have := HNK.out; omega)).mono ?_
  rw [HC.out, show (f + 0) % c = f from Nat.mod_eq_of_lt hf, HQQ.out]
  obtain ⟨z, hz⟩ : ∃ z, (if q = 0 then 0 else f) = z := ⟨_, rfl⟩
  rw [hz]
  have HZ := Lib.hid hz
  clear hz
  rintro e w3 ⟨rfl, f3⟩
  go_wp2_with fail
  have HF3 := Lib.hid (HF2.out.step f3)
  have HB3 := Lib.hid (HBA.out.keep f3 (by simp))
  clear f3
  go_loopw [9, 43] (fun d i wr => ∃ (wz : World) (j : Nat), wz = wr ∧ i = .int .i64 j ∧ ((j = 0 ∧ d = .int .i64 0 ∧ Blk wr A 5 (bsV (List.replicate n 0))) ∨ (j = 1 ∧ d = .int .i64 q ∧ Blk wr A 5 (bsV (putAt (List.replicate n 0) 0 s1))) ∨ (j = 2 ∧ d = .int .i64 n ∧ Blk wr A 5 (bsV (s1 ++ s2)))) ∧ Fr [] w wr) (fun _ i _ => 2 - (intOf i).toNat)
  case atStart => exact ⟨_, 0, rfl, rfl, .inl ⟨rfl, rfl, HB3.out⟩, HF3.out⟩
  case round =>
    obtain ⟨wr, j, hwz, rfl, hcase, hfr⟩ := hrel
    subst hwz
    have HFR := Lib.hid hfr
    have HRR := Lib.hid (HR.out.new hfr)
    clear hfr
    have hi0 : ∀ W : World, (Instr.index 298 (.agg #[.slice (some ⟨g, z, none⟩) q q, .slice (some ⟨g, 0, none⟩) (n - q) (n - q)]) (.int .i64 0)).run Tryz.prog W = .ok (.slice (some ⟨g, z, none⟩) q q) W := fun W => by kernel_rfl
    have hi1 : ∀ W : World, (Instr.index 298 (.agg #[.slice (some ⟨g, z, none⟩) q q, .slice (some ⟨g, 0, none⟩) (n - q) (n - q)]) (.int .i64 1)).run Tryz.prog W = .ok (.slice (some ⟨g, 0, none⟩) (n - q) (n - q)) W := fun W => by kernel_rfl
    rcases hcase with ⟨rfl, rfl, hb⟩ | ⟨rfl, rfl, hb⟩ | ⟨rfl, rfl, hb⟩
    · skip
      have HB := Lib.hid hb
      clear hb
      go_upto_region 12 with fail
      refine wp_region_lit ?_
      refine wpList_plain rfl (fun K hK => ?_); go_simp; refine hK _ _ ?_; clear hK K
      refine wpList_plain rfl (fun K hK => ?_); go_simp; refine hK _ _ ?_; clear hK K
      refine wpList_plain rfl (fun K hK => ?_); go_simp; refine hK _ _ ?_; clear hK K
      try simp only [Act.put, qj1, qj2, qj3, qj4, qj5, qj6]
      obtain ⟨a', hrun, hpos⟩ := bs_from A n 0 (by have := HQN.out; omega)
      refine wpList_val rfl (v := .slice a' (n - 0) (n - 0)) (w' := wr) ?_ ?_
      · exact exec_slice_fr (V := .slice (some ⟨A, 0, none⟩) n n) (L := .int .i64 0) rfl rfl rfl und22 (hrun wr)
      try simp only [Act.put, qj1, qj2, qj3, qj4, qj5, qj6]
      refine wpList_plain rfl (fun K hK => ?_); go_simp; refine hK _ _ ?_; clear hK K
      try simp only [Act.put, qj1, qj2, qj3, qj4, qj5, qj6]
      refine wpList_copy_bytes rfl (.tmp 49) (.tmp 50) rfl a' (some ⟨g, z, none⟩) (n - 0) (n - 0) q q rfl rfl A 0 (List.replicate n 0) s1 HB.out HS1.out.2 ?hrow hpos (Nat.le_trans (Nat.add_le_add_left (Nat.min_le_left _ _) _) ?hfit) (fun ws hb_ hf_ => ?_)
      case hrow => exact (by have := bs_part8 HRR.out.row f q z (by rw [HC.out]; have := HQN.out; omega) (fun h0 => by rw [← HZ.out, if_neg (by omega)]); rwa [HS1.out.1] at this)
      case hfit => exact (by rw [List.length_replicate]; have := HQN.out; omega)
      rw [show (s1).take (n - 0) = s1 from List.take_of_length_le (by have := HS1.out.2; have := HQN.out; omega)] at hb_ ⊢
      rw [show (s1).length = q from HS1.out.2]
      clear hrun hpos
      try simp only [Act.put, qj1, qj2, qj3, qj4, qj5, qj6]
      refine wpList_plain rfl (fun K hK => ?_); go_simp; refine hK _ _ ?_; clear hK K
      refine wpList_plain rfl (fun K hK => ?_); go_simp; refine hK _ _ ?_; clear hK K
      refine wpList_nil ?_
      try simp only [Act.put, qj1, qj2, qj3, qj4, qj5, qj6]
      have HB2 := Lib.hid hb_
      have HF2b := Lib.hid (show Fr [] w ws from HFR.out.trans hf_ (fun x hx hl => by rw [List.mem_singleton] at hx; have := HA.out.1; omega))
      clear hb_ hf_
      go_wp2
      go_roundw
      case rel => exact ⟨_, 1, rfl, rfl, .inr (.inl ⟨rfl, by go_num, HB2.out⟩), HF2b.out⟩
      case measure => simp [intOf]
    · skip
      have HB := Lib.hid hb
      clear hb
      go_upto_region 12 with fail
      refine wp_region_lit ?_
      refine wpList_plain rfl (fun K hK => ?_); go_simp; refine hK _ _ ?_; clear hK K
      refine wpList_plain rfl (fun K hK => ?_); go_simp; refine hK _ _ ?_; clear hK K
      refine wpList_plain rfl (fun K hK => ?_); go_simp; refine hK _ _ ?_; clear hK K
      try simp only [Act.put, qj1, qj2, qj3, qj4, qj5, qj6]
      obtain ⟨a', hrun, hpos⟩ := bs_from A n q (by have := HQN.out; omega)
      refine wpList_val rfl (v := .slice a' (n - q) (n - q)) (w' := wr) ?_ ?_
      · exact exec_slice_fr (V := .slice (some ⟨A, 0, none⟩) n n) (L := .int .i64 q) rfl rfl rfl und22 (hrun wr)
      try simp only [Act.put, qj1, qj2, qj3, qj4, qj5, qj6]
      refine wpList_plain rfl (fun K hK => ?_); go_simp; refine hK _ _ ?_; clear hK K
      try simp only [Act.put, qj1, qj2, qj3, qj4, qj5, qj6]
      refine wpList_copy_bytes rfl (.tmp 49) (.tmp 50) rfl a' (some ⟨g, 0, none⟩) (n - q) (n - q) (n - q) (n - q) rfl rfl A q (putAt (List.replicate n 0) 0 s1) s2 HB.out HS2.out.2 ?hrow hpos (Nat.le_trans (Nat.add_le_add_left (Nat.min_le_left _ _) _) ?hfit) (fun ws hb_ hf_ => ?_)
      case hrow => exact (by have := bs_part8 HRR.out.row 0 (n - q) 0 (by rw [HC.out]; have := HQN.out; have := HNK.out; omega) (fun _ => rfl); rwa [List.drop_zero, HS2.out.1] at this)
      case hfit => exact (by rw [putAt_len (by rw [List.length_replicate, HS1.out.2]; have := HQN.out; omega), List.length_replicate]; have := HQN.out; omega)
      rw [show (s2).take (n - q) = s2 from List.take_of_length_le (by have := HS2.out.2; have := HQN.out; omega)] at hb_ ⊢
      rw [show (s2).length = (n - q) from HS2.out.2]
      clear hrun hpos
      try simp only [Act.put, qj1, qj2, qj3, qj4, qj5, qj6]
      refine wpList_plain rfl (fun K hK => ?_); go_simp; refine hK _ _ ?_; clear hK K
      refine wpList_plain rfl (fun K hK => ?_); go_simp; refine hK _ _ ?_; clear hK K
      refine wpList_nil ?_
      try simp only [Act.put, qj1, qj2, qj3, qj4, qj5, qj6]
      have HB2 := Lib.hid hb_
      have HF2b := Lib.hid (show Fr [] w ws from HFR.out.trans hf_ (fun x hx hl => by rw [List.mem_singleton] at hx; have := HA.out.1; omega))
      clear hb_ hf_
      go_wp2
      go_roundw
      case rel => exact ⟨_, 2, rfl, rfl, .inr (.inr ⟨rfl, by go_num, by rw [← HPUT.out]; exact HB2.out⟩), HF2b.out⟩
      case measure => simp [intOf]
    · skip
      have HB := Lib.hid hb
      clear hb
      go_wp2
      refine bodyPost_ret (v := .tuple #[.slice (some ⟨A, 0, none⟩) n n, .int .i64 0]) (by simp [results, Tryz.results224]) rfl ?_
      have hlen : (s1 ++ s2).length = n := by rw [List.length_append, HS1.out.2, HS2.out.2]; have := HQN.out; omega
      refine ⟨(some ⟨A, 0, none⟩, n, n), rfl, ?_, HFR.out⟩
      have := own_blk HB.out HA.out.1 (by rw [hlen]; unfold maxLen; have := HNK.out; omega)
      rwa [hlen] at this
end Go.Proofs.YtmdhlodafjpnmaaGreat
namespace Go.Proofs.YtmdhlodafjpnmaaGreat
open Go.RowKit
set_option linter.unusedVariables false
set_option linter.unusedSimpArgs false
set_option maxRecDepth 100000
set_option maxHeartbeats 4000000

theorem clear_bytes {w : World} {g z n c o : Nat} {ty : TypeId} {l : List UInt8} (hb : Blk w g 5 (bsV l)) (hz : 0 < n → z = o) (hfit : o + n ≤ l.length) :
    ∃ w', (Builtin.clear_ #[22] ty #[.slice (some ⟨g, z, none⟩) n c]).run Tryz.prog w = .ok (.tuple #[]) w' ∧ Blk w' g 5 (bsV (putAt l o (List.replicate n 0))) ∧ Fr [g] w w' := by
  by_cases h0 : n = 0
  · subst h0
    refine ⟨w, ?_, by simpa [putAt] using hb, Fr.refl _ w⟩
    simp [Builtin.clear_, run_underlying Tryz.underlying22]
  · obtain rfl := hz (by omega)
    have hv : ∀ w : World, (zeroValue 5).run Tryz.prog w = .ok (.int .u8 0) w := fun w => by kernel_rfl
    have hzc : (Builtin.zeroCells (Value.int .u8 0).cells n).toList = bsV (List.replicate n 0) := by
      rw [show (Value.int .u8 0).cells = #[Value.int .u8 0] from rfl]
      simp [Builtin.zeroCells, bsV, byteV]
      apply List.ext_getElem
      · simp
      · intro i h1 h2
        simp [Nat.mod_one]
    have hst := run_storeCells_at Tryz.prog g z 5 (bsV (List.replicate n 0)) 0 (bsV l).toArray w hb (by rw [bsV_len, List.length_replicate]; simpa [bsV] using hfit) (bsV_one _)
    have hr : (((bsV l).toArray.toList.take (z + 0) ++ bsV (List.replicate n 0) ++ (bsV l).toArray.toList.drop (z + 0 + (bsV (List.replicate n 0)).length)).toArray : Array Value) = (bsV (putAt l z (List.replicate n 0))).toArray := by
      simp [bsV, putAt, List.map_append, List.map_take, List.map_drop]
    rw [hr] at hst
    refine ⟨_, ?_, setRow_heap w g (bsV l).toArray ((bsV (putAt l z (List.replicate n 0))).toArray) _ _ hb, ⟨rfl, rfl, rfl, by simp [World.setRow], fun k hk hn => setRow_other w g k _ (by simpa using hn)⟩⟩
    obtain ⟨m, rfl⟩ : ∃ m, n = m + 1 := ⟨n - 1, by omega⟩
    simp [Builtin.clear_, run_underlying Tryz.underlying22, hv, hzc, hst]
theorem clear_row8 {w : World} {g z n c o : Nat} {ty : TypeId} {l : List UInt8} (hb : Row8 w g l) (hz : 0 < n → z = o) (hfit : o + n ≤ l.length) :
    ∃ w', (Builtin.clear_ #[22] ty #[.slice (some ⟨g, z, none⟩) n c]).run Tryz.prog w = .ok (.tuple #[]) w' ∧ Row8 w' g (putAt l o (List.replicate n 0)) ∧ Fr [g] w w' := by
  obtain ⟨ex, hb⟩ := hb
  obtain ⟨w', h1, h2, h3⟩ := clear_bytes (c := c) (ty := ty) hb hz (by rw [List.length_append]; omega)
  rw [putAt_app (by rw [List.length_replicate]; exact hfit)] at h2
  exact ⟨w', h1, ⟨ex, h2⟩, h3⟩
end Go.Proofs.YtmdhlodafjpnmaaGreat
namespace Go.Proofs.YtmdhlodafjpnmaaGreat
open List renaming getElem_toArray → qj1, getElem_cons_succ → qj2, getElem_cons_zero → qj3, setIfInBounds_toArray → qj4, set_cons_zero → qj5, set_cons_succ → qj6
open Go.RowKit
set_option linter.unusedVariables false
set_option linter.unusedSimpArgs false
set_option maxRecDepth 100000
set_option maxHeartbeats 4000000

theorem ringSkip {w : World} {r g : Nat} {l : List UInt8} {cp f k : Nat} (h : RgAt w r g l cp f k) (hrg : r ≠ g) (m : Nat) (hm : m ≤ 1000000) :
    Calls Tryz.prog 229 #[.pointer (some ⟨r, 0, none⟩), .int .i64 m] w fun e w' => e = .returned (.tuple #[.int .i64 (min m k : Nat), .int .i64 0]) ∧ RgAt w' r g (ringPut l f 0 (List.replicate (min m k) 0)) cp ((f + min m k) % l.length) (k - min m k) ∧ Fr [r, g] w w' := by
  have HR := Lib.hid h
  have hk := h.hn
  have hl := h.hl
  have hf := h.hf
  obtain ⟨c, hc⟩ : ∃ c, l.length = c := ⟨_, rfl⟩
  have HC := Lib.hid hc
  rw [hc] at hk hl hf ⊢
  have HZERO := Lib.hid (fun W (fW : Fr [] w W) => ringZero (h.new fW))
  have hm0 : ¬ (m : Int) < 0 := by omega
  have hm1 : decide ((m : Int) < 0) = false := decide_eq_false (by omega)
  obtain ⟨n, hn⟩ : ∃ n, min m k = n := ⟨_, rfl⟩
  rw [hn]
  have hnn : n ≤ m ∧ n ≤ k ∧ (n = m ∨ n = k) := by omega
  have hmin : (if k < m then (k : Int) else (m : Int)) = n := by rcases hnn with ⟨h1, h2, h3 | h3⟩ <;> split <;> omega
  have hnk : n ≤ k := hnn.2.1
  obtain ⟨q, hq⟩ : ∃ q, min n (c - f) = q := ⟨_, rfl⟩
  have hqn : q ≤ n ∧ q ≤ c - f := by omega
  have hcz : ¬ c = 0 := by omega
  obtain ⟨p, hp⟩ : ∃ p, (f + n) % c = p := ⟨_, rfl⟩
  have hpc : p < c := by rw [← hp]; exact Nat.mod_lt _ (by omega)
  have hmd : ((f : Int) + n).tmod c = p := by rw [Int.tmod_eq_emod_of_nonneg (by omega), ← hp]; first | norm_cast | simp
  have hw1 : IntKind.i64.wrap ((f : Int) + n) = (f : Int) + n := IntWalk.i64_in _ (by omega)
  have hw2 : IntKind.i64.wrap ((k : Int) - n) = ((k - n : Nat) : Int) := by rw [IntWalk.i64_in _ (by omega)]; omega
  obtain ⟨l1, hl1⟩ : ∃ l1, putAt l f (List.replicate q 0) = l1 := ⟨_, rfl⟩
  have hl1c : l1.length = c := by rw [← hl1, putAt_len (by rw [List.length_replicate, hc]; omega), hc]
  have hput : ringPut l f 0 (List.replicate n 0) = putAt l1 0 (List.replicate (n - q) 0) := by
    unfold ringPut
    rw [Nat.add_zero, hc, Nat.mod_eq_of_lt hf, List.length_replicate, hq, List.take_replicate, List.drop_replicate, show min q n = q from by omega, hl1]
  rw [hput, hp]
  have HNN := Lib.hid hnn
  have HQQ := Lib.hid hq
  have HQN := Lib.hid hqn
  have HNK := Lib.hid hnk
  have HL1 := Lib.hid (And.intro hl1 hl1c)
  clear h hc hnn hq hqn hnk hl1 hl1c hput hp hn
  go_enter Tryz.func229, Tryz.ntmps229
  go_wp2_with fail
  refine (HZERO.out _ (Fr.refl [] w)).mono ?_
  rintro e w1 ⟨rfl, f1⟩
  have k2 := (HR.out.new f1).c2
  go_wp2_with fail
  refine (ringPieces (HR.out.new f1) 0 n (by omega) (by rw [HC.out]; have := HNK.out; omega)).mono ?_
  rw [HC.out, show (f + 0) % c = f from Nat.mod_eq_of_lt hf, HQQ.out]
  obtain ⟨z, hz⟩ : ∃ z, (if q = 0 then 0 else f) = z := ⟨_, rfl⟩
  rw [hz]
  have HZ := Lib.hid hz
  clear hz
  rintro e w3 ⟨rfl, f3⟩
  go_wp2_with fail
  have HF3 := Lib.hid (f1.step f3)
  clear f1 f3 k2 hmin
  go_loopw [24] (fun i wr => ∃ (wz : World) (j : Nat), wz = wr ∧ i = .int .i64 j ∧ ((j = 0 ∧ Row8 wr g l) ∨ (j = 1 ∧ Row8 wr g l1) ∨ (j = 2 ∧ Row8 wr g (putAt l1 0 (List.replicate (n - q) 0)))) ∧ Fr [g] w wr) (fun i _ => 2 - (intOf i).toNat)
  case atStart => exact ⟨_, 0, rfl, rfl, .inl ⟨rfl, (HR.out.new HF3.out).row⟩, HF3.out.mono (fun x hx => by cases hx)⟩
  case round =>
    obtain ⟨wr, j, hwz, rfl, hcase, hfr⟩ := hrel
    subst hwz
    have HFR := Lib.hid hfr
    clear hfr
    have hi0 : ∀ W : World, (Instr.index 298 (.agg #[.slice (some ⟨g, z, none⟩) q q, .slice (some ⟨g, 0, none⟩) (n - q) (n - q)]) (.int .i64 0)).run Tryz.prog W = .ok (.slice (some ⟨g, z, none⟩) q q) W := fun W => by kernel_rfl
    have hi1 : ∀ W : World, (Instr.index 298 (.agg #[.slice (some ⟨g, z, none⟩) q q, .slice (some ⟨g, 0, none⟩) (n - q) (n - q)]) (.int .i64 1)).run Tryz.prog W = .ok (.slice (some ⟨g, 0, none⟩) (n - q) (n - q)) W := fun W => by kernel_rfl
    rcases hcase with ⟨rfl, hb⟩ | ⟨rfl, hb⟩ | ⟨rfl, hb⟩
    · skip
      have HB := Lib.hid hb
      clear hb
      go_upto_region 9 with fail
      refine wp_region_lit ?_
      refine wpList_plain rfl (fun K hK => ?_); go_simp; refine hK _ _ ?_; clear hK K
      try simp only [Act.put, qj1, qj2, qj3, qj4, qj5, qj6]
      obtain ⟨ws, hrun, hb_, hf_⟩ := clear_row8 (c := q) (ty := 0) HB.out (z := z) (n := q) (o := f) (fun h0 => by rw [← HZ.out, if_neg (by omega)]) (by rw [HC.out]; have := HQN.out; omega)
      refine wpList_plain rfl (fun K hK => ?_)
      go_simp
      refine hK _ _ ?_
      clear hK K hrun
      refine wpList_nil ?_
      try simp only [Act.put, qj1, qj2, qj3, qj4, qj5, qj6]
      have HB2 := Lib.hid hb_
      have HF2 := Lib.hid (HFR.out.trans hf_ (fun x hx hl => hx))
      clear hb_ hf_
      go_wp2
      go_roundw
      case rel => exact ⟨_, 1, rfl, rfl, .inr (.inl ⟨rfl, by rw [← HL1.out.1]; exact HB2.out⟩), HF2.out⟩
      case measure => simp [intOf]
    · skip
      have HB := Lib.hid hb
      clear hb
      go_upto_region 9 with fail
      refine wp_region_lit ?_
      refine wpList_plain rfl (fun K hK => ?_); go_simp; refine hK _ _ ?_; clear hK K
      try simp only [Act.put, qj1, qj2, qj3, qj4, qj5, qj6]
      obtain ⟨ws, hrun, hb_, hf_⟩ := clear_row8 (c := (n - q)) (ty := 0) HB.out (z := 0) (n := (n - q)) (o := 0) (fun _ => rfl) (by rw [HL1.out.2]; have := HQN.out; have := HNK.out; omega)
      refine wpList_plain rfl (fun K hK => ?_)
      go_simp
      refine hK _ _ ?_
      clear hK K hrun
      refine wpList_nil ?_
      try simp only [Act.put, qj1, qj2, qj3, qj4, qj5, qj6]
      have HB2 := Lib.hid hb_
      have HF2 := Lib.hid (HFR.out.trans hf_ (fun x hx hl => hx))
      clear hb_ hf_
      go_wp2
      go_roundw
      case rel => exact ⟨_, 2, rfl, rfl, .inr (.inr ⟨rfl, HB2.out⟩), HF2.out⟩
      case measure => simp [intOf]
    · skip
      obtain ⟨wd, hwd⟩ : ∃ z, wr.drew = z := ⟨_, rfl⟩
      have fd : Fr [] wr wd := by rw [← hwd]; exact (Fr.refl [] wr).drew
      have hbd : Blk wd r 267 [.slice (some ⟨g, 0, none⟩) c cp, .int .i64 f, .int .i64 k] := by
        have := ((HR.out.blk).keep HFR.out (by simpa using hrg)).keep fd (by simp)
        rwa [HC.out] at this
      have k1 : wd.cell? ⟨r, 1, none⟩ = some (.int .i64 f) := by simpa using hbd.at 1 _ rfl
      have k2 : wd.cell? ⟨r, 2, none⟩ = some (.int .i64 k) := by simpa using hbd.at 2 _ rfl
      have k0 : wd.cell? ⟨r, 0, none⟩ = some (.slice (some ⟨g, 0, none⟩) c cp) := by simpa using hbd.at 0 _ rfl
      have HBD := Lib.hid hbd
      have HRD := Lib.hid (Row8.keep hb fd (by simp))
      have HFD := Lib.hid (show Fr [g] w wd from HFR.out.step fd)
      have HWD := Lib.hid hwd
      clear hb hwd fd hbd
      go_upto_region 11 with fail
      refine wp_region_held_drew (S := fun W => W.cell? ⟨r, 0, none⟩ = some (.slice (some ⟨g, 0, none⟩) c cp)) (by kernel_rfl) (by rw [HWD.out]; exact k0) (fun hHeld => ?_)
      rw [HWD.out] at hHeld ⊢
      refine wpAnyH_take (i := 0) (oi := _) (v := ?_) rfl (by kernel_rfl) (by kernel_rfl) (by kernel_rfl) (fun _ _ _ h => h) (Or.inl ⟨by rfl, ?_⟩) (by first | assumption | trivial) ?_
      rotate_left
      · intro w hSw; (try dsimp only at hSw); go_simp; try with_reducible rfl
      try simp only [Act.put, qj1, qj2, qj3, qj4, qj5, qj6]
      refine wpAnyH_take (i := 1) (oi := _) (v := ?_) rfl (by kernel_rfl) (by kernel_rfl) (by kernel_rfl) (fun _ _ _ h => h) (Or.inl ⟨by rfl, ?_⟩) (by first | assumption | trivial) ?_
      rotate_left
      · intro w hSw; (try dsimp only at hSw); go_simp; try with_reducible rfl
      try simp only [Act.put, qj1, qj2, qj3, qj4, qj5, qj6]
      refine wpAnyH_take (i := 2) (oi := _) (v := ?_) rfl (by kernel_rfl) (by kernel_rfl) (by kernel_rfl) (fun _ _ _ h => h) (Or.inl ⟨by rfl, ?_⟩) (by first | assumption | trivial) ?_
      rotate_left
      · intro w hSw; (try dsimp only at hSw); go_simp; try with_reducible rfl
      try simp only [Act.put, qj1, qj2, qj3, qj4, qj5, qj6]
      refine wpAnyH_take (i := 3) (oi := _) (v := ?_) rfl (by kernel_rfl) (by kernel_rfl) (by kernel_rfl) (fun _ _ _ h => h) (Or.inl ⟨by rfl, ?_⟩) (by first | assumption | trivial) ?_
      rotate_left
      · intro w hSw; (try dsimp only at hSw); go_simp; try with_reducible rfl
      try simp only [Act.put, qj1, qj2, qj3, qj4, qj5, qj6]
      refine wpAnyH_take (i := 4) (oi := _) (v := ?_) rfl (by kernel_rfl) (by kernel_rfl) (by kernel_rfl) (fun _ _ _ h => h) (Or.inl ⟨by rfl, ?_⟩) (by first | assumption | trivial) ?_
      rotate_left
      · intro w hSw; (try dsimp only at hSw); go_simp; try with_reducible rfl
      try simp only [Act.put, qj1, qj2, qj3, qj4, qj5, qj6]
      refine wpAnyH_take (i := 6) (oi := _) (v := ?_) rfl (by kernel_rfl) (by kernel_rfl) (by kernel_rfl) (fun _ _ _ h => h) (Or.inl ⟨by rfl, ?_⟩) (by first | assumption | trivial) ?_
      rotate_left
      · intro w hSw; (try dsimp only at hSw); go_simp; try with_reducible rfl
      try simp only [Act.put, qj1, qj2, qj3, qj4, qj5, qj6]
      refine wpAnyH_take (i := 8) (oi := _) (v := ?_) rfl (by kernel_rfl) (by kernel_rfl) (by kernel_rfl) (fun _ _ _ h => h) (Or.inl ⟨by rfl, ?_⟩) (by first | assumption | trivial) ?_
      rotate_left
      · intro w hSw; (try dsimp only at hSw); go_simp; try with_reducible rfl
      try simp only [Act.put, qj1, qj2, qj3, qj4, qj5, qj6]
      refine wpAnyH_take (i := 9) (oi := _) (v := ?_) rfl (by kernel_rfl) (by kernel_rfl) (by kernel_rfl) (fun _ _ _ h => h) (Or.inl ⟨by rfl, ?_⟩) (by first | assumption | trivial) ?_
      rotate_left
      · intro w hSw; (try dsimp only at hSw); go_simp; try with_reducible rfl
      try simp only [Act.put, qj1, qj2, qj3, qj4, qj5, qj6]
      refine wpAnyH_take (i := 10) (oi := _) (v := ?_) rfl (by kernel_rfl) (by kernel_rfl) (by kernel_rfl) (fun _ _ _ h => h) (Or.inl ⟨by rfl, ?_⟩) (by first | assumption | trivial) ?_
      rotate_left
      · intro w hSw; (try dsimp only at hSw); go_simp; try with_reducible rfl
      try simp only [Act.put, qj1, qj2, qj3, qj4, qj5, qj6]
      refine wpAnyH_take (i := 11) (oi := _) (v := ?_) rfl (by kernel_rfl) (by kernel_rfl) (by kernel_rfl) (fun _ _ _ h => h) (Or.inl ⟨by rfl, ?_⟩) (by first | assumption | trivial) ?_
      rotate_left
      · intro w hSw; (try dsimp only at hSw); go_simp; try with_reducible rfl
      try simp only [Act.put, qj1, qj2, qj3, qj4, qj5, qj6]
      refine wpAnyH_take (i := 12) (oi := _) (v := ?_) rfl (by kernel_rfl) (by kernel_rfl) (by kernel_rfl) (fun _ _ _ h => h) (Or.inl ⟨by rfl, ?_⟩) (by first | assumption | trivial) ?_
      rotate_left
      · intro w hSw; (try dsimp only at hSw); go_simp; try with_reducible rfl
      try simp only [Act.put, qj1, qj2, qj3, qj4, qj5, qj6]
      refine wpAnyH_take (i := 14) (oi := _) (v := ?_) rfl (by kernel_rfl) (by kernel_rfl) (by kernel_rfl) (fun _ _ _ h => h) (Or.inl ⟨by rfl, ?_⟩) (by first | assumption | trivial) ?_
      rotate_left
      · intro w hSw; (try dsimp only at hSw); go_simp; try with_reducible rfl
      try simp only [Act.put, qj1, qj2, qj3, qj4, qj5, qj6]
      refine wpAnyH_take (i := 15) (oi := _) (v := ?_) rfl (by kernel_rfl) (by kernel_rfl) (by kernel_rfl) (fun _ _ _ h => h) (Or.inl ⟨by rfl, ?_⟩) (by first | assumption | trivial) ?_
      rotate_left
      · intro w hSw; (try dsimp only at hSw); go_simp; try with_reducible rfl
      try simp only [Act.put, qj1, qj2, qj3, qj4, qj5, qj6]
      refine wpAnyH_take (i := 16) (oi := _) (v := ?_) rfl (by kernel_rfl) (by kernel_rfl) (by kernel_rfl) (fun _ _ _ h => h) (Or.inl ⟨by rfl, ?_⟩) (by first | assumption | trivial) ?_
      rotate_left
      · intro w hSw; (try dsimp only at hSw); go_simp; try with_reducible rfl
      try simp only [Act.put, qj1, qj2, qj3, qj4, qj5, qj6]
      refine wpAnyH_take (i := 18) (oi := _) (v := ?_) rfl (by kernel_rfl) (by kernel_rfl) (by kernel_rfl) (fun _ _ _ h => h) (Or.inl ⟨by rfl, ?_⟩) (by first | assumption | trivial) ?_
      rotate_left
      · intro w hSw; (try dsimp only at hSw); go_simp; try with_reducible rfl
      try simp only [Act.put, qj1, qj2, qj3, qj4, qj5, qj6]
      refine wpAnyH_ready (rs := [5, 17]) (by kernel_rfl) (by simp) ?_
      refine AllReadyH.cons (o := _) rfl (fun K hK => ?_) (AllReadyH.cons (o := _) rfl (fun K hK => ?_) AllReadyH.nil)
      · skip
        go_simp
        refine hK.out _ _ (hHeld) (fun hHeld => ?_)
        clear hK K
        try simp only [Act.put, qj1, qj2, qj3, qj4, qj5, qj6]
        refine wpAnyH_take (i := 7) (oi := _) (v := ?_) rfl (by kernel_rfl) (by kernel_rfl) (by kernel_rfl) (fun _ _ _ h => h) (Or.inl ⟨by rfl, ?_⟩) (by first | assumption | trivial) ?_
        rotate_left
        · intro w hSw; (try dsimp only at hSw); go_simp; try with_reducible rfl
        try simp only [Act.put, qj1, qj2, qj3, qj4, qj5, qj6]
        refine wpAnyH_take (i := 13) (oi := _) (v := ?_) rfl (by kernel_rfl) (by kernel_rfl) (by kernel_rfl) (fun _ _ _ h => h) (Or.inl ⟨by rfl, ?_⟩) (by first | assumption | trivial) ?_
        rotate_left
        · intro w hSw; (try dsimp only at hSw); go_simp; try with_reducible rfl
        try simp only [Act.put, qj1, qj2, qj3, qj4, qj5, qj6]
        refine wpAnyH_ready (rs := [17]) (by kernel_rfl) (by simp) ?_
        refine AllReadyH.cons (o := _) rfl (fun K hK => ?_) AllReadyH.nil
        go_simp
        refine hK.out _ _ (hHeld) (fun hHeld => ?_)
        clear hK K
        try simp only [Act.put, qj1, qj2, qj3, qj4, qj5, qj6]
        refine wpAnyH_take (i := 19) (oi := _) (v := ?_) rfl (by kernel_rfl) (by kernel_rfl) (by kernel_rfl) (fun _ _ _ h => h) (Or.inl ⟨by rfl, ?_⟩) (by first | assumption | trivial) ?_
        rotate_left
        · intro w hSw; (try dsimp only at hSw); go_simp; try with_reducible rfl
        try simp only [Act.put, qj1, qj2, qj3, qj4, qj5, qj6]
        refine wpAnyH_take (i := 20) (oi := _) (v := ?_) rfl (by kernel_rfl) (by kernel_rfl) (by kernel_rfl) (fun _ _ _ h => h) (Or.inl ⟨by rfl, ?_⟩) (by first | assumption | trivial) ?_
        rotate_left
        · intro w hSw; (try dsimp only at hSw); go_simp; try with_reducible rfl
        try simp only [Act.put, qj1, qj2, qj3, qj4, qj5, qj6]
        refine wpAnyH_take (i := 21) (oi := _) (v := ?_) rfl (by kernel_rfl) (by kernel_rfl) (by kernel_rfl) (fun _ _ _ h => h) (Or.inl ⟨by rfl, ?_⟩) (by first | assumption | trivial) ?_
        rotate_left
        · intro w hSw; (try dsimp only at hSw); go_simp; try with_reducible rfl
        try simp only [Act.put, qj1, qj2, qj3, qj4, qj5, qj6]
        refine wpAnyH_ready (rs := [22]) (by kernel_rfl) (by simp) ?_
        refine AllReadyH.cons (o := _) rfl (fun K hK => ?_) AllReadyH.nil
        obtain ⟨ws, hst, hb_, hf_⟩ := store_cell (t := 3) (o := 1) (.int .i64 p) size3 rfl rfl HBD.out (by simp)
        split
        rotate_left
        · rename_i hno
          exact absurd rfl hno
        refine wp_skp (w' := ws) ?_ ?_
        · show Sem.run Tryz.prog ((Instr.storeAt 3 (.pointer (some ⟨r, 1, none⟩)) (.int .i64 p)) >>= fun _ => pure Next.skip) _ = _
          rw [Sem.run_bind, hst]
          rfl
        clear hst
        have HB1 := Lib.hid (show Blk ws r 267 [.slice (some ⟨g, 0, none⟩) c cp, .int .i64 p, .int .i64 k] from by simpa using hb_)
        have HR1 := Lib.hid (HRD.out.keep hf_ (by simpa using (Ne.symm hrg)))
        have HF1 := Lib.hid (show Fr [r, g] w ws from (HFD.out.mono (fun x hx _ => by rw [List.mem_singleton] at hx; subst hx; simp)).trans hf_ (fun x hx hl => by rw [List.mem_singleton] at hx; subst hx; simp))
        clear hb_ hf_ k0 k1 k2
        refine hK.out _ _ (by simpa using HB1.out.at 0 _ rfl) (fun hHeld => ?_)
        clear hK K
        try simp only [Act.put, qj1, qj2, qj3, qj4, qj5, qj6]
        refine wpAnyH_take (i := 23) (oi := _) (v := ?_) rfl (by kernel_rfl) (by kernel_rfl) (by kernel_rfl) (fun _ _ _ h => h) (Or.inl ⟨by rfl, ?_⟩) (by first | assumption | trivial) ?_
        rotate_left
        · intro w hSw; (try dsimp only at hSw); go_simp; try with_reducible rfl
        try simp only [Act.put, qj1, qj2, qj3, qj4, qj5, qj6]
        refine wpAnyH_take (i := 24) (oi := _) (v := ?_) rfl (by kernel_rfl) (by kernel_rfl) (by kernel_rfl) (fun _ _ _ h => h) (Or.inl ⟨by rfl, ?_⟩) (by first | assumption | trivial) ?_
        rotate_left
        · intro w hSw; (try dsimp only at hSw); go_simp; try with_reducible rfl
        try simp only [Act.put, qj1, qj2, qj3, qj4, qj5, qj6]
        refine wpAnyH_ready (rs := [25]) (by kernel_rfl) (by simp) ?_
        refine AllReadyH.cons (o := _) rfl (fun K hK => ?_) AllReadyH.nil
        obtain ⟨wt, hst, hb_, hf_⟩ := store_cell (t := 3) (o := 2) (.int .i64 ((k - n : Nat) : Int)) size3 rfl rfl HB1.out (by simp)
        split
        rotate_left
        · rename_i hno
          exact absurd rfl hno
        refine wp_skp (w' := wt) ?_ ?_
        · show Sem.run Tryz.prog ((Instr.storeAt 3 (.pointer (some ⟨r, 2, none⟩)) (.int .i64 ((k - n : Nat) : Int))) >>= fun _ => pure Next.skip) _ = _
          rw [Sem.run_bind, hst]
          rfl
        clear hst
        have HB2 := Lib.hid (show Blk wt r 267 [.slice (some ⟨g, 0, none⟩) c cp, .int .i64 p, .int .i64 ((k - n : Nat) : Int)] from by simpa using hb_)
        have HR2 := Lib.hid (HR1.out.keep hf_ (by simpa using (Ne.symm hrg)))
        have HF2 := Lib.hid (HF1.out.trans hf_ (fun x hx hl => by rw [List.mem_singleton] at hx; subst hx; simp))
        clear hb_ hf_
        refine hK.out _ _ (by simpa using HB2.out.at 0 _ rfl) (fun hHeld => ?_)
        clear hK K
        try simp only [Act.put, qj1, qj2, qj3, qj4, qj5, qj6]
        refine wpAnyH_done (by kernel_rfl) ?_ _
        have HLEN := Lib.hid (show (putAt l1 0 (List.replicate (n - q) 0)).length = c from by rw [putAt_len (by rw [List.length_replicate, HL1.out.2]; have := HQN.out; have := HNK.out; omega), HL1.out.2])
        go_wp2
        refine bodyPost_ret (v := .tuple #[.int .i64 (n : Nat), .int .i64 0]) (by simp [results, Tryz.results229]) rfl ?_
        exact ⟨rfl, ⟨by rw [HLEN.out]; exact HB2.out, HR2.out, by rw [HLEN.out]; exact hpc, by rw [HLEN.out]; have := HNK.out; omega, by rw [HLEN.out]; exact hl, by rw [HLEN.out, ← HC.out]; exact HR.out.cap⟩, HF2.out⟩
      · skip
        go_simp
        refine hK.out _ _ (hHeld) (fun hHeld => ?_)
        clear hK K
        try simp only [Act.put, qj1, qj2, qj3, qj4, qj5, qj6]
        refine wpAnyH_take (i := 19) (oi := _) (v := ?_) rfl (by kernel_rfl) (by kernel_rfl) (by kernel_rfl) (fun _ _ _ h => h) (Or.inl ⟨by rfl, ?_⟩) (by first | assumption | trivial) ?_
        rotate_left
        · intro w hSw; (try dsimp only at hSw); go_simp; try with_reducible rfl
        try simp only [Act.put, qj1, qj2, qj3, qj4, qj5, qj6]
        refine wpAnyH_ready (rs := [5]) (by kernel_rfl) (by simp) ?_
        refine AllReadyH.cons (o := _) rfl (fun K hK => ?_) AllReadyH.nil
        go_simp
        refine hK.out _ _ (hHeld) (fun hHeld => ?_)
        clear hK K
        try simp only [Act.put, qj1, qj2, qj3, qj4, qj5, qj6]
        refine wpAnyH_take (i := 7) (oi := _) (v := ?_) rfl (by kernel_rfl) (by kernel_rfl) (by kernel_rfl) (fun _ _ _ h => h) (Or.inl ⟨by rfl, ?_⟩) (by first | assumption | trivial) ?_
        rotate_left
        · intro w hSw; (try dsimp only at hSw); go_simp; try with_reducible rfl
        try simp only [Act.put, qj1, qj2, qj3, qj4, qj5, qj6]
        refine wpAnyH_take (i := 13) (oi := _) (v := ?_) rfl (by kernel_rfl) (by kernel_rfl) (by kernel_rfl) (fun _ _ _ h => h) (Or.inl ⟨by rfl, ?_⟩) (by first | assumption | trivial) ?_
        rotate_left
        · intro w hSw; (try dsimp only at hSw); go_simp; try with_reducible rfl
        try simp only [Act.put, qj1, qj2, qj3, qj4, qj5, qj6]
        refine wpAnyH_take (i := 20) (oi := _) (v := ?_) rfl (by kernel_rfl) (by kernel_rfl) (by kernel_rfl) (fun _ _ _ h => h) (Or.inl ⟨by rfl, ?_⟩) (by first | assumption | trivial) ?_
        rotate_left
        · intro w hSw; (try dsimp only at hSw); go_simp; try with_reducible rfl
        try simp only [Act.put, qj1, qj2, qj3, qj4, qj5, qj6]
        refine wpAnyH_take (i := 21) (oi := _) (v := ?_) rfl (by kernel_rfl) (by kernel_rfl) (by kernel_rfl) (fun _ _ _ h => h) (Or.inl ⟨by rfl, ?_⟩) (by first | assumption | trivial) ?_
        rotate_left
        · intro w hSw; (try dsimp only at hSw); go_simp; try with_reducible rfl
        try simp only [Act.put, qj1, qj2, qj3, qj4, qj5, qj6]
        refine wpAnyH_ready (rs := [22]) (by kernel_rfl) (by simp) ?_
        refine AllReadyH.cons (o := _) rfl (fun K hK => ?_) AllReadyH.nil
        obtain ⟨ws, hst, hb_, hf_⟩ := store_cell (t := 3) (o := 1) (.int .i64 p) size3 rfl rfl HBD.out (by simp)
        split
        rotate_left
        · rename_i hno
          exact absurd rfl hno
        refine wp_skp (w' := ws) ?_ ?_
        · show Sem.run Tryz.prog ((Instr.storeAt 3 (.pointer (some ⟨r, 1, none⟩)) (.int .i64 p)) >>= fun _ => pure Next.skip) _ = _
          rw [Sem.run_bind, hst]
          rfl
        clear hst
        have HB1 := Lib.hid (show Blk ws r 267 [.slice (some ⟨g, 0, none⟩) c cp, .int .i64 p, .int .i64 k] from by simpa using hb_)
        have HR1 := Lib.hid (HRD.out.keep hf_ (by simpa using (Ne.symm hrg)))
        have HF1 := Lib.hid (show Fr [r, g] w ws from (HFD.out.mono (fun x hx _ => by rw [List.mem_singleton] at hx; subst hx; simp)).trans hf_ (fun x hx hl => by rw [List.mem_singleton] at hx; subst hx; simp))
        clear hb_ hf_ k0 k1 k2
        refine hK.out _ _ (by simpa using HB1.out.at 0 _ rfl) (fun hHeld => ?_)
        clear hK K
        try simp only [Act.put, qj1, qj2, qj3, qj4, qj5, qj6]
        refine wpAnyH_take (i := 23) (oi := _) (v := ?_) rfl (by kernel_rfl) (by kernel_rfl) (by kernel_rfl) (fun _ _ _ h => h) (Or.inl ⟨by rfl, ?_⟩) (by first | assumption | trivial) ?_
        rotate_left
        · intro w hSw; (try dsimp only at hSw); go_simp; try with_reducible rfl
        try simp only [Act.put, qj1, qj2, qj3, qj4, qj5, qj6]
        refine wpAnyH_take (i := 24) (oi := _) (v := ?_) rfl (by kernel_rfl) (by kernel_rfl) (by kernel_rfl) (fun _ _ _ h => h) (Or.inl ⟨by rfl, ?_⟩) (by first | assumption | trivial) ?_
        rotate_left
        · intro w hSw; (try dsimp only at hSw); go_simp; try with_reducible rfl
        try simp only [Act.put, qj1, qj2, qj3, qj4, qj5, qj6]
        refine wpAnyH_ready (rs := [25]) (by kernel_rfl) (by simp) ?_
        refine AllReadyH.cons (o := _) rfl (fun K hK => ?_) AllReadyH.nil
        obtain ⟨wt, hst, hb_, hf_⟩ := store_cell (t := 3) (o := 2) (.int .i64 ((k - n : Nat) : Int)) size3 rfl rfl HB1.out (by simp)
        split
        rotate_left
        · rename_i hno
          exact absurd rfl hno
        refine wp_skp (w' := wt) ?_ ?_
        · show Sem.run Tryz.prog ((Instr.storeAt 3 (.pointer (some ⟨r, 2, none⟩)) (.int .i64 ((k - n : Nat) : Int))) >>= fun _ => pure Next.skip) _ = _
          rw [Sem.run_bind, hst]
          rfl
        clear hst
        have HB2 := Lib.hid (show Blk wt r 267 [.slice (some ⟨g, 0, none⟩) c cp, .int .i64 p, .int .i64 ((k - n : Nat) : Int)] from by simpa using hb_)
        have HR2 := Lib.hid (HR1.out.keep hf_ (by simpa using (Ne.symm hrg)))
        have HF2 := Lib.hid (HF1.out.trans hf_ (fun x hx hl => by rw [List.mem_singleton] at hx; subst hx; simp))
        clear hb_ hf_
        refine hK.out _ _ (by simpa using HB2.out.at 0 _ rfl) (fun hHeld => ?_)
        clear hK K
        try simp only [Act.put, qj1, qj2, qj3, qj4, qj5, qj6]
        refine wpAnyH_done (by kernel_rfl) ?_ _
        have HLEN := Lib.hid (show (putAt l1 0 (List.replicate (n - q) 0)).length = c from by rw [putAt_len (by rw [List.length_replicate, HL1.out.2]; have := HQN.out; have := HNK.out; omega), HL1.out.2])
        go_wp2
        refine bodyPost_ret (v := .tuple #[.int .i64 (n : Nat), .int .i64 0]) (by simp [results, Tryz.results229]) rfl ?_
        exact ⟨rfl, ⟨by rw [HLEN.out]; exact HB2.out, HR2.out, by rw [HLEN.out]; exact hpc, by rw [HLEN.out]; have := HNK.out; omega, by rw [HLEN.out]; exact hl, by rw [HLEN.out, ← HC.out]; exact HR.out.cap⟩, HF2.out⟩
end Go.Proofs.YtmdhlodafjpnmaaGreat
namespace Go.Proofs.YtmdhlodafjpnmaaGreat
open Go.RowKit
set_option linter.unusedVariables false
set_option linter.unusedSimpArgs false
set_option maxRecDepth 100000
set_option maxHeartbeats 4000000

theorem ringRead {w : World} {r g : Nat} {l : List UInt8} {cp f k : Nat} (h : RgAt w r g l cp f k) (hrg : r ≠ g) (m : Nat) (hm : m ≤ 1000000) :
    Calls Tryz.prog 227 #[.pointer (some ⟨r, 0, none⟩), .int .i64 m] w fun e w' => ∃ v : Sli, e = .returned (.tuple #[slv v, .int .i64 0]) ∧ BsO w' w.heap.size v (cont l f (min m k)) ∧ RgAt w' r g (ringPut l f 0 (List.replicate (min m k) 0)) cp ((f + min m k) % l.length) (k - min m k) ∧ Fr [r, g] w w' := by
  have HR := Lib.hid h
  have hr := h.blk.lt
  have hg := h.row.lt
  have hk := h.hn
  have hl := h.hl
  obtain ⟨n, hn⟩ : ∃ n, min m k = n := ⟨_, rfl⟩
  have hnk : n ≤ k := by omega
  have hp := ringPeek h hrg m hm
  rw [hn] at hp ⊢
  have HP := Lib.hid hp
  clear h hp hn
  go_enter Tryz.func227, Tryz.ntmps227
  go_wp2_with fail
  refine HP.out.mono ?_
  rintro e w1 ⟨v, rfl, ho, f1⟩
  obtain ⟨a, n', c'⟩ := v
  obtain rfl : n' = n := by
    obtain ⟨a', c'', he⟩ := RowV.val (BsO.bs ho)
    simp only [slv, Value.slice.injEq, cont_len] at he
    exact he.2.1
  have HO := Lib.hid ho
  have HF := Lib.hid f1
  clear ho f1
  simp only [slv]
  go_wp2_with fail
  refine (ringSkip (HR.out.new HF.out) hrg n' (by omega)).mono ?_
  rw [show min n' k = n' from by omega]
  rintro e w2 ⟨rfl, hr2, f2⟩
  go_wp2
  refine bodyPost_ret (v := .tuple #[.slice a n' c', .int .i64 0]) (by simp [results, Tryz.results227]) rfl ?_
  refine ⟨(a, n', c'), rfl, ?_, hr2, (HF.out.mono (fun x hx => by cases hx)).trans f2 (fun x hx _ => hx)⟩
  exact rowFr' HO.out f2 (fun b hb hm' => by
    have := (World.ownsRow.lt HO.out b hb).1
    simp only [List.mem_cons, List.not_mem_nil, or_false] at hm'
    omega)
end Go.Proofs.YtmdhlodafjpnmaaGreat
