/- Streams: cut; fill. -/
/- Streams: fill. -/
/- Rings copied. -/
/- Places of bytes: take, held, again, room. -/
/- Streams: of, New, none, open. -/
import Derived.Test.YtmdhlodafjpnmaaGreatM5
import Derived.Test.YtmdhlodafjpnmaaGreatMP
namespace Go.Proofs.YtmdhlodafjpnmaaGreat
open List renaming getElem_toArray → qj1, getElem_cons_succ → qj2, getElem_cons_zero → qj3, setIfInBounds_toArray → qj4, set_cons_zero → qj5, set_cons_succ → qj6
open Go.RowKit
set_option linter.unusedVariables false
set_option linter.unusedSimpArgs false
set_option maxRecDepth 100000
set_option maxHeartbeats 4000000

/-- A rope in a block, between other cells. -/
def ropeIn (pre : List Value) (p : Sli) (n : Nat) (post : List Value) : List Value := pre ++ [.slice p.1 p.2.1 p.2.2, .int .i64 n] ++ post
theorem ropeIn_lies {w : World} {q : Nat} {t : TypeId} {pre post : List Value} {p : Sli} {n : Nat} (h : Blk w q t (ropeIn pre p n post)) : LiesAt w q pre.length [.slice p.1 p.2.1 p.2.2, .int .i64 n] := by
  have := h.at.part (k := pre.length) (n := 2) (ys := [.slice p.1 p.2.1 p.2.2, .int .i64 n]) (by simp [ropeIn])
  rwa [Nat.zero_add] at this
theorem store_rope {w : World} {q : Nat} {t : TypeId} {pre post : List Value} {p : Sli} {n : Nat} (p' : Sli) (n' : Nat) (h : Blk w q t (ropeIn pre p n post)) :
    ∃ w', (Instr.storeAt 128 (.pointer (some ⟨q, pre.length, none⟩)) (.agg ([.slice p'.1 p'.2.1 p'.2.2, .int .i64 n'] : List Value).toArray)).run Tryz.prog w = .ok () w' ∧ Blk w' q t (ropeIn pre p' n' post) ∧ Fr [q] w w' := by
  obtain ⟨w', h1, h2, h3⟩ := store_part (o := pre.length) (t := 128) [.slice p'.1 p'.2.1 p'.2.2, .int .i64 n'] sizeRope rfl (rope_one _ _ _ _) h (by simp [ropeIn])
  refine ⟨w', h1, ?_, h3⟩
  have he : (ropeIn pre p n post).take pre.length ++ [.slice p'.1 p'.2.1 p'.2.2, .int .i64 n'] ++ (ropeIn pre p n post).drop (pre.length + 2) = ropeIn pre p' n' post := by
    simp [ropeIn]
  rwa [he] at h2
theorem bsO_cap {w : World} {B : Nat} {v : Sli} {l : List UInt8} (h : BsO w B v l) : v.2.1 = l.length ∧ v.2.1 ≤ v.2.2 := by
  obtain ⟨a, n, c⟩ := v
  rcases h.2 with ⟨he, h0⟩ | ⟨g, cap, cur, he, _, _, h3, _⟩
  · simp only [slv, Value.slice.injEq] at he
    obtain ⟨rfl, rfl, rfl⟩ := he
    exact ⟨by simpa using h0.symm, Nat.le_refl _⟩
  · simp only [slv, Value.slice.injEq] at he
    obtain ⟨rfl, rfl, rfl⟩ := he
    exact ⟨rfl, h3⟩
theorem bsO_low {w : World} {B : Nat} {v : Sli} {l : List UInt8} (h : BsO w B v l) : ∀ g, (slv v).ownBlock = some g → B ≤ g ∧ g < w.heap.size := fun g hg => World.ownsRow.lt h g hg
theorem bsO_fr {S : List Nat} {w w' : World} {B : Nat} {v : Sli} {l : List UInt8} (h : BsO w B v l) (f : Fr S w w') (hS : ∀ z ∈ S, z < B) : BsO w' B v l := rowFr' h f (fun g hg hm => by have := bsO_low h g hg; have := hS g hm; omega)
def CutOut (own : Nat → Nat) (l1 l2 : List UInt8) (q : Nat) (t : TypeId) (pre post : List Value) (w : World) (e : Ending) (w' : World) : Prop := ∃ (v p2 : Sli) (own' : Nat → Nat), e = .returned (slv v) ∧ BsO w' w.heap.size v l1 ∧ RopeB w' own' p2 l2 ∧ Blk w' q t (ropeIn pre p2 l2.length post) ∧ Ext w own own' ∧ Fr [q] w w'
theorem cut_any {w : World} {own : Nat → Nat} {p : Sli} {l : List UInt8} {q : Nat} {t : TypeId} {pre post : List Value} (h : RopeB w own p l) (hl : l.length ≤ 65536) (hq : Blk w q t (ropeIn pre p l.length post)) (hq3 : own q ≠ 3) (m : Nat) (hmm : m ≤ 1000000) :
    Calls Tryz.prog 212 #[.pointer (some ⟨q, pre.length, none⟩), .int .i64 m] w (CutOut own (l.take m) (l.drop m) q t pre post w) := by
  obtain ⟨o, ho⟩ : ∃ o, pre.length = o := ⟨_, rfl⟩
  have HO := Lib.hid ho
  have hlie : LiesAt w q o [.slice p.1 p.2.1 p.2.2, .int .i64 l.length] := by rw [← ho]; exact ropeIn_lies hq
  have HLIE := Lib.hid hlie
  have HQ := Lib.hid hq
  have htk := ropeTake_any h hl m hmm
  unfold TakeOut at htk
  have hll : (l.take m).length ≤ 65536 := by rw [List.length_take]; omega
  obtain ⟨l1, h1⟩ : ∃ z, l.take m = z := ⟨_, rfl⟩
  obtain ⟨l2, h2⟩ : ∃ z, l.drop m = z := ⟨_, rfl⟩
  rw [h1, h2] at htk
  rw [h1] at hll
  rw [h1, h2]
  have HTK := Lib.hid htk
  have HLL := Lib.hid hll
  clear htk h1 h2 hll
  have HQ3 := Lib.hid (show own q ≠ 3 ∧ q < w.heap.size from ⟨hq3, hq.lt⟩)
  rw [ho]
  clear h hq ho hlie hq3
  go_enter Tryz.func212, Tryz.ntmps212
  go_upto_region 1 with fail
  refine wp_region_lit ?_
  refine wpList_plain rfl (fun K hK => ?_); go_simp; refine hK _ _ ?_; clear hK K
  refine wpList_plain rfl (fun K hK => ?_); go_simp; refine hK _ _ ?_; clear hK K
  try simp only [Act.put, qj1, qj2, qj3, qj4, qj5, qj6]
  refine wpList_val rfl (v := .agg ([.slice p.1 p.2.1 p.2.2, .int .i64 l.length]).toArray) (w' := w) ?_ ?_
  · show Sem.run Tryz.prog ((Instr.loadAt 128 (.pointer (some ⟨q, o, none⟩))) >>= fun x => pure (Next.value x)) w = _
    rw [Sem.run_bind, load_all aggRope sizeRope (xs := [.slice p.1 p.2.1 p.2.2, .int .i64 l.length]) rfl HLIE.out]
    rfl
  try simp only [Act.put, qj1, qj2, qj3, qj4, qj5, qj6]
  refine wpList_plain rfl (fun K hK => ?_); go_simp; refine hK _ _ ?_; clear hK K
  refine wpList_plain rfl (fun K hK => ?_)
  go_simp
  refine (HTK.out).mono ?_
  rintro e w1 ⟨p1, p2, own1, rfl, r1, r2, hx, f1⟩
  have HR1 := Lib.hid r1
  have HR2 := Lib.hid r2
  have HX := Lib.hid hx
  have HF1 := Lib.hid f1
  clear r1 r2 hx f1
  refine hK _ _ ?_
  clear hK K
  try simp only [Act.put, qj1, qj2, qj3, qj4, qj5, qj6]
  refine wpList_plain rfl (fun K hK => ?_); go_simp; refine hK _ _ ?_; clear hK K
  refine wpList_plain rfl (fun K hK => ?_); go_simp; refine hK _ _ ?_; clear hK K
  refine wpList_plain rfl (fun K hK => ?_); go_simp; refine hK _ _ ?_; clear hK K
  refine wpList_plain rfl (fun K hK => ?_); go_simp; refine hK _ _ ?_; clear hK K
  try simp only [Act.put, qj1, qj2, qj3, qj4, qj5, qj6]
  refine wpList_plain rfl (fun K hK => ?_); go_simp; refine hK _ _ ?_; clear hK K
  try simp only [Act.put, qj1, qj2, qj3, qj4, qj5, qj6]
  obtain ⟨H, hA_⟩ : ∃ A, w1.heap.size = A := ⟨_, rfl⟩
  obtain ⟨w2, hw_⟩ : ∃ z, w1.alloc (.cells #[.slice none 0 0, .int .i64 0] 128) = z := ⟨_, rfl⟩
  have hB_ : Blk w2 H 128 [.slice none 0 0, .int .i64 0] := by rw [← hw_, ← hA_]; exact Blk.made w1 128 _
  have hF_ : Fr [] w1 w2 := by rw [← hw_]; exact (Fr.refl [] w1).alloc _
  rw [hw_]
  simp only [hA_]
  have HH := Lib.hid hA_
  have HBH := Lib.hid hB_
  have HFw2 := Lib.hid hF_
  clear hA_ hw_ hB_ hF_
  refine wpList_plain rfl (fun K hK => ?_); go_simp; refine hK _ _ ?_; clear hK K
  try simp only [Act.put, qj1, qj2, qj3, qj4, qj5, qj6]
  obtain ⟨T, hA_⟩ : ∃ A, w2.heap.size = A := ⟨_, rfl⟩
  obtain ⟨w3, hw_⟩ : ∃ z, w2.alloc (.cells #[.slice none 0 0, .int .i64 0] 128) = z := ⟨_, rfl⟩
  have hB_ : Blk w3 T 128 [.slice none 0 0, .int .i64 0] := by rw [← hw_, ← hA_]; exact Blk.made w2 128 _
  have hF_ : Fr [] w2 w3 := by rw [← hw_]; exact (Fr.refl [] w2).alloc _
  rw [hw_]
  simp only [hA_]
  have HT := Lib.hid hA_
  have HBT := Lib.hid hB_
  have HFw3 := Lib.hid hF_
  clear hA_ hw_ hB_ hF_
  obtain ⟨w4, hst, hb_, hf_⟩ := store_all (t := 128) [.slice p1.1 p1.2.1 p1.2.2, .int .i64 l1.length] sizeRope rfl (rope_one _ _ _ _) (HBH.out.keep HFw3.out (by simp)) rfl
  refine wpList_skp rfl (w' := w4) ?_ ?_
  · show Sem.run Tryz.prog ((Instr.storeAt 128 (.pointer (some ⟨H, 0, none⟩)) (.agg #[.slice p1.1 p1.2.1 p1.2.2, .int .i64 l1.length])) >>= fun _ => pure Next.skip) _ = _
    rw [Sem.run_bind, hst]
    rfl
  clear hst
  try simp only [Act.put, qj1, qj2, qj3, qj4, qj5, qj6]
  have HB4 := Lib.hid hb_
  have HF4 := Lib.hid hf_
  have HTH := Lib.hid (show H ≠ T ∧ w.heap.size ≤ H ∧ H < T from by have h1 := HBH.out.lt; have h2 := HH.out; have h3 := HT.out; have := HF1.out.size; omega)
  have HBT4 := Lib.hid (HBT.out.keep hf_ (by simpa using HTH.out.1.symm))
  clear hb_ hf_
  obtain ⟨w5, hst, hb_, hf_⟩ := store_all (t := 128) [.slice p2.1 p2.2.1 p2.2.2, .int .i64 l2.length] sizeRope rfl (rope_one _ _ _ _) HBT4.out rfl
  refine wpList_skp rfl (w' := w5) ?_ ?_
  · show Sem.run Tryz.prog ((Instr.storeAt 128 (.pointer (some ⟨T, 0, none⟩)) (.agg #[.slice p2.1 p2.2.1 p2.2.2, .int .i64 l2.length])) >>= fun _ => pure Next.skip) _ = _
    rw [Sem.run_bind, hst]
    rfl
  clear hst
  try simp only [Act.put, qj1, qj2, qj3, qj4, qj5, qj6]
  refine wpList_plain rfl (fun K hK => ?_); go_simp; refine hK _ _ ?_; clear hK K
  refine wpList_nil ?_
  try simp only [Act.put, qj1, qj2, qj3, qj4, qj5, qj6]
  have HB5 := Lib.hid (HB4.out.keep hf_ (by simpa using HTH.out.1))
  have HBT5 := Lib.hid hb_
  have HF5 := Lib.hid (((HF1.out.step HFw2.out).step HFw3.out).trans (HF4.out.mono (T := [H, T]) (fun x hx _ => by rw [List.mem_singleton] at hx; subst hx; simp)) (fun x hx hl => by have := HTH.out; simp only [List.mem_cons, List.not_mem_nil, or_false] at hx; omega))
  have HF6 := Lib.hid (HF5.out.trans hf_ (fun x hx hl => by have := HTH.out; rw [List.mem_singleton] at hx; omega))
  have F15 := Lib.hid (show Fr [H, T] w1 w5 from (((HFw2.out.step HFw3.out).mono (T := [H, T]) (fun x hx _ => by cases hx)).trans (HF4.out.mono (T := [H, T]) (fun x hx _ => by rw [List.mem_singleton] at hx; subst hx; simp)) (fun x hx _ => hx)).trans (hf_.mono (T := [H, T]) (fun x hx _ => by rw [List.mem_singleton] at hx; subst hx; simp)) (fun x hx _ => hx))
  have HS1 := Lib.hid (show w1.heap.size ≤ H ∧ w1.heap.size ≤ T from by have h2 := HH.out; have := HTH.out; omega)
  have hno : ∀ z ∈ [H, T], z < w1.heap.size → own1 z ≠ 3 := fun z hz hl => by have := HS1.out; simp only [List.mem_cons, List.not_mem_nil, or_false] at hz; omega
  have HR15 := Lib.hid (HR1.out.keep F15.out hno)
  have HR25 := Lib.hid (HR2.out.keep F15.out hno)
  have HQ5 := Lib.hid (HQ.out.keep HF6.out (by simp))
  clear hb_ hf_ hno HF5 HF4 HB4 HBT4 HR1 HR2
  go_upto_region 2 with fail
  refine wp_region_lit ?_
  refine wpList_plain rfl (fun K hK => ?_); go_simp; refine hK _ _ ?_; clear hK K
  refine wpList_val rfl (v := .agg ([.slice p2.1 p2.2.1 p2.2.2, .int .i64 l2.length]).toArray) (w' := w5) ?_ ?_
  · show Sem.run Tryz.prog ((Instr.loadAt 128 (.pointer (some ⟨T, 0, none⟩))) >>= fun x => pure (Next.value x)) w5 = _
    rw [Sem.run_bind, load_all aggRope sizeRope (xs := [.slice p2.1 p2.2.1 p2.2.2, .int .i64 l2.length]) rfl HBT5.out.at]
    rfl
  try simp only [Act.put, qj1, qj2, qj3, qj4, qj5, qj6]
  refine wpList_plain rfl (fun K hK => ?_); go_simp; refine hK _ _ ?_; clear hK K
  try simp only [Act.put, qj1, qj2, qj3, qj4, qj5, qj6]
  obtain ⟨w6, hst, hb_, hf_⟩ := (by have := store_rope p2 l2.length HQ5.out; rwa [HO.out] at this)
  refine wpList_skp rfl (w' := w6) ?_ ?_
  · show Sem.run Tryz.prog ((Instr.storeAt 128 (.pointer (some ⟨q, o, none⟩)) (.agg ([.slice p2.1 p2.2.1 p2.2.2, .int .i64 l2.length] : List Value).toArray)) >>= fun _ => pure Next.skip) _ = _
    rw [Sem.run_bind, hst]
    rfl
  clear hst
  try simp only [Act.put, qj1, qj2, qj3, qj4, qj5, qj6]
  refine wpList_nil ?_
  try simp only [Act.put, qj1, qj2, qj3, qj4, qj5, qj6]
  have HQ6 := Lib.hid hb_
  have HB6 := Lib.hid (HB5.out.keep hf_ (by have := HTH.out; have := HQ3.out.2; simp; omega))
  have hno : ∀ z ∈ [q], z < w5.heap.size → own1 z ≠ 3 := fun z hz hl => by
    rw [List.mem_singleton] at hz
    subst hz
    rw [HX.out z HQ3.out.2]
    exact HQ3.out.1
  have HR16 := Lib.hid (HR15.out.keep hf_ hno)
  have HR26 := Lib.hid (HR25.out.keep hf_ hno)
  have HF7 := Lib.hid ((HF6.out.mono (T := [q]) (fun x hx _ => by cases hx)).trans hf_ (fun x hx hl => hx))
  clear hb_ hf_ hno HQ5 HBT5
  go_upto_region 3 with fail
  refine wp_region_lit ?_
  refine wpList_val rfl (v := .agg ([.slice p1.1 p1.2.1 p1.2.2, .int .i64 l1.length]).toArray) (w' := w6) ?_ ?_
  · show Sem.run Tryz.prog ((Instr.loadAt 128 (.pointer (some ⟨H, 0, none⟩))) >>= fun x => pure (Next.value x)) w6 = _
    rw [Sem.run_bind, load_all aggRope sizeRope (xs := [.slice p1.1 p1.2.1 p1.2.2, .int .i64 l1.length]) rfl HB6.out.at]
    rfl
  try simp only [Act.put, qj1, qj2, qj3, qj4, qj5, qj6]
  refine wpList_plain rfl (fun K hK => ?_)
  go_simp
  refine (ropeBytes_any HR16.out HLL.out l1.length).mono ?_
  rintro e w7 ⟨v, rfl, ho, f7⟩
  have HV := Lib.hid ho
  have HF8 := Lib.hid f7
  clear ho f7
  refine hK _ _ ?_
  clear hK K
  try simp only [Act.put, qj1, qj2, qj3, qj4, qj5, qj6]
  refine wpList_plain rfl (fun K hK => ?_); go_simp; refine hK _ _ ?_; clear hK K
  refine wpList_nil ?_
  try simp only [Act.put, qj1, qj2, qj3, qj4, qj5, qj6]
  go_wp2
  go_ret
  exact ⟨v, p2, own1, rfl, HV.out.base HF7.out.size, HR26.out.new HF8.out, HQ6.out.keep HF8.out (by simp), HX.out, HF7.out.step HF8.out⟩
end Go.Proofs.YtmdhlodafjpnmaaGreat
namespace Go.Proofs.YtmdhlodafjpnmaaGreat
open List renaming getElem_toArray → qj1, getElem_cons_succ → qj2, getElem_cons_zero → qj3, setIfInBounds_toArray → qj4, set_cons_zero → qj5, set_cons_succ → qj6
open Go.RowKit
set_option linter.unusedVariables false
set_option linter.unusedSimpArgs false
set_option maxRecDepth 100000
set_option maxHeartbeats 4000000

theorem fill_direct (v : Value) (w : World) : Calls Tryz.prog 208 #[.agg #[], v] w fun e w' => e = .returned (.int .i64 0) ∧ Fr [] w w' := by
  go_enter Tryz.func208, Tryz.ntmps208
  go_wp2
  go_ret
  exact ⟨rfl, (Fr.refl [] w).alloc _⟩
def FillOut (own : Nat → Nat) (r g : Nat) (l : List UInt8) (cp f k : Nat) (s rest : List UInt8) (q : Nat) (t : TypeId) (pre post : List Value) (w : World) (e : Ending) (w' : World) : Prop :=
  ∃ (p2 : Sli) (own' : Nat → Nat), e = .returned (.int .i64 s.length) ∧ RgAt w' r g (ringPut l f k s) cp f (k + s.length) ∧ RopeB w' own' p2 rest ∧ Blk w' q t (ropeIn pre p2 rest.length post) ∧ Ext w own own' ∧ Fr [q, r, g] w w'
theorem fill_ring {w : World} {own : Nat → Nat} {r g : Nat} {l : List UInt8} {cp f k : Nat} {p : Sli} {rs : List UInt8} {q : Nat} {t : TypeId} {pre post : List Value} (hr : RgAt w r g l cp f k) (hrg : r ≠ g) (h : RopeB w own p rs) (hl : rs.length ≤ 65536)
    (hq : Blk w q t (ropeIn pre p rs.length post)) (hqr : q ≠ r) (hqg : q ≠ g) (h3 : own q ≠ 3 ∧ own r ≠ 3 ∧ own g ≠ 3) (n : Nat) (hn : min (l.length - k) rs.length = n) :
    Calls Tryz.prog 217 #[.agg #[.pointer (some ⟨r, 0, none⟩)], .pointer (some ⟨q, pre.length, none⟩)] w (FillOut own r g l cp f k (rs.take n) (rs.drop n) q t pre post w) := by
  have hkl := hr.hn
  have hcl := hr.hl
  obtain ⟨X, hX⟩ : ∃ A, w.heap.size = A := ⟨_, rfl⟩
  obtain ⟨wA, hwA⟩ : ∃ z, (w.alloc (.cells #[.pointer (some ⟨r, 0, none⟩)] 251)).drew = z := ⟨_, rfl⟩
  have b0 : Blk wA X 251 [.pointer (some ⟨r, 0, none⟩)] := by rw [← hwA, ← hX]; exact (Blk.made w 251 _).keep ((Fr.refl [] _).drew) (by simp)
  have fA : Fr [] w wA := by rw [← hwA]; exact ((Fr.refl [] w).alloc _).drew
  obtain ⟨o, ho⟩ : ∃ o, pre.length = o := ⟨_, rfl⟩
  have HO := Lib.hid ho
  have hlie : LiesAt wA q o [.slice p.1 p.2.1 p.2.2, .int .i64 rs.length] := by rw [← ho]; exact (ropeIn_lies hq).keep fA (by simp)
  have HCUT := Lib.hid (fun W (fW : Fr [] w W) => cut_any (h.new fW) hl (hq.keep fW (by simp)) h3.1 n (by omega))
  have hsl : (rs.take n).length = n := by rw [List.length_take]; omega
  have hs1 : IntKind.i64.wrap (((l.length - k : Nat) : Int)) = ((l.length - k : Nat) : Int) := IntWalk.i64_in _ (by omega)
  obtain ⟨m, hm⟩ : ∃ m, rs.length = m := ⟨_, rfl⟩
  obtain ⟨c, hc⟩ : ∃ c, l.length = c := ⟨_, rfl⟩
  rw [hm] at hl
  have hnn : n ≤ c - k ∧ n ≤ m ∧ (n = c - k ∨ n = m) := by omega
  have hkc : k ≤ c := by omega
  have hcb : c ≤ 65536 := by omega
  have hmin : (if (m : Int) < (c : Int) - k then (m : Int) else (c : Int) - k) = n := by rcases hnn with ⟨h1, h2, h3 | h3⟩ <;> split <;> omega
  have HNN := Lib.hid hnn
  have HMIN := Lib.hid hmin
  have HM := Lib.hid hm
  have HC := Lib.hid hc
  obtain ⟨s, hs⟩ : ∃ z, rs.take n = z := ⟨_, rfl⟩
  obtain ⟨rest, hrest⟩ : ∃ z, rs.drop n = z := ⟨_, rfl⟩
  rw [hs, hrest] at HCUT
  rw [hs] at hsl
  rw [hs, hrest]
  rw [ho] at HCUT ⊢
  have HSL := Lib.hid hsl
  have HR := Lib.hid hr
  have HFREE := Lib.hid (fun W (fW : Fr [] w W) => ringFree (hr.new fW))
  rw [hc] at HFREE
  have HQ := Lib.hid hq
  have H3 := Lib.hid (And.intro h3 (And.intro hqr (And.intro hqg hrg)))
  have hl0 : LiesAt wA X 0 [.pointer (some ⟨r, 0, none⟩)] := b0.at
  have HL0 := Lib.hid hl0
  have HLIE := Lib.hid hlie
  have HFA := Lib.hid fA
  have HWA := Lib.hid hwA
  have HX := Lib.hid hX
  clear hr h hq h3 hqr hqg hrg hnn hmin hm hc hs hrest hsl b0 hl0 hlie fA hwA hX hn ho hkl hcl
  go_enter Tryz.func217, Tryz.ntmps217
  go_upto_region 1 with fail
  simp only [HX.out]
  refine wp_region_held_drew (S := fun W => W.cell? ⟨X, 0, none⟩ = some (.pointer (some ⟨r, 0, none⟩))) (by kernel_rfl) (by rw [HWA.out]; exact HL0.out 0 _ rfl) (fun hHeld => ?_)
  rw [HWA.out] at hHeld ⊢
  refine wpAnyH_take (i := 0) (oi := _) (v := ?_) rfl (by kernel_rfl) (by kernel_rfl) (by kernel_rfl) (fun _ _ _ h => h) (Or.inl ⟨by rfl, ?_⟩) (by first | assumption | trivial) ?_
  rotate_left
  · intro w hSw; (try dsimp only at hSw); go_simp; try with_reducible rfl
  try simp only [Act.put, qj1, qj2, qj3, qj4, qj5, qj6]
  refine wpAnyH_take (i := 1) (oi := _) (v := ?_) rfl (by kernel_rfl) (by kernel_rfl) (by kernel_rfl) (fun _ _ _ h => h) (Or.inl ⟨by rfl, ?_⟩) (by first | assumption | trivial) ?_
  rotate_left
  · intro w hSw; (try dsimp only at hSw); go_simp; try with_reducible rfl
  try simp only [Act.put, qj1, qj2, qj3, qj4, qj5, qj6]
  refine wpAnyH_take (i := 2) (oi := _) (v := .pointer (some ⟨r, 0, none⟩)) rfl (by kernel_rfl) (by kernel_rfl) (by kernel_rfl) (fun _ _ _ h => h) (Or.inl ⟨by rfl, ?_⟩) (by first | assumption | trivial) ?_
  · intro w hSw
    try dsimp only at hSw
    go_simp
  try simp only [Act.put, qj1, qj2, qj3, qj4, qj5, qj6]
  refine wpAnyH_take (i := 4) (oi := _) (v := ?_) rfl (by kernel_rfl) (by kernel_rfl) (by kernel_rfl) (fun _ _ _ h => h) (Or.inl ⟨by rfl, ?_⟩) (by first | assumption | trivial) ?_
  rotate_left
  · intro w hSw; (try dsimp only at hSw); go_simp; try with_reducible rfl
  try simp only [Act.put, qj1, qj2, qj3, qj4, qj5, qj6]
  refine wpAnyH_take (i := 5) (oi := _) (v := ?_) rfl (by kernel_rfl) (by kernel_rfl) (by kernel_rfl) (fun _ _ _ h => h) (Or.inl ⟨by rfl, ?_⟩) (by first | assumption | trivial) ?_
  rotate_left
  · intro w hSw; (try dsimp only at hSw); go_simp; try with_reducible rfl
  try simp only [Act.put, qj1, qj2, qj3, qj4, qj5, qj6]
  refine wpAnyH_ready (rs := [3, 6]) (by kernel_rfl) (by simp) ?_
  refine AllReadyH.cons (o := _) rfl (fun K hK => ?_) (AllReadyH.cons (o := _) rfl (fun K hK => ?_) AllReadyH.nil)
  · skip
    go_simp
    refine (HFREE.out wA HFA.out).mono ?_
    rintro e w1 ⟨rfl, f1⟩
    have HF1 := Lib.hid f1
    clear f1
    refine hK.out _ _ (HF1.out.keep hHeld (by simp)) (fun hHeld => ?_)
    clear hK K
    try simp only [Act.put, qj1, qj2, qj3, qj4, qj5, qj6]
    refine wpAnyH_ready (rs := [6]) (by kernel_rfl) (by simp) ?_
    refine AllReadyH.cons (o := _) rfl (fun K hK => ?_) AllReadyH.nil
    split
    rotate_left
    · rename_i hno
      exact absurd rfl hno
    refine wp_vl (v := .agg ([.slice p.1 p.2.1 p.2.2, .int .i64 m]).toArray) (w' := w1) ?_ ?_
    · show Sem.run Tryz.prog ((Instr.loadAt 128 (.pointer (some ⟨q, o, none⟩))) >>= fun x => pure (Next.value x)) w1 = _
      rw [Sem.run_bind, load_all aggRope sizeRope (xs := [.slice p.1 p.2.1 p.2.2, .int .i64 m]) rfl (LiesAt.keep (by have := HLIE.out; rwa [HM.out] at this) HF1.out (by simp))]
      rfl
    refine hK.out _ _ (hHeld) (fun hHeld => ?_)
    clear hK K
    try simp only [Act.put, qj1, qj2, qj3, qj4, qj5, qj6]
    refine wpAnyH_ready (rs := [7]) (by kernel_rfl) (by simp) ?_
    refine AllReadyH.cons (o := _) rfl (fun K hK => ?_) AllReadyH.nil
    go_simp
    refine (ropeLen_any p m w1).mono ?_
    rintro e w2 ⟨rfl, f2⟩
    have HF2 := Lib.hid f2
    clear f2
    refine hK.out _ _ (HF2.out.keep hHeld (by simp)) (fun hHeld => ?_)
    clear hK K
    try simp only [Act.put, qj1, qj2, qj3, qj4, qj5, qj6]
    refine wpAnyH_take (i := 8) (oi := _) (v := ?_) rfl (by kernel_rfl) (by kernel_rfl) (by kernel_rfl) (fun _ _ _ h => h) (Or.inl ⟨by rfl, ?_⟩) (by first | assumption | trivial) ?_
    rotate_left
    · intro w hSw; (try dsimp only at hSw); go_simp; try with_reducible rfl
    try simp only [Act.put, qj1, qj2, qj3, qj4, qj5, qj6]
    try simp only [HMIN.out]
    refine wpAnyH_ready (rs := [9]) (by kernel_rfl) (by simp) ?_
    refine AllReadyH.cons (o := _) rfl (fun K hK => ?_) AllReadyH.nil
    go_simp
    refine (HCUT.out w2 ((HFA.out.step HF1.out).step HF2.out)).mono ?_
    rintro e w3 ⟨v, p2, own2, rfl, hv, hr2, hq2, hx, f3⟩
    have HV := Lib.hid hv
    have HR2 := Lib.hid hr2
    have HQ2 := Lib.hid hq2
    have HF12 := Lib.hid ((HFA.out.step HF1.out).step HF2.out)
    have HX2 := Lib.hid (show Ext w own own2 from fun z hz => hx z (Nat.lt_of_lt_of_le hz HF12.out.size))
    have HF3 := Lib.hid f3
    have HZX := Lib.hid (show X < w2.heap.size ∧ w.heap.size ≤ X ∧ q < w.heap.size from ⟨cell_lt hHeld, Nat.le_of_eq HX.out, HQ.out.lt⟩)
    have hqX : X ≠ q := by have := HZX.out; omega
    clear hv hr2 hq2 hx f3 HF1 HF2
    refine hK.out _ _ (HF3.out.keep hHeld (by simpa using hqX)) (fun hHeld => ?_)
    clear hK K
    try simp only [Act.put, qj1, qj2, qj3, qj4, qj5, qj6]
    refine wpAnyH_take (i := 10) (oi := _) (v := ?_) rfl (by kernel_rfl) (by kernel_rfl) (by kernel_rfl) (fun _ _ _ h => h) (Or.inl ⟨by rfl, ?_⟩) (by first | assumption | trivial) ?_
    rotate_left
    · intro w hSw; (try dsimp only at hSw); go_simp; try with_reducible rfl
    try simp only [Act.put, qj1, qj2, qj3, qj4, qj5, qj6]
    refine wpAnyH_done (by kernel_rfl) ?_ _
    have hX3 := hHeld
    clear hHeld
    have k0 : w3.cell? ⟨X, 0, none⟩ = some (.pointer (some ⟨r, 0, none⟩)) := hX3
    obtain ⟨va, vn, vc⟩ := v
    have hvn := (bsO_cap HV.out).1
    simp only at hvn
    rw [HSL.out] at hvn
    subst hvn
    simp only [slv]
    go_wp2_with fail
    refine (ringWrite ((HR.out.new HF12.out).keep HF3.out (by have := H3.out.2.1; simpa using this.symm) (by have := H3.out.2.2.1; simpa using this.symm)) (va, vn, vc) s HV.out.bs (bsO_cap HV.out).2 (fun b hb he => by have h1 := (bsO_low HV.out b hb).1; have h2 := HR.out.row.lt; have h3 := HF12.out.size; omega) H3.out.2.2.2 (by rw [HSL.out]; have := HNN.out; omega)).mono ?_
    rw [show min s.length (l.length - k) = s.length from by rw [HSL.out, HC.out]; have := HNN.out; omega, List.take_length]
    rintro e w4 ⟨rfl, hr4, f4⟩
    have hw0 : True := trivial
    go_wp2
    refine bodyPost_ret (v := .int .i64 s.length) (by rw [HSL.out]; simp [results, Tryz.results217]) rfl ?_
    have hlow : ∀ z, z < w.heap.size → own2 z = own z := HX2.out
    have hr := HR.out.blk.lt
    have hg := HR.out.row.lt
    refine ⟨p2, own2, rfl, hr4, HR2.out.keep f4 (fun z hz hl => ?_), HQ2.out.keep f4 ?_, HX2.out, ?_⟩
    · simp only [List.mem_cons, List.not_mem_nil, or_false] at hz
      have h3 := H3.out.1
      rcases hz with rfl | rfl
      · rw [hlow _ hr]
        exact h3.2.1
      · rw [hlow _ hg]
        exact h3.2.2
    · have := H3.out.2
      simp only [List.mem_cons, List.not_mem_nil, or_false, not_or]
      exact ⟨this.1, this.2.1⟩
    · refine ((HF12.out.mono (T := [q, r, g]) (fun x hx _ => by cases hx)).trans (HF3.out.mono (T := [q, r, g]) (fun x hx _ => ?_)) (fun x hx _ => hx)).trans (f4.mono (T := [q, r, g]) (fun x hx _ => ?_)) (fun x hx _ => hx)
      · rw [List.mem_singleton] at hx
        subst hx
        simp
      · simp only [List.mem_cons, List.not_mem_nil, or_false] at hx ⊢
        exact .inr hx
  · skip
    split
    rotate_left
    · rename_i hno
      exact absurd rfl hno
    refine wp_vl (v := .agg ([.slice p.1 p.2.1 p.2.2, .int .i64 m]).toArray) (w' := wA) ?_ ?_
    · show Sem.run Tryz.prog ((Instr.loadAt 128 (.pointer (some ⟨q, o, none⟩))) >>= fun x => pure (Next.value x)) wA = _
      rw [Sem.run_bind, load_all aggRope sizeRope (xs := [.slice p.1 p.2.1 p.2.2, .int .i64 m]) rfl (by have := HLIE.out; rwa [HM.out] at this)]
      rfl
    refine hK.out _ _ (hHeld) (fun hHeld => ?_)
    clear hK K
    try simp only [Act.put, qj1, qj2, qj3, qj4, qj5, qj6]
    refine wpAnyH_ready (rs := [3]) (by kernel_rfl) (by simp) ?_
    refine AllReadyH.cons (o := _) rfl (fun K hK => ?_) AllReadyH.nil
    go_simp
    refine (HFREE.out wA HFA.out).mono ?_
    rintro e w1 ⟨rfl, f1⟩
    have HF1 := Lib.hid f1
    clear f1
    refine hK.out _ _ (HF1.out.keep hHeld (by simp)) (fun hHeld => ?_)
    clear hK K
    try simp only [Act.put, qj1, qj2, qj3, qj4, qj5, qj6]
    refine wpAnyH_ready (rs := [7]) (by kernel_rfl) (by simp) ?_
    refine AllReadyH.cons (o := _) rfl (fun K hK => ?_) AllReadyH.nil
    go_simp
    refine (ropeLen_any p m w1).mono ?_
    rintro e w2 ⟨rfl, f2⟩
    have HF2 := Lib.hid f2
    clear f2
    refine hK.out _ _ (HF2.out.keep hHeld (by simp)) (fun hHeld => ?_)
    clear hK K
    try simp only [Act.put, qj1, qj2, qj3, qj4, qj5, qj6]
    refine wpAnyH_take (i := 8) (oi := _) (v := ?_) rfl (by kernel_rfl) (by kernel_rfl) (by kernel_rfl) (fun _ _ _ h => h) (Or.inl ⟨by rfl, ?_⟩) (by first | assumption | trivial) ?_
    rotate_left
    · intro w hSw; (try dsimp only at hSw); go_simp; try with_reducible rfl
    try simp only [Act.put, qj1, qj2, qj3, qj4, qj5, qj6]
    try simp only [HMIN.out]
    refine wpAnyH_ready (rs := [9]) (by kernel_rfl) (by simp) ?_
    refine AllReadyH.cons (o := _) rfl (fun K hK => ?_) AllReadyH.nil
    go_simp
    refine (HCUT.out w2 ((HFA.out.step HF1.out).step HF2.out)).mono ?_
    rintro e w3 ⟨v, p2, own2, rfl, hv, hr2, hq2, hx, f3⟩
    have HV := Lib.hid hv
    have HR2 := Lib.hid hr2
    have HQ2 := Lib.hid hq2
    have HF12 := Lib.hid ((HFA.out.step HF1.out).step HF2.out)
    have HX2 := Lib.hid (show Ext w own own2 from fun z hz => hx z (Nat.lt_of_lt_of_le hz HF12.out.size))
    have HF3 := Lib.hid f3
    have HZX := Lib.hid (show X < w2.heap.size ∧ w.heap.size ≤ X ∧ q < w.heap.size from ⟨cell_lt hHeld, Nat.le_of_eq HX.out, HQ.out.lt⟩)
    have hqX : X ≠ q := by have := HZX.out; omega
    clear hv hr2 hq2 hx f3 HF1 HF2
    refine hK.out _ _ (HF3.out.keep hHeld (by simpa using hqX)) (fun hHeld => ?_)
    clear hK K
    try simp only [Act.put, qj1, qj2, qj3, qj4, qj5, qj6]
    refine wpAnyH_take (i := 10) (oi := _) (v := ?_) rfl (by kernel_rfl) (by kernel_rfl) (by kernel_rfl) (fun _ _ _ h => h) (Or.inl ⟨by rfl, ?_⟩) (by first | assumption | trivial) ?_
    rotate_left
    · intro w hSw; (try dsimp only at hSw); go_simp; try with_reducible rfl
    try simp only [Act.put, qj1, qj2, qj3, qj4, qj5, qj6]
    refine wpAnyH_done (by kernel_rfl) ?_ _
    have hX3 := hHeld
    clear hHeld
    have k0 : w3.cell? ⟨X, 0, none⟩ = some (.pointer (some ⟨r, 0, none⟩)) := hX3
    obtain ⟨va, vn, vc⟩ := v
    have hvn := (bsO_cap HV.out).1
    simp only at hvn
    rw [HSL.out] at hvn
    subst hvn
    simp only [slv]
    go_wp2_with fail
    refine (ringWrite ((HR.out.new HF12.out).keep HF3.out (by have := H3.out.2.1; simpa using this.symm) (by have := H3.out.2.2.1; simpa using this.symm)) (va, vn, vc) s HV.out.bs (bsO_cap HV.out).2 (fun b hb he => by have h1 := (bsO_low HV.out b hb).1; have h2 := HR.out.row.lt; have h3 := HF12.out.size; omega) H3.out.2.2.2 (by rw [HSL.out]; have := HNN.out; omega)).mono ?_
    rw [show min s.length (l.length - k) = s.length from by rw [HSL.out, HC.out]; have := HNN.out; omega, List.take_length]
    rintro e w4 ⟨rfl, hr4, f4⟩
    have hw0 : True := trivial
    go_wp2
    refine bodyPost_ret (v := .int .i64 s.length) (by rw [HSL.out]; simp [results, Tryz.results217]) rfl ?_
    have hlow : ∀ z, z < w.heap.size → own2 z = own z := HX2.out
    have hr := HR.out.blk.lt
    have hg := HR.out.row.lt
    refine ⟨p2, own2, rfl, hr4, HR2.out.keep f4 (fun z hz hl => ?_), HQ2.out.keep f4 ?_, HX2.out, ?_⟩
    · simp only [List.mem_cons, List.not_mem_nil, or_false] at hz
      have h3 := H3.out.1
      rcases hz with rfl | rfl
      · rw [hlow _ hr]
        exact h3.2.1
      · rw [hlow _ hg]
        exact h3.2.2
    · have := H3.out.2
      simp only [List.mem_cons, List.not_mem_nil, or_false, not_or]
      exact ⟨this.1, this.2.1⟩
    · refine ((HF12.out.mono (T := [q, r, g]) (fun x hx _ => by cases hx)).trans (HF3.out.mono (T := [q, r, g]) (fun x hx _ => ?_)) (fun x hx _ => hx)).trans (f4.mono (T := [q, r, g]) (fun x hx _ => ?_)) (fun x hx _ => hx)
      · rw [List.mem_singleton] at hx
        subst hx
        simp
      · simp only [List.mem_cons, List.not_mem_nil, or_false] at hx ⊢
        exact .inr hx
end Go.Proofs.YtmdhlodafjpnmaaGreat
namespace Go.Proofs.YtmdhlodafjpnmaaGreat
open List renaming getElem_toArray → qj1, getElem_cons_succ → qj2, getElem_cons_zero → qj3, setIfInBounds_toArray → qj4, set_cons_zero → qj5, set_cons_succ → qj6
open Go.RowKit
set_option linter.unusedVariables false
set_option linter.unusedSimpArgs false
set_option maxRecDepth 100000
set_option maxHeartbeats 4000000

theorem exec_build3 {P : Program} {o : Oper} {a : Act} {w w' : World} {v : Value} {t : TypeId} {x y z : Operand} {V U T : Value} (ho : o.op = .build t #[(0, x), (1, y), (2, z)]) (hx : a.eval x = V) (hy : a.eval y = U) (hz : a.eval z = T) (hrun : (Instr.build t #[(0, V), (1, U), (2, T)]).run P w = .ok v w') : (execOp a.eval o).run P w = .ok (.value v) w' := by
  simp [execOp, ho, hx, hy, hz, hrun]
theorem zeros8 (n : Nat) : (Builtin.zeroCells (Value.int .u8 0).cells n).toList = bsV (List.replicate n 0) := by
  rw [show (Value.int .u8 0).cells = #[Value.int .u8 0] from rfl]
  simp [Builtin.zeroCells, bsV, byteV]
  apply List.ext_getElem
  · simp
  · intro i h1 h2
    simp [Nat.mod_one]
section
variable {o : Oper} {a : Act} {w : World} {Q : Exit → Act → World → Prop}
theorem wp_append_nil_bytes {K : Act → World → Prop} (s x : Operand) (ho : o.op = .call { callee := .builtin .append, args := #[s, x], argTypes := #[22, 22] })
    (hs : a.eval s = .slice none 0 0) (g off m c : Nat) (l : List UInt8) (hX : a.eval x = .slice (some ⟨g, off, none⟩) m c) (hl : l.length = m) (hrow : ∀ j (u : UInt8), l[j]? = some u → w.cell? ⟨g, off + j, none⟩ = some (byteV u)) (h0 : 0 < m) (hm : m ≤ 100000)
    (h : ∀ g2 cp w', Row8 w' g2 l → w.heap.size ≤ g2 → m ≤ cp → Fr [] w w' → K (a.put o.dst (.slice (some ⟨g2, 0, none⟩) m cp)) w') : o.wp Tryz.prog a w K Q := by
  obtain ⟨i, h1, h2, h3, h4⟩ := info_parts (show (Tryz.prog.info? 5).map (fun i => (i.zero, i.size, i.bytes)) = some (some (.int .u8 0), 1, 1) from by kernel_rfl)
  have hrun := run_append_nil (P := Tryz.prog) w 22 o.type 5 i (.int .u8 0) Tryz.underlying22 h1 h2 ⟨g, off, none⟩ m c (bsV l) (by rw [bsV_len, h3, hl]) (fun j u hj => by
    rw [Addr.add_lit]
    unfold bsV at hj
    rw [List.getElem?_map] at hj
    obtain ⟨y, hy, hu⟩ := Option.map_eq_some_iff.1 hj
    rw [← hu]
    exact hrow j y hy) (by omega) (by omega) (by rw [h4]; omega)
  unfold Oper.wp
  simp [execOp, ho, resolve, invoke, builtin, hs, hX, hrun, Result.andThen]
  refine h _ _ _ ⟨List.replicate (grownCap w m 0 5 - m) 0, ?_⟩ (Nat.le_refl _) (grownCap_ge w m 0 5) ((Fr.refl [] w).drew.alloc _)
  have he : ((bsV l).toArray ++ Builtin.zeroCells (Value.int .u8 0).cells (grownCap w m 0 5 - m)) = (bsV (l ++ List.replicate (grownCap w m 0 5 - m) 0)).toArray := by
    apply Array.ext'
    simp only [Array.toList_append, zeros8]
    simp [bsV]
  rw [he]
  exact heap_alloc_new w.drew _
end
def CopyR (l : List UInt8) (f n : Nat) (w : World) (e : Ending) (w' : World) : Prop := ∃ r2 g2 cp2, e = .returned (.pointer (some ⟨r2, 0, none⟩)) ∧ RgAt w' r2 g2 l cp2 f n ∧ Fr [] w w' ∧ w.heap.size ≤ r2 ∧ w.heap.size ≤ g2 ∧ r2 ≠ g2
theorem bldRing3 (g c cp f n : Nat) : ∀ w, (Instr.build 267 #[(0, .slice (some ⟨g, 0, none⟩) c cp), (1, .int .i64 f), (2, .int .i64 n)]).run Tryz.prog w = .ok (.agg #[.slice (some ⟨g, 0, none⟩) c cp, .int .i64 f, .int .i64 n]) w := fun w => by kernel_rfl
theorem row8_cell {w : World} {g : Nat} {l : List UInt8} (h : Row8 w g l) : ∀ j (u : UInt8), l[j]? = some u → w.cell? ⟨g, 0 + j, none⟩ = some (byteV u) := by
  obtain ⟨ex, h⟩ := h
  intro j u hj
  refine h.at j _ ?_
  unfold bsV
  rw [List.map_append, List.getElem?_append_left (by rw [List.length_map]; exact (List.getElem?_eq_some_iff.1 hj).1), List.getElem?_map, hj]
  rfl
theorem ringCopy {w : World} {r g : Nat} {l : List UInt8} {cp f n : Nat} (h : RgAt w r g l cp f n) :
    Calls Tryz.prog 221 #[.pointer (some ⟨r, 0, none⟩)] w (CopyR l f n w) := by
  have HR := Lib.hid h
  have hl := h.hl
  have hf := h.hf
  have HZERO := Lib.hid (fun W (fW : Fr [] w W) => ringZero (h.new fW))
  obtain ⟨c, hc⟩ : ∃ c, l.length = c := ⟨_, rfl⟩
  have HC := Lib.hid hc
  rw [hc] at hl hf
  clear h hc
  go_enter Tryz.func221, Tryz.ntmps221
  go_wp2_with fail
  refine (HZERO.out _ (Fr.refl [] w)).mono ?_
  rintro e w1 ⟨rfl, f1⟩
  obtain ⟨wd, hwd⟩ : ∃ z, w1.drew = z := ⟨_, rfl⟩
  have fd : Fr [] w wd := by rw [← hwd]; exact f1.drew
  have k0 : wd.cell? ⟨r, 0, none⟩ = some (.slice (some ⟨g, 0, none⟩) c cp) := by rw [← HC.out]; exact (HR.out.new fd).c0
  have k1 : wd.cell? ⟨r, 1, none⟩ = some (.int .i64 f) := (HR.out.new fd).c1
  have k2 : wd.cell? ⟨r, 2, none⟩ = some (.int .i64 n) := (HR.out.new fd).c2
  have HFD := Lib.hid fd
  have HWD := Lib.hid hwd
  clear hwd fd f1
  go_upto_region 3 with fail
  refine wp_region_held_drew (S := fun W => W.cell? ⟨r, 0, none⟩ = some (.slice (some ⟨g, 0, none⟩) c cp) ∧ W.cell? ⟨r, 1, none⟩ = some (.int .i64 f) ∧ W.cell? ⟨r, 2, none⟩ = some (.int .i64 n)) (by kernel_rfl) (by rw [HWD.out]; exact ⟨k0, k1, k2⟩) (fun hHeld => ?_)
  rw [HWD.out] at hHeld ⊢
  refine wpAnyH_take (i := 0) (oi := _) (v := ?_) rfl (by kernel_rfl) (by kernel_rfl) (by kernel_rfl) (fun _ _ _ h => h) (Or.inl ⟨by rfl, ?_⟩) (by first | assumption | trivial) ?_
  rotate_left
  · intro w hSw; (try dsimp only at hSw); go_simp; try with_reducible rfl
  try simp only [Act.put, qj1, qj2, qj3, qj4, qj5, qj6]
  refine wpAnyH_take (i := 1) (oi := _) (v := ?_) rfl (by kernel_rfl) (by kernel_rfl) (by kernel_rfl) (fun _ _ _ h => h) (Or.inl ⟨by rfl, ?_⟩) (by first | assumption | trivial) ?_
  rotate_left
  · intro w hSw; (try dsimp only at hSw); go_simp; try with_reducible rfl
  try simp only [Act.put, qj1, qj2, qj3, qj4, qj5, qj6]
  refine wpAnyH_take (i := 2) (oi := _) (v := ?_) rfl (by kernel_rfl) (by kernel_rfl) (by kernel_rfl) (fun _ _ _ h => h) (Or.inl ⟨by rfl, ?_⟩) (by first | assumption | trivial) ?_
  rotate_left
  · intro w hSw; (try dsimp only at hSw); go_simp; try with_reducible rfl
  try simp only [Act.put, qj1, qj2, qj3, qj4, qj5, qj6]
  refine wpAnyH_take (i := 3) (oi := _) (v := ?_) rfl (by kernel_rfl) (by kernel_rfl) (by kernel_rfl) (fun _ _ _ h => h) (Or.inl ⟨by rfl, ?_⟩) (by first | assumption | trivial) ?_
  rotate_left
  · intro w hSw; (try dsimp only at hSw); go_simp; try with_reducible rfl
  try simp only [Act.put, qj1, qj2, qj3, qj4, qj5, qj6]
  refine wpAnyH_take (i := 5) (oi := _) (v := ?_) rfl (by kernel_rfl) (by kernel_rfl) (by kernel_rfl) (fun _ _ _ h => h) (Or.inl ⟨by rfl, ?_⟩) (by first | assumption | trivial) ?_
  rotate_left
  · intro w hSw; (try dsimp only at hSw); go_simp; try with_reducible rfl
  try simp only [Act.put, qj1, qj2, qj3, qj4, qj5, qj6]
  refine wpAnyH_take (i := 6) (oi := _) (v := ?_) rfl (by kernel_rfl) (by kernel_rfl) (by kernel_rfl) (fun _ _ _ h => h) (Or.inl ⟨by rfl, ?_⟩) (by first | assumption | trivial) ?_
  rotate_left
  · intro w hSw; (try dsimp only at hSw); go_simp; try with_reducible rfl
  try simp only [Act.put, qj1, qj2, qj3, qj4, qj5, qj6]
  refine wpAnyH_take (i := 7) (oi := _) (v := ?_) rfl (by kernel_rfl) (by kernel_rfl) (by kernel_rfl) (fun _ _ _ h => h) (Or.inl ⟨by rfl, ?_⟩) (by first | assumption | trivial) ?_
  rotate_left
  · intro w hSw; (try dsimp only at hSw); go_simp; try with_reducible rfl
  try simp only [Act.put, qj1, qj2, qj3, qj4, qj5, qj6]
  refine wpAnyH_take (i := 8) (oi := _) (v := ?_) rfl (by kernel_rfl) (by kernel_rfl) (by kernel_rfl) (fun _ _ _ h => h) (Or.inl ⟨by rfl, ?_⟩) (by first | assumption | trivial) ?_
  rotate_left
  · intro w hSw; (try dsimp only at hSw); go_simp; try with_reducible rfl
  try simp only [Act.put, qj1, qj2, qj3, qj4, qj5, qj6]
  refine wpAnyH_take (i := 9) (oi := _) (v := ?_) rfl (by kernel_rfl) (by kernel_rfl) (by kernel_rfl) (fun _ _ _ h => h) (Or.inl ⟨by rfl, ?_⟩) (by first | assumption | trivial) ?_
  rotate_left
  · intro w hSw; (try dsimp only at hSw); go_simp; try with_reducible rfl
  try simp only [Act.put, qj1, qj2, qj3, qj4, qj5, qj6]
  refine wpAnyH_take (i := 10) (oi := _) (v := ?_) rfl (by kernel_rfl) (by kernel_rfl) (by kernel_rfl) (fun _ _ _ h => h) (Or.inl ⟨by rfl, ?_⟩) (by first | assumption | trivial) ?_
  rotate_left
  · intro w hSw; (try dsimp only at hSw); go_simp; try with_reducible rfl
  try simp only [Act.put, qj1, qj2, qj3, qj4, qj5, qj6]
  refine wpAnyH_take (i := 11) (oi := _) (v := ?_) rfl (by kernel_rfl) (by kernel_rfl) (by kernel_rfl) (fun _ _ _ h => h) (Or.inl ⟨by rfl, ?_⟩) (by first | assumption | trivial) ?_
  rotate_left
  · intro w hSw; (try dsimp only at hSw); go_simp; try with_reducible rfl
  try simp only [Act.put, qj1, qj2, qj3, qj4, qj5, qj6]
  refine wpAnyH_take (i := 12) (oi := _) (v := ?_) rfl (by kernel_rfl) (by kernel_rfl) (by kernel_rfl) (fun _ _ _ h => h) (Or.inl ⟨by rfl, ?_⟩) (by first | assumption | trivial) ?_
  rotate_left
  · intro w hSw; (try dsimp only at hSw); go_simp; try with_reducible rfl
  try simp only [Act.put, qj1, qj2, qj3, qj4, qj5, qj6]
  refine wpAnyH_ready (rs := [4]) (by kernel_rfl) (by simp) ?_
  refine AllReadyH.cons (o := _) rfl (fun K hK => ?_) AllReadyH.nil
  split
  rotate_left
  · rename_i hno
    exact absurd rfl hno
  refine wp_append_nil_bytes (.const (.slice none 0 0)) (.tmp 8) rfl rfl g 0 c cp l rfl HC.out (row8_cell (HR.out.new HFD.out).row) (by omega) (by omega) (fun g2 cp2 w2 hb2 hg2 hcp2 f2 => ?_)
  have HB2 := Lib.hid hb2
  have HG2 := Lib.hid (And.intro hg2 hcp2)
  have HF2 := Lib.hid f2
  clear hb2 hg2 hcp2 f2
  refine hK.out _ _ (⟨HF2.out.keep hHeld.1 (by simp), HF2.out.keep hHeld.2.1 (by simp), HF2.out.keep hHeld.2.2 (by simp)⟩) (fun hHeld => ?_)
  clear hK K
  try simp only [Act.put, qj1, qj2, qj3, qj4, qj5, qj6]
  refine wpAnyH_take (i := 13) (oi := _) (v := .agg #[.slice (some ⟨g2, 0, none⟩) c cp2, .int .i64 f, .int .i64 n]) rfl (by kernel_rfl) (by kernel_rfl) (by kernel_rfl) (fun _ _ _ h => h) (Or.inl ⟨by rfl, ?_⟩) (by first | assumption | trivial) ?_
  · intro w hSw
    try dsimp only at hSw
    exact exec_build3 (V := .slice (some ⟨g2, 0, none⟩) c cp2) (U := .int .i64 f) (T := .int .i64 n) rfl rfl rfl rfl (bldRing3 _ _ _ _ _ w)
  try simp only [Act.put, qj1, qj2, qj3, qj4, qj5, qj6]
  refine wpAnyH_ready (rs := [14]) (by kernel_rfl) (by simp) ?_
  refine AllReadyH.cons (o := _) rfl (fun K hK => ?_) AllReadyH.nil
  go_simp
  obtain ⟨r2, hA_⟩ : ∃ A, w2.heap.size = A := ⟨_, rfl⟩
  obtain ⟨w3, hw_⟩ : ∃ z, w2.alloc (.cells #[.slice (some ⟨g2, 0, none⟩) c cp2, .int .i64 f, .int .i64 n] 267) = z := ⟨_, rfl⟩
  have hB_ : Blk w3 r2 267 [.slice (some ⟨g2, 0, none⟩) c cp2, .int .i64 f, .int .i64 n] := by rw [← hw_, ← hA_]; exact Blk.made w2 267 _
  have hF_ : Fr [] w2 w3 := by rw [← hw_]; exact (Fr.refl [] w2).alloc _
  rw [hw_]
  simp only [hA_]
  have Hr2 := Lib.hid hA_
  have HBr2 := Lib.hid hB_
  have HFw3 := Lib.hid hF_
  clear hA_ hw_ hB_ hF_
  refine hK.out _ _ (⟨HFw3.out.keep hHeld.1 (by simp), HFw3.out.keep hHeld.2.1 (by simp), HFw3.out.keep hHeld.2.2 (by simp)⟩) (fun hHeld => ?_)
  clear hK K
  try simp only [Act.put, qj1, qj2, qj3, qj4, qj5, qj6]
  refine wpAnyH_take (i := 15) (oi := _) (v := ?_) rfl (by kernel_rfl) (by kernel_rfl) (by kernel_rfl) (fun _ _ _ h => h) (Or.inl ⟨by rfl, ?_⟩) (by first | assumption | trivial) ?_
  rotate_left
  · intro w hSw; (try dsimp only at hSw); go_simp; try with_reducible rfl
  try simp only [Act.put, qj1, qj2, qj3, qj4, qj5, qj6]
  refine wpAnyH_done (by kernel_rfl) ?_ _
  clear hHeld
  go_wp2
  go_ret
  have h1 := HG2.out
  have h2 := HB2.out.lt
  have h3 := Hr2.out
  have h4 := HFD.out.size
  have h5 := HF2.out.size
  exact ⟨r2, g2, cp2, rfl, ⟨by rw [HC.out]; exact HBr2.out, HB2.out.keep HFw3.out (by simp), by rw [HC.out]; exact hf, HR.out.hn, by rw [HC.out]; exact hl, by rw [HC.out]; exact h1.2⟩, (HFD.out.step HF2.out).step HFw3.out, by omega, by omega, by omega⟩
end Go.Proofs.YtmdhlodafjpnmaaGreat
namespace Go.Proofs.YtmdhlodafjpnmaaGreat
open List renaming getElem_toArray → qj1, getElem_cons_succ → qj2, getElem_cons_zero → qj3, setIfInBounds_toArray → qj4, set_cons_zero → qj5, set_cons_succ → qj6
open Go.RowKit
set_option linter.unusedVariables false
set_option linter.unusedSimpArgs false
set_option maxRecDepth 100000
set_option maxHeartbeats 4000000

theorem held_direct (w : World) : Calls Tryz.prog 209 #[.agg #[]] w fun e w' => e = .returned (.slice none 0 0) ∧ Fr [] w w' := by
  go_enter Tryz.func209, Tryz.ntmps209
  go_wp2
  go_ret
  exact ⟨rfl, (Fr.refl [] w).alloc _⟩
theorem again_direct (w : World) : Calls Tryz.prog 207 #[.agg #[]] w fun e w' => e = .returned (.iface 246 (.agg #[])) ∧ Fr [] w w' := by
  have hl : ∀ W : World, (Instr.loadAt 246 (.pointer (some ⟨w.heap.size, 0, none⟩))).run Tryz.prog (w.alloc (.cells #[] 246)) = .ok (.agg #[]) (w.alloc (.cells #[] 246)) := fun W => by
    have hA : ∀ w, (isAgg 246).run Tryz.prog w = .ok true w := fun w => by kernel_rfl
    have hS : ∀ w, (sizeOf 246).run Tryz.prog w = .ok 0 w := fun w => by kernel_rfl
    exact load_all (n := 0) (xs := []) hA hS rfl (fun j u hj => by simp at hj)
  go_enter Tryz.func207, Tryz.ntmps207
  go_upto_region 1 with fail
  refine wp_region_lit ?_
  refine wpList_val rfl (v := .agg #[]) (w' := w.alloc (.cells #[] 246)) ?_ ?_
  · show Sem.run Tryz.prog ((Instr.loadAt 246 (.pointer (some ⟨w.heap.size, 0, none⟩))) >>= fun x => pure (Next.value x)) _ = _
    rw [Sem.run_bind, hl w]
    rfl
  try simp only [Act.put, qj1, qj2, qj3, qj4, qj5, qj6]
  refine wpList_plain rfl (fun K hK => ?_); go_simp; refine hK _ _ ?_; clear hK K
  refine wpList_plain rfl (fun K hK => ?_); go_simp; refine hK _ _ ?_; clear hK K
  refine wpList_nil ?_
  try simp only [Act.put, qj1, qj2, qj3, qj4, qj5, qj6]
  go_wp2
  go_ret
  exact ⟨rfl, (Fr.refl [] w).alloc _⟩
theorem room_rings {w : World} {r g : Nat} {l : List UInt8} {cp f k : Nat} (h : RgAt w r g l cp f k) :
    Calls Tryz.prog 219 #[.agg #[.pointer (some ⟨r, 0, none⟩)]] w fun e w' => e = .returned (.int .i64 l.length) ∧ Fr [] w w' := by
  obtain ⟨X, hX⟩ : ∃ A, w.heap.size = A := ⟨_, rfl⟩
  obtain ⟨wA, hwA⟩ : ∃ z, (w.alloc (.cells #[.pointer (some ⟨r, 0, none⟩)] 251)) = z := ⟨_, rfl⟩
  have fA : Fr [] w wA := by rw [← hwA]; exact ((Fr.refl [] w).alloc _)
  have b0 : wA.cell? ⟨X, 0, none⟩ = some (.pointer (some ⟨r, 0, none⟩)) := by
    rw [← hwA, ← hX]
    exact ((Blk.made w 251 [.pointer (some ⟨r, 0, none⟩)]).keep (w' := (w.alloc (.cells #[.pointer (some ⟨r, 0, none⟩)] 251))) ((Fr.refl [] _)) (by simp)).at 0 _ rfl
  have B0 := Lib.hid b0
  have HFA := Lib.hid fA
  have HWA := Lib.hid hwA
  have HX := Lib.hid hX
  have HR := Lib.hid h
  clear h fA hwA hX b0
  go_enter Tryz.func219, Tryz.ntmps219
  go_upto_region 1 with fail
  rw [HWA.out]
  simp only [HX.out]
  have b0 := B0.out
  go_wp2_with fail
  refine (ringCap (HR.out.new HFA.out)).mono ?_
  rintro e w1 ⟨rfl, f1⟩
  go_wp2
  go_ret
  exact ⟨rfl, HFA.out.step f1⟩
def AgainR (l : List UInt8) (f n : Nat) (w : World) (e : Ending) (w' : World) : Prop := ∃ r2 g2 cp2, e = .returned (.iface 251 (.agg #[.pointer (some ⟨r2, 0, none⟩)])) ∧ RgAt w' r2 g2 l cp2 f n ∧ Fr [] w w' ∧ w.heap.size ≤ r2 ∧ w.heap.size ≤ g2 ∧ r2 ≠ g2
theorem again_ring {w : World} {r g : Nat} {l : List UInt8} {cp f k : Nat} (h : RgAt w r g l cp f k) :
    Calls Tryz.prog 216 #[.agg #[.pointer (some ⟨r, 0, none⟩)]] w (AgainR l f k w) := by
  obtain ⟨X, hX⟩ : ∃ A, w.heap.size = A := ⟨_, rfl⟩
  obtain ⟨wA, hwA⟩ : ∃ z, (w.alloc (.cells #[.pointer (some ⟨r, 0, none⟩)] 251)) = z := ⟨_, rfl⟩
  have fA : Fr [] w wA := by rw [← hwA]; exact ((Fr.refl [] w).alloc _)
  have b0 : wA.cell? ⟨X, 0, none⟩ = some (.pointer (some ⟨r, 0, none⟩)) := by
    rw [← hwA, ← hX]
    exact ((Blk.made w 251 [.pointer (some ⟨r, 0, none⟩)]).keep (w' := (w.alloc (.cells #[.pointer (some ⟨r, 0, none⟩)] 251))) ((Fr.refl [] _)) (by simp)).at 0 _ rfl
  have B0 := Lib.hid b0
  have HFA := Lib.hid fA
  have HWA := Lib.hid hwA
  have HX := Lib.hid hX
  have HR := Lib.hid h
  clear h fA hwA hX b0
  go_enter Tryz.func216, Tryz.ntmps216
  go_upto_region 1 with fail
  rw [HWA.out]
  simp only [HX.out]
  have b0 := B0.out
  go_wp2_with fail
  refine (ringCopy (HR.out.new HFA.out)).mono ?_
  rintro e w1 ⟨r2, g2, cp2, rfl, h2, f2, l1, l2, l3⟩
  have hs := HFA.out.size
  go_wp2
  go_ret
  exact ⟨r2, g2, cp2, rfl, h2, HFA.out.step f2, by omega, by omega, l3⟩
theorem held_ring {w : World} {r g : Nat} {l : List UInt8} {cp f k : Nat} (h : RgAt w r g l cp f k) (hrg : r ≠ g) :
    Calls Tryz.prog 218 #[.agg #[.pointer (some ⟨r, 0, none⟩)]] w (BytesOut (cont l f k) w) := by
  have hkl := h.hn
  have hll := h.hl
  obtain ⟨X, hX⟩ : ∃ A, w.heap.size = A := ⟨_, rfl⟩
  obtain ⟨wA, hwA⟩ : ∃ z, (w.alloc (.cells #[.pointer (some ⟨r, 0, none⟩)] 251)).drew = z := ⟨_, rfl⟩
  have fA : Fr [] w wA := by rw [← hwA]; exact ((Fr.refl [] w).alloc _).drew
  have b0 : wA.cell? ⟨X, 0, none⟩ = some (.pointer (some ⟨r, 0, none⟩)) := by
    rw [← hwA, ← hX]
    exact ((Blk.made w 251 [.pointer (some ⟨r, 0, none⟩)]).keep (w' := (w.alloc (.cells #[.pointer (some ⟨r, 0, none⟩)] 251)).drew) ((Fr.refl [] _).drew) (by simp)).at 0 _ rfl
  have B0 := Lib.hid b0
  have HFA := Lib.hid fA
  have HWA := Lib.hid hwA
  have HX := Lib.hid hX
  have HR := Lib.hid h
  have HK := Lib.hid (And.intro hkl hll)
  clear h fA hwA hX b0 hkl hll
  go_enter Tryz.func218, Tryz.ntmps218
  go_upto_region 1 with fail
  simp only [HX.out]
  refine wp_region_held_drew (S := fun W => W.cell? ⟨X, 0, none⟩ = some (.pointer (some ⟨r, 0, none⟩))) (by kernel_rfl) (by rw [HWA.out]; exact B0.out) (fun hHeld => ?_)
  rw [HWA.out] at hHeld ⊢
  refine wpAnyH_take (i := 0) (oi := _) (v := ?_) rfl (by kernel_rfl) (by kernel_rfl) (by kernel_rfl) (fun _ _ _ h => h) (Or.inl ⟨by rfl, ?_⟩) (by first | assumption | trivial) ?_
  rotate_left
  · intro w hSw; (try dsimp only at hSw); go_simp; try with_reducible rfl
  try simp only [Act.put, qj1, qj2, qj3, qj4, qj5, qj6]
  refine wpAnyH_take (i := 1) (oi := _) (v := ?_) rfl (by kernel_rfl) (by kernel_rfl) (by kernel_rfl) (fun _ _ _ h => h) (Or.inl ⟨by rfl, ?_⟩) (by first | assumption | trivial) ?_
  rotate_left
  · intro w hSw; (try dsimp only at hSw); go_simp; try with_reducible rfl
  try simp only [Act.put, qj1, qj2, qj3, qj4, qj5, qj6]
  refine wpAnyH_take (i := 2) (oi := _) (v := ?_) rfl (by kernel_rfl) (by kernel_rfl) (by kernel_rfl) (fun _ _ _ h => h) (Or.inl ⟨by rfl, ?_⟩) (by first | assumption | trivial) ?_
  rotate_left
  · intro w hSw; (try dsimp only at hSw); go_simp; try with_reducible rfl
  try simp only [Act.put, qj1, qj2, qj3, qj4, qj5, qj6]
  refine wpAnyH_take (i := 3) (oi := _) (v := ?_) rfl (by kernel_rfl) (by kernel_rfl) (by kernel_rfl) (fun _ _ _ h => h) (Or.inl ⟨by rfl, ?_⟩) (by first | assumption | trivial) ?_
  rotate_left
  · intro w hSw; (try dsimp only at hSw); go_simp; try with_reducible rfl
  try simp only [Act.put, qj1, qj2, qj3, qj4, qj5, qj6]
  refine wpAnyH_ready (rs := [4]) (by kernel_rfl) (by simp) ?_
  refine AllReadyH.cons (o := _) rfl (fun K hK => ?_) AllReadyH.nil
  go_simp
  refine (ringLen (HR.out.new HFA.out)).mono ?_
  rintro e w1 ⟨rfl, f1⟩
  have HF1 := Lib.hid f1
  clear f1
  refine hK.out _ _ (HF1.out.keep hHeld (by simp)) (fun hHeld => ?_)
  clear hK K
  try simp only [Act.put, qj1, qj2, qj3, qj4, qj5, qj6]
  refine wpAnyH_ready (rs := [5]) (by kernel_rfl) (by simp) ?_
  refine AllReadyH.cons (o := _) rfl (fun K hK => ?_) AllReadyH.nil
  go_simp
  refine (ringPeek ((HR.out.new HFA.out).new HF1.out) hrg k (by have := HK.out; omega)).mono ?_
  rw [Nat.min_self]
  rintro e w2 ⟨v, rfl, ho, f2⟩
  have HO := Lib.hid ho
  have HF2 := Lib.hid f2
  clear ho f2
  obtain ⟨va, vn, vc⟩ := v
  simp only [slv]
  refine hK.out _ _ (HF2.out.keep hHeld (by simp)) (fun hHeld => ?_)
  clear hK K
  try simp only [Act.put, qj1, qj2, qj3, qj4, qj5, qj6]
  refine wpAnyH_take (i := 6) (oi := _) (v := ?_) rfl (by kernel_rfl) (by kernel_rfl) (by kernel_rfl) (fun _ _ _ h => h) (Or.inl ⟨by rfl, ?_⟩) (by first | assumption | trivial) ?_
  rotate_left
  · intro w hSw; (try dsimp only at hSw); go_simp; try with_reducible rfl
  try simp only [Act.put, qj1, qj2, qj3, qj4, qj5, qj6]
  refine wpAnyH_take (i := 7) (oi := _) (v := ?_) rfl (by kernel_rfl) (by kernel_rfl) (by kernel_rfl) (fun _ _ _ h => h) (Or.inl ⟨by rfl, ?_⟩) (by first | assumption | trivial) ?_
  rotate_left
  · intro w hSw; (try dsimp only at hSw); go_simp; try with_reducible rfl
  try simp only [Act.put, qj1, qj2, qj3, qj4, qj5, qj6]
  refine wpAnyH_take (i := 8) (oi := _) (v := ?_) rfl (by kernel_rfl) (by kernel_rfl) (by kernel_rfl) (fun _ _ _ h => h) (Or.inl ⟨by rfl, ?_⟩) (by first | assumption | trivial) ?_
  rotate_left
  · intro w hSw; (try dsimp only at hSw); go_simp; try with_reducible rfl
  try simp only [Act.put, qj1, qj2, qj3, qj4, qj5, qj6]
  refine wpAnyH_take (i := 9) (oi := _) (v := ?_) rfl (by kernel_rfl) (by kernel_rfl) (by kernel_rfl) (fun _ _ _ h => h) (Or.inl ⟨by rfl, ?_⟩) (by first | assumption | trivial) ?_
  rotate_left
  · intro w hSw; (try dsimp only at hSw); go_simp; try with_reducible rfl
  try simp only [Act.put, qj1, qj2, qj3, qj4, qj5, qj6]
  refine wpAnyH_take (i := 10) (oi := _) (v := ?_) rfl (by kernel_rfl) (by kernel_rfl) (by kernel_rfl) (fun _ _ _ h => h) (Or.inl ⟨by rfl, ?_⟩) (by first | assumption | trivial) ?_
  rotate_left
  · intro w hSw; (try dsimp only at hSw); go_simp; try with_reducible rfl
  try simp only [Act.put, qj1, qj2, qj3, qj4, qj5, qj6]
  refine wpAnyH_done (by kernel_rfl) ?_ _
  clear hHeld
  go_wp2
  go_ret
  exact ⟨(va, vn, vc), rfl, HO.out.base (HFA.out.step HF1.out).size, (HFA.out.step HF1.out).step HF2.out⟩
def TakeR (r g : Nat) (l : List UInt8) (cp f k n : Nat) (w : World) (e : Ending) (w' : World) : Prop := ∃ v : Sli, e = .returned (.tuple #[slv v, .int .i64 0]) ∧ BsO w' w.heap.size v (cont l f n) ∧ RgAt w' r g (ringPut l f 0 (List.replicate n 0)) cp ((f + n) % l.length) (k - n) ∧ Fr [r, g] w w'
theorem take_ring {w : World} {r g : Nat} {l : List UInt8} {cp f k : Nat} (h : RgAt w r g l cp f k) (hrg : r ≠ g) (m : Nat) (hm : m ≤ 1000000) (V : Value) (n : Nat) (hn : min m k = n) :
    Calls Tryz.prog 220 #[.agg #[.pointer (some ⟨r, 0, none⟩)], .int .i64 m, V] w (TakeR r g l cp f k n w) := by
  have hkl := h.hn
  have hll := h.hl
  have hnn : n ≤ m ∧ n ≤ k ∧ (n = m ∨ n = k) := by omega
  have hmin : (if k < m then (k : Int) else (m : Int)) = n := by rcases hnn with ⟨h1, h2, h3 | h3⟩ <;> split <;> omega
  have hmin2 : (if (k : Int) < m then (k : Int) else (m : Int)) = n := by rcases hnn with ⟨h1, h2, h3 | h3⟩ <;> split <;> omega
  obtain ⟨X, hX⟩ : ∃ A, w.heap.size = A := ⟨_, rfl⟩
  obtain ⟨wA, hwA⟩ : ∃ z, (w.alloc (.cells #[.pointer (some ⟨r, 0, none⟩)] 251)).drew = z := ⟨_, rfl⟩
  have fA : Fr [] w wA := by rw [← hwA]; exact ((Fr.refl [] w).alloc _).drew
  have b0 : wA.cell? ⟨X, 0, none⟩ = some (.pointer (some ⟨r, 0, none⟩)) := by
    rw [← hwA, ← hX]
    exact ((Blk.made w 251 [.pointer (some ⟨r, 0, none⟩)]).keep (w' := (w.alloc (.cells #[.pointer (some ⟨r, 0, none⟩)] 251)).drew) ((Fr.refl [] _).drew) (by simp)).at 0 _ rfl
  have B0 := Lib.hid b0
  have HFA := Lib.hid fA
  have HWA := Lib.hid hwA
  have HX := Lib.hid hX
  have HR := Lib.hid h
  have HK := Lib.hid (And.intro hkl (And.intro hll hnn))
  have HMIN := Lib.hid (And.intro hmin hmin2)
  clear h fA hwA hX b0 hkl hll hnn hmin hmin2 hn
  go_enter Tryz.func220, Tryz.ntmps220
  go_upto_region 1 with fail
  simp only [HX.out]
  refine wp_region_held_drew (S := fun W => W.cell? ⟨X, 0, none⟩ = some (.pointer (some ⟨r, 0, none⟩))) (by kernel_rfl) (by rw [HWA.out]; exact B0.out) (fun hHeld => ?_)
  rw [HWA.out] at hHeld ⊢
  refine wpAnyH_take (i := 0) (oi := _) (v := ?_) rfl (by kernel_rfl) (by kernel_rfl) (by kernel_rfl) (fun _ _ _ h => h) (Or.inl ⟨by rfl, ?_⟩) (by first | assumption | trivial) ?_
  rotate_left
  · intro w hSw; (try dsimp only at hSw); go_simp; try with_reducible rfl
  try simp only [Act.put, qj1, qj2, qj3, qj4, qj5, qj6]
  refine wpAnyH_take (i := 1) (oi := _) (v := ?_) rfl (by kernel_rfl) (by kernel_rfl) (by kernel_rfl) (fun _ _ _ h => h) (Or.inl ⟨by rfl, ?_⟩) (by first | assumption | trivial) ?_
  rotate_left
  · intro w hSw; (try dsimp only at hSw); go_simp; try with_reducible rfl
  try simp only [Act.put, qj1, qj2, qj3, qj4, qj5, qj6]
  refine wpAnyH_take (i := 2) (oi := _) (v := ?_) rfl (by kernel_rfl) (by kernel_rfl) (by kernel_rfl) (fun _ _ _ h => h) (Or.inl ⟨by rfl, ?_⟩) (by first | assumption | trivial) ?_
  rotate_left
  · intro w hSw; (try dsimp only at hSw); go_simp; try with_reducible rfl
  try simp only [Act.put, qj1, qj2, qj3, qj4, qj5, qj6]
  refine wpAnyH_take (i := 3) (oi := _) (v := ?_) rfl (by kernel_rfl) (by kernel_rfl) (by kernel_rfl) (fun _ _ _ h => h) (Or.inl ⟨by rfl, ?_⟩) (by first | assumption | trivial) ?_
  rotate_left
  · intro w hSw; (try dsimp only at hSw); go_simp; try with_reducible rfl
  try simp only [Act.put, qj1, qj2, qj3, qj4, qj5, qj6]
  refine wpAnyH_take (i := 4) (oi := _) (v := ?_) rfl (by kernel_rfl) (by kernel_rfl) (by kernel_rfl) (fun _ _ _ h => h) (Or.inl ⟨by rfl, ?_⟩) (by first | assumption | trivial) ?_
  rotate_left
  · intro w hSw; (try dsimp only at hSw); go_simp; try with_reducible rfl
  try simp only [Act.put, qj1, qj2, qj3, qj4, qj5, qj6]
  refine wpAnyH_ready (rs := [5]) (by kernel_rfl) (by simp) ?_
  refine AllReadyH.cons (o := _) rfl (fun K hK => ?_) AllReadyH.nil
  go_simp
  refine (ringLen (HR.out.new HFA.out)).mono ?_
  rintro e w1 ⟨rfl, f1⟩
  have HF1 := Lib.hid f1
  clear f1
  refine hK.out _ _ (HF1.out.keep hHeld (by simp)) (fun hHeld => ?_)
  clear hK K
  try simp only [Act.put, qj1, qj2, qj3, qj4, qj5, qj6]
  refine wpAnyH_take (i := 6) (oi := _) (v := ?_) rfl (by kernel_rfl) (by kernel_rfl) (by kernel_rfl) (fun _ _ _ h => h) (Or.inl ⟨by rfl, ?_⟩) (by first | assumption | trivial) ?_
  rotate_left
  · intro w hSw; (try dsimp only at hSw); go_simp; try with_reducible rfl
  try simp only [Act.put, qj1, qj2, qj3, qj4, qj5, qj6]
  try simp only [HMIN.out.1, HMIN.out.2]
  refine wpAnyH_ready (rs := [7]) (by kernel_rfl) (by simp) ?_
  refine AllReadyH.cons (o := _) rfl (fun K hK => ?_) AllReadyH.nil
  go_simp
  refine (ringRead ((HR.out.new HFA.out).new HF1.out) hrg n (by have := HK.out; omega)).mono ?_
  rw [show min n k = n from by have := HK.out; omega]
  rintro e w2 ⟨v, rfl, ho, h2, f2⟩
  have HO := Lib.hid ho
  have H2 := Lib.hid h2
  have HF2 := Lib.hid f2
  have HXR := Lib.hid (show X ≠ r ∧ X ≠ g from by have h1 := HR.out.blk.lt; have h2 := HR.out.row.lt; have := HX.out; omega)
  clear ho h2 f2
  obtain ⟨va, vn, vc⟩ := v
  simp only [slv]
  refine hK.out _ _ (HF2.out.keep hHeld (by simpa using HXR.out)) (fun hHeld => ?_)
  clear hK K
  try simp only [Act.put, qj1, qj2, qj3, qj4, qj5, qj6]
  refine wpAnyH_take (i := 8) (oi := _) (v := ?_) rfl (by kernel_rfl) (by kernel_rfl) (by kernel_rfl) (fun _ _ _ h => h) (Or.inl ⟨by rfl, ?_⟩) (by first | assumption | trivial) ?_
  rotate_left
  · intro w hSw; (try dsimp only at hSw); go_simp; try with_reducible rfl
  try simp only [Act.put, qj1, qj2, qj3, qj4, qj5, qj6]
  refine wpAnyH_take (i := 9) (oi := _) (v := ?_) rfl (by kernel_rfl) (by kernel_rfl) (by kernel_rfl) (fun _ _ _ h => h) (Or.inl ⟨by rfl, ?_⟩) (by first | assumption | trivial) ?_
  rotate_left
  · intro w hSw; (try dsimp only at hSw); go_simp; try with_reducible rfl
  try simp only [Act.put, qj1, qj2, qj3, qj4, qj5, qj6]
  refine wpAnyH_take (i := 10) (oi := _) (v := ?_) rfl (by kernel_rfl) (by kernel_rfl) (by kernel_rfl) (fun _ _ _ h => h) (Or.inl ⟨by rfl, ?_⟩) (by first | assumption | trivial) ?_
  rotate_left
  · intro w hSw; (try dsimp only at hSw); go_simp; try with_reducible rfl
  try simp only [Act.put, qj1, qj2, qj3, qj4, qj5, qj6]
  refine wpAnyH_take (i := 11) (oi := _) (v := ?_) rfl (by kernel_rfl) (by kernel_rfl) (by kernel_rfl) (fun _ _ _ h => h) (Or.inl ⟨by rfl, ?_⟩) (by first | assumption | trivial) ?_
  rotate_left
  · intro w hSw; (try dsimp only at hSw); go_simp; try with_reducible rfl
  try simp only [Act.put, qj1, qj2, qj3, qj4, qj5, qj6]
  refine wpAnyH_take (i := 12) (oi := _) (v := ?_) rfl (by kernel_rfl) (by kernel_rfl) (by kernel_rfl) (fun _ _ _ h => h) (Or.inl ⟨by rfl, ?_⟩) (by first | assumption | trivial) ?_
  rotate_left
  · intro w hSw; (try dsimp only at hSw); go_simp; try with_reducible rfl
  try simp only [Act.put, qj1, qj2, qj3, qj4, qj5, qj6]
  refine wpAnyH_done (by kernel_rfl) ?_ _
  clear hHeld
  go_wp2
  refine bodyPost_ret (v := .tuple #[.slice va vn vc, .int .i64 0]) (by simp [results, Tryz.results220]) rfl ?_
  exact ⟨(va, vn, vc), rfl, HO.out.base (HFA.out.step HF1.out).size, H2.out, ((HFA.out.step HF1.out).mono (T := [r, g]) (fun x hx _ => by cases hx)).trans HF2.out (fun x hx _ => hx)⟩
def TakeD (own : Nat → Nat) (l1 l2 : List UInt8) (q : Nat) (t : TypeId) (pre post : List Value) (w : World) (e : Ending) (w' : World) : Prop := ∃ (v p2 : Sli) (own' : Nat → Nat), e = .returned (.tuple #[slv v, .int .i64 l1.length]) ∧ BsO w' w.heap.size v l1 ∧ RopeB w' own' p2 l2 ∧ Blk w' q t (ropeIn pre p2 l2.length post) ∧ Ext w own own' ∧ Fr [q] w w'
theorem take_direct {w : World} {own : Nat → Nat} {p : Sli} {l : List UInt8} {q : Nat} {t : TypeId} {pre post : List Value} (h : RopeB w own p l) (hl : l.length ≤ 65536) (hq : Blk w q t (ropeIn pre p l.length post)) (hq3 : own q ≠ 3) (m : Nat) (hmm : m ≤ 1000000) :
    Calls Tryz.prog 211 #[.agg #[], .int .i64 m, .pointer (some ⟨q, pre.length, none⟩)] w (TakeD own (l.take m) (l.drop m) q t pre post w) := by
  obtain ⟨o, ho⟩ : ∃ o, pre.length = o := ⟨_, rfl⟩
  obtain ⟨n, hn⟩ : ∃ n, l.length = n := ⟨_, rfl⟩
  obtain ⟨wA, hwA⟩ : ∃ z, w.alloc (.cells #[] 246) = z := ⟨_, rfl⟩
  have fA : Fr [] w wA := by rw [← hwA]; exact (Fr.refl [] w).alloc _
  have hlie : LiesAt wA q o [.slice p.1 p.2.1 p.2.2, .int .i64 n] := by rw [← ho, ← hn]; exact ropeIn_lies (hq.keep fA (by simp))
  have HCUT := Lib.hid (fun W (fW : Fr [] w W) => cut_any (h.new fW) hl (hq.keep fW (by simp)) hq3 (min n m) (by omega))
  have e1 : l.take (min n m) = l.take m := by rw [← hn]; simp [List.take_eq_take_iff]; try omega
  have e2 : l.drop (min n m) = l.drop m := by
    rcases Nat.le_total n m with h1 | h1
    · rw [Nat.min_eq_left h1, List.drop_of_length_le (by omega), List.drop_of_length_le (by omega)]
    · rw [Nat.min_eq_right h1]
  rw [e1, e2, ho] at HCUT
  have hmin : (if (n : Int) < m then (n : Int) else (m : Int)) = (min n m : Nat) := by split <;> omega
  have hmin2 : (if n < m then (n : Int) else (m : Int)) = (min n m : Nat) := by split <;> omega
  have hll : (l.take m).length ≤ 65536 := by rw [List.length_take]; omega
  obtain ⟨mn, hmn⟩ : ∃ z, min n m = z := ⟨_, rfl⟩
  rw [hmn] at hmin hmin2 HCUT
  obtain ⟨l1, h1⟩ : ∃ z, l.take m = z := ⟨_, rfl⟩
  obtain ⟨l2, h2⟩ : ∃ z, l.drop m = z := ⟨_, rfl⟩
  rw [h1] at hll
  rw [h1, h2] at HCUT
  rw [h1, h2, ho]
  have HMIN := Lib.hid (And.intro hmin hmin2)
  have HLL := Lib.hid hll
  have HLIE := Lib.hid hlie
  have HFA := Lib.hid fA
  have HWA := Lib.hid hwA
  clear h hq hlie fA hwA h1 h2 e1 e2 hmin hmin2 hll hmn hn ho hq3
  go_enter Tryz.func211, Tryz.ntmps211
  go_upto_region 1 with fail
  rw [HWA.out]
  refine wp_region_lit ?_
  refine wpList_plain rfl (fun K hK => ?_); go_simp; refine hK _ _ ?_; clear hK K
  refine wpList_plain rfl (fun K hK => ?_); go_simp; refine hK _ _ ?_; clear hK K
  refine wpList_plain rfl (fun K hK => ?_); go_simp; refine hK _ _ ?_; clear hK K
  refine wpList_plain rfl (fun K hK => ?_); go_simp; refine hK _ _ ?_; clear hK K
  try simp only [Act.put, qj1, qj2, qj3, qj4, qj5, qj6]
  refine wpList_val rfl (v := .agg ([.slice p.1 p.2.1 p.2.2, .int .i64 n]).toArray) (w' := wA) ?_ ?_
  · show Sem.run Tryz.prog ((Instr.loadAt 128 (.pointer (some ⟨q, o, none⟩))) >>= fun x => pure (Next.value x)) wA = _
    rw [Sem.run_bind, load_all aggRope sizeRope (xs := [.slice p.1 p.2.1 p.2.2, .int .i64 n]) rfl HLIE.out]
    rfl
  try simp only [Act.put, qj1, qj2, qj3, qj4, qj5, qj6]
  refine wpList_plain rfl (fun K hK => ?_)
  go_simp
  refine (ropeLen_any p n wA).mono ?_
  rintro e w1 ⟨rfl, f1⟩
  have HF1 := Lib.hid (HFA.out.step f1)
  clear f1
  refine hK _ _ ?_
  clear hK K
  try simp only [Act.put, qj1, qj2, qj3, qj4, qj5, qj6]
  refine wpList_plain rfl (fun K hK => ?_); go_simp; refine hK _ _ ?_; clear hK K
  try simp only [Act.put, qj1, qj2, qj3, qj4, qj5, qj6]
  try simp only [HMIN.out.1, HMIN.out.2]
  refine wpList_plain rfl (fun K hK => ?_)
  go_simp
  refine (HCUT.out w1 HF1.out).mono ?_
  rintro e w2 ⟨v, p2, own2, rfl, hv, hr2, hq2, hx, f2⟩
  have HV := Lib.hid hv
  have HR2 := Lib.hid hr2
  have HQ2 := Lib.hid hq2
  have HX2 := Lib.hid hx
  have HF2 := Lib.hid f2
  have hvn := (bsO_cap hv).1
  clear hv hr2 hq2 hx f2
  obtain ⟨va, vn, vc⟩ := v
  simp only at hvn
  subst hvn
  simp only [slv]
  refine hK _ _ ?_
  clear hK K
  try simp only [Act.put, qj1, qj2, qj3, qj4, qj5, qj6]
  refine wpList_plain rfl (fun K hK => ?_); go_simp; refine hK _ _ ?_; clear hK K
  refine wpList_nil ?_
  try simp only [Act.put, qj1, qj2, qj3, qj4, qj5, qj6]
  go_wp2
  have hwr : IntKind.i64.wrap (l1.length : Int) = l1.length := IntWalk.i64_in _ (by have := HLL.out; omega)
  refine bodyPost_ret (v := .tuple #[.slice va l1.length vc, .int .i64 l1.length]) (by simp [results, Tryz.results211, hwr]) rfl ?_
  exact ⟨(va, l1.length, vc), p2, own2, rfl, HV.out.base HF1.out.size, HR2.out, HQ2.out, fun z hz => HX2.out z (Nat.lt_of_lt_of_le hz HF1.out.size), (HF1.out.mono (T := [q]) (fun x hx _ => by cases hx)).trans HF2.out (fun x hx _ => hx)⟩
end Go.Proofs.YtmdhlodafjpnmaaGreat
namespace Go.Proofs.YtmdhlodafjpnmaaGreat
open List renaming getElem_toArray → qj1, getElem_cons_succ → qj2, getElem_cons_zero → qj3, setIfInBounds_toArray → qj4, set_cons_zero → qj5, set_cons_succ → qj6
open Go.RowKit
set_option linter.unusedVariables false
set_option linter.unusedSimpArgs false
set_option maxRecDepth 100000
set_option maxHeartbeats 4000000

def OfOut (own : Nat → Nat) (c0 cap : Nat) (w : World) (e : Ending) (w' : World) : Prop := ∃ ty v, e = .returned (.iface ty v) ∧ (∀ s, (s < w.heap.size ∨ w'.heap.size ≤ s) → StoreB w' (ownNew w own c0) c0 s cap [] (.iface ty v)) ∧ Fr [] w w'
theorem strOf (own : Nat → Nat) (c0 cap : Nat) (hc : cap ≤ 4096) (w : World) :
    Calls Tryz.prog 156 #[.int .i64 cap] w (OfOut own c0 cap w) := by
  by_cases h0 : cap = 0
  · subst h0
    go_enter Tryz.func156, Tryz.ntmps156
    go_wp2
    go_ret
    exact ⟨_, _, rfl, fun s hs => .inl ⟨rfl, rfl, rfl⟩, Fr.refl [] w⟩
  · have hi0 : ¬ (cap : Int) = 0 := by omega
    have hd0 : decide ((cap : Int) = 0) = false := decide_eq_false hi0
    go_enter Tryz.func156, Tryz.ntmps156
    go_wp2_with fail
    refine (ringNew cap (by omega) hc w).mono ?_
    rintro e w1 ⟨r, g, rfl, hr, f1, l1, l2, l3⟩
    have HR := Lib.hid hr
    have HF := Lib.hid f1
    have HL := Lib.hid (And.intro l1 (And.intro l2 l3))
    clear hr f1 l1 l2 l3
    go_wp2
    go_ret
    have hl := HL.out
    have h1 := HR.out.blk.lt
    have h2 := HR.out.row.lt
    exact ⟨_, _, rfl, fun s hs => .inr ⟨r, g, List.replicate cap 0, cap, 0, 0, ownNew_ge hl.1, ownNew_ge hl.2.1, by omega, by omega, hl.2.2, by rw [List.length_replicate], by simp [cont], rfl, HR.out, rfl⟩, HF.out⟩
theorem bldStream (ty : TypeId) (v : Value) : ∀ w, (Instr.build 209 #[(0, .iface ty v)]).run Tryz.prog w = .ok (.agg #[.iface ty v, .bool false, .slice none 0 0, .int .i64 0, .int .i64 0, .int .i64 0, .int .i64 0]) w := fun w => by kernel_rfl
def NewS (own : Nat → Nat) (c0 cap : Nat) (w : World) (e : Ending) (w' : World) : Prop := ∃ s, e = .returned (.tuple #[.pointer (some ⟨s, 0, none⟩), .int .i64 0]) ∧ StrB w' (ownNew w own c0) c0 s (ss0 cap) ∧ Fr [] w w' ∧ w.heap.size ≤ s
theorem strNew (own : Nat → Nat) (c0 cap : Nat) (hc : cap ≤ 4096) (w : World) :
    Calls Tryz.prog 127 #[.int .i64 cap] w (NewS own c0 cap w) := by
  have hn : ¬ (cap : Int) < 0 := by omega
  have hb : ¬ (4096 : Int) < cap := by omega
  have hnd : decide ((cap : Int) < 0) = false := decide_eq_false hn
  have hbd : decide ((4096 : Int) < cap) = false := decide_eq_false hb
  have hbn : ¬ 4096 < cap := by omega
  go_enter Tryz.func127, Tryz.ntmps127
  go_upto_region 3 with fail
  refine wp_region_lit ?_
  refine wpList_plain rfl (fun K hK => ?_); go_simp; refine hK _ _ ?_; clear hK K
  refine wpList_plain rfl (fun K hK => ?_)
  go_simp
  refine (strOf own c0 cap hc w).mono ?_
  rintro e w1 ⟨ty, v, rfl, hs, f1⟩
  have HS := Lib.hid hs
  have HF1 := Lib.hid f1
  clear hs f1
  refine hK _ _ ?_
  clear hK K
  try simp only [Act.put, qj1, qj2, qj3, qj4, qj5, qj6]
  have hbl := bldStream ty v
  refine wpList_plain rfl (fun K hK => ?_); go_simp; refine hK _ _ ?_; clear hK K
  try simp only [Act.put, qj1, qj2, qj3, qj4, qj5, qj6]
  refine wpList_plain rfl (fun K hK => ?_); go_simp; refine hK _ _ ?_; clear hK K
  try simp only [Act.put, qj1, qj2, qj3, qj4, qj5, qj6]
  obtain ⟨S, hA_⟩ : ∃ A, w1.heap.size = A := ⟨_, rfl⟩
  obtain ⟨w2, hw_⟩ : ∃ z, w1.alloc (.cells #[.iface ty v, .bool false, .slice none 0 0, .int .i64 0, .int .i64 0, .int .i64 0, .int .i64 0] 209) = z := ⟨_, rfl⟩
  have hB_ : Blk w2 S 209 [.iface ty v, .bool false, .slice none 0 0, .int .i64 0, .int .i64 0, .int .i64 0, .int .i64 0] := by rw [← hw_, ← hA_]; exact Blk.made w1 209 _
  have hF_ : Fr [] w1 w2 := by rw [← hw_]; exact (Fr.refl [] w1).alloc _
  rw [hw_]
  simp only [hA_]
  have HSS := Lib.hid hA_
  have HBS := Lib.hid hB_
  have HFw2 := Lib.hid hF_
  clear hA_ hw_ hB_ hF_
  refine wpList_plain rfl (fun K hK => ?_); go_simp; refine hK _ _ ?_; clear hK K
  refine wpList_plain rfl (fun K hK => ?_); go_simp; refine hK _ _ ?_; clear hK K
  refine wpList_nil ?_
  try simp only [Act.put, qj1, qj2, qj3, qj4, qj5, qj6]
  go_wp2
  refine bodyPost_ret (v := .tuple #[.pointer (some ⟨S, 0, none⟩), .int .i64 0]) (by simp [results, Tryz.results127]) rfl ?_
  have hS := HSS.out
  have hsz := HF1.out.size
  have hl := HBS.out.lt
  refine ⟨S, rfl, ⟨⟨ownNew_ge (by omega), .iface ty v, (none, 0, 0), HBS.out, ?_, RopeB.nil _ _⟩, ss0_ok (by omega) (by omega)⟩, HF1.out.step HFw2.out, by omega⟩
  exact (HS.out S (.inr (by omega))).keep HFw2.out (fun z hz => by cases hz)
theorem strNone {w : World} {own : Nat → Nat} {c s : Nat} {x : SS} (h : StrA w own c s x) :
    Calls Tryz.prog 130 #[.pointer (some ⟨s, 0, none⟩)] w fun e w' => e = .returned (.bool false) ∧ w = w' := by
  obtain ⟨st, p, hb, hs, _⟩ := h.at_
  have h1 : w.cell? ⟨s, 0, none⟩ = some st := hb.at 0 _ rfl
  rcases hs with ⟨_, _, rfl⟩ | ⟨r, g, l, cp, f, n, _, _, _, _, _, _, _, _, _, rfl⟩
  · clear h hb
    go_enter Tryz.func130, Tryz.ntmps130
    go_wp2
    go_ret
    exact ⟨rfl, rfl⟩
  · clear h hb
    go_enter Tryz.func130, Tryz.ntmps130
    go_wp2
    go_ret
    exact ⟨rfl, rfl⟩
theorem eqCodes (a b : Int) : ∀ W : World, (binOp .eql 207 (.agg #[.int .i64 a, .int .i64 b]) (.agg #[.int .i64 0, .int .i64 0])).run Tryz.prog W = .ok (.bool (decide (a = 0) && decide (b = 0))) W := by
  intro W
  rcases a with (_ | n) | n <;> rcases b with (_ | m) | m <;> kernel_rfl
theorem zeroCodes : ∀ W : World, (Instr.build 207 #[]).run Tryz.prog W = .ok (.agg #[.int .i64 0, .int .i64 0]) W := fun W => by kernel_rfl
theorem strOpen {w : World} {own : Nat → Nat} {c s : Nat} {x : SS} (h : StrA w own c s x) :
    Calls Tryz.prog 131 #[.pointer (some ⟨s, 0, none⟩)] w fun e w' => e = .returned (.bool x.isOpen) ∧ w = w' := by
  obtain ⟨st, p, hb, _, _⟩ := h.at_
  have h1 : w.cell? ⟨s, 5, none⟩ = some (.int .i64 x.wr) := hb.at 5 _ rfl
  have h2 : w.cell? ⟨s, 6, none⟩ = some (.int .i64 x.rd) := hb.at 6 _ rfl
  unfold SS.isOpen
  have he := eqCodes x.wr x.rd
  have hz := zeroCodes
  clear h hb
  go_enter Tryz.func131, Tryz.ntmps131
  go_wp2
  go_ret
  exact ⟨rfl, rfl⟩
end Go.Proofs.YtmdhlodafjpnmaaGreat
