/- Lemmas of no program: the end of a law's proof (it returned true and nothing that was there has turned), and a slice of structs opened cell by cell. -/
/- The report laws' arguments opened: what the checkers say, all interleavings, lists. -/
/- The report laws' arguments opened: events. -/
import Derived.WalkKit
import Derived.ProofKit
import Derived.OpenShut
import Derived.Carry
import Derived.Deep.Slices
import Derived.Test.YtllmejkcohfbiaaGreatDoorS1
import Derived.Test.YtllmejkcohfbiaaGreatDoorRows
import Derived.Test.YtllmejkcohfbiaaGreatDoorR16
import Derived.Test.YtllmejkcohfbiaaGreatDoorR21
namespace Go.Proofs.YtllmejkcohfbiaaGreatDoor.laws
open Go.ChangeShapes Go.WideShapes Go.ChangeAt Go.RowKit

theorem trodAll_stays {H : Type} {enc : TypeId × Value → H} {P : Program} (hl : laidOutB P = true) {W W' : World} (hb : Below W.heap.size W W') :
    ∀ (ts : List TypeId) (vs : List Value) (ds : List (DataW H)) (ps : List MemPlace), ts.all (fun t => P.readableRec t && decide (t < P.types.size)) = true →
      DataW.TrodAll enc P W 0 (fun _ => true) true ts vs ds ps → (∀ x ∈ ps, x.block < W.heap.size) → DataW.TrodAll enc P W' 0 (fun b => decide (b < W.heap.size)) true ts vs ds ps := by
  intro ts
  induction ts with
  | nil =>
    intro vs ds ps _ h _
    cases vs <;> cases ds <;> first | exact h | (simp [DataW.TrodAll] at h)
  | cons t ts ih =>
    intro vs ds ps ha h hlt
    obtain ⟨v0, vs0, d0, ds0, p0, q0, rfl, rfl, rfl, h0, r0⟩ := trodAll_cons h
    simp only [List.all_cons, Bool.and_eq_true, decide_eq_true_eq] at ha
    obtain ⟨⟨hr, hrow⟩, ha'⟩ := ha
    exact trodAll_cons_mk (Below.trod hl hr hrow h0 hb (fun x hx => hlt x (List.mem_append_left _ hx))) (ih _ _ _ ha' r0 (fun x hx => hlt x (List.mem_append_right _ hx)))

/-- A law's end: it returned true, and below the heap's old size nothing has turned. -/
theorem law_post {H : Type} {enc : TypeId × Value → H} {P : Program} {fn : Func} {s : ChangeSpec} {W W' : World} {args : Array Value} {ds gs : List (DataW H)} {before : List MemPlace} {tb : TypeId}
    (hl : laidOutB P = true) (hts : fn.params.toList.all (fun t => P.readableRec t && decide (t < P.types.size)) = true) (hvars : s.vars = []) (hres : fn.resultTypes = #[tb]) (hbt : P.underlying tb = some .bool)
    (hW : DataW.Whole enc P fn.params.toList s.vars false W args.toList ds gs before)
    (hs : s.fn H (ds ++ gs) = { results := [.lit (.bool true)], args := ds }) (hb : Below W.heap.size W W') :
    s.post enc P fn false true false false W args (.bool true) W' := by
  have hW' := hW
  obtain ⟨p, q, hA, hV, hpq, hfz, hnd⟩ := hW
  refine ⟨ds, gs, before, [], p, [], hW', ?_, ?_, ?_, hb.frame _, fun h => by cases h⟩
  · rw [hs, hres]
    exact trodAll_cons_mk (shut_bool hbt _) trodAll_mk0
  · rw [hs]
    exact trodAll_stays hl hb _ _ _ _ hts hA (fun x hx => hW'.lt x (by rw [hpq]; exact List.mem_append_left _ hx))
  · rw [hs, hvars]
    rfl

/-- A slice opened: nil, or an address without a spot (where there is an element) and, for every element, its cells and what they read as. -/
theorem open_rows {H : Type} {enc : TypeId × Value → H} {P : Program} {w : World} {t e : TypeId} {C fuel : Nat} {sa : Option Addr} {slen scap : Nat} {x : DataW H × List MemPlace} (ht : P.underlying t = some (.slice e)) (hC : P.cellsOf e = C) (hC0 : 0 < C)
    (h : DataW.trod enc P w 0 (fun _ => true) true fuel t [.slice sa slen scap] = some x) :
    (sa = none ∧ slen = 0 ∧ scap = 0) ∨ slen ≤ scap ∧ scap ≤ maxLen ∧ ∃ a : Addr, sa = some a ∧ (slen = 0 ∨ ∃ b off, a = ⟨b, off, none⟩ ∧ ∀ i, i < slen → ∃ (cs : List Value) (n : Nat) (y : DataW H × List MemPlace), cs.length = C ∧ (∀ j, j < C → w.cell? ⟨b, off + i * C + j, none⟩ = cs[j]?) ∧ DataW.trod enc P w 0 (fun _ => true) true n e cs = some y) := by
  rcases Deep.open_slice ht h with ⟨h0, _⟩ | ⟨a, len, cap, m, n, D, Pl, h0, hb, hl, hm, hmm, _, hx⟩
  · simp only [List.cons.injEq, Value.slice.injEq, and_true] at h0
    exact .inl h0
  · simp only [List.cons.injEq, Value.slice.injEq, and_true] at h0
    obtain ⟨rfl, rfl, rfl⟩ := h0
    refine .inr ⟨hl, hm, a, rfl, ?_⟩
    simp only [if_true] at hmm
    subst hmm
    by_cases hz : slen = 0
    · exact .inl hz
    · refine .inr ?_
      obtain ⟨cs0, hc0, _⟩ := hx 0 (by omega)
      obtain ⟨_, hl0, hr0⟩ := World.cells?_some hc0
      have hsp : a.spot = none := by
        have h1 := hr0 0 (by rw [hC]; exact hC0)
        have h2 : ((a.add (0 * P.cellsOf e)).add 0) = a := by simp [Addr.add]
        rw [h2] at h1
        rcases hcell : w.cell? a with _ | v
        · rw [hcell] at h1
          have := List.getElem?_eq_getElem (l := cs0) (i := 0) (by rw [hl0, hC]; exact hC0)
          rw [this] at h1
          cases h1
        · exact World.cell?_spot hcell
      obtain ⟨b, off, spot⟩ := a
      simp only at hsp
      subst hsp
      refine ⟨b, off, rfl, fun i hi => ?_⟩
      obtain ⟨cs, hc, hy⟩ := hx i (by omega)
      obtain ⟨_, hl1, hr1⟩ := World.cells?_some hc
      refine ⟨cs, n, _, by rw [hl1, hC], fun j hj => ?_, hy⟩
      have h1 := hr1 j (by rw [hC]; exact hj)
      rw [Go.WideShapes.add_plain, Go.WideShapes.add_plain, hC] at h1
      exact h1
end Go.Proofs.YtllmejkcohfbiaaGreatDoor.laws
namespace Go.Proofs.YtllmejkcohfbiaaGreatDoor
open Go.ChangeShapes Go.WideShapes Go.ChangeAt Go.RowKit
set_option linter.unusedVariables false
set_option maxRecDepth 100000

theorem i64_bd {x : Int} (h : (Lit.int .i64 x).wf = true) : I64 x := by
  simpa [Lit.wf, IntKind.min, IntKind.max, IntKind.signed, IntKind.bits, I64] using h
theorem u64_bd {x : Int} (h : (Lit.int .u64 x).wf = true) : 0 ≤ x ∧ x < 18446744073709551616 := by
  have := h
  simp [Lit.wf, IntKind.min, IntKind.max, IntKind.signed, IntKind.bits] at this
  omega
theorem cellsInt : Tryz.prog.cellsOf 3 = 1 := by kernel_rfl
theorem cellsFlaw : Tryz.prog.cellsOf 22 = 1 := by kernel_rfl
theorem cellsTime : Tryz.prog.cellsOf 39 = 1 := by kernel_rfl
theorem cellsMach : Tryz.prog.cellsOf 47 = 8 := by kernel_rfl
theorem cellsOut : Tryz.prog.cellsOf 49 = 11 := by kernel_rfl
theorem cellsCk : Tryz.prog.cellsOf 24 = 3 := by kernel_rfl
theorem cellsEx : Tryz.prog.cellsOf 27 = 4 := by kernel_rfl
theorem cellsSCell : Tryz.prog.cellsOf 40 = 1 := by kernel_rfl
theorem cellsSInt : Tryz.prog.cellsOf 41 = 1 := by kernel_rfl
theorem cellsSFile : Tryz.prog.cellsOf 42 = 1 := by kernel_rfl
theorem cellsSConn : Tryz.prog.cellsOf 43 = 1 := by kernel_rfl
theorem cellsSLis : Tryz.prog.cellsOf 44 = 1 := by kernel_rfl
theorem cellsSWait : Tryz.prog.cellsOf 45 = 1 := by kernel_rfl
theorem cellsSOut : Tryz.prog.cellsOf 25 = 1 := by kernel_rfl
theorem cellsTk : Tryz.prog.cellsOf 58 = 8 := by kernel_rfl
theorem cellsCd : Tryz.prog.cellsOf 62 = 3 := by kernel_rfl
theorem cellsBk : Tryz.prog.cellsOf 67 = 3 := by kernel_rfl
theorem cellsKind : Tryz.prog.cellsOf 29 = 1 := by kernel_rfl
theorem cellsErrno : Tryz.prog.cellsOf 28 = 1 := by kernel_rfl
theorem cellsWhy : Tryz.prog.cellsOf 65 = 1 := by kernel_rfl
theorem slice_of {H : Type} {enc : TypeId × Value → H} {w : World} {n : Nat} {t e : TypeId} {c : Value} {y : DataW H × List MemPlace} (ht : Tryz.prog.underlying t = some (.slice e)) (h : DataW.trod enc Tryz.prog w 0 (fun _ => true) true n t [c] = some y) : ∃ a k p, c = .slice a k p := by
  rcases DataW.trod_slice ht h with ⟨h0, _⟩ | ⟨a, len, cap, elems, rest, n, _, h0, _⟩
  · simp only [List.cons.injEq, and_true] at h0
    exact ⟨_, _, _, h0⟩
  · simp only [List.cons.injEq, and_true] at h0
    exact ⟨_, _, _, h0⟩
theorem mach_of {H : Type} {enc : TypeId × Value → H} {w : World} {n : Nat} {cs : List Value} {y : DataW H × List MemPlace} (hl : cs.length = 8) (h : DataW.trod enc Tryz.prog w 0 (fun _ => true) true n 47 cs = some y) :
    ∃ (t0 : Int) (s1 s2 s3 s4 s5 s6 s7 : Sl), cs = [.int .u64 t0, (.slice s1.1 s1.2.1 s1.2.2), (.slice s2.1 s2.2.1 s2.2.2), (.slice s3.1 s3.2.1 s3.2.2), (.slice s4.1 s4.2.1 s4.2.2), (.slice s5.1 s5.2.1 s5.2.2), (.slice s6.1 s6.2.1 s6.2.2), (.slice s7.1 s7.2.1 s7.2.2)] := by
  obtain ⟨xs, m, _, _, _, hxs, hf⟩ := DataW.trod_struct Tryz.underlying47 h
  match cs, hl with
  | [c0, c1, c2, c3, c4, c5, c6, c7], _ =>
    match xs, hxs with
    | [z0, z1, z2, z3, z4, z5, z6, z7], _ =>
      have f0 : DataW.trod enc Tryz.prog w 0 (fun _ => true) true m 39 [c0] = some z0 := by have := hf 0 _ rfl; simpa [cellsInt, cellsFlaw, cellsTime, cellsMach, cellsSCell, cellsSInt, cellsSFile, cellsSConn, cellsSLis, cellsSWait, cellsSOut, cellsKind, cellsErrno, cellsWhy] using this
      have f1 : DataW.trod enc Tryz.prog w 0 (fun _ => true) true m 40 [c1] = some z1 := by have := hf 1 _ rfl; simpa [cellsInt, cellsFlaw, cellsTime, cellsMach, cellsSCell, cellsSInt, cellsSFile, cellsSConn, cellsSLis, cellsSWait, cellsSOut, cellsKind, cellsErrno, cellsWhy] using this
      have f2 : DataW.trod enc Tryz.prog w 0 (fun _ => true) true m 41 [c2] = some z2 := by have := hf 2 _ rfl; simpa [cellsInt, cellsFlaw, cellsTime, cellsMach, cellsSCell, cellsSInt, cellsSFile, cellsSConn, cellsSLis, cellsSWait, cellsSOut, cellsKind, cellsErrno, cellsWhy] using this
      have f3 : DataW.trod enc Tryz.prog w 0 (fun _ => true) true m 41 [c3] = some z3 := by have := hf 3 _ rfl; simpa [cellsInt, cellsFlaw, cellsTime, cellsMach, cellsSCell, cellsSInt, cellsSFile, cellsSConn, cellsSLis, cellsSWait, cellsSOut, cellsKind, cellsErrno, cellsWhy] using this
      have f4 : DataW.trod enc Tryz.prog w 0 (fun _ => true) true m 42 [c4] = some z4 := by have := hf 4 _ rfl; simpa [cellsInt, cellsFlaw, cellsTime, cellsMach, cellsSCell, cellsSInt, cellsSFile, cellsSConn, cellsSLis, cellsSWait, cellsSOut, cellsKind, cellsErrno, cellsWhy] using this
      have f5 : DataW.trod enc Tryz.prog w 0 (fun _ => true) true m 43 [c5] = some z5 := by have := hf 5 _ rfl; simpa [cellsInt, cellsFlaw, cellsTime, cellsMach, cellsSCell, cellsSInt, cellsSFile, cellsSConn, cellsSLis, cellsSWait, cellsSOut, cellsKind, cellsErrno, cellsWhy] using this
      have f6 : DataW.trod enc Tryz.prog w 0 (fun _ => true) true m 44 [c6] = some z6 := by have := hf 6 _ rfl; simpa [cellsInt, cellsFlaw, cellsTime, cellsMach, cellsSCell, cellsSInt, cellsSFile, cellsSConn, cellsSLis, cellsSWait, cellsSOut, cellsKind, cellsErrno, cellsWhy] using this
      have f7 : DataW.trod enc Tryz.prog w 0 (fun _ => true) true m 45 [c7] = some z7 := by have := hf 7 _ rfl; simpa [cellsInt, cellsFlaw, cellsTime, cellsMach, cellsSCell, cellsSInt, cellsSFile, cellsSConn, cellsSLis, cellsSWait, cellsSOut, cellsKind, cellsErrno, cellsWhy] using this
      obtain ⟨x0, e0, _, w0⟩ := DataW.trod_int Tryz.underlying39 f0
      obtain ⟨a1, n1, p1, rfl⟩ := slice_of Tryz.underlying40 f1
      obtain ⟨a2, n2, p2, rfl⟩ := slice_of Tryz.underlying41 f2
      obtain ⟨a3, n3, p3, rfl⟩ := slice_of Tryz.underlying41 f3
      obtain ⟨a4, n4, p4, rfl⟩ := slice_of Tryz.underlying42 f4
      obtain ⟨a5, n5, p5, rfl⟩ := slice_of Tryz.underlying43 f5
      obtain ⟨a6, n6, p6, rfl⟩ := slice_of Tryz.underlying44 f6
      obtain ⟨a7, n7, p7, rfl⟩ := slice_of Tryz.underlying45 f7
      simp only [List.cons.injEq, and_true] at e0
      subst e0
      exact ⟨x0, (a1, n1, p1), (a2, n2, p2), (a3, n3, p3), (a4, n4, p4), (a5, n5, p5), (a6, n6, p6), (a7, n7, p7), rfl⟩
theorem out_of {H : Type} {enc : TypeId × Value → H} {w : World} {n : Nat} {cs : List Value} {y : DataW H × List MemPlace} (hl : cs.length = 11) (h : DataW.trod enc Tryz.prog w 0 (fun _ => true) true n 49 cs = some y) :
    ∃ (t0 : Int) (s1 s2 s3 s4 s5 s6 s7 : Sl) (r : Int) (sp s8 : Sl), cs = [.int .u64 t0, (.slice s1.1 s1.2.1 s1.2.2), (.slice s2.1 s2.2.1 s2.2.2), (.slice s3.1 s3.2.1 s3.2.2), (.slice s4.1 s4.2.1 s4.2.2), (.slice s5.1 s5.2.1 s5.2.2), (.slice s6.1 s6.2.1 s6.2.2), (.slice s7.1 s7.2.1 s7.2.2), .int .i64 r, .slice sp.1 sp.2.1 sp.2.2, (.slice s8.1 s8.2.1 s8.2.2)] ∧ I64 r ∧ ∃ m z, DataW.trod enc Tryz.prog w 0 (fun _ => true) true m 41 [.slice sp.1 sp.2.1 sp.2.2] = some z := by
  obtain ⟨xs, m, _, _, _, hxs, hf⟩ := DataW.trod_struct Tryz.underlying49 h
  match cs, hl with
  | [c0, c1, c2, c3, c4, c5, c6, c7, c8, c9, c10], _ =>
    match xs, hxs with
    | [z0, z1, z2, z3], _ =>
      have f0 : DataW.trod enc Tryz.prog w 0 (fun _ => true) true m 47 [c0, c1, c2, c3, c4, c5, c6, c7] = some z0 := by have := hf 0 _ rfl; simpa [cellsInt, cellsFlaw, cellsTime, cellsMach, cellsSCell, cellsSInt, cellsSFile, cellsSConn, cellsSLis, cellsSWait, cellsSOut, cellsKind, cellsErrno, cellsWhy] using this
      have f1 : DataW.trod enc Tryz.prog w 0 (fun _ => true) true m 3 [c8] = some z1 := by have := hf 1 _ rfl; simpa [cellsInt, cellsFlaw, cellsTime, cellsMach, cellsSCell, cellsSInt, cellsSFile, cellsSConn, cellsSLis, cellsSWait, cellsSOut, cellsKind, cellsErrno, cellsWhy] using this
      have f2 : DataW.trod enc Tryz.prog w 0 (fun _ => true) true m 41 [c9] = some z2 := by have := hf 2 _ rfl; simpa [cellsInt, cellsFlaw, cellsTime, cellsMach, cellsSCell, cellsSInt, cellsSFile, cellsSConn, cellsSLis, cellsSWait, cellsSOut, cellsKind, cellsErrno, cellsWhy] using this
      have f3 : DataW.trod enc Tryz.prog w 0 (fun _ => true) true m 41 [c10] = some z3 := by have := hf 3 _ rfl; simpa [cellsInt, cellsFlaw, cellsTime, cellsMach, cellsSCell, cellsSInt, cellsSFile, cellsSConn, cellsSLis, cellsSWait, cellsSOut, cellsKind, cellsErrno, cellsWhy] using this
      obtain ⟨t0, s1, s2, s3, s4, s5, s6, s7, em⟩ := mach_of rfl f0
      obtain ⟨x1, e1, _, w1⟩ := DataW.trod_int Tryz.underlying3 f1
      obtain ⟨a2, n2, p2, rfl⟩ := slice_of Tryz.underlying41 f2
      obtain ⟨a3, n3, p3, rfl⟩ := slice_of Tryz.underlying41 f3
      simp only [List.cons.injEq, and_true] at em e1
      subst e1
      obtain ⟨rfl, rfl, rfl, rfl, rfl, rfl, rfl, rfl⟩ := em
      exact ⟨t0, s1, s2, s3, s4, s5, s6, s7, x1, (a2, n2, p2), (a3, n3, p3), rfl, i64_bd w1, _, _, f2⟩
theorem ck_of {H : Type} {enc : TypeId × Value → H} {w : World} {n : Nat} {cs : List Value} {y : DataW H × List MemPlace} (hl : cs.length = 3) (h : DataW.trod enc Tryz.prog w 0 (fun _ => true) true n 24 cs = some y) :
    ∃ p f b : Int, cs = [.int .i64 p, .int .i64 f, .int .i64 b] ∧ I64 p ∧ I64 f ∧ I64 b := by
  obtain ⟨xs, m, _, _, _, hxs, hf⟩ := DataW.trod_struct Tryz.underlying24 h
  match cs, hl with
  | [c0, c1, c2], _ =>
    match xs, hxs with
    | [z0, z1, z2], _ =>
      have f0 : DataW.trod enc Tryz.prog w 0 (fun _ => true) true m 3 [c0] = some z0 := by have := hf 0 _ rfl; simpa [cellsInt, cellsFlaw, cellsTime, cellsMach, cellsSCell, cellsSInt, cellsSFile, cellsSConn, cellsSLis, cellsSWait, cellsSOut, cellsKind, cellsErrno, cellsWhy] using this
      have f1 : DataW.trod enc Tryz.prog w 0 (fun _ => true) true m 22 [c1] = some z1 := by have := hf 1 _ rfl; simpa [cellsInt, cellsFlaw, cellsTime, cellsMach, cellsSCell, cellsSInt, cellsSFile, cellsSConn, cellsSLis, cellsSWait, cellsSOut, cellsKind, cellsErrno, cellsWhy] using this
      have f2 : DataW.trod enc Tryz.prog w 0 (fun _ => true) true m 3 [c2] = some z2 := by have := hf 2 _ rfl; simpa [cellsInt, cellsFlaw, cellsTime, cellsMach, cellsSCell, cellsSInt, cellsSFile, cellsSConn, cellsSLis, cellsSWait, cellsSOut, cellsKind, cellsErrno, cellsWhy] using this
      obtain ⟨x0, e0, _, w0⟩ := DataW.trod_int Tryz.underlying3 f0
      obtain ⟨x1, e1, _, w1⟩ := DataW.trod_int Tryz.underlying22 f1
      obtain ⟨x2, e2, _, w2⟩ := DataW.trod_int Tryz.underlying3 f2
      simp only [List.cons.injEq, and_true] at e0 e1 e2
      subst e0
      subst e1
      subst e2
      exact ⟨x0, x1, x2, rfl, i64_bd w0, i64_bd w1, i64_bd w2⟩
theorem ex_of {H : Type} {enc : TypeId × Value → H} {w : World} {n : Nat} {cs : List Value} {y : DataW H × List MemPlace} (hl : cs.length = 4) (h : DataW.trod enc Tryz.prog w 0 (fun _ => true) true n 27 cs = some y) :
    ∃ (s r l : Int) (so : Sl), cs = [.int .i64 s, .int .i64 r, .int .i64 l, .slice so.1 so.2.1 so.2.2] ∧ I64 s ∧ I64 r ∧ I64 l ∧ ∃ m z, DataW.trod enc Tryz.prog w 0 (fun _ => true) true m 25 [.slice so.1 so.2.1 so.2.2] = some z := by
  obtain ⟨xs, m, _, _, _, hxs, hf⟩ := DataW.trod_struct Tryz.underlying27 h
  match cs, hl with
  | [c0, c1, c2, c3], _ =>
    match xs, hxs with
    | [z0, z1, z2, z3], _ =>
      have f0 : DataW.trod enc Tryz.prog w 0 (fun _ => true) true m 3 [c0] = some z0 := by have := hf 0 _ rfl; simpa [cellsInt, cellsFlaw, cellsTime, cellsMach, cellsSCell, cellsSInt, cellsSFile, cellsSConn, cellsSLis, cellsSWait, cellsSOut, cellsKind, cellsErrno, cellsWhy] using this
      have f1 : DataW.trod enc Tryz.prog w 0 (fun _ => true) true m 3 [c1] = some z1 := by have := hf 1 _ rfl; simpa [cellsInt, cellsFlaw, cellsTime, cellsMach, cellsSCell, cellsSInt, cellsSFile, cellsSConn, cellsSLis, cellsSWait, cellsSOut, cellsKind, cellsErrno, cellsWhy] using this
      have f2 : DataW.trod enc Tryz.prog w 0 (fun _ => true) true m 3 [c2] = some z2 := by have := hf 2 _ rfl; simpa [cellsInt, cellsFlaw, cellsTime, cellsMach, cellsSCell, cellsSInt, cellsSFile, cellsSConn, cellsSLis, cellsSWait, cellsSOut, cellsKind, cellsErrno, cellsWhy] using this
      have f3 : DataW.trod enc Tryz.prog w 0 (fun _ => true) true m 25 [c3] = some z3 := by have := hf 3 _ rfl; simpa [cellsInt, cellsFlaw, cellsTime, cellsMach, cellsSCell, cellsSInt, cellsSFile, cellsSConn, cellsSLis, cellsSWait, cellsSOut, cellsKind, cellsErrno, cellsWhy] using this
      obtain ⟨x0, e0, _, w0⟩ := DataW.trod_int Tryz.underlying3 f0
      obtain ⟨x1, e1, _, w1⟩ := DataW.trod_int Tryz.underlying3 f1
      obtain ⟨x2, e2, _, w2⟩ := DataW.trod_int Tryz.underlying3 f2
      obtain ⟨a3, n3, p3, rfl⟩ := slice_of Tryz.underlying25 f3
      simp only [List.cons.injEq, and_true] at e0 e1 e2
      subst e0
      subst e1
      subst e2
      exact ⟨x0, x1, x2, (a3, n3, p3), rfl, i64_bd w0, i64_bd w1, i64_bd w2, _, _, f3⟩
theorem tk_of {H : Type} {enc : TypeId × Value → H} {w : World} {n : Nat} {cs : List Value} {y : DataW H × List MemPlace} (hl : cs.length = 8) (h : DataW.trod enc Tryz.prog w 0 (fun _ => true) true n 58 cs = some y) :
    ∃ x : Tk, cs = [.int .i64 x.t, .int .i64 x.calls, .int .i64 x.refused, .int .i64 x.steps, .int .i64 x.ended, .int .i64 x.failed, .int .i64 x.read, .int .i64 x.written] ∧ x.wf := by
  obtain ⟨xs, m, _, _, _, hxs, hf⟩ := DataW.trod_struct Tryz.underlying58 h
  match cs, hl with
  | [c0, c1, c2, c3, c4, c5, c6, c7], _ =>
    match xs, hxs with
    | [z0, z1, z2, z3, z4, z5, z6, z7], _ =>
      have f0 : DataW.trod enc Tryz.prog w 0 (fun _ => true) true m 3 [c0] = some z0 := by have := hf 0 _ rfl; simpa [cellsInt, cellsFlaw, cellsTime, cellsMach, cellsSCell, cellsSInt, cellsSFile, cellsSConn, cellsSLis, cellsSWait, cellsSOut, cellsKind, cellsErrno, cellsWhy] using this
      have f1 : DataW.trod enc Tryz.prog w 0 (fun _ => true) true m 3 [c1] = some z1 := by have := hf 1 _ rfl; simpa [cellsInt, cellsFlaw, cellsTime, cellsMach, cellsSCell, cellsSInt, cellsSFile, cellsSConn, cellsSLis, cellsSWait, cellsSOut, cellsKind, cellsErrno, cellsWhy] using this
      have f2 : DataW.trod enc Tryz.prog w 0 (fun _ => true) true m 3 [c2] = some z2 := by have := hf 2 _ rfl; simpa [cellsInt, cellsFlaw, cellsTime, cellsMach, cellsSCell, cellsSInt, cellsSFile, cellsSConn, cellsSLis, cellsSWait, cellsSOut, cellsKind, cellsErrno, cellsWhy] using this
      have f3 : DataW.trod enc Tryz.prog w 0 (fun _ => true) true m 3 [c3] = some z3 := by have := hf 3 _ rfl; simpa [cellsInt, cellsFlaw, cellsTime, cellsMach, cellsSCell, cellsSInt, cellsSFile, cellsSConn, cellsSLis, cellsSWait, cellsSOut, cellsKind, cellsErrno, cellsWhy] using this
      have f4 : DataW.trod enc Tryz.prog w 0 (fun _ => true) true m 3 [c4] = some z4 := by have := hf 4 _ rfl; simpa [cellsInt, cellsFlaw, cellsTime, cellsMach, cellsSCell, cellsSInt, cellsSFile, cellsSConn, cellsSLis, cellsSWait, cellsSOut, cellsKind, cellsErrno, cellsWhy] using this
      have f5 : DataW.trod enc Tryz.prog w 0 (fun _ => true) true m 3 [c5] = some z5 := by have := hf 5 _ rfl; simpa [cellsInt, cellsFlaw, cellsTime, cellsMach, cellsSCell, cellsSInt, cellsSFile, cellsSConn, cellsSLis, cellsSWait, cellsSOut, cellsKind, cellsErrno, cellsWhy] using this
      have f6 : DataW.trod enc Tryz.prog w 0 (fun _ => true) true m 3 [c6] = some z6 := by have := hf 6 _ rfl; simpa [cellsInt, cellsFlaw, cellsTime, cellsMach, cellsSCell, cellsSInt, cellsSFile, cellsSConn, cellsSLis, cellsSWait, cellsSOut, cellsKind, cellsErrno, cellsWhy] using this
      have f7 : DataW.trod enc Tryz.prog w 0 (fun _ => true) true m 3 [c7] = some z7 := by have := hf 7 _ rfl; simpa [cellsInt, cellsFlaw, cellsTime, cellsMach, cellsSCell, cellsSInt, cellsSFile, cellsSConn, cellsSLis, cellsSWait, cellsSOut, cellsKind, cellsErrno, cellsWhy] using this
      obtain ⟨x0, e0, _, w0⟩ := DataW.trod_int Tryz.underlying3 f0
      obtain ⟨x1, e1, _, w1⟩ := DataW.trod_int Tryz.underlying3 f1
      obtain ⟨x2, e2, _, w2⟩ := DataW.trod_int Tryz.underlying3 f2
      obtain ⟨x3, e3, _, w3⟩ := DataW.trod_int Tryz.underlying3 f3
      obtain ⟨x4, e4, _, w4⟩ := DataW.trod_int Tryz.underlying3 f4
      obtain ⟨x5, e5, _, w5⟩ := DataW.trod_int Tryz.underlying3 f5
      obtain ⟨x6, e6, _, w6⟩ := DataW.trod_int Tryz.underlying3 f6
      obtain ⟨x7, e7, _, w7⟩ := DataW.trod_int Tryz.underlying3 f7
      simp only [List.cons.injEq, and_true] at e0 e1 e2 e3 e4 e5 e6 e7
      subst e0
      subst e1
      subst e2
      subst e3
      subst e4
      subst e5
      subst e6
      subst e7
      exact ⟨⟨x0, x1, x2, x3, x4, x5, x6, x7⟩, rfl, i64_bd w0, fun n hn => by
        simp only [Tk.nums, List.mem_cons, List.not_mem_nil, or_false] at hn
        rcases hn with rfl | rfl | rfl | rfl | rfl | rfl | rfl
        · exact i64_bd w1
        · exact i64_bd w2
        · exact i64_bd w3
        · exact i64_bd w4
        · exact i64_bd w5
        · exact i64_bd w6
        · exact i64_bd w7⟩
theorem cd_of {H : Type} {enc : TypeId × Value → H} {w : World} {n : Nat} {cs : List Value} {y : DataW H × List MemPlace} (hl : cs.length = 3) (h : DataW.trod enc Tryz.prog w 0 (fun _ => true) true n 62 cs = some y) :
    ∃ x : Cd, cs = [.int .i64 x.call, .int .i64 x.err, .int .i64 x.n] ∧ x.wf := by
  obtain ⟨xs, m, _, _, _, hxs, hf⟩ := DataW.trod_struct Tryz.underlying62 h
  match cs, hl with
  | [c0, c1, c2], _ =>
    match xs, hxs with
    | [z0, z1, z2], _ =>
      have f0 : DataW.trod enc Tryz.prog w 0 (fun _ => true) true m 29 [c0] = some z0 := by have := hf 0 _ rfl; simpa [cellsInt, cellsFlaw, cellsTime, cellsMach, cellsSCell, cellsSInt, cellsSFile, cellsSConn, cellsSLis, cellsSWait, cellsSOut, cellsKind, cellsErrno, cellsWhy] using this
      have f1 : DataW.trod enc Tryz.prog w 0 (fun _ => true) true m 28 [c1] = some z1 := by have := hf 1 _ rfl; simpa [cellsInt, cellsFlaw, cellsTime, cellsMach, cellsSCell, cellsSInt, cellsSFile, cellsSConn, cellsSLis, cellsSWait, cellsSOut, cellsKind, cellsErrno, cellsWhy] using this
      have f2 : DataW.trod enc Tryz.prog w 0 (fun _ => true) true m 3 [c2] = some z2 := by have := hf 2 _ rfl; simpa [cellsInt, cellsFlaw, cellsTime, cellsMach, cellsSCell, cellsSInt, cellsSFile, cellsSConn, cellsSLis, cellsSWait, cellsSOut, cellsKind, cellsErrno, cellsWhy] using this
      obtain ⟨x0, e0, _, w0⟩ := DataW.trod_int Tryz.underlying29 f0
      obtain ⟨x1, e1, _, w1⟩ := DataW.trod_int Tryz.underlying28 f1
      obtain ⟨x2, e2, _, w2⟩ := DataW.trod_int Tryz.underlying3 f2
      simp only [List.cons.injEq, and_true] at e0 e1 e2
      subst e0
      subst e1
      subst e2
      exact ⟨⟨x0, x1, x2⟩, rfl, i64_bd w0, i64_bd w1, i64_bd w2⟩
theorem bk_of {H : Type} {enc : TypeId × Value → H} {w : World} {n : Nat} {cs : List Value} {y : DataW H × List MemPlace} (hl : cs.length = 3) (h : DataW.trod enc Tryz.prog w 0 (fun _ => true) true n 67 cs = some y) :
    ∃ x : Bk, cs = [.int .i64 x.t, .int .i64 x.why, .int .u64 x.till] ∧ x.wf := by
  obtain ⟨xs, m, _, _, _, hxs, hf⟩ := DataW.trod_struct Tryz.underlying67 h
  match cs, hl with
  | [c0, c1, c2], _ =>
    match xs, hxs with
    | [z0, z1, z2], _ =>
      have f0 : DataW.trod enc Tryz.prog w 0 (fun _ => true) true m 3 [c0] = some z0 := by have := hf 0 _ rfl; simpa [cellsInt, cellsFlaw, cellsTime, cellsMach, cellsSCell, cellsSInt, cellsSFile, cellsSConn, cellsSLis, cellsSWait, cellsSOut, cellsKind, cellsErrno, cellsWhy] using this
      have f1 : DataW.trod enc Tryz.prog w 0 (fun _ => true) true m 65 [c1] = some z1 := by have := hf 1 _ rfl; simpa [cellsInt, cellsFlaw, cellsTime, cellsMach, cellsSCell, cellsSInt, cellsSFile, cellsSConn, cellsSLis, cellsSWait, cellsSOut, cellsKind, cellsErrno, cellsWhy] using this
      have f2 : DataW.trod enc Tryz.prog w 0 (fun _ => true) true m 39 [c2] = some z2 := by have := hf 2 _ rfl; simpa [cellsInt, cellsFlaw, cellsTime, cellsMach, cellsSCell, cellsSInt, cellsSFile, cellsSConn, cellsSLis, cellsSWait, cellsSOut, cellsKind, cellsErrno, cellsWhy] using this
      obtain ⟨x0, e0, _, w0⟩ := DataW.trod_int Tryz.underlying3 f0
      obtain ⟨x1, e1, _, w1⟩ := DataW.trod_int Tryz.underlying65 f1
      obtain ⟨x2, e2, _, w2⟩ := DataW.trod_int Tryz.underlying39 f2
      simp only [List.cons.injEq, and_true] at e0 e1 e2
      subst e0
      subst e1
      subst e2
      exact ⟨⟨x0, x1, x2⟩, rfl, i64_bd w0, i64_bd w1, (u64_bd w2).1, (u64_bd w2).2⟩
theorem choose_list {α : Type} {p : Nat → α → Prop} : ∀ (n : Nat), (∀ i, i < n → ∃ x, p i x) → ∃ l : List α, l.length = n ∧ ∀ (i : Nat) x, l[i]? = some x → p i x
  | 0, _ => ⟨[], rfl, fun i x h => by simp at h⟩
  | n + 1, h => by
    obtain ⟨l, hl, hp⟩ := choose_list n (fun i hi => h i (by omega))
    obtain ⟨x, hx⟩ := h n (by omega)
    refine ⟨l ++ [x], by simp [hl], fun i y hy => ?_⟩
    rw [List.getElem?_append] at hy
    split at hy
    · exact hp i y hy
    · rename_i hi
      have hin : i - l.length = 0 := by
        rcases Nat.eq_zero_or_pos (i - l.length) with e | e
        · exact e
        · rw [List.getElem?_eq_none (by simp; omega)] at hy
          cases hy
      rw [hin] at hy
      simp only [List.getElem?_cons_zero, Option.some.injEq] at hy
      subst hy
      have : i = n := by omega
      subst this
      exact hx
theorem ints_of {H : Type} {enc : TypeId × Value → H} {w : World} {fuel : Nat} {sa : Option Addr} {n c : Nat} {x : DataW H × List MemPlace} (h : DataW.trod enc Tryz.prog w 0 (fun _ => true) true fuel 41 [.slice sa n c] = some x) :
    ∃ l : List Int, l.length = n ∧ IntRow w (.slice sa n c) l ∧ ∀ a ∈ l, I64 a := by
  rcases laws.open_rows Tryz.underlying41 cellsInt (by omega) h with ⟨rfl, rfl, rfl⟩ | ⟨hl, hm, a, rfl, hz | ⟨b, off, rfl, hrows⟩⟩
  · exact ⟨[], rfl, .inl ⟨rfl, _, _, rfl⟩, fun f hf => by cases hf⟩
  · subst hz
    exact ⟨[], rfl, .inl ⟨rfl, _, _, rfl⟩, fun f hf => by cases hf⟩
  · have hx : ∀ i, i < n → ∃ x : Int, (w.cell? ⟨b, off + i, none⟩ = some (.int .i64 x)) ∧ I64 x := by
      intro i hi
      obtain ⟨cs, m, y, hlen, hcell, hy⟩ := hrows i hi
      match cs, hlen with
      | [c0], _ =>
        obtain ⟨x, e, _, wx⟩ := DataW.trod_int Tryz.underlying3 hy
        simp only [List.cons.injEq, and_true] at e
        subst e
        refine ⟨x, ?_, i64_bd wx⟩
        have := hcell 0 (by omega)
        simpa using this
    obtain ⟨fs, hlen, hp⟩ := choose_list n hx
    refine ⟨fs, hlen, ?_, fun f hf => ?_⟩
    · by_cases h0 : n = 0
      · subst h0
        exact .inl ⟨List.length_eq_zero_iff.1 hlen, _, _, rfl⟩
      · obtain ⟨x0, hx0⟩ : ∃ x, fs[0]? = some x := ⟨_, List.getElem?_eq_getElem (by omega)⟩
        exact .inr ⟨b, off, c, by rw [hlen], cell_lt (hp 0 x0 hx0).1, fun i x hx => (hp i x hx).1⟩
    · obtain ⟨i, hi, rfl⟩ := List.getElem_of_mem hf
      exact (hp i _ (List.getElem?_eq_getElem hi)).2
theorem tks_of {H : Type} {enc : TypeId × Value → H} {w : World} {fuel : Nat} {sa : Option Addr} {n c : Nat} {x : DataW H × List MemPlace} (h : DataW.trod enc Tryz.prog w 0 (fun _ => true) true fuel 52 [.slice sa n c] = some x) :
    ∃ l : List Tk, l.length = n ∧ TkRow w (.slice sa n c) l ∧ ∀ a ∈ l, a.wf := by
  rcases laws.open_rows Tryz.underlying52 cellsTk (by omega) h with ⟨rfl, rfl, rfl⟩ | ⟨hl, hm, a, rfl, hz | ⟨b, off, rfl, hrows⟩⟩
  · exact ⟨[], rfl, .inl ⟨rfl, _, _, rfl⟩, fun f hf => by cases hf⟩
  · subst hz
    exact ⟨[], rfl, .inl ⟨rfl, _, _, rfl⟩, fun f hf => by cases hf⟩
  · have hx : ∀ i, i < n → ∃ x : Tk, (w.cell? ⟨b, off + i * 8, none⟩ = some (.int .i64 x.t) ∧ w.cell? ⟨b, off + i * 8 + 1, none⟩ = some (.int .i64 x.calls) ∧ w.cell? ⟨b, off + i * 8 + 2, none⟩ = some (.int .i64 x.refused) ∧ w.cell? ⟨b, off + i * 8 + 3, none⟩ = some (.int .i64 x.steps) ∧ w.cell? ⟨b, off + i * 8 + 4, none⟩ = some (.int .i64 x.ended) ∧ w.cell? ⟨b, off + i * 8 + 5, none⟩ = some (.int .i64 x.failed) ∧ w.cell? ⟨b, off + i * 8 + 6, none⟩ = some (.int .i64 x.read) ∧ w.cell? ⟨b, off + i * 8 + 7, none⟩ = some (.int .i64 x.written)) ∧ x.wf := by
      intro i hi
      obtain ⟨cs, m, y, hlen, hcell, hy⟩ := hrows i hi
      obtain ⟨x, rfl, hb⟩ := tk_of hlen hy
      exact ⟨x, ⟨hcell 0 (by omega), hcell 1 (by omega), hcell 2 (by omega), hcell 3 (by omega), hcell 4 (by omega), hcell 5 (by omega), hcell 6 (by omega), hcell 7 (by omega)⟩, hb⟩
    obtain ⟨fs, hlen, hp⟩ := choose_list n hx
    refine ⟨fs, hlen, ?_, fun f hf => ?_⟩
    · by_cases h0 : n = 0
      · subst h0
        exact .inl ⟨List.length_eq_zero_iff.1 hlen, _, _, rfl⟩
      · obtain ⟨x0, hx0⟩ : ∃ x, fs[0]? = some x := ⟨_, List.getElem?_eq_getElem (by omega)⟩
        exact .inr ⟨b, off, c, by rw [hlen], cell_lt (hp 0 x0 hx0).1.1, fun i x hx => (hp i x hx).1⟩
    · obtain ⟨i, hi, rfl⟩ := List.getElem_of_mem hf
      exact (hp i _ (List.getElem?_eq_getElem hi)).2
theorem cds_of {H : Type} {enc : TypeId × Value → H} {w : World} {fuel : Nat} {sa : Option Addr} {n c : Nat} {x : DataW H × List MemPlace} (h : DataW.trod enc Tryz.prog w 0 (fun _ => true) true fuel 53 [.slice sa n c] = some x) :
    ∃ l : List Cd, l.length = n ∧ CdRow w (.slice sa n c) l ∧ ∀ a ∈ l, a.wf := by
  rcases laws.open_rows Tryz.underlying53 cellsCd (by omega) h with ⟨rfl, rfl, rfl⟩ | ⟨hl, hm, a, rfl, hz | ⟨b, off, rfl, hrows⟩⟩
  · exact ⟨[], rfl, .inl ⟨rfl, _, _, rfl⟩, fun f hf => by cases hf⟩
  · subst hz
    exact ⟨[], rfl, .inl ⟨rfl, _, _, rfl⟩, fun f hf => by cases hf⟩
  · have hx : ∀ i, i < n → ∃ x : Cd, (w.cell? ⟨b, off + i * 3, none⟩ = some (.int .i64 x.call) ∧ w.cell? ⟨b, off + i * 3 + 1, none⟩ = some (.int .i64 x.err) ∧ w.cell? ⟨b, off + i * 3 + 2, none⟩ = some (.int .i64 x.n)) ∧ x.wf := by
      intro i hi
      obtain ⟨cs, m, y, hlen, hcell, hy⟩ := hrows i hi
      obtain ⟨x, rfl, hb⟩ := cd_of hlen hy
      exact ⟨x, ⟨hcell 0 (by omega), hcell 1 (by omega), hcell 2 (by omega)⟩, hb⟩
    obtain ⟨fs, hlen, hp⟩ := choose_list n hx
    refine ⟨fs, hlen, ?_, fun f hf => ?_⟩
    · by_cases h0 : n = 0
      · subst h0
        exact .inl ⟨List.length_eq_zero_iff.1 hlen, _, _, rfl⟩
      · obtain ⟨x0, hx0⟩ : ∃ x, fs[0]? = some x := ⟨_, List.getElem?_eq_getElem (by omega)⟩
        exact .inr ⟨b, off, c, by rw [hlen], cell_lt (hp 0 x0 hx0).1.1, fun i x hx => (hp i x hx).1⟩
    · obtain ⟨i, hi, rfl⟩ := List.getElem_of_mem hf
      exact (hp i _ (List.getElem?_eq_getElem hi)).2
theorem bks_of {H : Type} {enc : TypeId × Value → H} {w : World} {fuel : Nat} {sa : Option Addr} {n c : Nat} {x : DataW H × List MemPlace} (h : DataW.trod enc Tryz.prog w 0 (fun _ => true) true fuel 54 [.slice sa n c] = some x) :
    ∃ l : List Bk, l.length = n ∧ BkRow w (.slice sa n c) l ∧ ∀ a ∈ l, a.wf := by
  rcases laws.open_rows Tryz.underlying54 cellsBk (by omega) h with ⟨rfl, rfl, rfl⟩ | ⟨hl, hm, a, rfl, hz | ⟨b, off, rfl, hrows⟩⟩
  · exact ⟨[], rfl, .inl ⟨rfl, _, _, rfl⟩, fun f hf => by cases hf⟩
  · subst hz
    exact ⟨[], rfl, .inl ⟨rfl, _, _, rfl⟩, fun f hf => by cases hf⟩
  · have hx : ∀ i, i < n → ∃ x : Bk, (w.cell? ⟨b, off + i * 3, none⟩ = some (.int .i64 x.t) ∧ w.cell? ⟨b, off + i * 3 + 1, none⟩ = some (.int .i64 x.why) ∧ w.cell? ⟨b, off + i * 3 + 2, none⟩ = some (.int .u64 x.till)) ∧ x.wf := by
      intro i hi
      obtain ⟨cs, m, y, hlen, hcell, hy⟩ := hrows i hi
      obtain ⟨x, rfl, hb⟩ := bk_of hlen hy
      exact ⟨x, ⟨hcell 0 (by omega), hcell 1 (by omega), hcell 2 (by omega)⟩, hb⟩
    obtain ⟨fs, hlen, hp⟩ := choose_list n hx
    refine ⟨fs, hlen, ?_, fun f hf => ?_⟩
    · by_cases h0 : n = 0
      · subst h0
        exact .inl ⟨List.length_eq_zero_iff.1 hlen, _, _, rfl⟩
      · obtain ⟨x0, hx0⟩ : ∃ x, fs[0]? = some x := ⟨_, List.getElem?_eq_getElem (by omega)⟩
        exact .inr ⟨b, off, c, by rw [hlen], cell_lt (hp 0 x0 hx0).1.1, fun i x hx => (hp i x hx).1⟩
    · obtain ⟨i, hi, rfl⟩ := List.getElem_of_mem hf
      exact (hp i _ (List.getElem?_eq_getElem hi)).2
theorem ocs_of {H : Type} {enc : TypeId × Value → H} {w : World} {fuel : Nat} {sa : Option Addr} {n c : Nat} {x : DataW H × List MemPlace} (h : DataW.trod enc Tryz.prog w 0 (fun _ => true) true fuel 25 [.slice sa n c] = some x) :
    ∃ l : List Oc, l.length = n ∧ OcRow w (.slice sa n c) l ∧ ∀ a ∈ l, (I64 a.runs ∧ ∀ p ∈ a.picks, I64 p) := by
  rcases laws.open_rows Tryz.underlying25 cellsOut (by omega) h with ⟨rfl, rfl, rfl⟩ | ⟨hl, hm, a, rfl, hz | ⟨b, off, rfl, hrows⟩⟩
  · exact ⟨[], rfl, .inl ⟨rfl, _, _, rfl⟩, fun f hf => by cases hf⟩
  · subst hz
    exact ⟨[], rfl, .inl ⟨rfl, _, _, rfl⟩, fun f hf => by cases hf⟩
  · have hx : ∀ i, i < n → ∃ x : Oc, (OcAt w b (off + i * 11) x) ∧ (I64 x.runs ∧ ∀ p ∈ x.picks, I64 p) := by
      intro i hi
      obtain ⟨cs, m, y, hlen, hcell, hy⟩ := hrows i hi
      obtain ⟨t0, s1, s2, s3, s4, s5, s6, s7, r, sp, s8, rfl, hr, m2, z, hz⟩ := out_of hlen hy
      obtain ⟨ps, hpl, hprow, hpw⟩ := ints_of hz
      exact ⟨⟨r, ps⟩, ⟨t0, s1, s2, s3, s4, s5, s6, s7, _, s8, hprow, hcell 0 (by omega), hcell 1 (by omega), hcell 2 (by omega), hcell 3 (by omega), hcell 4 (by omega), hcell 5 (by omega), hcell 6 (by omega), hcell 7 (by omega), hcell 8 (by omega), hcell 9 (by omega), hcell 10 (by omega)⟩, hr, hpw⟩
    obtain ⟨fs, hlen, hp⟩ := choose_list n hx
    refine ⟨fs, hlen, ?_, fun f hf => ?_⟩
    · by_cases h0 : n = 0
      · subst h0
        exact .inl ⟨List.length_eq_zero_iff.1 hlen, _, _, rfl⟩
      · obtain ⟨x0, hx0⟩ : ∃ x, fs[0]? = some x := ⟨_, List.getElem?_eq_getElem (by omega)⟩
        exact .inr ⟨b, off, c, by rw [hlen], (by obtain ⟨t0, s1, s2, s3, s4, s5, s6, s7, pv, s8, _, hc, _⟩ := (hp 0 x0 hx0).1; exact cell_lt hc), fun i x hx => (hp i x hx).1⟩
    · obtain ⟨i, hi, rfl⟩ := List.getElem_of_mem hf
      exact (hp i _ (List.getElem?_eq_getElem hi)).2
theorem open_ck {H : Type} {enc : TypeId × Value → H} {W : World} {r : Reach} {base : Nat} {v : Value} {d : DataW H} {ps : List MemPlace} (hval : Value.okWide Tryz.prog W r base 24 v) (h : DataW.Trod enc Tryz.prog W 0 (fun _ => true) true 24 v d ps) :
    ∃ p f b : Int, v = .agg #[.int .i64 p, .int .i64 f, .int .i64 b] ∧ I64 p ∧ I64 f ∧ I64 b := by
  obtain ⟨cs, rfl, hc⟩ := okWide_struct Tryz.underlying24 hval
  obtain ⟨n, hn⟩ := h
  obtain ⟨p, f, b, e, rest⟩ := ck_of (by simpa [cellsCk, Value.cells] using hc) hn
  refine ⟨p, f, b, ?_, rest⟩
  have : cs = #[.int .i64 p, .int .i64 f, .int .i64 b] := by
    cases cs
    simpa [Value.cells] using e
  rw [this]
theorem open_ex {H : Type} {enc : TypeId × Value → H} {W : World} {r : Reach} {base : Nat} {v : Value} {d : DataW H} {ps : List MemPlace} (hval : Value.okWide Tryz.prog W r base 27 v) (h : DataW.Trod enc Tryz.prog W 0 (fun _ => true) true 27 v d ps) :
    ∃ (s q l : Int) (a : Option Addr) (cap : Nat) (ends : List Oc), v = .agg #[.int .i64 s, .int .i64 q, .int .i64 l, .slice a ends.length cap] ∧ (I64 s ∧ I64 q ∧ I64 l) ∧ OcRow W (.slice a ends.length cap) ends ∧ ∀ o ∈ ends, I64 o.runs ∧ ∀ p ∈ o.picks, I64 p := by
  obtain ⟨cs, rfl, hc⟩ := okWide_struct Tryz.underlying27 hval
  obtain ⟨n, hn⟩ := h
  obtain ⟨s, q, l, so, e, h1, h2, h3, m, z, hz⟩ := ex_of (by simpa [cellsEx, Value.cells] using hc) hn
  obtain ⟨ends, hlen, hrow, hw⟩ := ocs_of hz
  refine ⟨s, q, l, so.1, so.2.2, ends, ?_, ⟨h1, h2, h3⟩, by rw [hlen]; exact hrow, hw⟩
  have : cs = #[.int .i64 s, .int .i64 q, .int .i64 l, .slice so.1 so.2.1 so.2.2] := by
    cases cs
    simpa [Value.cells] using e
  rw [this, hlen]
end Go.Proofs.YtllmejkcohfbiaaGreatDoor
namespace Go.Proofs.YtllmejkcohfbiaaGreatDoor
open Go.ChangeShapes Go.WideShapes Go.ChangeAt Go.RowKit
set_option linter.unusedVariables false
set_option maxRecDepth 100000
set_option maxHeartbeats 4000000

theorem cellsFD : Tryz.prog.cellsOf 92 = 2 := by kernel_rfl
theorem cellsAddr : Tryz.prog.cellsOf 94 = 2 := by kernel_rfl
theorem cellsSS : Tryz.prog.cellsOf 95 = 1 := by kernel_rfl
theorem cellsSB : Tryz.prog.cellsOf 99 = 1 := by kernel_rfl
theorem cellsDir : Tryz.prog.cellsOf 96 = 1 := by kernel_rfl
theorem cellsCall : Tryz.prog.cellsOf 98 = 12 := by kernel_rfl
theorem cellsComp : Tryz.prog.cellsOf 101 = 12 := by kernel_rfl
theorem cellsOK : Tryz.prog.cellsOf 90 = 1 := by kernel_rfl
theorem cellsEv : Tryz.prog.cellsOf 103 = 30 := by kernel_rfl
theorem cellsStr : Tryz.prog.cellsOf 9 = 1 := by kernel_rfl
theorem cellsBool : Tryz.prog.cellsOf 4 = 1 := by kernel_rfl
theorem fd_of {H : Type} {enc : TypeId × Value → H} {w : World} {n : Nat} {cs : List Value} {y : DataW H × List MemPlace} (hl : cs.length = 2) (h : DataW.trod enc Tryz.prog w 0 (fun _ => true) true n 92 cs = some y) :
    ∃ a b : Int, cs = [.int .i64 a, .int .i64 b] := by
  obtain ⟨xs, m, _, _, _, hxs, hf⟩ := DataW.trod_struct Tryz.underlying92 h
  match cs, hl with
  | [c0, c1], _ =>
    match xs, hxs with
    | [z0, z1], _ =>
      have f0 : DataW.trod enc Tryz.prog w 0 (fun _ => true) true m 3 [c0] = some z0 := by have := hf 0 _ rfl; simpa [cellsInt, cellsTime, cellsSInt, cellsKind, cellsErrno, cellsFD, cellsAddr, cellsSS, cellsSB, cellsDir, cellsCall, cellsComp, cellsOK, cellsEv, cellsStr, cellsBool] using this
      have f1 : DataW.trod enc Tryz.prog w 0 (fun _ => true) true m 3 [c1] = some z1 := by have := hf 1 _ rfl; simpa [cellsInt, cellsTime, cellsSInt, cellsKind, cellsErrno, cellsFD, cellsAddr, cellsSS, cellsSB, cellsDir, cellsCall, cellsComp, cellsOK, cellsEv, cellsStr, cellsBool] using this
      obtain ⟨x0, e0, _, w0⟩ := DataW.trod_int Tryz.underlying3 f0
      simp only [List.cons.injEq, and_true] at e0
      subst e0
      obtain ⟨x1, e1, _, w1⟩ := DataW.trod_int Tryz.underlying3 f1
      simp only [List.cons.injEq, and_true] at e1
      subst e1
      exact ⟨x0, x1, rfl⟩
theorem addr_of {H : Type} {enc : TypeId × Value → H} {w : World} {n : Nat} {cs : List Value} {y : DataW H × List MemPlace} (hl : cs.length = 2) (h : DataW.trod enc Tryz.prog w 0 (fun _ => true) true n 94 cs = some y) :
    ∃ (s : ByteArray) (b : Int), cs = [.string s, .int .i64 b] := by
  obtain ⟨xs, m, _, _, _, hxs, hf⟩ := DataW.trod_struct Tryz.underlying94 h
  match cs, hl with
  | [c0, c1], _ =>
    match xs, hxs with
    | [z0, z1], _ =>
      have f0 : DataW.trod enc Tryz.prog w 0 (fun _ => true) true m 9 [c0] = some z0 := by have := hf 0 _ rfl; simpa [cellsInt, cellsTime, cellsSInt, cellsKind, cellsErrno, cellsFD, cellsAddr, cellsSS, cellsSB, cellsDir, cellsCall, cellsComp, cellsOK, cellsEv, cellsStr, cellsBool] using this
      have f1 : DataW.trod enc Tryz.prog w 0 (fun _ => true) true m 3 [c1] = some z1 := by have := hf 1 _ rfl; simpa [cellsInt, cellsTime, cellsSInt, cellsKind, cellsErrno, cellsFD, cellsAddr, cellsSS, cellsSB, cellsDir, cellsCall, cellsComp, cellsOK, cellsEv, cellsStr, cellsBool] using this
      obtain ⟨x0, e0, _, _⟩ := DataW.trod_string Tryz.underlying9 f0
      simp only [List.cons.injEq, and_true] at e0
      subst e0
      obtain ⟨x1, e1, _, w1⟩ := DataW.trod_int Tryz.underlying3 f1
      simp only [List.cons.injEq, and_true] at e1
      subst e1
      exact ⟨x0, x1, rfl⟩
theorem call_of {H : Type} {enc : TypeId × Value → H} {w : World} {n : Nat} {cs : List Value} {y : DataW H × List MemPlace} (hl : cs.length = 12) (h : DataW.trod enc Tryz.prog w 0 (fun _ => true) true n 98 cs = some y) :
    ∃ (k f1 f2 t1 t2 : Int) (s : ByteArray) (p : Int) (d : Sl) (m n r t : Int), cs = [.int .i64 k, .int .i64 f1, .int .i64 f2, .int .i64 t1, .int .i64 t2, .string s, .int .i64 p, .slice d.1 d.2.1 d.2.2, .int .i64 m, .int .i64 n, .int .i64 r, .int .u64 t] := by
  obtain ⟨xs, m, _, _, _, hxs, hf⟩ := DataW.trod_struct Tryz.underlying98 h
  match cs, hl with
  | [c0, c1, c2, c3, c4, c5, c6, c7, c8, c9, c10, c11], _ =>
    match xs, hxs with
    | [z0, z1, z2, z3, z4, z5, z6, z7, z8], _ =>
      have f0 : DataW.trod enc Tryz.prog w 0 (fun _ => true) true m 29 [c0] = some z0 := by have := hf 0 _ rfl; simpa [cellsInt, cellsTime, cellsSInt, cellsKind, cellsErrno, cellsFD, cellsAddr, cellsSS, cellsSB, cellsDir, cellsCall, cellsComp, cellsOK, cellsEv, cellsStr, cellsBool] using this
      have f1 : DataW.trod enc Tryz.prog w 0 (fun _ => true) true m 92 [c1, c2] = some z1 := by have := hf 1 _ rfl; simpa [cellsInt, cellsTime, cellsSInt, cellsKind, cellsErrno, cellsFD, cellsAddr, cellsSS, cellsSB, cellsDir, cellsCall, cellsComp, cellsOK, cellsEv, cellsStr, cellsBool] using this
      have f2 : DataW.trod enc Tryz.prog w 0 (fun _ => true) true m 92 [c3, c4] = some z2 := by have := hf 2 _ rfl; simpa [cellsInt, cellsTime, cellsSInt, cellsKind, cellsErrno, cellsFD, cellsAddr, cellsSS, cellsSB, cellsDir, cellsCall, cellsComp, cellsOK, cellsEv, cellsStr, cellsBool] using this
      have f3 : DataW.trod enc Tryz.prog w 0 (fun _ => true) true m 94 [c5, c6] = some z3 := by have := hf 3 _ rfl; simpa [cellsInt, cellsTime, cellsSInt, cellsKind, cellsErrno, cellsFD, cellsAddr, cellsSS, cellsSB, cellsDir, cellsCall, cellsComp, cellsOK, cellsEv, cellsStr, cellsBool] using this
      have f4 : DataW.trod enc Tryz.prog w 0 (fun _ => true) true m 95 [c7] = some z4 := by have := hf 4 _ rfl; simpa [cellsInt, cellsTime, cellsSInt, cellsKind, cellsErrno, cellsFD, cellsAddr, cellsSS, cellsSB, cellsDir, cellsCall, cellsComp, cellsOK, cellsEv, cellsStr, cellsBool] using this
      have f5 : DataW.trod enc Tryz.prog w 0 (fun _ => true) true m 3 [c8] = some z5 := by have := hf 5 _ rfl; simpa [cellsInt, cellsTime, cellsSInt, cellsKind, cellsErrno, cellsFD, cellsAddr, cellsSS, cellsSB, cellsDir, cellsCall, cellsComp, cellsOK, cellsEv, cellsStr, cellsBool] using this
      have f6 : DataW.trod enc Tryz.prog w 0 (fun _ => true) true m 3 [c9] = some z6 := by have := hf 6 _ rfl; simpa [cellsInt, cellsTime, cellsSInt, cellsKind, cellsErrno, cellsFD, cellsAddr, cellsSS, cellsSB, cellsDir, cellsCall, cellsComp, cellsOK, cellsEv, cellsStr, cellsBool] using this
      have f7 : DataW.trod enc Tryz.prog w 0 (fun _ => true) true m 96 [c10] = some z7 := by have := hf 7 _ rfl; simpa [cellsInt, cellsTime, cellsSInt, cellsKind, cellsErrno, cellsFD, cellsAddr, cellsSS, cellsSB, cellsDir, cellsCall, cellsComp, cellsOK, cellsEv, cellsStr, cellsBool] using this
      have f8 : DataW.trod enc Tryz.prog w 0 (fun _ => true) true m 39 [c11] = some z8 := by have := hf 8 _ rfl; simpa [cellsInt, cellsTime, cellsSInt, cellsKind, cellsErrno, cellsFD, cellsAddr, cellsSS, cellsSB, cellsDir, cellsCall, cellsComp, cellsOK, cellsEv, cellsStr, cellsBool] using this
      obtain ⟨x0, e0, _, w0⟩ := DataW.trod_int Tryz.underlying29 f0
      simp only [List.cons.injEq, and_true] at e0
      subst e0
      obtain ⟨x1, y1, e1⟩ := fd_of rfl f1
      simp only [List.cons.injEq, and_true] at e1
      obtain ⟨rfl, rfl⟩ := e1
      obtain ⟨x2, y2, e2⟩ := fd_of rfl f2
      simp only [List.cons.injEq, and_true] at e2
      obtain ⟨rfl, rfl⟩ := e2
      obtain ⟨x3, y3, e3⟩ := addr_of rfl f3
      simp only [List.cons.injEq, and_true] at e3
      obtain ⟨rfl, rfl⟩ := e3
      obtain ⟨a4, n4, p4, rfl⟩ := slice_of Tryz.underlying95 f4
      obtain ⟨x5, e5, _, w5⟩ := DataW.trod_int Tryz.underlying3 f5
      simp only [List.cons.injEq, and_true] at e5
      subst e5
      obtain ⟨x6, e6, _, w6⟩ := DataW.trod_int Tryz.underlying3 f6
      simp only [List.cons.injEq, and_true] at e6
      subst e6
      obtain ⟨x7, e7, _, w7⟩ := DataW.trod_int Tryz.underlying96 f7
      simp only [List.cons.injEq, and_true] at e7
      subst e7
      obtain ⟨x8, e8, _, w8⟩ := DataW.trod_int Tryz.underlying39 f8
      simp only [List.cons.injEq, and_true] at e8
      subst e8
      exact ⟨x0, x1, y1, x2, y2, x3, y3, (a4, n4, p4), x5, x6, x7, x8, rfl⟩
theorem comp_of {H : Type} {enc : TypeId × Value → H} {w : World} {n : Nat} {cs : List Value} {y : DataW H × List MemPlace} (hl : cs.length = 12) (h : DataW.trod enc Tryz.prog w 0 (fun _ => true) true n 101 cs = some y) :
    ∃ (q k u n : Int) (d : Sl) (f1 f2 t1 t2 : Int) (s : ByteArray) (p t : Int), cs = [.int .i64 q, .int .i64 k, .int .i64 u, .int .i64 n, .slice d.1 d.2.1 d.2.2, .int .i64 f1, .int .i64 f2, .int .i64 t1, .int .i64 t2, .string s, .int .i64 p, .int .u64 t] ∧ I64 k ∧ I64 u ∧ I64 n := by
  obtain ⟨xs, m, _, _, _, hxs, hf⟩ := DataW.trod_struct Tryz.underlying101 h
  match cs, hl with
  | [c0, c1, c2, c3, c4, c5, c6, c7, c8, c9, c10, c11], _ =>
    match xs, hxs with
    | [z0, z1, z2, z3, z4, z5, z6, z7, z8], _ =>
      have f0 : DataW.trod enc Tryz.prog w 0 (fun _ => true) true m 3 [c0] = some z0 := by have := hf 0 _ rfl; simpa [cellsInt, cellsTime, cellsSInt, cellsKind, cellsErrno, cellsFD, cellsAddr, cellsSS, cellsSB, cellsDir, cellsCall, cellsComp, cellsOK, cellsEv, cellsStr, cellsBool] using this
      have f1 : DataW.trod enc Tryz.prog w 0 (fun _ => true) true m 29 [c1] = some z1 := by have := hf 1 _ rfl; simpa [cellsInt, cellsTime, cellsSInt, cellsKind, cellsErrno, cellsFD, cellsAddr, cellsSS, cellsSB, cellsDir, cellsCall, cellsComp, cellsOK, cellsEv, cellsStr, cellsBool] using this
      have f2 : DataW.trod enc Tryz.prog w 0 (fun _ => true) true m 28 [c2] = some z2 := by have := hf 2 _ rfl; simpa [cellsInt, cellsTime, cellsSInt, cellsKind, cellsErrno, cellsFD, cellsAddr, cellsSS, cellsSB, cellsDir, cellsCall, cellsComp, cellsOK, cellsEv, cellsStr, cellsBool] using this
      have f3 : DataW.trod enc Tryz.prog w 0 (fun _ => true) true m 3 [c3] = some z3 := by have := hf 3 _ rfl; simpa [cellsInt, cellsTime, cellsSInt, cellsKind, cellsErrno, cellsFD, cellsAddr, cellsSS, cellsSB, cellsDir, cellsCall, cellsComp, cellsOK, cellsEv, cellsStr, cellsBool] using this
      have f4 : DataW.trod enc Tryz.prog w 0 (fun _ => true) true m 99 [c4] = some z4 := by have := hf 4 _ rfl; simpa [cellsInt, cellsTime, cellsSInt, cellsKind, cellsErrno, cellsFD, cellsAddr, cellsSS, cellsSB, cellsDir, cellsCall, cellsComp, cellsOK, cellsEv, cellsStr, cellsBool] using this
      have f5 : DataW.trod enc Tryz.prog w 0 (fun _ => true) true m 92 [c5, c6] = some z5 := by have := hf 5 _ rfl; simpa [cellsInt, cellsTime, cellsSInt, cellsKind, cellsErrno, cellsFD, cellsAddr, cellsSS, cellsSB, cellsDir, cellsCall, cellsComp, cellsOK, cellsEv, cellsStr, cellsBool] using this
      have f6 : DataW.trod enc Tryz.prog w 0 (fun _ => true) true m 92 [c7, c8] = some z6 := by have := hf 6 _ rfl; simpa [cellsInt, cellsTime, cellsSInt, cellsKind, cellsErrno, cellsFD, cellsAddr, cellsSS, cellsSB, cellsDir, cellsCall, cellsComp, cellsOK, cellsEv, cellsStr, cellsBool] using this
      have f7 : DataW.trod enc Tryz.prog w 0 (fun _ => true) true m 94 [c9, c10] = some z7 := by have := hf 7 _ rfl; simpa [cellsInt, cellsTime, cellsSInt, cellsKind, cellsErrno, cellsFD, cellsAddr, cellsSS, cellsSB, cellsDir, cellsCall, cellsComp, cellsOK, cellsEv, cellsStr, cellsBool] using this
      have f8 : DataW.trod enc Tryz.prog w 0 (fun _ => true) true m 39 [c11] = some z8 := by have := hf 8 _ rfl; simpa [cellsInt, cellsTime, cellsSInt, cellsKind, cellsErrno, cellsFD, cellsAddr, cellsSS, cellsSB, cellsDir, cellsCall, cellsComp, cellsOK, cellsEv, cellsStr, cellsBool] using this
      obtain ⟨x0, e0, _, w0⟩ := DataW.trod_int Tryz.underlying3 f0
      simp only [List.cons.injEq, and_true] at e0
      subst e0
      obtain ⟨x1, e1, _, w1⟩ := DataW.trod_int Tryz.underlying29 f1
      simp only [List.cons.injEq, and_true] at e1
      subst e1
      obtain ⟨x2, e2, _, w2⟩ := DataW.trod_int Tryz.underlying28 f2
      simp only [List.cons.injEq, and_true] at e2
      subst e2
      obtain ⟨x3, e3, _, w3⟩ := DataW.trod_int Tryz.underlying3 f3
      simp only [List.cons.injEq, and_true] at e3
      subst e3
      obtain ⟨a4, n4, p4, rfl⟩ := slice_of Tryz.underlying99 f4
      obtain ⟨x5, y5, e5⟩ := fd_of rfl f5
      simp only [List.cons.injEq, and_true] at e5
      obtain ⟨rfl, rfl⟩ := e5
      obtain ⟨x6, y6, e6⟩ := fd_of rfl f6
      simp only [List.cons.injEq, and_true] at e6
      obtain ⟨rfl, rfl⟩ := e6
      obtain ⟨x7, y7, e7⟩ := addr_of rfl f7
      simp only [List.cons.injEq, and_true] at e7
      obtain ⟨rfl, rfl⟩ := e7
      obtain ⟨x8, e8, _, w8⟩ := DataW.trod_int Tryz.underlying39 f8
      simp only [List.cons.injEq, and_true] at e8
      subst e8
      exact ⟨x0, x1, x2, x3, (a4, n4, p4), x5, y5, x6, y6, x7, y7, x8, rfl, i64_bd w1, i64_bd w2, i64_bd w3⟩
theorem ev_of {H : Type} {enc : TypeId × Value → H} {w : World} {n : Nat} {cs : List Value} {y : DataW H × List MemPlace} (hl : cs.length = 30) (h : DataW.trod enc Tryz.prog w 0 (fun _ => true) true n 103 cs = some y) :
    ∃ x : Ev, cs = evL x ∧ I64 x.task ∧ I64 x.eKind ∧ I64 x.eErr ∧ I64 x.eN := by
  obtain ⟨xs, m, _, _, _, hxs, hf⟩ := DataW.trod_struct Tryz.underlying103 h
  match cs, hl with
  | [c0, c1, c2, c3, c4, c5, c6, c7, c8, c9, c10, c11, c12, c13, c14, c15, c16, c17, c18, c19, c20, c21, c22, c23, c24, c25, c26, c27, c28, c29], _ =>
    match xs, hxs with
    | [z0, z1, z2, z3, z4, z5, z6, z7], _ =>
      have f0 : DataW.trod enc Tryz.prog w 0 (fun _ => true) true m 90 [c0] = some z0 := by have := hf 0 _ rfl; simpa [cellsInt, cellsTime, cellsSInt, cellsKind, cellsErrno, cellsFD, cellsAddr, cellsSS, cellsSB, cellsDir, cellsCall, cellsComp, cellsOK, cellsEv, cellsStr, cellsBool] using this
      have f1 : DataW.trod enc Tryz.prog w 0 (fun _ => true) true m 3 [c1] = some z1 := by have := hf 1 _ rfl; simpa [cellsInt, cellsTime, cellsSInt, cellsKind, cellsErrno, cellsFD, cellsAddr, cellsSS, cellsSB, cellsDir, cellsCall, cellsComp, cellsOK, cellsEv, cellsStr, cellsBool] using this
      have f2 : DataW.trod enc Tryz.prog w 0 (fun _ => true) true m 98 [c2, c3, c4, c5, c6, c7, c8, c9, c10, c11, c12, c13] = some z2 := by have := hf 2 _ rfl; simpa [cellsInt, cellsTime, cellsSInt, cellsKind, cellsErrno, cellsFD, cellsAddr, cellsSS, cellsSB, cellsDir, cellsCall, cellsComp, cellsOK, cellsEv, cellsStr, cellsBool] using this
      have f3 : DataW.trod enc Tryz.prog w 0 (fun _ => true) true m 28 [c14] = some z3 := by have := hf 3 _ rfl; simpa [cellsInt, cellsTime, cellsSInt, cellsKind, cellsErrno, cellsFD, cellsAddr, cellsSS, cellsSB, cellsDir, cellsCall, cellsComp, cellsOK, cellsEv, cellsStr, cellsBool] using this
      have f4 : DataW.trod enc Tryz.prog w 0 (fun _ => true) true m 4 [c15] = some z4 := by have := hf 4 _ rfl; simpa [cellsInt, cellsTime, cellsSInt, cellsKind, cellsErrno, cellsFD, cellsAddr, cellsSS, cellsSB, cellsDir, cellsCall, cellsComp, cellsOK, cellsEv, cellsStr, cellsBool] using this
      have f5 : DataW.trod enc Tryz.prog w 0 (fun _ => true) true m 101 [c16, c17, c18, c19, c20, c21, c22, c23, c24, c25, c26, c27] = some z5 := by have := hf 5 _ rfl; simpa [cellsInt, cellsTime, cellsSInt, cellsKind, cellsErrno, cellsFD, cellsAddr, cellsSS, cellsSB, cellsDir, cellsCall, cellsComp, cellsOK, cellsEv, cellsStr, cellsBool] using this
      have f6 : DataW.trod enc Tryz.prog w 0 (fun _ => true) true m 41 [c28] = some z6 := by have := hf 6 _ rfl; simpa [cellsInt, cellsTime, cellsSInt, cellsKind, cellsErrno, cellsFD, cellsAddr, cellsSS, cellsSB, cellsDir, cellsCall, cellsComp, cellsOK, cellsEv, cellsStr, cellsBool] using this
      have f7 : DataW.trod enc Tryz.prog w 0 (fun _ => true) true m 39 [c29] = some z7 := by have := hf 7 _ rfl; simpa [cellsInt, cellsTime, cellsSInt, cellsKind, cellsErrno, cellsFD, cellsAddr, cellsSS, cellsSB, cellsDir, cellsCall, cellsComp, cellsOK, cellsEv, cellsStr, cellsBool] using this
      obtain ⟨x0, e0, _, w0⟩ := DataW.trod_int Tryz.underlying90 f0
      simp only [List.cons.injEq, and_true] at e0
      subst e0
      obtain ⟨x1, e1, _, w1⟩ := DataW.trod_int Tryz.underlying3 f1
      simp only [List.cons.injEq, and_true] at e1
      subst e1
      obtain ⟨k2, g1_2, g2_2, h1_2, h2_2, s2, p2, d2, m2, n2, r2, t2, e2⟩ := call_of rfl f2
      simp only [List.cons.injEq, and_true] at e2
      obtain ⟨rfl, rfl, rfl, rfl, rfl, rfl, rfl, rfl, rfl, rfl, rfl, rfl⟩ := e2
      obtain ⟨x3, e3, _, w3⟩ := DataW.trod_int Tryz.underlying28 f3
      simp only [List.cons.injEq, and_true] at e3
      subst e3
      obtain ⟨x4, e4, _⟩ := DataW.trod_bool Tryz.underlying4 f4
      simp only [List.cons.injEq, and_true] at e4
      subst e4
      obtain ⟨q5, k5, u5, n5, d5, g1_5, g2_5, h1_5, h2_5, s5, p5, t5, e5, wn5⟩ := comp_of rfl f5
      simp only [List.cons.injEq, and_true] at e5
      obtain ⟨rfl, rfl, rfl, rfl, rfl, rfl, rfl, rfl, rfl, rfl, rfl, rfl⟩ := e5
      obtain ⟨a6, n6, p6, rfl⟩ := slice_of Tryz.underlying41 f6
      obtain ⟨x7, e7, _, w7⟩ := DataW.trod_int Tryz.underlying39 f7
      simp only [List.cons.injEq, and_true] at e7
      subst e7
      exact ⟨⟨x0, x1, k2, g1_2, g2_2, h1_2, h2_2, s2, p2, d2, m2, n2, r2, t2, x3, x4, q5, k5, u5, n5, d5, g1_5, g2_5, h1_5, h2_5, s5, p5, t5, (a6, n6, p6), x7⟩, rfl, i64_bd w1, wn5.1, wn5.2.1, wn5.2.2⟩
theorem evs_of {H : Type} {enc : TypeId × Value → H} {w : World} {fuel : Nat} {sa : Option Addr} {n c : Nat} {x : DataW H × List MemPlace} (h : DataW.trod enc Tryz.prog w 0 (fun _ => true) true fuel 85 [.slice sa n c] = some x) :
    ∃ l : List Ev, l.length = n ∧ EvRow w (.slice sa n c) l ∧ ∀ a ∈ l, I64 a.task ∧ I64 a.eKind ∧ I64 a.eErr ∧ I64 a.eN := by
  rcases laws.open_rows Tryz.underlying85 cellsEv (by omega) h with ⟨rfl, rfl, rfl⟩ | ⟨hl, hm, a, rfl, hz | ⟨b, off, rfl, hrows⟩⟩
  · exact ⟨[], rfl, .inl ⟨rfl, _, _, rfl⟩, fun f hf => by cases hf⟩
  · subst hz
    exact ⟨[], rfl, .inl ⟨rfl, _, _, rfl⟩, fun f hf => by cases hf⟩
  · have hx : ∀ i, i < n → ∃ x : Ev, EvAt w b (off + i * 30) x ∧ (I64 x.task ∧ I64 x.eKind ∧ I64 x.eErr ∧ I64 x.eN) := by
      intro i hi
      obtain ⟨cs, m, y, hlen, hcell, hy⟩ := hrows i hi
      obtain ⟨x, rfl, hb⟩ := ev_of hlen hy
      refine ⟨x, fun j u hj => ?_, hb⟩
      have hj30 : j < 30 := (List.getElem?_eq_some_iff.1 hj).1
      have h1 := hcell j hj30
      rw [h1]
      first | exact hj | (congr 1; exact (List.getElem?_eq_some_iff.1 hj).2) | skip
    obtain ⟨fs, hlen, hp⟩ := choose_list n hx
    refine ⟨fs, hlen, ?_, fun f hf => ?_⟩
    · by_cases h0 : n = 0
      · subst h0
        exact .inl ⟨List.length_eq_zero_iff.1 hlen, _, _, rfl⟩
      · obtain ⟨x0, hx0⟩ : ∃ x, fs[0]? = some x := ⟨_, List.getElem?_eq_getElem (by omega)⟩
        exact .inr ⟨b, off, c, by rw [hlen], cell_lt ((hp 0 x0 hx0).1 0 _ rfl), fun i x hx => (hp i x hx).1⟩
    · obtain ⟨i, hi, rfl⟩ := List.getElem_of_mem hf
      exact (hp i _ (List.getElem?_eq_getElem hi)).2
end Go.Proofs.YtllmejkcohfbiaaGreatDoor
