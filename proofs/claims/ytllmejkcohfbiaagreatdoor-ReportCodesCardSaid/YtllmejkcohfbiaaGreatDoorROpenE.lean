/- The report laws' arguments opened: events. -/
import Derived.Test.YtllmejkcohfbiaaGreatDoorROpen
import Derived.Test.YtllmejkcohfbiaaGreatDoorR21
namespace Go.Proofs.YtllmejkcohfbiaaGreatDoor
open Go.ChangeShapes Go.WideShapes Go.ChangeAt Go.RowKit
set_option linter.unusedVariables false
set_option maxRecDepth 100000
set_option maxHeartbeats 4000000

theorem cellsFD : Tryz.prog.cellsOf 92 = 2 := by kernel_rfl
theorem cellsAddr : Tryz.prog.cellsOf 94 = 2 := by kernel_rfl
theorem cellsSS : Tryz.prog.cellsOf 95 = 1 := by kernel_rfl
theorem cellsSB : Tryz.prog.cellsOf 99 = 1 := by kernel_rfl
theorem cellsDir : Tryz.prog.cellsOf 96 = 1 := by kernel_rfl
theorem cellsCall : Tryz.prog.cellsOf 98 = 12 := by kernel_rfl
theorem cellsComp : Tryz.prog.cellsOf 101 = 12 := by kernel_rfl
theorem cellsOK : Tryz.prog.cellsOf 90 = 1 := by kernel_rfl
theorem cellsEv : Tryz.prog.cellsOf 103 = 30 := by kernel_rfl
theorem cellsStr : Tryz.prog.cellsOf 9 = 1 := by kernel_rfl
theorem cellsBool : Tryz.prog.cellsOf 4 = 1 := by kernel_rfl
theorem fd_of {H : Type} {enc : TypeId × Value → H} {w : World} {n : Nat} {cs : List Value} {y : DataW H × List MemPlace} (hl : cs.length = 2) (h : DataW.trod enc Tryz.prog w 0 (fun _ => true) true n 92 cs = some y) :
    ∃ a b : Int, cs = [.int .i64 a, .int .i64 b] := by
  obtain ⟨xs, m, _, _, _, hxs, hf⟩ := DataW.trod_struct Tryz.underlying92 h
  match cs, hl with
  | [c0, c1], _ =>
    match xs, hxs with
    | [z0, z1], _ =>
      have f0 : DataW.trod enc Tryz.prog w 0 (fun _ => true) true m 3 [c0] = some z0 := by have := hf 0 _ rfl; simpa [cellsInt, cellsTime, cellsSInt, cellsKind, cellsErrno, cellsFD, cellsAddr, cellsSS, cellsSB, cellsDir, cellsCall, cellsComp, cellsOK, cellsEv, cellsStr, cellsBool] using this
      have f1 : DataW.trod enc Tryz.prog w 0 (fun _ => true) true m 3 [c1] = some z1 := by have := hf 1 _ rfl; simpa [cellsInt, cellsTime, cellsSInt, cellsKind, cellsErrno, cellsFD, cellsAddr, cellsSS, cellsSB, cellsDir, cellsCall, cellsComp, cellsOK, cellsEv, cellsStr, cellsBool] using this
      obtain ⟨x0, e0, _, w0⟩ := DataW.trod_int Tryz.underlying3 f0
      simp only [List.cons.injEq, and_true] at e0
      subst e0
      obtain ⟨x1, e1, _, w1⟩ := DataW.trod_int Tryz.underlying3 f1
      simp only [List.cons.injEq, and_true] at e1
      subst e1
      exact ⟨x0, x1, rfl⟩
theorem addr_of {H : Type} {enc : TypeId × Value → H} {w : World} {n : Nat} {cs : List Value} {y : DataW H × List MemPlace} (hl : cs.length = 2) (h : DataW.trod enc Tryz.prog w 0 (fun _ => true) true n 94 cs = some y) :
    ∃ (s : ByteArray) (b : Int), cs = [.string s, .int .i64 b] := by
  obtain ⟨xs, m, _, _, _, hxs, hf⟩ := DataW.trod_struct Tryz.underlying94 h
  match cs, hl with
  | [c0, c1], _ =>
    match xs, hxs with
    | [z0, z1], _ =>
      have f0 : DataW.trod enc Tryz.prog w 0 (fun _ => true) true m 9 [c0] = some z0 := by have := hf 0 _ rfl; simpa [cellsInt, cellsTime, cellsSInt, cellsKind, cellsErrno, cellsFD, cellsAddr, cellsSS, cellsSB, cellsDir, cellsCall, cellsComp, cellsOK, cellsEv, cellsStr, cellsBool] using this
      have f1 : DataW.trod enc Tryz.prog w 0 (fun _ => true) true m 3 [c1] = some z1 := by have := hf 1 _ rfl; simpa [cellsInt, cellsTime, cellsSInt, cellsKind, cellsErrno, cellsFD, cellsAddr, cellsSS, cellsSB, cellsDir, cellsCall, cellsComp, cellsOK, cellsEv, cellsStr, cellsBool] using this
      obtain ⟨x0, e0, _, _⟩ := DataW.trod_string Tryz.underlying9 f0
      simp only [List.cons.injEq, and_true] at e0
      subst e0
      obtain ⟨x1, e1, _, w1⟩ := DataW.trod_int Tryz.underlying3 f1
      simp only [List.cons.injEq, and_true] at e1
      subst e1
      exact ⟨x0, x1, rfl⟩
theorem call_of {H : Type} {enc : TypeId × Value → H} {w : World} {n : Nat} {cs : List Value} {y : DataW H × List MemPlace} (hl : cs.length = 12) (h : DataW.trod enc Tryz.prog w 0 (fun _ => true) true n 98 cs = some y) :
    ∃ (k f1 f2 t1 t2 : Int) (s : ByteArray) (p : Int) (d : Sl) (m n r t : Int), cs = [.int .i64 k, .int .i64 f1, .int .i64 f2, .int .i64 t1, .int .i64 t2, .string s, .int .i64 p, .slice d.1 d.2.1 d.2.2, .int .i64 m, .int .i64 n, .int .i64 r, .int .u64 t] := by
  obtain ⟨xs, m, _, _, _, hxs, hf⟩ := DataW.trod_struct Tryz.underlying98 h
  match cs, hl with
  | [c0, c1, c2, c3, c4, c5, c6, c7, c8, c9, c10, c11], _ =>
    match xs, hxs with
    | [z0, z1, z2, z3, z4, z5, z6, z7, z8], _ =>
      have f0 : DataW.trod enc Tryz.prog w 0 (fun _ => true) true m 29 [c0] = some z0 := by have := hf 0 _ rfl; simpa [cellsInt, cellsTime, cellsSInt, cellsKind, cellsErrno, cellsFD, cellsAddr, cellsSS, cellsSB, cellsDir, cellsCall, cellsComp, cellsOK, cellsEv, cellsStr, cellsBool] using this
      have f1 : DataW.trod enc Tryz.prog w 0 (fun _ => true) true m 92 [c1, c2] = some z1 := by have := hf 1 _ rfl; simpa [cellsInt, cellsTime, cellsSInt, cellsKind, cellsErrno, cellsFD, cellsAddr, cellsSS, cellsSB, cellsDir, cellsCall, cellsComp, cellsOK, cellsEv, cellsStr, cellsBool] using this
      have f2 : DataW.trod enc Tryz.prog w 0 (fun _ => true) true m 92 [c3, c4] = some z2 := by have := hf 2 _ rfl; simpa [cellsInt, cellsTime, cellsSInt, cellsKind, cellsErrno, cellsFD, cellsAddr, cellsSS, cellsSB, cellsDir, cellsCall, cellsComp, cellsOK, cellsEv, cellsStr, cellsBool] using this
      have f3 : DataW.trod enc Tryz.prog w 0 (fun _ => true) true m 94 [c5, c6] = some z3 := by have := hf 3 _ rfl; simpa [cellsInt, cellsTime, cellsSInt, cellsKind, cellsErrno, cellsFD, cellsAddr, cellsSS, cellsSB, cellsDir, cellsCall, cellsComp, cellsOK, cellsEv, cellsStr, cellsBool] using this
      have f4 : DataW.trod enc Tryz.prog w 0 (fun _ => true) true m 95 [c7] = some z4 := by have := hf 4 _ rfl; simpa [cellsInt, cellsTime, cellsSInt, cellsKind, cellsErrno, cellsFD, cellsAddr, cellsSS, cellsSB, cellsDir, cellsCall, cellsComp, cellsOK, cellsEv, cellsStr, cellsBool] using this
      have f5 : DataW.trod enc Tryz.prog w 0 (fun _ => true) true m 3 [c8] = some z5 := by have := hf 5 _ rfl; simpa [cellsInt, cellsTime, cellsSInt, cellsKind, cellsErrno, cellsFD, cellsAddr, cellsSS, cellsSB, cellsDir, cellsCall, cellsComp, cellsOK, cellsEv, cellsStr, cellsBool] using this
      have f6 : DataW.trod enc Tryz.prog w 0 (fun _ => true) true m 3 [c9] = some z6 := by have := hf 6 _ rfl; simpa [cellsInt, cellsTime, cellsSInt, cellsKind, cellsErrno, cellsFD, cellsAddr, cellsSS, cellsSB, cellsDir, cellsCall, cellsComp, cellsOK, cellsEv, cellsStr, cellsBool] using this
      have f7 : DataW.trod enc Tryz.prog w 0 (fun _ => true) true m 96 [c10] = some z7 := by have := hf 7 _ rfl; simpa [cellsInt, cellsTime, cellsSInt, cellsKind, cellsErrno, cellsFD, cellsAddr, cellsSS, cellsSB, cellsDir, cellsCall, cellsComp, cellsOK, cellsEv, cellsStr, cellsBool] using this
      have f8 : DataW.trod enc Tryz.prog w 0 (fun _ => true) true m 39 [c11] = some z8 := by have := hf 8 _ rfl; simpa [cellsInt, cellsTime, cellsSInt, cellsKind, cellsErrno, cellsFD, cellsAddr, cellsSS, cellsSB, cellsDir, cellsCall, cellsComp, cellsOK, cellsEv, cellsStr, cellsBool] using this
      obtain ⟨x0, e0, _, w0⟩ := DataW.trod_int Tryz.underlying29 f0
      simp only [List.cons.injEq, and_true] at e0
      subst e0
      obtain ⟨x1, y1, e1⟩ := fd_of rfl f1
      simp only [List.cons.injEq, and_true] at e1
      obtain ⟨rfl, rfl⟩ := e1
      obtain ⟨x2, y2, e2⟩ := fd_of rfl f2
      simp only [List.cons.injEq, and_true] at e2
      obtain ⟨rfl, rfl⟩ := e2
      obtain ⟨x3, y3, e3⟩ := addr_of rfl f3
      simp only [List.cons.injEq, and_true] at e3
      obtain ⟨rfl, rfl⟩ := e3
      obtain ⟨a4, n4, p4, rfl⟩ := slice_of Tryz.underlying95 f4
      obtain ⟨x5, e5, _, w5⟩ := DataW.trod_int Tryz.underlying3 f5
      simp only [List.cons.injEq, and_true] at e5
      subst e5
      obtain ⟨x6, e6, _, w6⟩ := DataW.trod_int Tryz.underlying3 f6
      simp only [List.cons.injEq, and_true] at e6
      subst e6
      obtain ⟨x7, e7, _, w7⟩ := DataW.trod_int Tryz.underlying96 f7
      simp only [List.cons.injEq, and_true] at e7
      subst e7
      obtain ⟨x8, e8, _, w8⟩ := DataW.trod_int Tryz.underlying39 f8
      simp only [List.cons.injEq, and_true] at e8
      subst e8
      exact ⟨x0, x1, y1, x2, y2, x3, y3, (a4, n4, p4), x5, x6, x7, x8, rfl⟩
theorem comp_of {H : Type} {enc : TypeId × Value → H} {w : World} {n : Nat} {cs : List Value} {y : DataW H × List MemPlace} (hl : cs.length = 12) (h : DataW.trod enc Tryz.prog w 0 (fun _ => true) true n 101 cs = some y) :
    ∃ (q k u n : Int) (d : Sl) (f1 f2 t1 t2 : Int) (s : ByteArray) (p t : Int), cs = [.int .i64 q, .int .i64 k, .int .i64 u, .int .i64 n, .slice d.1 d.2.1 d.2.2, .int .i64 f1, .int .i64 f2, .int .i64 t1, .int .i64 t2, .string s, .int .i64 p, .int .u64 t] ∧ I64 k ∧ I64 u ∧ I64 n := by
  obtain ⟨xs, m, _, _, _, hxs, hf⟩ := DataW.trod_struct Tryz.underlying101 h
  match cs, hl with
  | [c0, c1, c2, c3, c4, c5, c6, c7, c8, c9, c10, c11], _ =>
    match xs, hxs with
    | [z0, z1, z2, z3, z4, z5, z6, z7, z8], _ =>
      have f0 : DataW.trod enc Tryz.prog w 0 (fun _ => true) true m 3 [c0] = some z0 := by have := hf 0 _ rfl; simpa [cellsInt, cellsTime, cellsSInt, cellsKind, cellsErrno, cellsFD, cellsAddr, cellsSS, cellsSB, cellsDir, cellsCall, cellsComp, cellsOK, cellsEv, cellsStr, cellsBool] using this
      have f1 : DataW.trod enc Tryz.prog w 0 (fun _ => true) true m 29 [c1] = some z1 := by have := hf 1 _ rfl; simpa [cellsInt, cellsTime, cellsSInt, cellsKind, cellsErrno, cellsFD, cellsAddr, cellsSS, cellsSB, cellsDir, cellsCall, cellsComp, cellsOK, cellsEv, cellsStr, cellsBool] using this
      have f2 : DataW.trod enc Tryz.prog w 0 (fun _ => true) true m 28 [c2] = some z2 := by have := hf 2 _ rfl; simpa [cellsInt, cellsTime, cellsSInt, cellsKind, cellsErrno, cellsFD, cellsAddr, cellsSS, cellsSB, cellsDir, cellsCall, cellsComp, cellsOK, cellsEv, cellsStr, cellsBool] using this
      have f3 : DataW.trod enc Tryz.prog w 0 (fun _ => true) true m 3 [c3] = some z3 := by have := hf 3 _ rfl; simpa [cellsInt, cellsTime, cellsSInt, cellsKind, cellsErrno, cellsFD, cellsAddr, cellsSS, cellsSB, cellsDir, cellsCall, cellsComp, cellsOK, cellsEv, cellsStr, cellsBool] using this
      have f4 : DataW.trod enc Tryz.prog w 0 (fun _ => true) true m 99 [c4] = some z4 := by have := hf 4 _ rfl; simpa [cellsInt, cellsTime, cellsSInt, cellsKind, cellsErrno, cellsFD, cellsAddr, cellsSS, cellsSB, cellsDir, cellsCall, cellsComp, cellsOK, cellsEv, cellsStr, cellsBool] using this
      have f5 : DataW.trod enc Tryz.prog w 0 (fun _ => true) true m 92 [c5, c6] = some z5 := by have := hf 5 _ rfl; simpa [cellsInt, cellsTime, cellsSInt, cellsKind, cellsErrno, cellsFD, cellsAddr, cellsSS, cellsSB, cellsDir, cellsCall, cellsComp, cellsOK, cellsEv, cellsStr, cellsBool] using this
      have f6 : DataW.trod enc Tryz.prog w 0 (fun _ => true) true m 92 [c7, c8] = some z6 := by have := hf 6 _ rfl; simpa [cellsInt, cellsTime, cellsSInt, cellsKind, cellsErrno, cellsFD, cellsAddr, cellsSS, cellsSB, cellsDir, cellsCall, cellsComp, cellsOK, cellsEv, cellsStr, cellsBool] using this
      have f7 : DataW.trod enc Tryz.prog w 0 (fun _ => true) true m 94 [c9, c10] = some z7 := by have := hf 7 _ rfl; simpa [cellsInt, cellsTime, cellsSInt, cellsKind, cellsErrno, cellsFD, cellsAddr, cellsSS, cellsSB, cellsDir, cellsCall, cellsComp, cellsOK, cellsEv, cellsStr, cellsBool] using this
      have f8 : DataW.trod enc Tryz.prog w 0 (fun _ => true) true m 39 [c11] = some z8 := by have := hf 8 _ rfl; simpa [cellsInt, cellsTime, cellsSInt, cellsKind, cellsErrno, cellsFD, cellsAddr, cellsSS, cellsSB, cellsDir, cellsCall, cellsComp, cellsOK, cellsEv, cellsStr, cellsBool] using this
      obtain ⟨x0, e0, _, w0⟩ := DataW.trod_int Tryz.underlying3 f0
      simp only [List.cons.injEq, and_true] at e0
      subst e0
      obtain ⟨x1, e1, _, w1⟩ := DataW.trod_int Tryz.underlying29 f1
      simp only [List.cons.injEq, and_true] at e1
      subst e1
      obtain ⟨x2, e2, _, w2⟩ := DataW.trod_int Tryz.underlying28 f2
      simp only [List.cons.injEq, and_true] at e2
      subst e2
      obtain ⟨x3, e3, _, w3⟩ := DataW.trod_int Tryz.underlying3 f3
      simp only [List.cons.injEq, and_true] at e3
      subst e3
      obtain ⟨a4, n4, p4, rfl⟩ := slice_of Tryz.underlying99 f4
      obtain ⟨x5, y5, e5⟩ := fd_of rfl f5
      simp only [List.cons.injEq, and_true] at e5
      obtain ⟨rfl, rfl⟩ := e5
      obtain ⟨x6, y6, e6⟩ := fd_of rfl f6
      simp only [List.cons.injEq, and_true] at e6
      obtain ⟨rfl, rfl⟩ := e6
      obtain ⟨x7, y7, e7⟩ := addr_of rfl f7
      simp only [List.cons.injEq, and_true] at e7
      obtain ⟨rfl, rfl⟩ := e7
      obtain ⟨x8, e8, _, w8⟩ := DataW.trod_int Tryz.underlying39 f8
      simp only [List.cons.injEq, and_true] at e8
      subst e8
      exact ⟨x0, x1, x2, x3, (a4, n4, p4), x5, y5, x6, y6, x7, y7, x8, rfl, i64_bd w1, i64_bd w2, i64_bd w3⟩
theorem ev_of {H : Type} {enc : TypeId × Value → H} {w : World} {n : Nat} {cs : List Value} {y : DataW H × List MemPlace} (hl : cs.length = 30) (h : DataW.trod enc Tryz.prog w 0 (fun _ => true) true n 103 cs = some y) :
    ∃ x : Ev, cs = evL x ∧ I64 x.task ∧ I64 x.eKind ∧ I64 x.eErr ∧ I64 x.eN := by
  obtain ⟨xs, m, _, _, _, hxs, hf⟩ := DataW.trod_struct Tryz.underlying103 h
  match cs, hl with
  | [c0, c1, c2, c3, c4, c5, c6, c7, c8, c9, c10, c11, c12, c13, c14, c15, c16, c17, c18, c19, c20, c21, c22, c23, c24, c25, c26, c27, c28, c29], _ =>
    match xs, hxs with
    | [z0, z1, z2, z3, z4, z5, z6, z7], _ =>
      have f0 : DataW.trod enc Tryz.prog w 0 (fun _ => true) true m 90 [c0] = some z0 := by have := hf 0 _ rfl; simpa [cellsInt, cellsTime, cellsSInt, cellsKind, cellsErrno, cellsFD, cellsAddr, cellsSS, cellsSB, cellsDir, cellsCall, cellsComp, cellsOK, cellsEv, cellsStr, cellsBool] using this
      have f1 : DataW.trod enc Tryz.prog w 0 (fun _ => true) true m 3 [c1] = some z1 := by have := hf 1 _ rfl; simpa [cellsInt, cellsTime, cellsSInt, cellsKind, cellsErrno, cellsFD, cellsAddr, cellsSS, cellsSB, cellsDir, cellsCall, cellsComp, cellsOK, cellsEv, cellsStr, cellsBool] using this
      have f2 : DataW.trod enc Tryz.prog w 0 (fun _ => true) true m 98 [c2, c3, c4, c5, c6, c7, c8, c9, c10, c11, c12, c13] = some z2 := by have := hf 2 _ rfl; simpa [cellsInt, cellsTime, cellsSInt, cellsKind, cellsErrno, cellsFD, cellsAddr, cellsSS, cellsSB, cellsDir, cellsCall, cellsComp, cellsOK, cellsEv, cellsStr, cellsBool] using this
      have f3 : DataW.trod enc Tryz.prog w 0 (fun _ => true) true m 28 [c14] = some z3 := by have := hf 3 _ rfl; simpa [cellsInt, cellsTime, cellsSInt, cellsKind, cellsErrno, cellsFD, cellsAddr, cellsSS, cellsSB, cellsDir, cellsCall, cellsComp, cellsOK, cellsEv, cellsStr, cellsBool] using this
      have f4 : DataW.trod enc Tryz.prog w 0 (fun _ => true) true m 4 [c15] = some z4 := by have := hf 4 _ rfl; simpa [cellsInt, cellsTime, cellsSInt, cellsKind, cellsErrno, cellsFD, cellsAddr, cellsSS, cellsSB, cellsDir, cellsCall, cellsComp, cellsOK, cellsEv, cellsStr, cellsBool] using this
      have f5 : DataW.trod enc Tryz.prog w 0 (fun _ => true) true m 101 [c16, c17, c18, c19, c20, c21, c22, c23, c24, c25, c26, c27] = some z5 := by have := hf 5 _ rfl; simpa [cellsInt, cellsTime, cellsSInt, cellsKind, cellsErrno, cellsFD, cellsAddr, cellsSS, cellsSB, cellsDir, cellsCall, cellsComp, cellsOK, cellsEv, cellsStr, cellsBool] using this
      have f6 : DataW.trod enc Tryz.prog w 0 (fun _ => true) true m 41 [c28] = some z6 := by have := hf 6 _ rfl; simpa [cellsInt, cellsTime, cellsSInt, cellsKind, cellsErrno, cellsFD, cellsAddr, cellsSS, cellsSB, cellsDir, cellsCall, cellsComp, cellsOK, cellsEv, cellsStr, cellsBool] using this
      have f7 : DataW.trod enc Tryz.prog w 0 (fun _ => true) true m 39 [c29] = some z7 := by have := hf 7 _ rfl; simpa [cellsInt, cellsTime, cellsSInt, cellsKind, cellsErrno, cellsFD, cellsAddr, cellsSS, cellsSB, cellsDir, cellsCall, cellsComp, cellsOK, cellsEv, cellsStr, cellsBool] using this
      obtain ⟨x0, e0, _, w0⟩ := DataW.trod_int Tryz.underlying90 f0
      simp only [List.cons.injEq, and_true] at e0
      subst e0
      obtain ⟨x1, e1, _, w1⟩ := DataW.trod_int Tryz.underlying3 f1
      simp only [List.cons.injEq, and_true] at e1
      subst e1
      obtain ⟨k2, g1_2, g2_2, h1_2, h2_2, s2, p2, d2, m2, n2, r2, t2, e2⟩ := call_of rfl f2
      simp only [List.cons.injEq, and_true] at e2
      obtain ⟨rfl, rfl, rfl, rfl, rfl, rfl, rfl, rfl, rfl, rfl, rfl, rfl⟩ := e2
      obtain ⟨x3, e3, _, w3⟩ := DataW.trod_int Tryz.underlying28 f3
      simp only [List.cons.injEq, and_true] at e3
      subst e3
      obtain ⟨x4, e4, _⟩ := DataW.trod_bool Tryz.underlying4 f4
      simp only [List.cons.injEq, and_true] at e4
      subst e4
      obtain ⟨q5, k5, u5, n5, d5, g1_5, g2_5, h1_5, h2_5, s5, p5, t5, e5, wn5⟩ := comp_of rfl f5
      simp only [List.cons.injEq, and_true] at e5
      obtain ⟨rfl, rfl, rfl, rfl, rfl, rfl, rfl, rfl, rfl, rfl, rfl, rfl⟩ := e5
      obtain ⟨a6, n6, p6, rfl⟩ := slice_of Tryz.underlying41 f6
      obtain ⟨x7, e7, _, w7⟩ := DataW.trod_int Tryz.underlying39 f7
      simp only [List.cons.injEq, and_true] at e7
      subst e7
      exact ⟨⟨x0, x1, k2, g1_2, g2_2, h1_2, h2_2, s2, p2, d2, m2, n2, r2, t2, x3, x4, q5, k5, u5, n5, d5, g1_5, g2_5, h1_5, h2_5, s5, p5, t5, (a6, n6, p6), x7⟩, rfl, i64_bd w1, wn5.1, wn5.2.1, wn5.2.2⟩
theorem evs_of {H : Type} {enc : TypeId × Value → H} {w : World} {fuel : Nat} {sa : Option Addr} {n c : Nat} {x : DataW H × List MemPlace} (h : DataW.trod enc Tryz.prog w 0 (fun _ => true) true fuel 85 [.slice sa n c] = some x) :
    ∃ l : List Ev, l.length = n ∧ EvRow w (.slice sa n c) l ∧ ∀ a ∈ l, I64 a.task ∧ I64 a.eKind ∧ I64 a.eErr ∧ I64 a.eN := by
  rcases laws.open_rows Tryz.underlying85 cellsEv (by omega) h with ⟨rfl, rfl, rfl⟩ | ⟨hl, hm, a, rfl, hz | ⟨b, off, rfl, hrows⟩⟩
  · exact ⟨[], rfl, .inl ⟨rfl, _, _, rfl⟩, fun f hf => by cases hf⟩
  · subst hz
    exact ⟨[], rfl, .inl ⟨rfl, _, _, rfl⟩, fun f hf => by cases hf⟩
  · have hx : ∀ i, i < n → ∃ x : Ev, EvAt w b (off + i * 30) x ∧ (I64 x.task ∧ I64 x.eKind ∧ I64 x.eErr ∧ I64 x.eN) := by
      intro i hi
      obtain ⟨cs, m, y, hlen, hcell, hy⟩ := hrows i hi
      obtain ⟨x, rfl, hb⟩ := ev_of hlen hy
      refine ⟨x, fun j u hj => ?_, hb⟩
      have hj30 : j < 30 := (List.getElem?_eq_some_iff.1 hj).1
      have h1 := hcell j hj30
      rw [h1]
      first | exact hj | (congr 1; exact (List.getElem?_eq_some_iff.1 hj).2) | skip
    obtain ⟨fs, hlen, hp⟩ := choose_list n hx
    refine ⟨fs, hlen, ?_, fun f hf => ?_⟩
    · by_cases h0 : n = 0
      · subst h0
        exact .inl ⟨List.length_eq_zero_iff.1 hlen, _, _, rfl⟩
      · obtain ⟨x0, hx0⟩ : ∃ x, fs[0]? = some x := ⟨_, List.getElem?_eq_getElem (by omega)⟩
        exact .inr ⟨b, off, c, by rw [hlen], cell_lt ((hp 0 x0 hx0).1 0 _ rfl), fun i x hx => (hp i x hx).1⟩
    · obtain ⟨i, hi, rfl⟩ := List.getElem_of_mem hf
      exact (hp i _ (List.getElem?_eq_getElem hi)).2
end Go.Proofs.YtllmejkcohfbiaaGreatDoor
