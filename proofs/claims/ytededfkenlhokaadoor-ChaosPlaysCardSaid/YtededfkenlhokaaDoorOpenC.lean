/- The laws' arguments opened: an act by value, rows of acts, rows of faults. -/
import Derived.Test.YtededfkenlhokaaDoorLaw
import Derived.Test.YtededfkenlhokaaDoorRows
import Derived.Test.YtededfkenlhokaaDoorC2
import Derived.ProofKit
namespace Go.Proofs.YtededfkenlhokaaDoor
open Go.ChangeShapes Go.WideShapes Go.ChangeAt Go.RowKit
set_option linter.unusedVariables false
set_option maxRecDepth 100000

theorem i64_bd {x : Int} (h : (Lit.int .i64 x).wf = true) : I64 x := by
  simpa [Lit.wf, IntKind.min, IntKind.max, IntKind.signed, IntKind.bits, I64] using h
theorem cellsK : Tryd.prog.cellsOf 29 = 1 := by kernel_rfl
theorem cellsAct : Tryd.prog.cellsOf 44 = 4 := by kernel_rfl
theorem cellsFt : Tryd.prog.cellsOf 32 = 5 := by kernel_rfl
/-- An act. -/
structure Ac where
  what : Int
  c : Int
  d : Int
  n : Int
def Ac.wf (x : Ac) : Prop := I64 x.what ∧ I64 x.c ∧ I64 x.d ∧ I64 x.n
def Ft.wf (x : Ft) : Prop := I64 x.k ∧ I64 x.c ∧ I64 x.d ∧ I64 x.a ∧ I64 x.g
theorem act_of {H : Type} {enc : TypeId × Value → H} {w : World} {n : Nat} {cs : List Value} {y : DataW H × List MemPlace} (hl : cs.length = 4) (h : DataW.trod enc Tryd.prog w 0 (fun _ => true) true n 44 cs = some y) :
    ∃ x : Ac, cs = [.int .i64 x.what, .int .i64 x.c, .int .i64 x.d, .int .i64 x.n] ∧ x.wf := by
  obtain ⟨xs, m, _, _, _, hxs, hf⟩ := DataW.trod_struct Tryd.underlying44 h
  match cs, hl with
  | [c0, c1, c2, c3], _ =>
    match xs, hxs with
    | [z0, z1, z2, z3], _ =>
      have f0 : DataW.trod enc Tryd.prog w 0 (fun _ => true) true m 3 [c0] = some z0 := by have := hf 0 _ rfl; simpa [cellsInt, cellsDir] using this
      have f1 : DataW.trod enc Tryd.prog w 0 (fun _ => true) true m 3 [c1] = some z1 := by have := hf 1 _ rfl; simpa [cellsInt, cellsDir] using this
      have f2 : DataW.trod enc Tryd.prog w 0 (fun _ => true) true m 30 [c2] = some z2 := by have := hf 2 _ rfl; simpa [cellsInt, cellsDir] using this
      have f3 : DataW.trod enc Tryd.prog w 0 (fun _ => true) true m 3 [c3] = some z3 := by have := hf 3 _ rfl; simpa [cellsInt, cellsDir] using this
      obtain ⟨x0, e0, _, w0⟩ := DataW.trod_int Tryd.underlying3 f0
      obtain ⟨x1, e1, _, w1⟩ := DataW.trod_int Tryd.underlying3 f1
      obtain ⟨x2, e2, _, w2⟩ := DataW.trod_int Tryd.underlying30 f2
      obtain ⟨x3, e3, _, w3⟩ := DataW.trod_int Tryd.underlying3 f3
      simp only [List.cons.injEq, and_true] at e0 e1 e2 e3
      subst e0 e1 e2 e3
      exact ⟨⟨x0, x1, x2, x3⟩, rfl, i64_bd w0, i64_bd w1, i64_bd w2, i64_bd w3⟩
theorem ft_of {H : Type} {enc : TypeId × Value → H} {w : World} {n : Nat} {cs : List Value} {y : DataW H × List MemPlace} (hl : cs.length = 5) (h : DataW.trod enc Tryd.prog w 0 (fun _ => true) true n 32 cs = some y) :
    ∃ x : Ft, cs = [.int .i64 x.k, .int .i64 x.c, .int .i64 x.d, .int .i64 x.a, .int .i64 x.g] ∧ x.wf := by
  obtain ⟨xs, m, _, _, _, hxs, hf⟩ := DataW.trod_struct Tryd.underlying32 h
  match cs, hl with
  | [c0, c1, c2, c3, c4], _ =>
    match xs, hxs with
    | [z0, z1, z2, z3, z4], _ =>
      have f0 : DataW.trod enc Tryd.prog w 0 (fun _ => true) true m 29 [c0] = some z0 := by have := hf 0 _ rfl; simpa [cellsInt, cellsDir, cellsK] using this
      have f1 : DataW.trod enc Tryd.prog w 0 (fun _ => true) true m 3 [c1] = some z1 := by have := hf 1 _ rfl; simpa [cellsInt, cellsDir, cellsK] using this
      have f2 : DataW.trod enc Tryd.prog w 0 (fun _ => true) true m 30 [c2] = some z2 := by have := hf 2 _ rfl; simpa [cellsInt, cellsDir, cellsK] using this
      have f3 : DataW.trod enc Tryd.prog w 0 (fun _ => true) true m 3 [c3] = some z3 := by have := hf 3 _ rfl; simpa [cellsInt, cellsDir, cellsK] using this
      have f4 : DataW.trod enc Tryd.prog w 0 (fun _ => true) true m 3 [c4] = some z4 := by have := hf 4 _ rfl; simpa [cellsInt, cellsDir, cellsK] using this
      obtain ⟨x0, e0, _, w0⟩ := DataW.trod_int Tryd.underlying29 f0
      obtain ⟨x1, e1, _, w1⟩ := DataW.trod_int Tryd.underlying3 f1
      obtain ⟨x2, e2, _, w2⟩ := DataW.trod_int Tryd.underlying30 f2
      obtain ⟨x3, e3, _, w3⟩ := DataW.trod_int Tryd.underlying3 f3
      obtain ⟨x4, e4, _, w4⟩ := DataW.trod_int Tryd.underlying3 f4
      simp only [List.cons.injEq, and_true] at e0 e1 e2 e3 e4
      subst e0 e1 e2 e3 e4
      exact ⟨⟨x0, x1, x2, x3, x4⟩, rfl, i64_bd w0, i64_bd w1, i64_bd w2, i64_bd w3, i64_bd w4⟩
theorem open_act {H : Type} {enc : TypeId × Value → H} {W : World} {r : Reach} {base : Nat} {v : Value} {d : DataW H} {ps : List MemPlace} (hval : Value.okWide Tryd.prog W r base 44 v) (h : DataW.Trod enc Tryd.prog W 0 (fun _ => true) true 44 v d ps) :
    ∃ x : Ac, v = .agg #[.int .i64 x.what, .int .i64 x.c, .int .i64 x.d, .int .i64 x.n] ∧ x.wf := by
  obtain ⟨cs, rfl, hc⟩ := okWide_struct Tryd.underlying44 hval
  obtain ⟨n, hn⟩ := h
  obtain ⟨x, e, rest⟩ := act_of (by simpa [cellsAct, Value.cells] using hc) hn
  refine ⟨x, ?_, rest⟩
  have : cs = #[.int .i64 x.what, .int .i64 x.c, .int .i64 x.d, .int .i64 x.n] := by
    cases cs
    simpa [Value.cells] using e
  rw [this]
/-- A row of acts in memory. -/
def AcRow (w : World) (v : Value) (l : List Ac) : Prop :=
  (l = [] ∧ ∃ a c, v = .slice a 0 c) ∨ ∃ g off cap, v = .slice (some ⟨g, off, none⟩) l.length cap ∧ g < w.heap.size ∧ ∀ (i : Nat) x, l[i]? = some x →
    w.cell? ⟨g, off + i * 4, none⟩ = some (.int .i64 x.what) ∧ w.cell? ⟨g, off + i * 4 + 1, none⟩ = some (.int .i64 x.c) ∧ w.cell? ⟨g, off + i * 4 + 2, none⟩ = some (.int .i64 x.d) ∧ w.cell? ⟨g, off + i * 4 + 3, none⟩ = some (.int .i64 x.n)
theorem AcRow.new {w w' : World} {v : Value} {l : List Ac} (h : AcRow w v l) (hf : Fr [] w w') : AcRow w' v l := by
  rcases h with h | ⟨g, off, cap, rfl, h1, h2⟩
  · exact .inl h
  · refine .inr ⟨g, off, cap, rfl, Nat.lt_of_lt_of_le h1 hf.size, fun i x hx => ?_⟩
    obtain ⟨c0, c1, c2, c3⟩ := h2 i x hx
    exact ⟨hf.keep c0 (by simp), hf.keep c1 (by simp), hf.keep c2 (by simp), hf.keep c3 (by simp)⟩
theorem choose_list {α : Type} {p : Nat → α → Prop} : ∀ (n : Nat), (∀ i, i < n → ∃ x, p i x) → ∃ l : List α, l.length = n ∧ ∀ (i : Nat) x, l[i]? = some x → p i x
  | 0, _ => ⟨[], rfl, fun i x h => by simp at h⟩
  | n + 1, h => by
    obtain ⟨l, hl, hp⟩ := choose_list n (fun i hi => h i (by omega))
    obtain ⟨x, hx⟩ := h n (by omega)
    refine ⟨l ++ [x], by simp [hl], fun i y hy => ?_⟩
    rw [List.getElem?_append] at hy
    split at hy
    · exact hp i y hy
    · rename_i hi
      have hin : i - l.length = 0 := by
        rcases Nat.eq_zero_or_pos (i - l.length) with e | e
        · exact e
        · rw [List.getElem?_eq_none (by simp; omega)] at hy
          cases hy
      rw [hin] at hy
      simp only [List.getElem?_cons_zero, Option.some.injEq] at hy
      subst hy
      have : i = n := by omega
      subst this
      exact hx
theorem fts_of {H : Type} {enc : TypeId × Value → H} {w : World} {fuel : Nat} {sa : Option Addr} {n c : Nat} {x : DataW H × List MemPlace} (h : DataW.trod enc Tryd.prog w 0 (fun _ => true) true fuel 22 [.slice sa n c] = some x) :
    ∃ fs : List Ft, fs.length = n ∧ FtRow w (.slice sa n c) fs ∧ ∀ f ∈ fs, f.wf := by
  rcases laws.open_rows Tryd.underlying22 cellsFt (by omega) h with ⟨rfl, rfl, rfl⟩ | ⟨hl, hm, a, rfl, hz | ⟨b, off, rfl, hrows⟩⟩
  · exact ⟨[], rfl, .inl ⟨rfl, _, _, rfl⟩, fun f hf => by cases hf⟩
  · subst hz
    exact ⟨[], rfl, .inl ⟨rfl, _, _, rfl⟩, fun f hf => by cases hf⟩
  · have hx : ∀ i, i < n → ∃ x : Ft, (w.cell? ⟨b, off + i * 5, none⟩ = some (.int .i64 x.k) ∧ w.cell? ⟨b, off + i * 5 + 1, none⟩ = some (.int .i64 x.c) ∧ w.cell? ⟨b, off + i * 5 + 2, none⟩ = some (.int .i64 x.d) ∧ w.cell? ⟨b, off + i * 5 + 3, none⟩ = some (.int .i64 x.a) ∧ w.cell? ⟨b, off + i * 5 + 4, none⟩ = some (.int .i64 x.g)) ∧ x.wf := fun i hi => by
      obtain ⟨cs, m, y, hlen, hcell, hy⟩ := hrows i hi
      obtain ⟨x, rfl, hb⟩ := ft_of hlen hy
      exact ⟨x, ⟨hcell 0 (by omega), hcell 1 (by omega), hcell 2 (by omega), hcell 3 (by omega), hcell 4 (by omega)⟩, hb⟩
    obtain ⟨fs, hlen, hp⟩ := choose_list n hx
    refine ⟨fs, hlen, ?_, fun f hf => ?_⟩
    · by_cases h0 : n = 0
      · subst h0
        exact .inl ⟨List.length_eq_zero_iff.1 hlen, _, _, rfl⟩
      · obtain ⟨x0, hx0⟩ : ∃ x, fs[0]? = some x := ⟨_, List.getElem?_eq_getElem (by omega)⟩
        exact .inr ⟨b, off, c, by rw [hlen], cell_lt (hp 0 x0 hx0).1.1, fun i x hx => (hp i x hx).1⟩
    · obtain ⟨i, hi, rfl⟩ := List.getElem_of_mem hf
      exact (hp i _ (List.getElem?_eq_getElem hi)).2
theorem acs_of {H : Type} {enc : TypeId × Value → H} {w : World} {fuel : Nat} {sa : Option Addr} {n c : Nat} {x : DataW H × List MemPlace} (h : DataW.trod enc Tryd.prog w 0 (fun _ => true) true fuel 39 [.slice sa n c] = some x) :
    ∃ l : List Ac, l.length = n ∧ AcRow w (.slice sa n c) l ∧ ∀ a ∈ l, a.wf := by
  rcases laws.open_rows Tryd.underlying39 cellsAct (by omega) h with ⟨rfl, rfl, rfl⟩ | ⟨hl, hm, a, rfl, hz | ⟨b, off, rfl, hrows⟩⟩
  · exact ⟨[], rfl, .inl ⟨rfl, _, _, rfl⟩, fun f hf => by cases hf⟩
  · subst hz
    exact ⟨[], rfl, .inl ⟨rfl, _, _, rfl⟩, fun f hf => by cases hf⟩
  · have hx : ∀ i, i < n → ∃ x : Ac, (w.cell? ⟨b, off + i * 4, none⟩ = some (.int .i64 x.what) ∧ w.cell? ⟨b, off + i * 4 + 1, none⟩ = some (.int .i64 x.c) ∧ w.cell? ⟨b, off + i * 4 + 2, none⟩ = some (.int .i64 x.d) ∧ w.cell? ⟨b, off + i * 4 + 3, none⟩ = some (.int .i64 x.n)) ∧ x.wf := fun i hi => by
      obtain ⟨cs, m, y, hlen, hcell, hy⟩ := hrows i hi
      obtain ⟨x, rfl, hb⟩ := act_of hlen hy
      exact ⟨x, ⟨hcell 0 (by omega), hcell 1 (by omega), hcell 2 (by omega), hcell 3 (by omega)⟩, hb⟩
    obtain ⟨fs, hlen, hp⟩ := choose_list n hx
    refine ⟨fs, hlen, ?_, fun f hf => ?_⟩
    · by_cases h0 : n = 0
      · subst h0
        exact .inl ⟨List.length_eq_zero_iff.1 hlen, _, _, rfl⟩
      · obtain ⟨x0, hx0⟩ : ∃ x, fs[0]? = some x := ⟨_, List.getElem?_eq_getElem (by omega)⟩
        exact .inr ⟨b, off, c, by rw [hlen], cell_lt (hp 0 x0 hx0).1.1, fun i x hx => (hp i x hx).1⟩
    · obtain ⟨i, hi, rfl⟩ := List.getElem_of_mem hf
      exact (hp i _ (List.getElem?_eq_getElem hi)).2
end Go.Proofs.YtededfkenlhokaaDoor
