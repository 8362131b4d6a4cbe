/- Report: the map of how calls have ended, in memory; one end more. -/
import Derived.Test.YtllmejkcohfbiaaGreatDoorU0
import Derived.Test.YtllmejkcohfbiaaGreatDoorRange
import Derived.WideKeyEntry
namespace Go.Proofs.YtllmejkcohfbiaaGreatDoor
open Go.RowKit Go.Maps Go.Shelf Go.Sort Go.Lib
set_option linter.unusedVariables false
set_option linter.unusedSimpArgs false
set_option maxRecDepth 100000
set_option maxHeartbeats 8000000

theorem rowCC : (62 : TypeId) < Tryz.prog.types.size := of_decide_eq_true (by kernel_rfl)
theorem cellsCC : Tryz.prog.cellsOf 62 = 3 := by kernel_rfl
theorem laidOutCC : laidOutB Tryz.prog = true := by kernel_rfl
theorem wideCC : (match Tryz.prog.underlying 62 with | some (.array _ _) | some (.struct _) => true | _ => false) = true := by rw [Tryz.underlying62]
theorem keyCC : Keyed Tryz.prog 62 := Keyed.of_law (deep_law_laid laidOutCC (m := 3) (by omega) rowCC (by kernel_rfl) wideCC)
theorem keyTypeCC : Tryz.prog.keyType 62 = true := by kernel_rfl
theorem sizeCC : ∃ n, Tryz.prog.types.size + 1 = n + 2 := ⟨Tryz.prog.types.size - 1, by have h : (1 : Nat) < Tryz.prog.types.size := Nat.lt_of_le_of_lt (by decide) rowCC; omega⟩
theorem cellsIntC : Tryz.prog.cellsOf 3 = 1 := by kernel_rfl
theorem cellsKind : Tryz.prog.cellsOf 29 = 1 := by kernel_rfl
theorem cellsErrno : Tryz.prog.cellsOf 28 = 1 := by kernel_rfl
def keyV (k : Int × Int) : Value := .agg #[.int .i64 k.1, .int .i64 k.2, .int .i64 0]
theorem keyV_inj {a b : Int × Int} (h : keyV a = keyV b) : a = b := by
  unfold keyV at h
  simp only [Value.agg.injEq, Array.mk.injEq, List.cons.injEq, Value.int.injEq, and_true, true_and] at h
  exact Prod.ext h.1 h.2
theorem keyCC_of (k : Int × Int) (hc : I64 k.1) (hd : I64 k.2) : ∃ l, keyOf Tryz.prog 62 (keyV k) = some l := by
  obtain ⟨n, hn⟩ := sizeCC
  unfold I64 at hc hd
  have hwf : (Lit.int .i64 k.1).wf = true := by simp [Lit.wf, IntKind.min, IntKind.max, IntKind.signed, IntKind.bits]; omega
  have hwd : (Lit.int .i64 k.2).wf = true := by simp [Lit.wf, IntKind.min, IntKind.max, IntKind.signed, IntKind.bits]; omega
  have hw0 : (Lit.int .i64 0).wf = true := by simp [Lit.wf, IntKind.min, IntKind.max, IntKind.signed, IntKind.bits]
  unfold keyOf
  rw [Tryz.underlying62]
  simp only [keyTypeCC, hn]
  simp [keyV, Value.formed, Tryz.underlying62, cellsCC, Value.cells, Program.keyLits, Tryz.underlying29, Tryz.underlying28, Tryz.underlying3, cellsKind, cellsErrno, cellsIntC, hwf, hwd, hw0]
def cdPairs (D : CD) : List (Value × Value) := D.map fun p => (keyV p.1, .int .i64 (p.2 : Int))
theorem cdPairs_app (A B : CD) : cdPairs (A ++ B) = cdPairs A ++ cdPairs B := by simp [cdPairs]
theorem lawCC : WideMaps.KeyLaw Tryz.prog 62 := deep_law_laid laidOutCC (m := 3) (by omega) rowCC (by kernel_rfl) wideCC
theorem map_entry_two {w : World} {b : Nat} {es : Array MapEntry} {clock : Nat} {x : Value} {lx : Lit} (hb : w.heap[b]? = some (.map es clock)) (hk : ∀ e ∈ es.toList, ∃ l, keyOf Tryz.prog 62 e.key = some l) (hlx : keyOf Tryz.prog 62 x = some lx) :
    (∃ e0 ∈ es.toList, e0.key = x ∧ (Instr.mapEntry 134 (.map (some b)) x).run Tryz.prog w = .ok (.tuple #[e0.val, goInt e0.born]) (ChangeMaps.setBlock w b (.map es clock))) ∨
    ((∀ y ∈ es.toList, y.key ≠ x) ∧ (Instr.mapEntry 134 (.map (some b)) x).run Tryz.prog w = .ok (.tuple #[.int .i64 0, goInt clock]) (ChangeMaps.setBlock w b (.map (es.push ⟨x, .int .i64 0, clock⟩) (clock + 1)))) := by
  have hz : ∀ u : World, (zeroValue 3).run Tryz.prog u = .ok (.int .i64 0) u := fun u => by kernel_rfl
  have ht := Tryz.underlying134
  rcases lawCC.find w hlx es.toList hk with ⟨h1, h2⟩ | ⟨j, e0, h1, h2, h3⟩
  · refine .inr ⟨h2, ?_⟩
    simp [Instr.mapEntry, run_underlying ht, MapKept.run_getObj_map hb, lawCC.check w false hlx, h1, hz, MapKept.run_setObj_map _ hb, Result.andThen, ChangeMaps.setBlock]
  · have hj : es[j]? = some e0 := by simpa using h2
    have hsame : es.modify j (fun e => { e with key := x }) = es := by
      apply Array.ext'
      rw [Array.toList_modify, ChangeMaps.modify_eq_set _ _ _ _ h2]
      have : ({ e0 with key := x } : MapEntry) = e0 := by rw [← h3]
      rw [this]
      exact WideElems.set_self _ _ _ h2
    refine .inl ⟨e0, List.mem_of_getElem? h2, h3, ?_⟩
    simp [Instr.mapEntry, run_underlying ht, MapKept.run_getObj_map hb, lawCC.check w false hlx, h1, hj, h3, lawCC.stays w hlx, hsame, MapKept.run_setObj_map _ hb, Result.andThen, ChangeMaps.setBlock]
/-- 'm[k] op= x' in its two steps. -/
theorem MapIs.entry {w : World} {b : Nat} {f : List (Value × Value)} {x : Value} {lx : Lit} (h : MapIs Tryz.prog 62 w b f) (hn : f.length ≤ 100000) (hlx : keyOf Tryz.prog 62 x = some lx) :
    ∃ (v0 st : Value) (w1 : World), (Instr.mapEntry 134 (.map (some b)) x).run Tryz.prog w = .ok (.tuple #[v0, st]) w1 ∧ Fr [b] w w1 ∧
      (∀ v, (Instr.lookup 134 (.map (some b)) x false).run Tryz.prog w = .ok v w → (Instr.lookup 134 (.map (some b)) x false).run Tryz.prog w1 = .ok v w1) ∧
      ∀ (w2 : World) (val : Value), w2.heap[b]? = w1.heap[b]? → ∀ W', (Instr.mapUpdate 134 (.map (some b)) x val).run Tryz.prog w = .ok () W' →
        ∃ W2, (Instr.entryStore 134 (.map (some b)) st val).run Tryz.prog w2 = .ok () W2 ∧ W2.heap[b]? = W'.heap[b]? ∧ Fr [b] w2 W2 := by
  have hmap := h
  obtain ⟨es, clock, hb, hs, hk, rfl⟩ := h
  have hblt := (Array.getElem?_eq_some_iff.1 hb).1
  have F : WideElems.Fit (H := Unit) Tryz.prog 62 (fun _ => some (.nil, [])) es clock := ⟨by simp at hn; unfold maxLen; omega, hs, fun x hx => by
    obtain ⟨l, hl⟩ := hk x hx
    refine ⟨(l, .nil), ?_⟩
    unfold WideElems.rd
    rw [hl]
    rfl⟩
  obtain ⟨v0, st, es1, clock1, h1, _, h2⟩ := WideElems.entry_then_store lawCC Tryz.underlying134 (z := .int .i64 0) (fun u => by kernel_rfl) hb F hlx
  have fr : ∀ (u : World) (o : Obj), Fr [b] u (ChangeMaps.setBlock u b o) := fun u o => ⟨rfl, rfl, rfl, by simp [ChangeMaps.setBlock], fun k hk hn => by
    simp only [List.mem_singleton] at hn
    simp [ChangeMaps.setBlock, Ne.symm hn]⟩
  refine ⟨v0, goInt st, _, h1, fr _ _, fun v hv => ?_, fun w2 val hw2 W' hW' => ?_⟩
  · have hz : ∀ u : World, (zeroValue 3).run Tryz.prog u = .ok (.int .i64 0) u := fun u => by kernel_rfl
    have ht := Tryz.underlying134
    rcases map_entry_two hb hk hlx with ⟨e0, he0, hx, hrun⟩ | ⟨hno, hrun⟩
    · rw [h1] at hrun
      obtain ⟨_, hw⟩ := Result.ok.inj hrun
      have hm1 : MapIs Tryz.prog 62 (ChangeMaps.setBlock w b (.map es clock)) b (es.toList.map fun e => (e.key, e.val)) := ⟨es, clock, by simp [ChangeMaps.setBlock, hblt], hs, hk, rfl⟩
      have hin : (x, e0.val) ∈ es.toList.map fun e => (e.key, e.val) := List.mem_map.2 ⟨e0, he0, by rw [hx]⟩
      have r1 := hm1.hit keyCC ht hin false
      have r0 := hmap.hit keyCC ht hin false
      rw [r0] at hv
      obtain ⟨rfl, _⟩ := Result.ok.inj hv
      rw [hw]
      exact r1
    · rw [h1] at hrun
      obtain ⟨_, hw⟩ := Result.ok.inj hrun
      have hm1 : MapIs Tryz.prog 62 (ChangeMaps.setBlock w b (.map (es.push ⟨x, .int .i64 0, clock⟩) (clock + 1))) b ((es.toList.map fun e => (e.key, e.val)) ++ [(x, .int .i64 0)]) := ⟨es.push ⟨x, .int .i64 0, clock⟩, clock + 1, by simp [ChangeMaps.setBlock, hblt], MapKept.stamped_push hs hno, fun e he => by
        simp only [Array.toList_push, List.mem_append, List.mem_singleton] at he
        rcases he with he | rfl
        · exact hk e he
        · exact ⟨lx, hlx⟩, by simp⟩
      have r1 := hm1.hit keyCC ht (x := x) (v := .int .i64 0) (by simp) false
      have r0 := hmap.miss keyCC ht (z := .int .i64 0) hlx (fun p hp e => by
        obtain ⟨y, hy, rfl⟩ := List.mem_map.1 hp
        exact hno y hy e) (hz w) false
      rw [r0] at hv
      obtain ⟨rfl, _⟩ := Result.ok.inj hv
      rw [hw]
      exact r1
  have hw2' : w2.heap[b]? = some (.map es1 clock1) := by
    rw [hw2]
    simp [ChangeMaps.setBlock, hblt]
  have hb2 := (Array.getElem?_eq_some_iff.1 hw2').1
  obtain ⟨es', clock', h3, h4⟩ := h2 w2 val hw2'
  refine ⟨_, h3, ?_, fr _ _⟩
  rw [h4] at hW'
  cases hW'
  simp [ChangeMaps.setBlock, hblt, hb2]
theorem MapIs.at {P : Program} {kt : TypeId} {w w' : World} {b : Nat} {f : List (Value × Value)} (h : MapIs P kt w b f) (hb : w'.heap[b]? = w.heap[b]?) : MapIs P kt w' b f := by
  obtain ⟨es, clock, h1, h2⟩ := h
  exact ⟨es, clock, hb.trans h1, h2⟩
/-- One end more. -/
theorem cd_bump {l : List Ev} {D : CD} {v : Ev} (h : CdR l D) (hv : v.ended = true) (hk : I64 v.eKind ∧ I64 v.eErr) (hl : l.length ≤ 5000) :
    ∃ (n : Nat) (D' : CD), n ≤ l.length ∧ CdR (l ++ [v]) D' ∧ ∀ (W : World) (M : Nat), MapIs Tryz.prog 62 W M (cdPairs D) →
      (Instr.lookup 134 (.map (some M)) (.agg #[.int .i64 v.eKind, .int .i64 v.eErr, .int .i64 0]) false).run Tryz.prog W = .ok (.int .i64 n) W ∧
      ∃ (v0 st : Value) (W1 : World), (Instr.mapEntry 134 (.map (some M)) (.agg #[.int .i64 v.eKind, .int .i64 v.eErr, .int .i64 0])).run Tryz.prog W = .ok (.tuple #[v0, st]) W1 ∧ Fr [M] W W1 ∧
        (Instr.lookup 134 (.map (some M)) (.agg #[.int .i64 v.eKind, .int .i64 v.eErr, .int .i64 0]) false).run Tryz.prog W1 = .ok (.int .i64 n) W1 ∧
        ∀ W2 : World, W2.heap[M]? = W1.heap[M]? → ∃ W3, (Instr.entryStore 134 (.map (some M)) st (.int .i64 ((n : Int) + 1))).run Tryz.prog W2 = .ok () W3 ∧ MapIs Tryz.prog 62 W3 M (cdPairs D') ∧ Fr [M] W2 W3 := by
  obtain ⟨lx, hlx⟩ := keyCC_of v.key hk.1 hk.2
  have hD : (cdPairs D).length ≤ 100000 := by
    have := h.len
    simp only [cdPairs, List.length_map]
    omega
  have done : ∀ (n : Nat) (D' : CD) (W : World) (M : Nat), MapIs Tryz.prog 62 W M (cdPairs D) →
      (∃ W', (Instr.mapUpdate 134 (.map (some M)) (keyV v.key) (.int .i64 ((n : Int) + 1))).run Tryz.prog W = .ok () W' ∧ MapIs Tryz.prog 62 W' M (cdPairs D')) →
      (Instr.lookup 134 (.map (some M)) (keyV v.key) false).run Tryz.prog W = .ok (.int .i64 n) W →
      ∃ (v0 st : Value) (W1 : World), (Instr.mapEntry 134 (.map (some M)) (keyV v.key)).run Tryz.prog W = .ok (.tuple #[v0, st]) W1 ∧ Fr [M] W W1 ∧
        (Instr.lookup 134 (.map (some M)) (keyV v.key) false).run Tryz.prog W1 = .ok (.int .i64 n) W1 ∧
        ∀ W2 : World, W2.heap[M]? = W1.heap[M]? → ∃ W3, (Instr.entryStore 134 (.map (some M)) st (.int .i64 ((n : Int) + 1))).run Tryz.prog W2 = .ok () W3 ∧ MapIs Tryz.prog 62 W3 M (cdPairs D') ∧ Fr [M] W2 W3 := by
    rintro n D' W M hM ⟨W', h1, h2⟩ hlk
    obtain ⟨v0, st, W1, h3, h4, hl1, h5⟩ := hM.entry hD hlx
    refine ⟨v0, st, W1, h3, h4, hl1 _ hlk, fun W2 hW2 => ?_⟩
    obtain ⟨W3, h6, h7, h8⟩ := h5 W2 _ hW2 W' h1
    exact ⟨W3, h6, h2.at h7, h8⟩
  rcases cd_split D v.key with ⟨A, n, B, rfl⟩ | hne
  · have hnl : n ≤ l.length := by
      have := (h.num (v.key, n) (by simp)).1
      dsimp only at this
      rw [this]
      exact List.countP_le_length
    refine ⟨n, A ++ (v.key, n + 1) :: B, hnl, h.hit hv, fun W M hM => ?_⟩
    have hA : (Instr.lookup 134 (.map (some M)) (keyV v.key) false).run Tryz.prog W = .ok (.int .i64 n) W := hM.hit keyCC (t := 134) (e := 3) Tryz.underlying134 (x := keyV v.key) (v := .int .i64 n) (by simp [cdPairs]) false
    refine ⟨hA, done n _ W M hM ?_ hA⟩
    · have e : cdPairs (A ++ (v.key, n) :: B) = cdPairs A ++ (keyV v.key, .int .i64 (n : Int)) :: cdPairs B := by simp [cdPairs]
      rw [e] at hM
      obtain ⟨W', h1, h2, h3⟩ := hM.set keyCC (t := 134) (e := 3) Tryz.underlying134 (.int .i64 ((n : Int) + 1))
      refine ⟨W', h1, ?_⟩
      have e2 : cdPairs (A ++ (v.key, n + 1) :: B) = cdPairs A ++ (keyV v.key, .int .i64 ((n : Int) + 1)) :: cdPairs B := by simp [cdPairs]
      rw [e2]
      exact h2
  · have hno : ∀ p ∈ cdPairs D, p.1 ≠ keyV v.key := fun p hp e => by
      obtain ⟨y, hy, rfl⟩ := List.mem_map.1 hp
      exact hne y hy (keyV_inj e)
    refine ⟨0, D ++ [(v.key, 1)], by omega, h.new hv hne hk, fun W M hM => ?_⟩
    have hA : (Instr.lookup 134 (.map (some M)) (keyV v.key) false).run Tryz.prog W = .ok (.int .i64 (0 : Nat)) W := hM.miss keyCC (t := 134) (e := 3) Tryz.underlying134 (x := keyV v.key) (z := .int .i64 0) hlx hno (by kernel_rfl) false
    refine ⟨hA, done 0 _ W M hM ?_ hA⟩
    · obtain ⟨W', h1, h2, h3⟩ := hM.put keyCC (t := 134) (e := 3) Tryz.underlying134 hlx hno (.int .i64 1)
      refine ⟨W', h1, ?_⟩
      rw [cdPairs_app]
      exact h2
end Go.Proofs.YtllmejkcohfbiaaGreatDoor
