/- Report: the map of how calls have ended, in memory; one end more. -/
/-
  DERIVED: THE SHELF's CONTRACTS AT THIS DUMP, IN PLAIN WORDS (tools/lay-plain.mjs out of 'TryzSort.lean', which tools/lay-shelf.mjs wrote): THE SAME DECLARATIONS UNDER THE SAME NAMES: 'import', 'namespace', 'open', 'def', 'theorem' AND NOTHING ELSE: no command of the shelf's: FOR A HAND-IN. Each laying: the table of numbers ('.._ren') and one theorem, a field a fact of the dump's own or the kernel's comparison; each contract: ONE APPLICATION.
-/
/- Report: how calls have ended, sorted. -/
/- Report: OfCodes, walked. -/
/- ReportCodes answers true. -/
import Derived.Test.YtllmejkcohfbiaaGreatDoorU0
import Derived.Test.YtllmejkcohfbiaaGreatDoorRange
import Derived.WideKeyEntry
import Derived.Shelf.SlGeneric
import Derived.Shelf.SlSortCmp.WholeK
import Derived.Shelf.SlSortCmp.NoneTotal
import Derived.Ground.SlsfProg
import Derived.Test.YtllmejkcohfbiaaGreatDoorProg
import Derived.Test.YtllmejkcohfbiaaGreatDoorR18Cd
import Derived.StillTailTactics
import Derived.Test.YtllmejkcohfbiaaGreatDoorT3
import Derived.BigQuiet
namespace Go.Proofs.YtllmejkcohfbiaaGreatDoor
open Go.RowKit Go.Maps Go.Shelf Go.Sort Go.Lib
set_option linter.unusedVariables false
set_option linter.unusedSimpArgs false
set_option maxRecDepth 100000
set_option maxHeartbeats 8000000

theorem rowCC : (62 : TypeId) < Tryz.prog.types.size := of_decide_eq_true (by kernel_rfl)
theorem cellsCC : Tryz.prog.cellsOf 62 = 3 := by kernel_rfl
theorem laidOutCC : laidOutB Tryz.prog = true := by kernel_rfl
theorem wideCC : (match Tryz.prog.underlying 62 with | some (.array _ _) | some (.struct _) => true | _ => false) = true := by rw [Tryz.underlying62]
theorem keyCC : Keyed Tryz.prog 62 := Keyed.of_law (deep_law_laid laidOutCC (m := 3) (by omega) rowCC (by kernel_rfl) wideCC)
theorem keyTypeCC : Tryz.prog.keyType 62 = true := by kernel_rfl
theorem sizeCC : ∃ n, Tryz.prog.types.size + 1 = n + 2 := ⟨Tryz.prog.types.size - 1, by have h : (1 : Nat) < Tryz.prog.types.size := Nat.lt_of_le_of_lt (by decide) rowCC; omega⟩
theorem cellsIntC : Tryz.prog.cellsOf 3 = 1 := by kernel_rfl
theorem cellsKind : Tryz.prog.cellsOf 29 = 1 := by kernel_rfl
theorem cellsErrno : Tryz.prog.cellsOf 28 = 1 := by kernel_rfl
def keyV (k : Int × Int) : Value := .agg #[.int .i64 k.1, .int .i64 k.2, .int .i64 0]
theorem keyV_inj {a b : Int × Int} (h : keyV a = keyV b) : a = b := by
  unfold keyV at h
  simp only [Value.agg.injEq, Array.mk.injEq, List.cons.injEq, Value.int.injEq, and_true, true_and] at h
  exact Prod.ext h.1 h.2
theorem keyCC_of (k : Int × Int) (hc : I64 k.1) (hd : I64 k.2) : ∃ l, keyOf Tryz.prog 62 (keyV k) = some l := by
  obtain ⟨n, hn⟩ := sizeCC
  unfold I64 at hc hd
  have hwf : (Lit.int .i64 k.1).wf = true := by simp [Lit.wf, IntKind.min, IntKind.max, IntKind.signed, IntKind.bits]; omega
  have hwd : (Lit.int .i64 k.2).wf = true := by simp [Lit.wf, IntKind.min, IntKind.max, IntKind.signed, IntKind.bits]; omega
  have hw0 : (Lit.int .i64 0).wf = true := by simp [Lit.wf, IntKind.min, IntKind.max, IntKind.signed, IntKind.bits]
  unfold keyOf
  rw [Tryz.underlying62]
  simp only [keyTypeCC, hn]
  simp [keyV, Value.formed, Tryz.underlying62, cellsCC, Value.cells, Program.keyLits, Tryz.underlying29, Tryz.underlying28, Tryz.underlying3, cellsKind, cellsErrno, cellsIntC, hwf, hwd, hw0]
def cdPairs (D : CD) : List (Value × Value) := D.map fun p => (keyV p.1, .int .i64 (p.2 : Int))
theorem cdPairs_app (A B : CD) : cdPairs (A ++ B) = cdPairs A ++ cdPairs B := by simp [cdPairs]
theorem lawCC : WideMaps.KeyLaw Tryz.prog 62 := deep_law_laid laidOutCC (m := 3) (by omega) rowCC (by kernel_rfl) wideCC
theorem map_entry_two {w : World} {b : Nat} {es : Array MapEntry} {clock : Nat} {x : Value} {lx : Lit} (hb : w.heap[b]? = some (.map es clock)) (hk : ∀ e ∈ es.toList, ∃ l, keyOf Tryz.prog 62 e.key = some l) (hlx : keyOf Tryz.prog 62 x = some lx) :
    (∃ e0 ∈ es.toList, e0.key = x ∧ (Instr.mapEntry 134 (.map (some b)) x).run Tryz.prog w = .ok (.tuple #[e0.val, goInt e0.born]) (ChangeMaps.setBlock w b (.map es clock))) ∨
    ((∀ y ∈ es.toList, y.key ≠ x) ∧ (Instr.mapEntry 134 (.map (some b)) x).run Tryz.prog w = .ok (.tuple #[.int .i64 0, goInt clock]) (ChangeMaps.setBlock w b (.map (es.push ⟨x, .int .i64 0, clock⟩) (clock + 1)))) := by
  have hz : ∀ u : World, (zeroValue 3).run Tryz.prog u = .ok (.int .i64 0) u := fun u => by kernel_rfl
  have ht := Tryz.underlying134
  rcases lawCC.find w hlx es.toList hk with ⟨h1, h2⟩ | ⟨j, e0, h1, h2, h3⟩
  · refine .inr ⟨h2, ?_⟩
    simp [Instr.mapEntry, run_underlying ht, MapKept.run_getObj_map hb, lawCC.check w false hlx, h1, hz, MapKept.run_setObj_map _ hb, Result.andThen, ChangeMaps.setBlock]
  · have hj : es[j]? = some e0 := by simpa using h2
    have hsame : es.modify j (fun e => { e with key := x }) = es := by
      apply Array.ext'
      rw [Array.toList_modify, ChangeMaps.modify_eq_set _ _ _ _ h2]
      have : ({ e0 with key := x } : MapEntry) = e0 := by rw [← h3]
      rw [this]
      exact WideElems.set_self _ _ _ h2
    refine .inl ⟨e0, List.mem_of_getElem? h2, h3, ?_⟩
    simp [Instr.mapEntry, run_underlying ht, MapKept.run_getObj_map hb, lawCC.check w false hlx, h1, hj, h3, lawCC.stays w hlx, hsame, MapKept.run_setObj_map _ hb, Result.andThen, ChangeMaps.setBlock]
/-- 'm[k] op= x' in its two steps. -/
theorem MapIs.entry {w : World} {b : Nat} {f : List (Value × Value)} {x : Value} {lx : Lit} (h : MapIs Tryz.prog 62 w b f) (hn : f.length ≤ 100000) (hlx : keyOf Tryz.prog 62 x = some lx) :
    ∃ (v0 st : Value) (w1 : World), (Instr.mapEntry 134 (.map (some b)) x).run Tryz.prog w = .ok (.tuple #[v0, st]) w1 ∧ Fr [b] w w1 ∧
      (∀ v, (Instr.lookup 134 (.map (some b)) x false).run Tryz.prog w = .ok v w → (Instr.lookup 134 (.map (some b)) x false).run Tryz.prog w1 = .ok v w1) ∧
      ∀ (w2 : World) (val : Value), w2.heap[b]? = w1.heap[b]? → ∀ W', (Instr.mapUpdate 134 (.map (some b)) x val).run Tryz.prog w = .ok () W' →
        ∃ W2, (Instr.entryStore 134 (.map (some b)) st val).run Tryz.prog w2 = .ok () W2 ∧ W2.heap[b]? = W'.heap[b]? ∧ Fr [b] w2 W2 := by
  have hmap := h
  obtain ⟨es, clock, hb, hs, hk, rfl⟩ := h
  have hblt := (Array.getElem?_eq_some_iff.1 hb).1
  have F : WideElems.Fit (H := Unit) Tryz.prog 62 (fun _ => some (.nil, [])) es clock := ⟨by simp at hn; unfold maxLen; omega, hs, fun x hx => by
    obtain ⟨l, hl⟩ := hk x hx
    refine ⟨(l, .nil), ?_⟩
    unfold WideElems.rd
    rw [hl]
    rfl⟩
  obtain ⟨v0, st, es1, clock1, h1, _, h2⟩ := WideElems.entry_then_store lawCC Tryz.underlying134 (z := .int .i64 0) (fun u => by kernel_rfl) hb F hlx
  have fr : ∀ (u : World) (o : Obj), Fr [b] u (ChangeMaps.setBlock u b o) := fun u o => ⟨rfl, rfl, rfl, by simp [ChangeMaps.setBlock], fun k hk hn => by
    simp only [List.mem_singleton] at hn
    simp [ChangeMaps.setBlock, Ne.symm hn]⟩
  refine ⟨v0, goInt st, _, h1, fr _ _, fun v hv => ?_, fun w2 val hw2 W' hW' => ?_⟩
  · have hz : ∀ u : World, (zeroValue 3).run Tryz.prog u = .ok (.int .i64 0) u := fun u => by kernel_rfl
    have ht := Tryz.underlying134
    rcases map_entry_two hb hk hlx with ⟨e0, he0, hx, hrun⟩ | ⟨hno, hrun⟩
    · rw [h1] at hrun
      obtain ⟨_, hw⟩ := Result.ok.inj hrun
      have hm1 : MapIs Tryz.prog 62 (ChangeMaps.setBlock w b (.map es clock)) b (es.toList.map fun e => (e.key, e.val)) := ⟨es, clock, by simp [ChangeMaps.setBlock, hblt], hs, hk, rfl⟩
      have hin : (x, e0.val) ∈ es.toList.map fun e => (e.key, e.val) := List.mem_map.2 ⟨e0, he0, by rw [hx]⟩
      have r1 := hm1.hit keyCC ht hin false
      have r0 := hmap.hit keyCC ht hin false
      rw [r0] at hv
      obtain ⟨rfl, _⟩ := Result.ok.inj hv
      rw [hw]
      exact r1
    · rw [h1] at hrun
      obtain ⟨_, hw⟩ := Result.ok.inj hrun
      have hm1 : MapIs Tryz.prog 62 (ChangeMaps.setBlock w b (.map (es.push ⟨x, .int .i64 0, clock⟩) (clock + 1))) b ((es.toList.map fun e => (e.key, e.val)) ++ [(x, .int .i64 0)]) := ⟨es.push ⟨x, .int .i64 0, clock⟩, clock + 1, by simp [ChangeMaps.setBlock, hblt], MapKept.stamped_push hs hno, fun e he => by
        simp only [Array.toList_push, List.mem_append, List.mem_singleton] at he
        rcases he with he | rfl
        · exact hk e he
        · exact ⟨lx, hlx⟩, by simp⟩
      have r1 := hm1.hit keyCC ht (x := x) (v := .int .i64 0) (by simp) false
      have r0 := hmap.miss keyCC ht (z := .int .i64 0) hlx (fun p hp e => by
        obtain ⟨y, hy, rfl⟩ := List.mem_map.1 hp
        exact hno y hy e) (hz w) false
      rw [r0] at hv
      obtain ⟨rfl, _⟩ := Result.ok.inj hv
      rw [hw]
      exact r1
  have hw2' : w2.heap[b]? = some (.map es1 clock1) := by
    rw [hw2]
    simp [ChangeMaps.setBlock, hblt]
  have hb2 := (Array.getElem?_eq_some_iff.1 hw2').1
  obtain ⟨es', clock', h3, h4⟩ := h2 w2 val hw2'
  refine ⟨_, h3, ?_, fr _ _⟩
  rw [h4] at hW'
  cases hW'
  simp [ChangeMaps.setBlock, hblt, hb2]
theorem MapIs.at {P : Program} {kt : TypeId} {w w' : World} {b : Nat} {f : List (Value × Value)} (h : MapIs P kt w b f) (hb : w'.heap[b]? = w.heap[b]?) : MapIs P kt w' b f := by
  obtain ⟨es, clock, h1, h2⟩ := h
  exact ⟨es, clock, hb.trans h1, h2⟩
/-- One end more. -/
theorem cd_bump {l : List Ev} {D : CD} {v : Ev} (h : CdR l D) (hv : v.ended = true) (hk : I64 v.eKind ∧ I64 v.eErr) (hl : l.length ≤ 5000) :
    ∃ (n : Nat) (D' : CD), n ≤ l.length ∧ CdR (l ++ [v]) D' ∧ ∀ (W : World) (M : Nat), MapIs Tryz.prog 62 W M (cdPairs D) →
      (Instr.lookup 134 (.map (some M)) (.agg #[.int .i64 v.eKind, .int .i64 v.eErr, .int .i64 0]) false).run Tryz.prog W = .ok (.int .i64 n) W ∧
      ∃ (v0 st : Value) (W1 : World), (Instr.mapEntry 134 (.map (some M)) (.agg #[.int .i64 v.eKind, .int .i64 v.eErr, .int .i64 0])).run Tryz.prog W = .ok (.tuple #[v0, st]) W1 ∧ Fr [M] W W1 ∧
        (Instr.lookup 134 (.map (some M)) (.agg #[.int .i64 v.eKind, .int .i64 v.eErr, .int .i64 0]) false).run Tryz.prog W1 = .ok (.int .i64 n) W1 ∧
        ∀ W2 : World, W2.heap[M]? = W1.heap[M]? → ∃ W3, (Instr.entryStore 134 (.map (some M)) st (.int .i64 ((n : Int) + 1))).run Tryz.prog W2 = .ok () W3 ∧ MapIs Tryz.prog 62 W3 M (cdPairs D') ∧ Fr [M] W2 W3 := by
  obtain ⟨lx, hlx⟩ := keyCC_of v.key hk.1 hk.2
  have hD : (cdPairs D).length ≤ 100000 := by
    have := h.len
    simp only [cdPairs, List.length_map]
    omega
  have done : ∀ (n : Nat) (D' : CD) (W : World) (M : Nat), MapIs Tryz.prog 62 W M (cdPairs D) →
      (∃ W', (Instr.mapUpdate 134 (.map (some M)) (keyV v.key) (.int .i64 ((n : Int) + 1))).run Tryz.prog W = .ok () W' ∧ MapIs Tryz.prog 62 W' M (cdPairs D')) →
      (Instr.lookup 134 (.map (some M)) (keyV v.key) false).run Tryz.prog W = .ok (.int .i64 n) W →
      ∃ (v0 st : Value) (W1 : World), (Instr.mapEntry 134 (.map (some M)) (keyV v.key)).run Tryz.prog W = .ok (.tuple #[v0, st]) W1 ∧ Fr [M] W W1 ∧
        (Instr.lookup 134 (.map (some M)) (keyV v.key) false).run Tryz.prog W1 = .ok (.int .i64 n) W1 ∧
        ∀ W2 : World, W2.heap[M]? = W1.heap[M]? → ∃ W3, (Instr.entryStore 134 (.map (some M)) st (.int .i64 ((n : Int) + 1))).run Tryz.prog W2 = .ok () W3 ∧ MapIs Tryz.prog 62 W3 M (cdPairs D') ∧ Fr [M] W2 W3 := by
    rintro n D' W M hM ⟨W', h1, h2⟩ hlk
    obtain ⟨v0, st, W1, h3, h4, hl1, h5⟩ := hM.entry hD hlx
    refine ⟨v0, st, W1, h3, h4, hl1 _ hlk, fun W2 hW2 => ?_⟩
    obtain ⟨W3, h6, h7, h8⟩ := h5 W2 _ hW2 W' h1
    exact ⟨W3, h6, h2.at h7, h8⟩
  rcases cd_split D v.key with ⟨A, n, B, rfl⟩ | hne
  · have hnl : n ≤ l.length := by
      have := (h.num (v.key, n) (by simp)).1
      dsimp only at this
      rw [this]
      exact List.countP_le_length
    refine ⟨n, A ++ (v.key, n + 1) :: B, hnl, h.hit hv, fun W M hM => ?_⟩
    have hA : (Instr.lookup 134 (.map (some M)) (keyV v.key) false).run Tryz.prog W = .ok (.int .i64 n) W := hM.hit keyCC (t := 134) (e := 3) Tryz.underlying134 (x := keyV v.key) (v := .int .i64 n) (by simp [cdPairs]) false
    refine ⟨hA, done n _ W M hM ?_ hA⟩
    · have e : cdPairs (A ++ (v.key, n) :: B) = cdPairs A ++ (keyV v.key, .int .i64 (n : Int)) :: cdPairs B := by simp [cdPairs]
      rw [e] at hM
      obtain ⟨W', h1, h2, h3⟩ := hM.set keyCC (t := 134) (e := 3) Tryz.underlying134 (.int .i64 ((n : Int) + 1))
      refine ⟨W', h1, ?_⟩
      have e2 : cdPairs (A ++ (v.key, n + 1) :: B) = cdPairs A ++ (keyV v.key, .int .i64 ((n : Int) + 1)) :: cdPairs B := by simp [cdPairs]
      rw [e2]
      exact h2
  · have hno : ∀ p ∈ cdPairs D, p.1 ≠ keyV v.key := fun p hp e => by
      obtain ⟨y, hy, rfl⟩ := List.mem_map.1 hp
      exact hne y hy (keyV_inj e)
    refine ⟨0, D ++ [(v.key, 1)], by omega, h.new hv hne hk, fun W M hM => ?_⟩
    have hA : (Instr.lookup 134 (.map (some M)) (keyV v.key) false).run Tryz.prog W = .ok (.int .i64 (0 : Nat)) W := hM.miss keyCC (t := 134) (e := 3) Tryz.underlying134 (x := keyV v.key) (z := .int .i64 0) hlx hno (by kernel_rfl) false
    refine ⟨hA, done 0 _ W M hM ?_ hA⟩
    · obtain ⟨W', h1, h2, h3⟩ := hM.put keyCC (t := 134) (e := 3) Tryz.underlying134 hlx hno (.int .i64 1)
      refine ⟨W', h1, ?_⟩
      rw [cdPairs_app]
      exact h2
end Go.Proofs.YtllmejkcohfbiaaGreatDoor
namespace Go.Proofs
open Go.Shelf
def Tryz.sortC_ren : Go.Shelf.Ren := ⟨fun | 6 => 69 | 15 => 103 | 14 => 102 | 28 => 133 | 29 => 134 | 20 => 125 | 21 => 126 | 22 => 127 | 23 => 128 | 24 => 129 | 25 => 130 | 26 => 131 | 27 => 132 | 46 => 152 | 47 => 153 | 48 => 154 | 49 => 155 | 50 => 156 | 57 => 189 | n => n, fun | 22 => 53 | 24 => 62 | 25 => 139 | 3 => 3 | 39 => 179 | 0 => 0 | 53 => 197 | 55 => 38 | 4 => 4 | 46 => 213 | 45 => 212 | 50 => 217 | 5 => 5 | 9 => 9 | 66 => 232 | 70 => 159 | 76 => 271 | 77 => 272 | n => n, fun | n => n⟩
theorem Tryz.sortC : Go.Proofs.SlLaysF0.n6 Tryz.prog Tryz.sortC_ren := {
  mixed := by kernel_rfl
  f6 := ⟨Tryz.f69.name, by decide, Tryz.func69.trans (congrArg some (by kernel_rfl))⟩
  f14 := ⟨Tryz.f102.name, by decide, Tryz.func102.trans (congrArg some (by kernel_rfl))⟩
  f15 := Tryz.func103.trans (congrArg some (by kernel_rfl))
  f20 := ⟨Tryz.f125.name, by decide, Tryz.func125.trans (congrArg some (by kernel_rfl))⟩
  f21 := ⟨Tryz.f126.name, by decide, Tryz.func126.trans (congrArg some (by kernel_rfl))⟩
  f22 := ⟨Tryz.f127.name, by decide, Tryz.func127.trans (congrArg some (by kernel_rfl))⟩
  f23 := ⟨Tryz.f128.name, by decide, Tryz.func128.trans (congrArg some (by kernel_rfl))⟩
  f24 := ⟨Tryz.f129.name, by decide, Tryz.func129.trans (congrArg some (by kernel_rfl))⟩
  f25 := ⟨Tryz.f130.name, by decide, Tryz.func130.trans (congrArg some (by kernel_rfl))⟩
  f26 := ⟨Tryz.f131.name, by decide, Tryz.func131.trans (congrArg some (by kernel_rfl))⟩
  f27 := ⟨Tryz.f132.name, by decide, Tryz.func132.trans (congrArg some (by kernel_rfl))⟩
  f28 := Tryz.func133.trans (congrArg some (by kernel_rfl))
  f29 := Tryz.func134.trans (congrArg some (by kernel_rfl))
  f46 := ⟨Tryz.f152.name, by decide, Tryz.func152.trans (congrArg some (by kernel_rfl))⟩
  f47 := Tryz.func153.trans (congrArg some (by kernel_rfl))
  f48 := Tryz.func154.trans (congrArg some (by kernel_rfl))
  f49 := ⟨Tryz.f155.name, by decide, Tryz.func155.trans (congrArg some (by kernel_rfl))⟩
  f50 := ⟨Tryz.f156.name, by decide, Tryz.func156.trans (congrArg some (by kernel_rfl))⟩
  f57 := ⟨Tryz.f189.name, by decide, Tryz.func189.trans (congrArg some (by kernel_rfl))⟩
  t0 := Tryz.underlying0
  a0 := Tryz.isAgg0
  z0 := Tryz.sizeOf0
  v0 := Tryz.zeroValue0
  t3 := Tryz.underlying3
  a3 := Tryz.isAgg3
  z3 := Tryz.sizeOf3
  v3 := Tryz.zeroValue3
  t4 := Tryz.underlying4
  a4 := Tryz.isAgg4
  z4 := Tryz.sizeOf4
  v4 := Tryz.zeroValue4
  t5 := Tryz.underlying5
  a5 := Tryz.isAgg5
  z5 := Tryz.sizeOf5
  v5 := Tryz.zeroValue5
  t9 := Tryz.underlying9
  a9 := Tryz.isAgg9
  z9 := Tryz.sizeOf9
  v9 := Tryz.zeroValue9
  t22 := Tryz.underlying53
  a22 := Tryz.isAgg53
  z22 := Tryz.sizeOf53
  v22 := Tryz.zeroValue53
  t25 := Tryz.underlying139
  a25 := Tryz.isAgg139
  z25 := Tryz.sizeOf139
  v25 := Tryz.zeroValue139
  t39 := Tryz.underlying179
  a39 := Tryz.isAgg179
  z39 := Tryz.sizeOf179
  v39 := Tryz.zeroValue179
  t45 := Tryz.underlying212
  a45 := Tryz.isAgg212
  z45 := Tryz.sizeOf212
  v45 := Tryz.zeroValue212
  t46 := Tryz.underlying213
  a46 := Tryz.isAgg213
  z46 := Tryz.sizeOf213
  v46 := Tryz.zeroValue213
  t50 := Tryz.underlying217
  a50 := Tryz.isAgg217
  z50 := Tryz.sizeOf217
  v50 := Tryz.zeroValue217
  t53 := Tryz.underlying197
  a53 := Tryz.isAgg197
  z53 := Tryz.sizeOf197
  v53 := Tryz.zeroValue197
  t55 := Tryz.underlying38
  a55 := Tryz.isAgg38
  z55 := Tryz.sizeOf38
  v55 := Tryz.zeroValue38
  t66 := Tryz.underlying232
  a66 := Tryz.isAgg232
  z66 := Tryz.sizeOf232
  v66 := Tryz.zeroValue232
  t70 := Tryz.underlying159
  a70 := Tryz.isAgg159
  z70 := Tryz.sizeOf159
  v70 := Tryz.zeroValue159
  t76 := Tryz.underlying271
  a76 := Tryz.isAgg271
  z76 := Tryz.sizeOf271
  v76 := Tryz.zeroValue271
  t77 := Tryz.underlying272
  a77 := Tryz.isAgg272
  z77 := Tryz.sizeOf272
  v77 := Tryz.zeroValue272 }
end Go.Proofs
namespace Go.Proofs.YtllmejkcohfbiaaGreatDoor
open Go.RowKit Go.Maps Go.Shelf Go.Sort Go.Lib Go.Proofs
set_option linter.unusedVariables false
set_option linter.unusedSimpArgs false
set_option maxRecDepth 100000
set_option maxHeartbeats 8000000

theorem ciC (a b : Int) : (a < b → Lib.compareInt a b = -1) ∧ (b < a → Lib.compareInt a b = 1) ∧ (a = b → Lib.compareInt a b = 0) := by
  unfold Lib.compareInt
  refine ⟨fun h => by simp [h], fun h => ?_, fun h => by simp [h]⟩
  have : ¬ a < b := by omega
  simp [h, this]
theorem newCell (W : World) (c : Array Value) (t : TypeId) (o : Nat) {b : Nat} {v : Value} {W' : World} (h : W'.heap = (W.alloc (.cells c t)).heap) (hb : b = W.heap.size) (hc : c[o]? = some v) : W'.cell? ⟨b, o, none⟩ = some v := by
  subst hb
  have : (W.alloc (.cells c t)).cell? ⟨W.heap.size, o, none⟩ = some v := by simpa using hc
  simpa [World.cell?, h] using this

theorem or_two (b : Nat) (x y : Int) (w : World) (h0 : w.cell? ⟨b, 0, none⟩ = some (.int .i64 x)) (h1 : w.cell? ⟨b, 1, none⟩ = some (.int .i64 y)) :
    Calls Tryz.prog 71 #[.slice (some ⟨b, 0, none⟩) 2 2] w fun e w' => e = .returned (.int .i64 (if x ≠ 0 then x else y)) ∧ w' = w := by
  by_cases hx : x = 0
  · subst hx
    by_cases hy : y = 0
    · subst hy
      go_enter Tryz.func71, Tryz.ntmps71
      go_wp2
      refine wp_loop_rounds 3 ?_
      rw [rounds_succ]
      go_wp2
      rw [rounds_succ]
      go_wp2
      rw [rounds_succ]
      go_wp2
      go_ret
      exact ⟨rfl, rfl⟩
    · have hy' : (y != 0) = true := by simp [hy]
      go_enter Tryz.func71, Tryz.ntmps71
      go_wp2
      refine wp_loop_rounds 3 ?_
      rw [rounds_succ]
      go_wp2
      rw [rounds_succ]
      go_wp2
      go_ret
      exact ⟨rfl, rfl⟩
  · have hx' : (x != 0) = true := by simp [hx]
    go_enter Tryz.func71, Tryz.ntmps71
    go_wp2
    refine wp_loop_rounds 3 ?_
    rw [rounds_succ]
    go_wp2
    go_ret
    exact ⟨by simp, rfl⟩

theorem cmpK_any (x y : Int) (w : World) : Calls Tryz.prog 72 #[.int .i64 x, .int .i64 y] w fun e w' => e = .returned (.int .i64 (Lib.compareInt x y)) ∧ w' = w := by
  have hN := fun (z : Int) (W : World) => (show Calls Tryz.prog 104 #[.int .i64 z] W fun e w' => e = .returned (.bool false) ∧ w' = W from by
    go_enter Tryz.func104, Tryz.ntmps104
    go_wp2
    go_ret
    exact ⟨by simp, rfl⟩)
  have HN := Lib.hid hN
  clear hN
  rcases Int.lt_trichotomy x y with h | h | h
  · have HV := Lib.hid (ciC x y).1
    have d1 : decide (x < y) = true := decide_eq_true h
    go_enter Tryz.func72, Tryz.ntmps72
    go_wp2_with (go_at_call 104; refine (HN.out _ _).mono ?_; rintro e w1 ⟨rfl, rfl⟩)
    go_ret
    exact ⟨by rw [HV.out h]; rfl, rfl⟩
  · subst h
    have HV := Lib.hid ((ciC x x).2.2 rfl)
    have d1 : decide (x < x) = false := decide_eq_false (by omega)
    go_enter Tryz.func72, Tryz.ntmps72
    go_wp2_with (go_at_call 104; refine (HN.out _ _).mono ?_; rintro e w1 ⟨rfl, rfl⟩)
    go_ret
    exact ⟨by rw [HV.out]; rfl, rfl⟩
  · have HV := Lib.hid (ciC x y).2.1
    have d1 : decide (x < y) = false := decide_eq_false (by omega)
    have d2 : decide (y < x) = true := decide_eq_true h
    have n1 : ¬ x < y := by omega
    go_enter Tryz.func72, Tryz.ntmps72
    go_wp2_with (go_at_call 104; refine (HN.out _ _).mono ?_; rintro e w1 ⟨rfl, rfl⟩)
    go_ret
    exact ⟨by rw [HV.out h]; rfl, rfl⟩
theorem cmpE_any (x y : Int) (w : World) : Calls Tryz.prog 73 #[.int .i64 x, .int .i64 y] w fun e w' => e = .returned (.int .i64 (Lib.compareInt x y)) ∧ w' = w := by
  have hN := fun (z : Int) (W : World) => (show Calls Tryz.prog 105 #[.int .i64 z] W fun e w' => e = .returned (.bool false) ∧ w' = W from by
    go_enter Tryz.func105, Tryz.ntmps105
    go_wp2
    go_ret
    exact ⟨by simp, rfl⟩)
  have HN := Lib.hid hN
  clear hN
  rcases Int.lt_trichotomy x y with h | h | h
  · have HV := Lib.hid (ciC x y).1
    have d1 : decide (x < y) = true := decide_eq_true h
    go_enter Tryz.func73, Tryz.ntmps73
    go_wp2_with (go_at_call 105; refine (HN.out _ _).mono ?_; rintro e w1 ⟨rfl, rfl⟩)
    go_ret
    exact ⟨by rw [HV.out h]; rfl, rfl⟩
  · subst h
    have HV := Lib.hid ((ciC x x).2.2 rfl)
    have d1 : decide (x < x) = false := decide_eq_false (by omega)
    go_enter Tryz.func73, Tryz.ntmps73
    go_wp2_with (go_at_call 105; refine (HN.out _ _).mono ?_; rintro e w1 ⟨rfl, rfl⟩)
    go_ret
    exact ⟨by rw [HV.out]; rfl, rfl⟩
  · have HV := Lib.hid (ciC x y).2.1
    have d1 : decide (x < y) = false := decide_eq_false (by omega)
    have d2 : decide (y < x) = true := decide_eq_true h
    have n1 : ¬ x < y := by omega
    go_enter Tryz.func73, Tryz.ntmps73
    go_wp2_with (go_at_call 105; refine (HN.out _ _).mono ?_; rintro e w1 ⟨rfl, rfl⟩)
    go_ret
    exact ⟨by rw [HV.out h]; rfl, rfl⟩
def cmpC (x y : Cd) : Int := if Lib.compareInt x.call y.call ≠ 0 then Lib.compareInt x.call y.call else Lib.compareInt x.err y.err
theorem cmpC_lt (x y : Cd) : cmpC x y < 0 ↔ cdLt x y := by
  unfold cmpC cdLt
  have a := ciC x.call y.call
  have b := ciC x.err y.err
  rcases Int.lt_trichotomy x.call y.call with h | h | h
  · rw [a.1 h, if_pos (by decide)]
    exact ⟨fun _ => .inl h, fun _ => by decide⟩
  · rw [a.2.2 h, if_neg (by simp)]
    rcases Int.lt_trichotomy x.err y.err with q | q | q
    · rw [b.1 q]
      exact ⟨fun _ => .inr ⟨h, q⟩, fun _ => by decide⟩
    · rw [b.2.2 q]
      exact ⟨fun e => absurd e (by decide), fun e => by omega⟩
    · rw [b.2.1 q]
      exact ⟨fun e => absurd e (by decide), fun e => by omega⟩
  · rw [a.2.1 h, if_pos (by decide)]
    exact ⟨fun e => absurd e (by decide), fun e => by omega⟩
theorem ltC (x y : Cd) : ltOf cmpC x y = true ↔ cdLt x y := by
  unfold ltOf
  rw [decide_eq_true_iff]
  exact cmpC_lt x y
theorem ltC_no (x y : Cd) : ltOf cmpC x y = false ↔ ¬ cdLt x y := by
  rw [← ltC]
  simp
theorem swoC : SWO (ltOf cmpC) := by
  refine ⟨fun x => ?_, fun x y z h1 h2 => ?_, fun x y z h1 h2 => ?_⟩
  · rw [ltC_no]
    unfold cdLt
    omega
  · rw [ltC] at *
    unfold cdLt at *
    omega
  · rw [ltC_no] at *
    unfold cdLt at *
    omega
theorem cmpCd_any (x y : Cd) (w : World) :
    Calls Tryz.prog 70 #[.agg #[.int .i64 x.call, .int .i64 x.err, .int .i64 x.n], .agg #[.int .i64 y.call, .int .i64 y.err, .int .i64 y.n]] w fun e w' => e = .returned (.int .i64 (cmpC x y)) ∧ ∃ q os', w' = grow (w.drewN q) os' := by
  have hS := fun W => cmpK_any x.call y.call W
  have hI := fun W => cmpE_any x.err y.err W
  unfold cmpC
  generalize Lib.compareInt x.call y.call = a at hS ⊢
  generalize Lib.compareInt x.err y.err = c at hI ⊢
  generalize hr : (if a ≠ 0 then a else c) = r
  have HR := Lib.hid hr
  clear hr
  obtain ⟨xc, xe, xn⟩ := x
  obtain ⟨yc, ye, yn⟩ := y
  dsimp only at hS hI ⊢
  go_enter Tryz.func70, Tryz.ntmps70
  go_wp2_with fail
  have k0 : ((w.alloc (.cells #[.int .i64 xc, .int .i64 xe, .int .i64 xn] 62)).alloc (.cells #[.int .i64 yc, .int .i64 ye, .int .i64 yn] 62)).cell? ⟨w.heap.size, 0, none⟩ = some (.int .i64 xc) := by simp
  have k1 : ((w.alloc (.cells #[.int .i64 xc, .int .i64 xe, .int .i64 xn] 62)).alloc (.cells #[.int .i64 yc, .int .i64 ye, .int .i64 yn] 62)).cell? ⟨w.heap.size, 1, none⟩ = some (.int .i64 xe) := by simp
  have k2 : ((w.alloc (.cells #[.int .i64 xc, .int .i64 xe, .int .i64 xn] 62)).alloc (.cells #[.int .i64 yc, .int .i64 ye, .int .i64 yn] 62)).cell? ⟨w.heap.size + 1, 0, none⟩ = some (.int .i64 yc) := newCell (w.alloc (.cells #[.int .i64 xc, .int .i64 xe, .int .i64 xn] 62)) #[.int .i64 yc, .int .i64 ye, .int .i64 yn] 62 0 rfl (by simp) rfl
  have k3 : ((w.alloc (.cells #[.int .i64 xc, .int .i64 xe, .int .i64 xn] 62)).alloc (.cells #[.int .i64 yc, .int .i64 ye, .int .i64 yn] 62)).cell? ⟨w.heap.size + 1, 1, none⟩ = some (.int .i64 ye) := newCell (w.alloc (.cells #[.int .i64 xc, .int .i64 xe, .int .i64 xn] 62)) #[.int .i64 yc, .int .i64 ye, .int .i64 yn] 62 1 rfl (by simp) rfl
  have hg : (w.alloc (.cells #[.int .i64 xc, .int .i64 xe, .int .i64 xn] 62)).alloc (.cells #[.int .i64 yc, .int .i64 ye, .int .i64 yn] 62) = grow w #[.cells #[.int .i64 xc, .int .i64 xe, .int .i64 xn] 62, .cells #[.int .i64 yc, .int .i64 ye, .int .i64 yn] 62] := by
    rw [alloc_eq_grow, alloc_eq_grow, grow_grow]
    rfl
  have hsz : ((w.alloc (.cells #[.int .i64 xc, .int .i64 xe, .int .i64 xn] 62)).alloc (.cells #[.int .i64 yc, .int .i64 ye, .int .i64 yn] 62)).heap.size = w.heap.size + 1 + 1 := by simp
  generalize (w.alloc (.cells #[.int .i64 xc, .int .i64 xe, .int .i64 xn] 62)).alloc (.cells #[.int .i64 yc, .int .i64 ye, .int .i64 yn] 62) = W0 at k0 k1 k2 k3 hg hsz ⊢
  have HG := Lib.hid (And.intro hg hsz)
  clear hg hsz
  have j0 : ({ W0 with drawn := W0.drawn + 1 } : World).cell? ⟨w.heap.size, 0, none⟩ = some (.int .i64 xc) := k0
  have j1 : ({ W0 with drawn := W0.drawn + 1 } : World).cell? ⟨w.heap.size, 1, none⟩ = some (.int .i64 xe) := k1
  have j2 : ({ W0 with drawn := W0.drawn + 1 } : World).cell? ⟨w.heap.size + 1, 0, none⟩ = some (.int .i64 yc) := k2
  have j3 : ({ W0 with drawn := W0.drawn + 1 } : World).cell? ⟨w.heap.size + 1, 1, none⟩ = some (.int .i64 ye) := k3
  go_still_tail 10, (by kernel_rfl)
  still_call (hS _)
  repeat still_step
  still_call (hI _)
  refine wpStill_nil ?_
  change wpList _ _ _ _ _ (World.drew W0)
  have hw1 : W0.drew = grow (w.drewN 1) #[.cells #[.int .i64 xc, .int .i64 xe, .int .i64 xn] 62, .cells #[.int .i64 yc, .int .i64 ye, .int .i64 yn] 62] := by rw [HG.out.1]; rfl
  have hs1 : W0.drew.heap.size = w.heap.size + 1 + 1 := HG.out.2
  clear j0 j1 j2 j3 k0 k1 k2 k3 HG hS hI
  generalize W0.drew = W1 at hw1 hs1 ⊢
  have HW := Lib.hid (And.intro hw1 hs1)
  clear hw1 hs1
  have hO : Calls Tryz.prog 71 #[.slice (some ⟨W1.heap.size, 0, none⟩) 2 2] (W1.alloc (.cells #[.int .i64 a, .int .i64 c] 3)) fun e w' => e = .returned (.int .i64 r) ∧ w' = W1.alloc (.cells #[.int .i64 a, .int .i64 c] 3) := by
    rw [← HR.out]
    exact or_two _ a c _ (by simp) (by simp)
  go_wp2_with (go_at_call 71; refine hO.mono ?_; rintro e w1 ⟨rfl, rfl⟩)
  go_ret
  exact ⟨rfl, 1, _, by rw [HW.out.1, alloc_eq_grow, grow_grow]⟩
instance : Inhabited Cd := ⟨⟨0, 0, 0⟩⟩
theorem cd_flat : ∀ l : List Cd, l.flatMap cdVals = cdCells l
  | [] => rfl
  | x :: r => by rw [List.flatMap_cons, cd_flat r]; rfl
theorem cdHolds {w : World} {lo : Nat} {v : Value} {l : List Cd} (h : w.ownsRow lo 62 3 v l.length (cdCells l)) (hn : 0 < l.length) :
    ∃ g cap, v = .slice (some ⟨g, 0, none⟩) l.length cap ∧ lo ≤ g ∧ g < w.heap.size ∧ HoldsK cdVals 3 w g 0 l.toArray := by
  have hc := fun {g : Nat} => World.ownsRow.cells (w := w) (base := lo) (e := 62) (size := 3) (v := v) (n := l.length) (xs := cdCells l) h (g := g)
  have hlt := World.ownsRow.lt (w := w) (base := lo) (e := 62) (size := 3) (v := v) (n := l.length) (xs := cdCells l) h
  obtain ⟨hl, h0 | ⟨g, cap, cur, hv, hb, hh, hcap, _⟩⟩ := h
  · omega
  · refine ⟨g, cap, hv, hb, (hlt g (by rw [hv]; rfl)).2, ?_⟩
    intro t ht
    rw [size_flatK] at ht
    have ht' : t < l.length * 3 := by simpa using ht
    have hx := List.getElem?_eq_getElem (l := l) (i := t / 3) (by omega)
    have hat := cdCells_at l (t / 3) _ hx (t % 3) (by omega)
    rw [show t / 3 * 3 + t % 3 = t from by omega] at hat
    have hlen : (cdVals (l[t / 3]'(by omega))).length = 3 := rfl
    rw [List.getElem?_eq_getElem (i := t % 3) (by omega)] at hat
    refine ⟨?_, by simp [World.frozen?, hh]⟩
    have := hc (g := g) (by rw [hv]; rfl) t _ hat
    rw [get_flatK _ _ _ _ (by simpa using ht')]
    simpa [Addr.add_lit, show t / 3 < l.length from by omega, hlen, show t % 3 < 3 from by omega] using this
theorem cdRow_held {w : World} {g c : Nat} {d : Array Cd} (hg : g < w.heap.size) (h : HoldsK cdVals 3 w g 0 d) : CdRow w (.slice (some ⟨g, 0, none⟩) d.toList.length c) d.toList := by
  refine .inr ⟨g, 0, c, rfl, hg, fun i x hx => ?_⟩
  have hi : i < d.size := by simpa using (List.getElem?_eq_some_iff.1 hx).1
  have hxd : d[i]! = x := by
    have h2 : d[i]? = some x := by simpa using hx
    rw [getElem!_def, h2]
  have hc : ∀ j, j < 3 → w.cell? ⟨g, 0 + i * 3 + j, none⟩ = some ((cdVals x)[j]!) := fun j hj => by
    have h1 := (h (i * 3 + j) (by rw [size_flatK]; omega)).1
    rw [get_flatK _ _ _ _ (by omega), show (i * 3 + j) / 3 = i from by omega, show (i * 3 + j) % 3 = j from by omega, hxd] at h1
    rw [show 0 + i * 3 + j = 0 + (i * 3 + j) from by omega]
    simpa using h1
  have h0 := hc 0 (by omega)
  have h1 := hc 1 (by omega)
  have h2 := hc 2 (by omega)
  exact ⟨h0, h1, h2⟩
theorem fr_sortedC (w : World) (g n : Nat) (d : Array Cd) (os : Array Obj) : Fr [g] w (sortWorldK cdVals 3 w g 0 n d os) := by
  refine ⟨rfl, rfl, rfl, ?_, ?_⟩
  · simp [sortWorldK, grow, putRowK, putRow, mapBlock]
  · intro k hk hn
    have hn' : g ≠ k := by simpa [eq_comm] using hn
    simp only [sortWorldK, grow, putRowK, putRow, mapBlock]
    rw [Array.getElem?_append_left (by simpa using hk), Array.getElem?_modify, if_neg hn']
    rfl
theorem sortC_any (lo : Nat) (v : Value) (l : List Cd) (w : World) (h : w.ownsRow lo 62 3 v l.length (cdCells l)) (hl : l.length ≤ 100000) :
    Calls Tryz.prog 69 #[v, .func (.func 70) #[] #[]] w fun e w' => e = .returned (.tuple #[]) ∧ ∃ L : List Cd, CdRow w' v L ∧ L.Perm l ∧ L.Pairwise (fun a b => ¬ cdLt b a) ∧ Fr v.ownBlock.toList w w' := by
  by_cases h0 : l.length = 0
  · obtain ⟨a, c, rfl⟩ := row_val' h
    rw [h0]
    have hn : l = [] := List.eq_nil_of_length_eq_zero h0
    refine (sortFunc_none _ w a c).mono ?_
    rintro e w' ⟨he, f⟩
    exact ⟨he, [], .inl ⟨rfl, a, c, rfl⟩, by rw [hn], List.Pairwise.nil, f.mono (fun _ hx => by cases hx)⟩
  · obtain ⟨g, cap, rfl, hlo, hg, hH⟩ := cdHolds h (by omega)
    have eg : ∀ args w, (callFunc 70 args).run Tryz.prog w = .ok (.enter 70 args) w := enters_of Tryz.func70 (by kernel_rfl) rfl
    have hcmp : CmpLays Tryz.prog 70 #[] cdVals 3 cmpC g 0 l.toArray.size w := fun _ _ _ _ x y => cmpCd_any x y _
    have hcon := AnyQ.slices_SortFunc Tryz.sortC 3 Tryz.isAgg62 Tryz.sizeOf62 cdVals (fun _ => rfl) cdVals_one cmpC swoC 70 #[] g 0 cap l.toArray w eg hcmp hH hg (by simp; omega)
    change Calls Tryz.prog 69 _ _ _ at hcon
    have e1 : l.toArray.size = l.length := by simp
    rw [e1] at hcon
    refine hcon.mono ?_
    rintro e w' ⟨he, d', n, os, hp, hs, rfl⟩
    obtain ⟨p1, p2, p3⟩ := hp
    have hsz : d'.size = l.length := by rw [p1]; simp
    have hx1 : d'.extract 0 l.length = d' := by rw [← hsz]; simp
    have hx2 : l.toArray.extract 0 l.length = l.toArray := by rw [← e1]; simp
    rw [hx1, hx2] at p3
    have hperm : d'.toList.Perm l := p3
    refine ⟨he, d'.toList, ?_, hperm, ?_, by simpa [Value.ownBlock] using fr_sortedC w g n d' os⟩
    · have h1 := holdsK_grow cdVals 3 _ os g 0 _ (by simpa [putRowK] using hg) (holdsK_putRowK cdVals 3 _ g 0 l.toArray d' (holdsK_ahead cdVals 3 _ n g 0 _ hH) (by rw [hsz, e1]))
      have h2 := cdRow_held (c := cap) (d := d') (by simpa [sortWorldK, grow, putRowK, putRow, mapBlock] using Nat.lt_of_lt_of_le hg (Nat.le_add_right _ os.size)) h1
      rw [Array.length_toList, hsz] at h2
      exact h2
    · rw [List.pairwise_iff_getElem]
      intro i j hi hj hij
      have := hs i j (Nat.zero_le _) hij (by rw [← hsz]; simpa using hj)
      rw [ltC_no] at this
      rw [Array.length_toList] at hi hj
      simpa [hi, hj] using this
end Go.Proofs.YtllmejkcohfbiaaGreatDoor
namespace Go.Proofs.YtllmejkcohfbiaaGreatDoor
open Go.RowKit Go.Maps Go.Shelf Go.Sort Go.Lib
set_option linter.unusedVariables false
set_option linter.unusedSimpArgs false
set_option maxRecDepth 100000
set_option maxHeartbeats 16000000

/-- What has come of the map, as it was laid into the list. -/
def Came (D O : CD) (done : List (Value × Value)) : Prop := done = (cdPairs O).reverse ∧ O.Nodup ∧ ∀ p ∈ O, p ∈ D
theorem Came.zero (D : CD) : Came D [] [] := ⟨rfl, List.nodup_nil, (fun p hp => by cases hp)⟩
theorem cdPairs_inj {p q : (Int × Int) × Nat} (h : (keyV p.1, Value.int .i64 (p.2 : Int)) = (keyV q.1, .int .i64 (q.2 : Int))) : p = q := by
  simp only [Prod.mk.injEq, Value.int.injEq, true_and] at h
  exact Prod.ext (keyV_inj h.1) (by omega)
theorem Came.more {D O : CD} {done : List (Value × Value)} {p : (Int × Int) × Nat} (h : Came D O done) (hp : p ∈ D) (hn : (keyV p.1, Value.int .i64 (p.2 : Int)) ∉ done) : Came D (O ++ [p]) ((keyV p.1, .int .i64 (p.2 : Int)) :: done) := by
  obtain ⟨rfl, h2, h3⟩ := h
  have hnO : p ∉ O := fun hm => hn (by
    rw [List.mem_reverse]
    exact List.mem_map.2 ⟨p, hm, rfl⟩)
  refine ⟨?_, ?_, fun q hq => ?_⟩
  · rw [cdPairs_app, List.reverse_append]
    rfl
  · rw [List.nodup_append]
    exact ⟨h2, by simp, fun a ha b hb e => by
      rw [List.mem_singleton] at hb
      subst hb e
      exact hnO ha⟩
  · rcases List.mem_append.1 hq with hq | hq
    · exact h3 q hq
    · rw [List.mem_singleton] at hq
      rw [hq]
      exact hp
theorem perm_of_mem {α : Type} [DecidableEq α] : ∀ {a b : List α}, a.Nodup → b.Nodup → (∀ x, x ∈ a ↔ x ∈ b) → a.Perm b := by
  intro a b ha hb h
  rw [List.perm_iff_count]
  intro x
  have e : ∀ {l : List α}, l.Nodup → l.count x = if x ∈ l then 1 else 0 := fun {l} hl => by
    by_cases hx : x ∈ l
    · rw [if_pos hx]
      have h1 := List.count_pos_iff.2 hx
      have h2 := List.nodup_iff_count.1 hl x
      omega
    · rw [if_neg hx]
      exact List.count_eq_zero_of_not_mem hx
  rw [e ha, e hb]
  by_cases hx : x ∈ a
  · rw [if_pos hx, if_pos ((h x).1 hx)]
  · rw [if_neg hx, if_neg (fun hm => hx ((h x).2 hm))]
theorem Came.all {D O : CD} {done : List (Value × Value)} (h : Came D O done) (hD : D.Nodup) (ha : ∀ x ∈ cdPairs D, x ∈ done) : O.Perm D := by
  obtain ⟨rfl, h2, h3⟩ := h
  refine perm_of_mem h2 hD (fun p => ⟨fun hp => h3 p hp, fun hp => ?_⟩)
  have := ha _ (List.mem_map.2 ⟨p, hp, rfl⟩)
  rw [List.mem_reverse] at this
  obtain ⟨q, hq, he⟩ := List.mem_map.1 this
  rw [← cdPairs_inj he]
  exact hq
theorem nodup_len {α : Type} [DecidableEq α] : ∀ {a b : List α}, a.Nodup → (∀ x ∈ a, x ∈ b) → a.length ≤ b.length
  | [], _, _, _ => Nat.zero_le _
  | x :: r, b, h, hs => by
    rw [List.nodup_cons] at h
    have hx := hs x (by simp)
    have ih := nodup_len (a := r) (b := b.erase x) h.2 (fun y hy => (List.mem_erase_of_ne (fun e => h.1 (by rw [← e]; exact hy))).2 (hs y (List.mem_cons_of_mem _ hy)))
    rw [List.length_erase_of_mem hx] at ih
    have := List.length_pos_of_mem hx
    simp only [List.length_cons]
    omega
theorem Came.len {D O : CD} {done : List (Value × Value)} (h : Came D O done) : O.length ≤ D.length := nodup_len h.2.1 h.2.2
theorem rangeLeft_eq {w w' : World} {b r : Nat} (h1 : w'.heap[b]? = w.heap[b]?) (h2 : w'.heap[r]? = w.heap[r]?) : w'.rangeLeft b r = w.rangeLeft b r := by
  unfold World.rangeLeft
  rw [h1, h2]
theorem rowFrS {S : List Nat} {n k : Nat} {W W' : World} {v : Value} {xs : List Value} {E : TypeId} {sz : Nat} (hs : W.ownsRow n E sz v k xs) (h : Fr S W W') (hn : ∀ q, v.ownBlock = some q → q ∉ S) : W'.ownsRow n E sz v k xs := by
  refine ⟨hs.1, hs.2.imp id ?_⟩
  rintro ⟨g, cap, cur, hv, hb, hh, rest⟩
  exact ⟨g, cap, cur, hv, hb, (h.block g (Array.getElem?_eq_some_iff.1 hh).1 (hn g (by rw [hv]; rfl))).trans hh, rest⟩
theorem CdR.nodup' {l : List Ev} {D : CD} (h : CdR l D) : D.Nodup := by
  have := h.nodup
  rw [List.nodup_iff_pairwise_ne, List.pairwise_map] at this
  rw [List.nodup_iff_pairwise_ne]
  exact this.imp (fun {a b} h e => h (by rw [e]))
theorem ofCodes_any (v : Value) (xs : List Ev) (w : World) (h : EvRow w v xs) (hn : xs.length ≤ 5000) (hok : ∀ x ∈ xs, I64 x.eKind ∧ I64 x.eErr) :
    Calls Tryz.prog 34 #[v] w fun e w' => ∃ v' L, e = .returned (.tuple #[v', .int .i64 0]) ∧ CdRow w' v' L ∧ CodesAre xs L ∧ Fr [] w w' := by
  obtain ⟨a, cap, rfl⟩ := h.val
  obtain ⟨n, hnl⟩ : ∃ n, xs.length = n := ⟨_, rfl⟩
  have HM := Lib.hid hnl
  have HR := Lib.hid h
  have HI := Lib.hid hok
  rw [hnl] at hn HR ⊢
  have hn' : ¬ (5000 : Int) < (n : Int) := by omega
  have HM0 := Lib.hid (MapIs.made Tryz.prog 62 w)
  have F0 := Lib.hid (show Fr [] w (w.alloc (.map #[] 0)) from (Fr.refl [] w).alloc _)
  clear h hok hnl
  have hmm := @run_makeMap Tryz.prog
  go_enter Tryz.func34, Tryz.ntmps34
  go_wp2
  obtain ⟨w0, hw0⟩ : ∃ z, w.alloc (.map #[] 0) = z := ⟨_, rfl⟩
  rw [hw0] at HM0 F0
  rw [hw0]
  obtain ⟨M, hM⟩ : ∃ M, w.heap.size = M := ⟨_, rfl⟩
  have HMW := Lib.hid hM
  rw [hM] at HM0
  simp only [hM]
  clear hw0 hM
  go_loopw [16] (fun i wr => ∃ (wz : World) (q : Nat) (D : CD), wz = wr ∧ i = .int .i64 q ∧ q ≤ n ∧ MapIs Tryz.prog 62 wr M (cdPairs D) ∧ CdR (xs.take q) D ∧ Fr [] w wr) (fun i _ => n - (intOf i).toNat)
  case atStart => exact ⟨_, 0, [], rfl, rfl, by omega, HM0.out, CdR.zero, F0.out⟩
  case round =>
    obtain ⟨wr, q, D, hwz, rfl, hq, hS, hD, hF⟩ := hrel
    subst hwz
    have HS := Lib.hid hS
    have HD := Lib.hid hD
    have HF := Lib.hid hF
    clear hS hD hF
    by_cases hlt : q < n
    · have hx := List.getElem?_eq_getElem (l := xs) (i := q) (by rw [HM.out]; exact hlt)
      obtain ⟨o, hoe⟩ : ∃ o, xs[q]'(by rw [HM.out]; exact hlt) = o := ⟨_, rfl⟩
      rw [hoe] at hx
      have hoo := HI.out o (List.mem_of_getElem? hx)
      have htk : xs.take (q + 1) = xs.take q ++ [o] := by rw [List.take_add_one, hx]; rfl
      have htl : (xs.take q).length ≤ 5000 := by rw [List.length_take]; omega
      rcases HR.out.new HF.out with ⟨e1, _⟩ | ⟨g, off, cap', hv, hg, hcells⟩
      · rw [e1] at hx
        simp at hx
      rw [HM.out] at hv
      simp only [Value.slice.injEq] at hv
      obtain ⟨rfl, _, rfl⟩ := hv
      have hld := ev_load (hcells q o hx)
      obtain ⟨w5, hst, hblk, hfr⟩ := ev_store (w := wr.alloc (.cells #[.int .i64 0, .int .i64 0, .int .i64 0, .int .i64 0, .int .i64 0, .int .i64 0, .int .i64 0, .string ⟨#[]⟩, .int .i64 0, .slice none 0 0, .int .i64 0, .int .i64 0, .int .i64 0, .int .u64 0, .int .i64 0, .bool false, .int .i64 0, .int .i64 0, .int .i64 0, .int .i64 0, .slice none 0 0, .int .i64 0, .int .i64 0, .int .i64 0, .int .i64 0, .string ⟨#[]⟩, .int .i64 0, .int .u64 0, .slice none 0 0, .int .u64 0] 103)) (b := wr.heap.size) o (World.alloc_heap_new wr _) rfl
      have f5 : Fr [] wr w5 := ((Fr.refl [] wr).alloc _).trans hfr (fun x hx hl => by
        rw [List.mem_singleton] at hx
        omega)
      have HF5 := Lib.hid f5
      have HTK := Lib.hid (And.intro htk htl)
      have HOO := Lib.hid hoo
      have HLD := Lib.hid hld
      have HST := Lib.hid hst
      have HBK := Lib.hid hblk
      have hME : M < wr.heap.size := HS.out.lt
      obtain ⟨V, hV⟩ : ∃ V, evV o = V := ⟨_, rfl⟩
      have HEV := Lib.hid hV
      rw [hV] at HLD HST
      have HEN := Lib.hid (fun W => (show Calls Tryz.prog 68 #[V] W fun e w' => e = .returned (.bool o.ended) ∧ Fr [] W w' from by
        have h := ended_any o W
        rw [← HEV.out]
        exact h))
      have hl2 := ev_load HBK.out.at
      rw [HEV.out] at hl2
      have HL2 := Lib.hid hl2
      clear hx hoe hcells hld hst hblk hfr hV hoo f5 htk htl hl2
      go_upto_region 6 with fail
      refine wp_region_lit ?_
      refine wpList_plain rfl (fun K hK => ?_)
      go_simp
      refine hK _ _ ?_
      clear hK K
      refine wpList_val rfl (v := V) (w' := wr) ?_ ?_
      · show Sem.run Tryz.prog ((Instr.loadAt 103 (.pointer (some ⟨g, off + q * 30, none⟩))) >>= fun x => pure (Next.value x)) wr = _
        rw [Sem.run_bind, HLD.out]
        rfl
      refine wpList_plain rfl (fun K hK => ?_)
      go_simp
      refine hK _ _ ?_
      clear hK K
      refine wpList_skp rfl (w' := w5) ?_ ?_
      · show Sem.run Tryz.prog ((Instr.storeAt 103 (.pointer (some ⟨wr.heap.size, 0, none⟩)) V) >>= fun _ => pure Next.skip) _ = _
        rw [Sem.run_bind, HST.out]
        rfl
      refine wpList_nil ?_
      try simp only [Act.put, List.getElem_toArray, List.getElem_cons_succ, List.getElem_cons_zero, List.setIfInBounds_toArray, List.set_cons_zero, List.set_cons_succ]
      obtain ⟨E, hE⟩ : ∃ E, wr.heap.size = E := ⟨_, rfl⟩
      rw [hE] at HBK HL2 hME
      simp only [hE]
      clear hE HLD HST
      have HG := Lib.hid hg
      clear hg
      go_upto_region 7 with fail
      refine wp_region_lit ?_
      refine wpList_val rfl (v := V) (w' := w5) ?_ ?_
      · show Sem.run Tryz.prog ((Instr.loadAt 103 (.pointer (some ⟨E, 0, none⟩))) >>= fun x => pure (Next.value x)) w5 = _
        rw [Sem.run_bind, HL2.out]
        rfl
      try simp only [Act.put, List.getElem_toArray, List.getElem_cons_succ, List.getElem_cons_zero, List.setIfInBounds_toArray, List.set_cons_zero, List.set_cons_succ]
      go_wp2_with fail
      refine (HEN.out _).mono ?_
      rintro e w6 ⟨rfl, f6⟩
      have HF6 := Lib.hid (HF5.out.step f6)
      have HB6 := Lib.hid (HBK.out.keep f6 (by simp))
      clear f6 HF5 HBK HL2 HEN
      have hS6 := HS.out.keep HF6.out (by simp)
      obtain ⟨en, hen⟩ : ∃ z, o.ended = z := ⟨_, rfl⟩
      rw [hen]
      have HED := Lib.hid hen
      clear hen
      cases en with
      | false =>
        have HS6 := Lib.hid hS6
        clear hS6
        go_wp2
        go_roundw
        case rel => exact ⟨_, q + 1, D, rfl, by go_num, by omega, HS6.out, by rw [HTK.out.1]; exact HD.out.idle HED.out, HF.out.step HF6.out⟩
        case measure => simp [intOf]; omega
      | true =>
        obtain ⟨c, D', hc, hD', hb⟩ := cd_bump HD.out HED.out HOO.out HTK.out.2
        obtain ⟨hlk, v0, st, W1, hme, fme, hl1, hes⟩ := hb w6.drew M (hS6.drewN 1)
        obtain ⟨W3, hst3, hM3, f3⟩ := hes W1 rfl
        have hc2 : (c : Int) ≤ 5000 := by have := HTK.out.2; omega
        have hwc : IntKind.i64.wrap ((c : Int) + 1) = (c : Int) + 1 := IntWalk.i64_in _ (by omega)
        have HFM := Lib.hid (show Fr [M] w6 W3 from (((Fr.refl [M] w6).drew).trans fme (fun _ h _ => h)).trans f3 (fun _ h _ => h))
        have HM3 := Lib.hid hM3
        have HD3 := Lib.hid hD'
        have HF1 := Lib.hid fme
        have HF3 := Lib.hid f3
        have hEM : E ∉ [M] := by rw [List.mem_singleton]; omega
        have k17 : w6.drew.cell? ⟨E, 17, none⟩ = some (.int .i64 o.eKind) := HB6.out.c 17 _ rfl
        have k18 : w6.drew.cell? ⟨E, 18, none⟩ = some (.int .i64 o.eErr) := HB6.out.c 18 _ rfl
        clear fme hM3 f3 hS6 hD' hb hc hes
        go_upto_region 8 with fail
        refine wp_region_held_drew (S := fun w' => w'.cell? ⟨E, 17, none⟩ = some (.int .i64 o.eKind) ∧ w'.cell? ⟨E, 18, none⟩ = some (.int .i64 o.eErr)) (by kernel_rfl) (⟨k17, k18⟩) (fun hHeld => ?_)
        refine wpAnyH_take (i := 0) (oi := _) (v := ?_) rfl (by kernel_rfl) (by kernel_rfl) (by kernel_rfl) (fun _ _ _ h => h) (Or.inl ⟨by rfl, ?_⟩) (by assumption) ?_
        rotate_left
        · intro w hSw
          try dsimp only at hSw
          go_simp
          try with_reducible rfl
        try simp only [Act.put, List.getElem_toArray, List.getElem_cons_succ, List.getElem_cons_zero, List.setIfInBounds_toArray, List.set_cons_zero, List.set_cons_succ]
        refine wpAnyH_take (i := 1) (oi := _) (v := ?_) rfl (by kernel_rfl) (by kernel_rfl) (by kernel_rfl) (fun _ _ _ h => h) (Or.inl ⟨by rfl, ?_⟩) (by assumption) ?_
        rotate_left
        · intro w hSw
          try dsimp only at hSw
          go_simp
          try with_reducible rfl
        try simp only [Act.put, List.getElem_toArray, List.getElem_cons_succ, List.getElem_cons_zero, List.setIfInBounds_toArray, List.set_cons_zero, List.set_cons_succ]
        refine wpAnyH_take (i := 2) (oi := _) (v := ?_) rfl (by kernel_rfl) (by kernel_rfl) (by kernel_rfl) (fun _ _ _ h => h) (Or.inl ⟨by rfl, ?_⟩) (by assumption) ?_
        rotate_left
        · intro w hSw
          try dsimp only at hSw
          go_simp
          try with_reducible rfl
        try simp only [Act.put, List.getElem_toArray, List.getElem_cons_succ, List.getElem_cons_zero, List.setIfInBounds_toArray, List.set_cons_zero, List.set_cons_succ]
        refine wpAnyH_take (i := 3) (oi := _) (v := ?_) rfl (by kernel_rfl) (by kernel_rfl) (by kernel_rfl) (fun _ _ _ h => h) (Or.inl ⟨by rfl, ?_⟩) (by assumption) ?_
        rotate_left
        · intro w hSw
          try dsimp only at hSw
          go_simp
          try with_reducible rfl
        try simp only [Act.put, List.getElem_toArray, List.getElem_cons_succ, List.getElem_cons_zero, List.setIfInBounds_toArray, List.set_cons_zero, List.set_cons_succ]
        refine wpAnyH_take (i := 4) (oi := _) (v := ?_) rfl (by kernel_rfl) (by kernel_rfl) (by kernel_rfl) (fun _ _ _ h => h) (Or.inl ⟨by rfl, ?_⟩) (by assumption) ?_
        rotate_left
        · intro w hSw
          try dsimp only at hSw
          go_simp
          try with_reducible rfl
        try simp only [Act.put, List.getElem_toArray, List.getElem_cons_succ, List.getElem_cons_zero, List.setIfInBounds_toArray, List.set_cons_zero, List.set_cons_succ]
        refine wpAnyH_take (i := 5) (oi := _) (v := ?_) rfl (by kernel_rfl) (by kernel_rfl) (by kernel_rfl) (fun _ _ _ h => h) (Or.inl ⟨by rfl, ?_⟩) (by assumption) ?_
        rotate_left
        · intro w hSw
          try dsimp only at hSw
          go_simp
          try with_reducible rfl
        try simp only [Act.put, List.getElem_toArray, List.getElem_cons_succ, List.getElem_cons_zero, List.setIfInBounds_toArray, List.set_cons_zero, List.set_cons_succ]
        refine wpAnyH_take (i := 6) (oi := _) (v := ?_) rfl (by kernel_rfl) (by kernel_rfl) (by kernel_rfl) (fun _ _ _ h => h) (Or.inl ⟨by rfl, ?_⟩) (by assumption) ?_
        rotate_left
        · intro w hSw
          try dsimp only at hSw
          go_simp
          try with_reducible rfl
        try simp only [Act.put, List.getElem_toArray, List.getElem_cons_succ, List.getElem_cons_zero, List.setIfInBounds_toArray, List.set_cons_zero, List.set_cons_succ]
        refine wpAnyH_take (i := 7) (oi := _) (v := ?_) rfl (by kernel_rfl) (by kernel_rfl) (by kernel_rfl) (fun _ _ _ h => h) (Or.inl ⟨by rfl, ?_⟩) (by assumption) ?_
        rotate_left
        · intro w hSw
          try dsimp only at hSw
          go_simp
          try with_reducible rfl
        try simp only [Act.put, List.getElem_toArray, List.getElem_cons_succ, List.getElem_cons_zero, List.setIfInBounds_toArray, List.set_cons_zero, List.set_cons_succ]
        refine wpAnyH_ready (rs := [8, 10]) (by kernel_rfl) (by simp) ?_
        refine AllReadyH.cons (o := _) rfl (fun K hK => ?_) (AllReadyH.cons (o := _) rfl (fun K hK => ?_) AllReadyH.nil)
        · skip
          go_simp
          refine hK.out _ _ (hHeld) (fun hHeld => ?_)
          clear hK K
          try simp only [Act.put, List.getElem_toArray, List.getElem_cons_succ, List.getElem_cons_zero, List.setIfInBounds_toArray, List.set_cons_zero, List.set_cons_succ]
          refine wpAnyH_take (i := 9) (oi := _) (v := ?_) rfl (by kernel_rfl) (by kernel_rfl) (by kernel_rfl) (fun _ _ _ h => h) (Or.inl ⟨by rfl, ?_⟩) (by assumption) ?_
          rotate_left
          · intro w hSw
            try dsimp only at hSw
            go_simp
            try with_reducible rfl
          try simp only [Act.put, List.getElem_toArray, List.getElem_cons_succ, List.getElem_cons_zero, List.setIfInBounds_toArray, List.set_cons_zero, List.set_cons_succ]
          refine wpAnyH_ready (rs := [10]) (by kernel_rfl) (by simp) ?_
          refine AllReadyH.cons (o := _) rfl (fun K hK => ?_) AllReadyH.nil
          go_simp
          refine hK.out _ _ (⟨HF1.out.keep hHeld.1 hEM, HF1.out.keep hHeld.2 hEM⟩) (fun hHeld => ?_)
          clear hK K
          try simp only [Act.put, List.getElem_toArray, List.getElem_cons_succ, List.getElem_cons_zero, List.setIfInBounds_toArray, List.set_cons_zero, List.set_cons_succ]
          refine wpAnyH_take (i := 11) (oi := _) (v := ?_) rfl (by kernel_rfl) (by kernel_rfl) (by kernel_rfl) (fun _ _ _ h => h) (Or.inl ⟨by rfl, ?_⟩) (by assumption) ?_
          rotate_left
          · intro w hSw
            try dsimp only at hSw
            go_simp
            try with_reducible rfl
          try simp only [Act.put, List.getElem_toArray, List.getElem_cons_succ, List.getElem_cons_zero, List.setIfInBounds_toArray, List.set_cons_zero, List.set_cons_succ]
          refine wpAnyH_ready (rs := [12]) (by kernel_rfl) (by simp) ?_
          refine AllReadyH.cons (o := _) rfl (fun K hK => ?_) AllReadyH.nil
          go_simp
          refine hK.out _ _ (⟨HF3.out.keep hHeld.1 hEM, HF3.out.keep hHeld.2 hEM⟩) (fun hHeld => ?_)
          clear hK K
          try simp only [Act.put, List.getElem_toArray, List.getElem_cons_succ, List.getElem_cons_zero, List.setIfInBounds_toArray, List.set_cons_zero, List.set_cons_succ]
          refine wpAnyH_done (by kernel_rfl) ?_ _
          clear k17 k18 hlk hme hl1 hst3 hHeld hwc
          go_wp2
          go_roundw
          case rel => exact ⟨_, q + 1, D', rfl, by go_num, by omega, HM3.out, by rw [HTK.out.1]; exact HD3.out, (HF.out.step HF6.out).trans HFM.out (fun x hx hl => by
            rw [List.mem_singleton] at hx
            have := HMW.out
            omega)⟩
          case measure => simp [intOf]; omega
        · skip
          go_simp
          refine hK.out _ _ (⟨HF1.out.keep hHeld.1 hEM, HF1.out.keep hHeld.2 hEM⟩) (fun hHeld => ?_)
          clear hK K
          try simp only [Act.put, List.getElem_toArray, List.getElem_cons_succ, List.getElem_cons_zero, List.setIfInBounds_toArray, List.set_cons_zero, List.set_cons_succ]
          refine wpAnyH_take (i := 11) (oi := _) (v := ?_) rfl (by kernel_rfl) (by kernel_rfl) (by kernel_rfl) (fun _ _ _ h => h) (Or.inl ⟨by rfl, ?_⟩) (by assumption) ?_
          rotate_left
          · intro w hSw
            try dsimp only at hSw
            go_simp
            try with_reducible rfl
          try simp only [Act.put, List.getElem_toArray, List.getElem_cons_succ, List.getElem_cons_zero, List.setIfInBounds_toArray, List.set_cons_zero, List.set_cons_succ]
          refine wpAnyH_ready (rs := [8]) (by kernel_rfl) (by simp) ?_
          refine AllReadyH.cons (o := _) rfl (fun K hK => ?_) AllReadyH.nil
          go_simp
          refine hK.out _ _ (hHeld) (fun hHeld => ?_)
          clear hK K
          try simp only [Act.put, List.getElem_toArray, List.getElem_cons_succ, List.getElem_cons_zero, List.setIfInBounds_toArray, List.set_cons_zero, List.set_cons_succ]
          refine wpAnyH_take (i := 9) (oi := _) (v := ?_) rfl (by kernel_rfl) (by kernel_rfl) (by kernel_rfl) (fun _ _ _ h => h) (Or.inl ⟨by rfl, ?_⟩) (by assumption) ?_
          rotate_left
          · intro w hSw
            try dsimp only at hSw
            go_simp
            try with_reducible rfl
          try simp only [Act.put, List.getElem_toArray, List.getElem_cons_succ, List.getElem_cons_zero, List.setIfInBounds_toArray, List.set_cons_zero, List.set_cons_succ]
          refine wpAnyH_ready (rs := [12]) (by kernel_rfl) (by simp) ?_
          refine AllReadyH.cons (o := _) rfl (fun K hK => ?_) AllReadyH.nil
          go_simp
          refine hK.out _ _ (⟨HF3.out.keep hHeld.1 hEM, HF3.out.keep hHeld.2 hEM⟩) (fun hHeld => ?_)
          clear hK K
          try simp only [Act.put, List.getElem_toArray, List.getElem_cons_succ, List.getElem_cons_zero, List.setIfInBounds_toArray, List.set_cons_zero, List.set_cons_succ]
          refine wpAnyH_done (by kernel_rfl) ?_ _
          clear k17 k18 hlk hme hl1 hst3 hHeld hwc
          go_wp2
          go_roundw
          case rel => exact ⟨_, q + 1, D', rfl, by go_num, by omega, HM3.out, by rw [HTK.out.1]; exact HD3.out, (HF.out.step HF6.out).trans HFM.out (fun x hx hl => by
            rw [List.mem_singleton] at hx
            have := HMW.out
            omega)⟩
          case measure => simp [intOf]; omega
    · have hqn : q = n := by omega
      subst hqn
      have hDx : CdR xs D := by
        have := HD.out
        rwa [List.take_of_length_le (by rw [HM.out]; exact Nat.le_refl _)] at this
      have hDl : D.length ≤ 5000 := by
        have h1 := hDx.len
        rw [HM.out] at h1
        omega
      have HDX := Lib.hid hDx
      have HDL := Lib.hid hDl
      have hMI := HS.out
      clear hDx hDl HD
      go_wp2_with (first
        | (at_range; refine wpList_range_l _ rfl _ 134 rfl 3 Tryz.underlying134 rfl hMI ?_; intro w7 hrg hg7 hs7)
        | fail)
      have HF7 := Lib.hid (HF.out.step hg7)
      have HRG := Lib.hid hrg
      have hMr : M < wr.heap.size := hMI.lt
      clear hrg hMI hg7
      obtain ⟨R, hR⟩ : ∃ R, wr.heap.size = R := ⟨_, rfl⟩
      rw [hR] at HRG hMr
      simp only [hR]
      obtain ⟨Z, hZ⟩ : ∃ Z, w7.heap.size = Z := ⟨_, rfl⟩
      have HZ := Lib.hid (And.intro hZ (show Z = R + 1 from by omega))
      have HWR := Lib.hid (show w.heap.size ≤ R from by rw [← hR]; exact HF.out.size)
      clear hR hZ hs7
      obtain ⟨i0, hi, hz0, hz1, hz2⟩ := info_parts infoCd
      go_frame
      go_loopw [7] (fun v wz => ∃ (wzz : World) (O : CD) (done : List (Value × Value)) (aw : Option Addr) (p cw : Nat), wzz = wz ∧ O.length = p ∧ v = .slice aw p cw ∧ RangeL Tryz.prog 62 wz M R (cdPairs D) done ∧ Came D O done ∧ wz.ownsRow Z 62 3 (.slice aw p cw) p (cdCells (O.map cdOf)) ∧ Fr [R] w7 wz) (fun _ wz => wz.rangeLeft M R)
      case atStart => exact ⟨_, [], [], none, 0, 0, rfl, rfl, rfl, HRG.out, Came.zero D, World.ownsRow_nil _ _ _ _, Fr.refl _ _⟩
      case round =>
        obtain ⟨wz, O, done, aw, p, cw, hwz, hOl, rfl, hrg, hcm, hrow, hfz⟩ := hrel
        subst hwz
        have HCM := Lib.hid hcm
        have HRW := Lib.hid hrow
        have HFZ := Lib.hid hfz
        have HOL := Lib.hid hOl
        clear hcm hrow hfz hOl
        go_wp2_with (first
          | (at_next; refine wpList_next_l _ rfl _ rfl rfl hrg ?_ ?_)
          | fail)
        · intro hall
          have hpd := HCM.out.all HDX.out.nodup' (fun x hx => hall x.1 x.2 hx)
          have hlen : (O.map cdOf).length = p := by rw [List.length_map]; exact HOL.out
          have hpl : (O.map cdOf).length ≤ 100000 := by
            have h1 := hpd.length_eq
            have h2 := HDL.out
            rw [List.length_map]
            omega
          have hsort := sortC_any Z (.slice aw p cw) (O.map cdOf) wz (by rw [hlen]; exact HRW.out) hpl
          have HSO := Lib.hid hsort
          have HPD := Lib.hid hpd
          have HOB := Lib.hid (show ∀ k ∈ (Value.slice aw p cw).ownBlock.toList, Z ≤ k from fun k hk => by
            rcases HRW.out.2 with ⟨h1, h2⟩ | ⟨gg, cp, cur, h1, h2, h3, _⟩
            · rw [h1] at hk
              simp [Value.ownBlock] at hk
            · rw [h1] at hk
              simp [Value.ownBlock] at hk
              omega)
          clear hall hpd hlen hpl hsort
          go_wp2_with fail
          refine HSO.out.mono ?_
          rintro e w8 ⟨rfl, L, hr8, hp8, hs8, f8⟩
          have HL8 := Lib.hid (show CodesAre xs L from CodesAre.of HDX.out (hp8.trans (HPD.out.map cdOf)) hs8)
          have HR8 := Lib.hid hr8
          have HF8 := Lib.hid (show Fr [] w w8 from (HF7.out.trans HFZ.out (fun x hx hl => by
            rw [List.mem_singleton] at hx
            have := HWR.out
            omega)).trans f8 (fun x hx hl => by
            have h1 := HOB.out x hx
            have h2 := HZ.out.2
            have h3 := HWR.out
            omega))
          clear hr8 hp8 hs8 f8 HSO
          go_wp2
          go_ret2
          exact ⟨_, L, rfl, HR8.out, HL8.out, HF8.out⟩
        · intro kk vv w1 hin hnd hrg1 hf1 hs1 hlt1 hen
          obtain ⟨⟨⟨k1, k2⟩, c⟩, hpp, he⟩ := List.mem_map.1 hin
          simp only [Prod.mk.injEq] at he
          obtain ⟨rfl, rfl⟩ := he
          have HCM1 := Lib.hid (HCM.out.more hpp hnd)
          have hpc : (c : Int) ≤ 5000 := by
            have h1 := (HDX.out.num ((k1, k2), c) hpp).1
            have h2 : cnt xs (k1, k2) ≤ xs.length := List.countP_le_length
            rw [HM.out] at h2
            dsimp only at h1
            omega
          have hp5 : p + 1 ≤ 5000 := by
            have h3 := HCM1.out.len
            have h4 := HDL.out
            rw [List.length_append, HOL.out] at h3
            simp at h3
            omega
          have HRG1 := Lib.hid hrg1
          have HF1 := Lib.hid hf1
          have HLT := Lib.hid (And.intro hlt1 hs1)
          clear hin hnd hrg1 hf1 hlt1 hpp hs1
          unfold keyV at hen
          go_upto_region 15 with fail
          obtain ⟨W2, hW2⟩ : ∃ z, w1.alloc (.cells #[.int .i64 k1, .int .i64 k2, .int .i64 (c : Int)] 62) = z := ⟨_, rfl⟩
          have hX : CdAt W2 w1.heap.size ⟨k1, k2, c⟩ := by rw [← hW2]; exact CdAt.made w1 ⟨k1, k2, c⟩
          have f2 : Fr [] w1 W2 := by rw [← hW2]; exact (Fr.refl [] w1).alloc _
          rw [hW2]
          have x0 := hX.c0
          have x1 := hX.c1
          have x2 := hX.c2
          simp only at x0 x1 x2
          have HRG2 := Lib.hid (HRG1.out.keep f2 (by simp) (by simp))
          have HF12 := Lib.hid f2
          have HF2 := Lib.hid (show Fr [R] wz W2 from HF1.out.step f2)
          have HOB := Lib.hid (show ∀ k, (Value.slice aw p cw).ownBlock = some k → Z ≤ k from fun k e => by
            rcases HRW.out.2 with ⟨h1, h2⟩ | ⟨gg, cp, cur, h1, h2, h3, _⟩
            · rw [h1] at e
              cases e
            · rw [h1] at e
              cases e
              exact h2)
          have fA : Fr [] W2 (W2.alloc (.cells #[.int .i64 k1, .int .i64 k2, .int .i64 c] 62)) := (Fr.refl [] W2).alloc _
          have HRA := Lib.hid (row_fr (rowFrS HRW.out HF2.out (fun q e => by
            have h1 := HOB.out q e
            have h2 := HZ.out.2
            rw [List.mem_singleton]
            omega)) fA)
          have HZS := Lib.hid (show Z ≤ (W2.alloc (.cells #[.int .i64 k1, .int .i64 k2, .int .i64 c] 62)).heap.size from by
            have h1 := ((HFZ.out.trans HF2.out (fun _ h _ => h)).step fA).size
            have h2 := HZ.out.1
            omega)
          have hMl := hMr
          have HRG3 := Lib.hid (HRG2.out.keep fA (by simp) (by simp))
          have HCC := Lib.hid (show cdCells ((O ++ [((k1, k2), c)]).map cdOf) = cdCells (O.map cdOf) ++ cdVals ⟨k1, k2, c⟩ from by
            rw [List.map_append, cdCells_app]
            simp [cdCells, cdOf])
          clear hX f2 hMl hW2
          go_wp2_with (first
            | (at_builtin; refine wpList_append_own _ rfl _ _ 53 rfl Z 62 i0 _ 3 24 Tryz.underlying53 hi hz0 hz1 hz2 rfl (by omega) _ _ _ rfl HRA.out ⟨W2.heap.size, 0, none⟩ 1 1 (cdVals ⟨k1, k2, c⟩) rfl rfl (cdVals_new W2 ⟨k1, k2, c⟩) (cdVals_one ⟨k1, k2, c⟩) (by unfold maxLen; omega) (by omega) HZS.out ?_; intro v' w4 hown' hgrow hnil; obtain ⟨a', cap', rfl⟩ := row_val' hown'; have HGR := Lib.hid hgrow; have HOW := Lib.hid hown'; clear hgrow hown' hnil)
            | fail)
          have F4 : Fr (Value.slice aw p cw).ownBlock.toList (W2.alloc (.cells #[.int .i64 k1, .int .i64 k2, .int .i64 c] 62)) w4 := grownFr (S := (Value.slice aw p cw).ownBlock.toList) HGR.out (fun k e => by have e' : (Value.slice aw p cw).ownBlock = some k := e; rw [e']; simp)
          have hno : ∀ b, b < Z → b ∉ (Value.slice aw p cw).ownBlock.toList := fun b hb hm => by
            have := HOB.out b (by simpa using hm)
            omega
          have hRZ : R < Z := by have := HZ.out.2; omega
          have HRG4 := Lib.hid (HRG3.out.keep F4 (hno M (by omega)) (hno R hRZ))
          have HF4 := Lib.hid (show Fr [R] w7 w4 from ((HFZ.out.trans HF2.out (fun _ h _ => h)).step fA).trans F4 (fun x hx hl => by
            have h1 := HOB.out x (by simpa using hx)
            have h2 := HZ.out.1
            omega))
          have hz2 : w4.rangeLeft M R = w1.rangeLeft M R := rangeLeft_eq ((F4.block M (HRG3.out.map.lt) (hno M (by omega))).trans ((fA.block M HRG2.out.map.lt (by simp)).trans (HF12.out.block M HRG1.out.map.lt (by simp)))) ((F4.block R (HRG3.out.lt) (hno R hRZ)).trans ((fA.block R HRG2.out.lt (by simp)).trans (HF12.out.block R HRG1.out.lt (by simp))))
          have HML := Lib.hid (show w4.rangeLeft M R < wz.rangeLeft M R from by
            rw [hz2]
            exact HLT.out.1)
          clear F4 hno hRZ hz2
          go_roundw
          case rel => exact ⟨_, O ++ [((k1, k2), c)], _, a', p + 1, cap', rfl, by rw [List.length_append, HOL.out]; rfl, rfl, HRG4.out, HCM1.out, by rw [HCC.out]; exact HOW.out, HF4.out⟩
          case measure => exact HML.out
end Go.Proofs.YtllmejkcohfbiaaGreatDoor
namespace Go.Proofs.YtllmejkcohfbiaaGreatDoor
open Go.RowKit Go.Maps Go.Shelf Go.Sort Go.Lib
set_option linter.unusedVariables false
set_option linter.unusedSimpArgs false
set_option maxRecDepth 100000
set_option maxHeartbeats 16000000

theorem CdRow.cells {w : World} {v : Value} {xs : List Cd} (h : CdRow w v xs) {i : Nat} {x : Cd} (hx : xs[i]? = some x) : ∃ g off cap, v = .slice (some ⟨g, off, none⟩) xs.length cap ∧ g < w.heap.size ∧
    w.cell? ⟨g, off + i * 3, none⟩ = some (.int .i64 x.call) ∧ w.cell? ⟨g, off + i * 3 + 1, none⟩ = some (.int .i64 x.err) ∧ w.cell? ⟨g, off + i * 3 + 2, none⟩ = some (.int .i64 x.n) := by
  rcases h with ⟨rfl, _⟩ | ⟨g, off, cap, rfl, h1, h2⟩
  · simp at hx
  · exact ⟨g, off, cap, rfl, h1, h2 i x hx⟩
theorem EvRow.cells {w : World} {v : Value} {xs : List Ev} (h : EvRow w v xs) {i : Nat} {x : Ev} (hx : xs[i]? = some x) : ∃ g off cap, v = .slice (some ⟨g, off, none⟩) xs.length cap ∧ g < w.heap.size ∧ EvAt w g (off + i * 30) x := by
  rcases h with ⟨rfl, _⟩ | ⟨g, off, cap, rfl, h1, h2⟩
  · simp at hx
  · exact ⟨g, off, cap, rfl, h1, h2 i x hx⟩
theorem codes_big (v : Value) (xs : List Ev) (w : World) (he : EnvR w) (h : EvRow w v xs) (hb : lightB xs = false) :
    Calls Tryz.prog 6 #[v] w fun e w' => e = .returned (.bool true) ∧ Fr [] w w' := by
  have HLI := Lib.hid (light_any v xs w h)
  rw [hb] at HLI
  have HK := Lib.hid (known_any w he)
  obtain ⟨a, cap, rfl⟩ := h.val
  clear he h hb
  go_enter Tryz.func6, Tryz.ntmps6
  go_wp2_with fail
  refine HLI.out.mono ?_
  rintro e w1 ⟨rfl, rfl⟩
  go_wp2_with fail
  refine HK.out.mono ?_
  rintro e w1 ⟨rfl, f1⟩
  go_wp2
  go_ret
  exact ⟨rfl, f1⟩
theorem cnt_succ (l : List Ev) (q : Nat) (v : Ev) (k : Int × Int) (h : l[q]? = some v) : cnt (l.take (q + 1)) k = cnt (l.take q) k + if (v.ended && decide (v.key = k)) = true then 1 else 0 := by
  rw [List.take_add_one, h]
  exact cnt_app _ _ _
theorem ends_succ (l : List Ev) (q : Nat) (v : Ev) (h : l[q]? = some v) : (l.take (q + 1)).countP (·.ended) = (l.take q).countP (·.ended) + if v.ended = true then 1 else 0 := by
  rw [List.take_add_one, h, List.countP_append, Option.toList_some, List.countP_singleton]
theorem sum_succ (L : List Cd) (p : Nat) (x : Cd) (h : L[p]? = some x) : ((L.take (p + 1)).map (·.n)).sum = ((L.take p).map (·.n)).sum + x.n := by
  rw [List.take_add_one, h, List.map_append, List.sum_append]
  simp
theorem sum_rng : ∀ (L : List Cd) (p : Nat), (∀ x ∈ L, 0 ≤ x.n ∧ x.n ≤ 60) → 0 ≤ ((L.take p).map (·.n)).sum ∧ ((L.take p).map (·.n)).sum ≤ 60 * p
  | [], p, _ => by
    simp
    omega
  | x :: r, 0, _ => by simp
  | x :: r, p + 1, h => by
    have h1 := h x (by simp)
    have h2 := sum_rng r p (fun y hy => h y (List.mem_cons_of_mem _ hy))
    simp only [List.take_succ_cons, List.map_cons, List.sum_cons]
    omega
theorem codes_main (v : Value) (xs : List Ev) (w : World) (he : EnvR w) (h : EvRow w v xs) (hb : lightB xs = true) (hok : ∀ x ∈ xs, I64 x.eKind ∧ I64 x.eErr) :
    Calls Tryz.prog 6 #[v] w fun e w' => e = .returned (.bool true) ∧ Fr [] w w' := by
  have hlen : xs.length ≤ 60 := by
    unfold lightB at hb
    exact of_decide_eq_true (Bool.and_eq_true_iff.1 hb).2
  have HLI := Lib.hid (light_any v xs w h)
  rw [hb] at HLI
  have HE := Lib.hid he
  have HR := Lib.hid h
  have HOF := Lib.hid (ofCodes_any v xs w h (by omega) hok)
  obtain ⟨a, cap, rfl⟩ := h.val
  obtain ⟨n, hnl⟩ : ∃ n, xs.length = n := ⟨_, rfl⟩
  have HM := Lib.hid hnl
  rw [hnl] at HLI HOF HR hlen ⊢
  clear he h hb hok hnl
  go_enter Tryz.func6, Tryz.ntmps6
  go_wp2_with fail
  refine HLI.out.mono ?_
  rintro e w1 ⟨rfl, rfl⟩
  clear HLI
  go_wp2_with fail
  refine HOF.out.mono ?_
  rintro e w2 ⟨v', L, rfl, hrow, hca, f2⟩
  obtain ⟨a', c', rfl⟩ := hrow.val
  obtain ⟨m, hm⟩ : ∃ m, L.length = m := ⟨_, rfl⟩
  have hmn : m ≤ n := by rw [← hm, ← HM.out]; exact hca.len
  have hL60 : ∀ x ∈ L, 0 ≤ x.n ∧ x.n ≤ 60 := fun x hx => by
    have h1 := (hca.num x hx).1
    have h2 : cnt xs (x.call, x.err) ≤ xs.length := List.countP_le_length
    rw [HM.out] at h2
    omega
  rw [hm] at hrow ⊢
  have HMM := Lib.hid hm
  have HRW := Lib.hid hrow
  have HCA := Lib.hid hca
  have HF2 := Lib.hid f2
  have HL6 := Lib.hid hL60
  clear hrow f2 HOF hca hm hL60
  go_wp2
  go_loopw [5, 6] (fun s5 s6 wr => ∃ (wz : World) (p : Nat) (s : Int), wz = wr ∧ s5 = .int .i64 s ∧ s6 = .int .i64 p ∧ p ≤ m ∧ s = ((L.take p).map (·.n)).sum ∧ Fr [] w2 wr) (fun _ s6 _ => m - (intOf s6).toNat)
  case atStart => exact ⟨_, 0, 0, rfl, rfl, rfl, by omega, rfl, Fr.refl _ _⟩
  case round =>
    obtain ⟨wr, p, s, hwz, rfl, rfl, hpm, hs, hF⟩ := hrel
    subst hwz
    have hsr := sum_rng L p HL6.out
    rw [← hs] at hsr
    have HF := Lib.hid hF
    have HS := Lib.hid hs
    clear hF hs
    have hp60 : (p : Int) ≤ 60 := by omega
    by_cases hlt : p < m
    · have hlt' : (p : Int) < (m : Int) := by omega
      have hxL := List.getElem?_eq_getElem (l := L) (i := p) (by rw [HMM.out]; exact hlt)
      obtain ⟨x, hxe⟩ : ∃ x, L[p]'(by rw [HMM.out]; exact hlt) = x := ⟨_, rfl⟩
      rw [hxe] at hxL
      have HXL := Lib.hid hxL
      obtain ⟨g2, off2, cap2, hv2, hg2, hc0, hc1, hc2⟩ := HRW.out.cells hxL
      rw [HMM.out] at hv2
      simp only [Value.slice.injEq] at hv2
      obtain ⟨rfl, _, rfl⟩ := hv2
      have HC := Lib.hid (And.intro hc0 (And.intro hc1 hc2))
      obtain ⟨xk, xe, xn⟩ := x
      have HNUM := Lib.hid (HCA.out.num _ (List.mem_of_getElem? hxL))
      clear hxL hxe hc0 hc1 hc2
      simp only at HC HNUM
      have hxn : 0 ≤ xn ∧ xn ≤ 60 := HL6.out _ (List.mem_of_getElem? HXL.out)
      go_wp2
      go_loopw [7, 8] (fun s7 s8 wq => ∃ (wz : World) (q c : Nat), wz = wq ∧ s7 = .int .i64 c ∧ s8 = .int .i64 q ∧ q ≤ n ∧ c ≤ q ∧ c = cnt (xs.take q) (xk, xe) ∧ Fr [] w2 wq) (fun _ s8 _ => n - (intOf s8).toNat)
      case atStart => exact ⟨_, 0, 0, rfl, rfl, rfl, by omega, by omega, rfl, HF.out⟩
      case round =>
        obtain ⟨wq, q, c, hwz, rfl, rfl, hq, hcq, hc, hF⟩ := hrel
        subst hwz
        have HFq := Lib.hid hF
        have HCN := Lib.hid hc
        clear hF hc
        have hq60 : (q : Int) ≤ 60 := by omega
        by_cases hlq : q < n
        · have hlq' : (q : Int) < (n : Int) := by omega
          have hx := List.getElem?_eq_getElem (l := xs) (i := q) (by rw [HM.out]; exact hlq)
          obtain ⟨o, hoe⟩ : ∃ o, xs[q]'(by rw [HM.out]; exact hlq) = o := ⟨_, rfl⟩
          rw [hoe] at hx
          obtain ⟨g, off, cap', hv, hg, hcells⟩ := (HR.out.new (HF2.out.step HFq.out)).cells hx
          rw [HM.out] at hv
          simp only [Value.slice.injEq] at hv
          obtain ⟨rfl, _, rfl⟩ := hv
          have HCS := Lib.hid (cnt_succ xs q o (xk, xe) hx)
          obtain ⟨V, hV⟩ : ∃ V, evV o = V := ⟨_, rfl⟩
          have HEV := Lib.hid hV
          have HEN := Lib.hid (fun W => (show Calls Tryz.prog 35 #[V] W fun e w' => e = .returned (.bool o.ended) ∧ Fr [] W w' from by
            have h := endedL_any o W
            rw [← HEV.out]
            exact h))
          have HLD := Lib.hid (fun W (hh : EvAt W g (off + q * 30) o) => (show (Instr.loadAt 103 (.pointer (some ⟨g, off + q * 30, none⟩))).run Tryz.prog W = .ok V W from by
            have h := ev_load hh
            rw [HEV.out] at h
            exact h))
          have hS : EvAt wq.drew g (off + q * 30) o ∧ wq.drew.cell? ⟨g, off + q * 30 + 17, none⟩ = some (.int .i64 o.eKind) ∧ wq.drew.cell? ⟨g, off + q * 30 + 18, none⟩ = some (.int .i64 o.eErr) ∧ wq.drew.cell? ⟨g2, off2 + p * 3, none⟩ = some (.int .i64 xk) ∧ wq.drew.cell? ⟨g2, off2 + p * 3 + 1, none⟩ = some (.int .i64 xe) := by
            have hf := HFq.out.drewN 1
            exact ⟨hcells, hcells 17 _ rfl, hcells 18 _ rfl, hf.keep HC.out.1 (by simp), hf.keep HC.out.2.1 (by simp)⟩
          have HS0 := Lib.hid hS
          have HG := Lib.hid (And.intro hg hg2)
          clear hx hoe hcells hV hg hg2 hS
          have hq0 : (0 : Int) ≤ (q : Int) := by omega
          have hp0 : (0 : Int) ≤ (p : Int) := by omega
          go_upto_region 12 with fail
          obtain ⟨en, hen⟩ : ∃ z, o.ended = z := ⟨_, rfl⟩
          rw [hen] at HCS HEN
          clear hen
          cases en with
          | false =>
            have HQ := Lib.hid (show c = cnt (xs.take (q + 1)) (xk, xe) from by rw [HCS.out, ← HCN.out]; simp)
            refine wp_region_held_drew (S := fun w' => EvAt w' g (off + q * 30) o ∧ w'.cell? ⟨g, off + q * 30 + 17, none⟩ = some (.int .i64 o.eKind) ∧ w'.cell? ⟨g, off + q * 30 + 18, none⟩ = some (.int .i64 o.eErr) ∧ w'.cell? ⟨g2, off2 + p * 3, none⟩ = some (.int .i64 xk) ∧ w'.cell? ⟨g2, off2 + p * 3 + 1, none⟩ = some (.int .i64 xe)) (by kernel_rfl) (HS0.out) (fun hHeld => ?_)
            refine wpAnyH_take (i := 0) (oi := _) (v := ?_) rfl (by kernel_rfl) (by kernel_rfl) (by kernel_rfl) (fun _ _ _ h => h) (Or.inl ⟨by rfl, ?_⟩) (by assumption) ?_
            rotate_left
            · intro w hSw
              try dsimp only at hSw
              go_simp
              try with_reducible rfl
            try simp only [Act.put, List.getElem_toArray, List.getElem_cons_succ, List.getElem_cons_zero, List.setIfInBounds_toArray, List.set_cons_zero, List.set_cons_succ]
            refine wpAnyH_take (i := 1) (oi := _) (v := ?_) rfl (by kernel_rfl) (by kernel_rfl) (by kernel_rfl) (fun _ _ _ h => h) (Or.inl ⟨by rfl, ?_⟩) (by assumption) ?_
            rotate_left
            · intro w hSw
              try dsimp only at hSw
              go_simp
              try with_reducible rfl
            try simp only [Act.put, List.getElem_toArray, List.getElem_cons_succ, List.getElem_cons_zero, List.setIfInBounds_toArray, List.set_cons_zero, List.set_cons_succ]
            refine wpAnyH_take (i := 2) (oi := _) (v := ?_) rfl (by kernel_rfl) (by kernel_rfl) (by kernel_rfl) (fun _ _ _ h => h) (Or.inl ⟨by rfl, ?_⟩) (by assumption) ?_
            rotate_left
            · intro w hSw
              try dsimp only at hSw
              go_simp
              try with_reducible rfl
            try simp only [Act.put, List.getElem_toArray, List.getElem_cons_succ, List.getElem_cons_zero, List.setIfInBounds_toArray, List.set_cons_zero, List.set_cons_succ]
            refine wpAnyH_take (i := 3) (oi := _) (v := V) rfl (by kernel_rfl) (by kernel_rfl) (by kernel_rfl) (fun _ _ _ h => h) (Or.inl ⟨by rfl, ?_⟩) (by assumption) ?_
            · intro w hSw
              show Sem.run Tryz.prog ((Instr.loadAt 103 (.pointer (some ⟨g, off + q * 30, none⟩))) >>= fun x => pure (Next.value x)) w = _
              rw [Sem.run_bind, HLD.out _ hSw.1]
              rfl
            try simp only [Act.put, List.getElem_toArray, List.getElem_cons_succ, List.getElem_cons_zero, List.setIfInBounds_toArray, List.set_cons_zero, List.set_cons_succ]
            refine wpAnyH_ready (rs := [4]) (by kernel_rfl) (by simp) ?_
            refine AllReadyH.cons (o := _) rfl (fun K hK => ?_) AllReadyH.nil
            go_simp
            refine (HEN.out _).mono ?_
            rintro e w7 ⟨rfl, f7⟩
            have HF7 := Lib.hid ((HFq.out.drewN 1).step f7)
            refine hK.out _ _ (⟨fun j u hu => f7.keep (hHeld.1 j u hu) (by simp), f7.keep hHeld.2.1 (by simp), f7.keep hHeld.2.2.1 (by simp), f7.keep hHeld.2.2.2.1 (by simp), f7.keep hHeld.2.2.2.2 (by simp)⟩) (fun hHeld => ?_)
            clear hK K
            try simp only [Act.put, List.getElem_toArray, List.getElem_cons_succ, List.getElem_cons_zero, List.setIfInBounds_toArray, List.set_cons_zero, List.set_cons_succ]
            refine wpAnyH_take (i := 5) (oi := _) (v := ?_) rfl (by kernel_rfl) (by kernel_rfl) (by kernel_rfl) (fun _ _ _ h => h) (Or.inl ⟨by rfl, ?_⟩) (by assumption) ?_
            rotate_left
            · intro w hSw
              try dsimp only at hSw
              go_simp
              try with_reducible rfl
            try simp only [Act.put, List.getElem_toArray, List.getElem_cons_succ, List.getElem_cons_zero, List.setIfInBounds_toArray, List.set_cons_zero, List.set_cons_succ]
            refine wpAnyH_take (i := 6) (oi := _) (v := undef) rfl (by kernel_rfl) (by kernel_rfl) (by kernel_rfl) (fun _ _ _ h => h) (Or.inr ⟨by rfl, rfl⟩) (by assumption) ?_
            try simp only [Act.put, List.getElem_toArray, List.getElem_cons_succ, List.getElem_cons_zero, List.setIfInBounds_toArray, List.set_cons_zero, List.set_cons_succ]
            refine wpAnyH_take (i := 7) (oi := _) (v := undef) rfl (by kernel_rfl) (by kernel_rfl) (by kernel_rfl) (fun _ _ _ h => h) (Or.inr ⟨by rfl, rfl⟩) (by assumption) ?_
            try simp only [Act.put, List.getElem_toArray, List.getElem_cons_succ, List.getElem_cons_zero, List.setIfInBounds_toArray, List.set_cons_zero, List.set_cons_succ]
            refine wpAnyH_take (i := 8) (oi := _) (v := undef) rfl (by kernel_rfl) (by kernel_rfl) (by kernel_rfl) (fun _ _ _ h => h) (Or.inr ⟨by rfl, rfl⟩) (by assumption) ?_
            try simp only [Act.put, List.getElem_toArray, List.getElem_cons_succ, List.getElem_cons_zero, List.setIfInBounds_toArray, List.set_cons_zero, List.set_cons_succ]
            refine wpAnyH_take (i := 9) (oi := _) (v := undef) rfl (by kernel_rfl) (by kernel_rfl) (by kernel_rfl) (fun _ _ _ h => h) (Or.inr ⟨by rfl, rfl⟩) (by assumption) ?_
            try simp only [Act.put, List.getElem_toArray, List.getElem_cons_succ, List.getElem_cons_zero, List.setIfInBounds_toArray, List.set_cons_zero, List.set_cons_succ]
            refine wpAnyH_take (i := 10) (oi := _) (v := undef) rfl (by kernel_rfl) (by kernel_rfl) (by kernel_rfl) (fun _ _ _ h => h) (Or.inr ⟨by rfl, rfl⟩) (by assumption) ?_
            try simp only [Act.put, List.getElem_toArray, List.getElem_cons_succ, List.getElem_cons_zero, List.setIfInBounds_toArray, List.set_cons_zero, List.set_cons_succ]
            refine wpAnyH_take (i := 11) (oi := _) (v := undef) rfl (by kernel_rfl) (by kernel_rfl) (by kernel_rfl) (fun _ _ _ h => h) (Or.inr ⟨by rfl, rfl⟩) (by assumption) ?_
            try simp only [Act.put, List.getElem_toArray, List.getElem_cons_succ, List.getElem_cons_zero, List.setIfInBounds_toArray, List.set_cons_zero, List.set_cons_succ]
            refine wpAnyH_take (i := 12) (oi := _) (v := undef) rfl (by kernel_rfl) (by kernel_rfl) (by kernel_rfl) (fun _ _ _ h => h) (Or.inr ⟨by rfl, rfl⟩) (by assumption) ?_
            try simp only [Act.put, List.getElem_toArray, List.getElem_cons_succ, List.getElem_cons_zero, List.setIfInBounds_toArray, List.set_cons_zero, List.set_cons_succ]
            refine wpAnyH_take (i := 13) (oi := _) (v := undef) rfl (by kernel_rfl) (by kernel_rfl) (by kernel_rfl) (fun _ _ _ h => h) (Or.inr ⟨by rfl, rfl⟩) (by assumption) ?_
            try simp only [Act.put, List.getElem_toArray, List.getElem_cons_succ, List.getElem_cons_zero, List.setIfInBounds_toArray, List.set_cons_zero, List.set_cons_succ]
            refine wpAnyH_take (i := 14) (oi := _) (v := undef) rfl (by kernel_rfl) (by kernel_rfl) (by kernel_rfl) (fun _ _ _ h => h) (Or.inr ⟨by rfl, rfl⟩) (by assumption) ?_
            try simp only [Act.put, List.getElem_toArray, List.getElem_cons_succ, List.getElem_cons_zero, List.setIfInBounds_toArray, List.set_cons_zero, List.set_cons_succ]
            refine wpAnyH_take (i := 15) (oi := _) (v := undef) rfl (by kernel_rfl) (by kernel_rfl) (by kernel_rfl) (fun _ _ _ h => h) (Or.inr ⟨by rfl, rfl⟩) (by assumption) ?_
            try simp only [Act.put, List.getElem_toArray, List.getElem_cons_succ, List.getElem_cons_zero, List.setIfInBounds_toArray, List.set_cons_zero, List.set_cons_succ]
            refine wpAnyH_take (i := 16) (oi := _) (v := undef) rfl (by kernel_rfl) (by kernel_rfl) (by kernel_rfl) (fun _ _ _ h => h) (Or.inr ⟨by rfl, rfl⟩) (by assumption) ?_
            try simp only [Act.put, List.getElem_toArray, List.getElem_cons_succ, List.getElem_cons_zero, List.setIfInBounds_toArray, List.set_cons_zero, List.set_cons_succ]
            refine wpAnyH_take (i := 17) (oi := _) (v := undef) rfl (by kernel_rfl) (by kernel_rfl) (by kernel_rfl) (fun _ _ _ h => h) (Or.inr ⟨by rfl, rfl⟩) (by assumption) ?_
            try simp only [Act.put, List.getElem_toArray, List.getElem_cons_succ, List.getElem_cons_zero, List.setIfInBounds_toArray, List.set_cons_zero, List.set_cons_succ]
            refine wpAnyH_take (i := 18) (oi := _) (v := ?_) rfl (by kernel_rfl) (by kernel_rfl) (by kernel_rfl) (fun _ _ _ h => h) (Or.inl ⟨by rfl, ?_⟩) (by assumption) ?_
            rotate_left
            · intro w hSw
              try dsimp only at hSw
              go_simp
              try with_reducible rfl
            try simp only [Act.put, List.getElem_toArray, List.getElem_cons_succ, List.getElem_cons_zero, List.setIfInBounds_toArray, List.set_cons_zero, List.set_cons_succ]
            refine wpAnyH_take (i := 19) (oi := _) (v := ?_) rfl (by kernel_rfl) (by kernel_rfl) (by kernel_rfl) (fun _ _ _ h => h) (Or.inl ⟨by rfl, ?_⟩) (by assumption) ?_
            rotate_left
            · intro w hSw
              try dsimp only at hSw
              go_simp
              try with_reducible rfl
            try simp only [Act.put, List.getElem_toArray, List.getElem_cons_succ, List.getElem_cons_zero, List.setIfInBounds_toArray, List.set_cons_zero, List.set_cons_succ]
            refine wpAnyH_take (i := 20) (oi := _) (v := undef) rfl (by kernel_rfl) (by kernel_rfl) (by kernel_rfl) (fun _ _ _ h => h) (Or.inr ⟨by rfl, rfl⟩) (by assumption) ?_
            try simp only [Act.put, List.getElem_toArray, List.getElem_cons_succ, List.getElem_cons_zero, List.setIfInBounds_toArray, List.set_cons_zero, List.set_cons_succ]
            refine wpAnyH_take (i := 21) (oi := _) (v := undef) rfl (by kernel_rfl) (by kernel_rfl) (by kernel_rfl) (fun _ _ _ h => h) (Or.inr ⟨by rfl, rfl⟩) (by assumption) ?_
            try simp only [Act.put, List.getElem_toArray, List.getElem_cons_succ, List.getElem_cons_zero, List.setIfInBounds_toArray, List.set_cons_zero, List.set_cons_succ]
            refine wpAnyH_take (i := 22) (oi := _) (v := undef) rfl (by kernel_rfl) (by kernel_rfl) (by kernel_rfl) (fun _ _ _ h => h) (Or.inr ⟨by rfl, rfl⟩) (by assumption) ?_
            try simp only [Act.put, List.getElem_toArray, List.getElem_cons_succ, List.getElem_cons_zero, List.setIfInBounds_toArray, List.set_cons_zero, List.set_cons_succ]
            refine wpAnyH_take (i := 23) (oi := _) (v := undef) rfl (by kernel_rfl) (by kernel_rfl) (by kernel_rfl) (fun _ _ _ h => h) (Or.inr ⟨by rfl, rfl⟩) (by assumption) ?_
            try simp only [Act.put, List.getElem_toArray, List.getElem_cons_succ, List.getElem_cons_zero, List.setIfInBounds_toArray, List.set_cons_zero, List.set_cons_succ]
            refine wpAnyH_take (i := 24) (oi := _) (v := undef) rfl (by kernel_rfl) (by kernel_rfl) (by kernel_rfl) (fun _ _ _ h => h) (Or.inr ⟨by rfl, rfl⟩) (by assumption) ?_
            try simp only [Act.put, List.getElem_toArray, List.getElem_cons_succ, List.getElem_cons_zero, List.setIfInBounds_toArray, List.set_cons_zero, List.set_cons_succ]
            refine wpAnyH_take (i := 25) (oi := _) (v := undef) rfl (by kernel_rfl) (by kernel_rfl) (by kernel_rfl) (fun _ _ _ h => h) (Or.inr ⟨by rfl, rfl⟩) (by assumption) ?_
            try simp only [Act.put, List.getElem_toArray, List.getElem_cons_succ, List.getElem_cons_zero, List.setIfInBounds_toArray, List.set_cons_zero, List.set_cons_succ]
            refine wpAnyH_take (i := 26) (oi := _) (v := undef) rfl (by kernel_rfl) (by kernel_rfl) (by kernel_rfl) (fun _ _ _ h => h) (Or.inr ⟨by rfl, rfl⟩) (by assumption) ?_
            try simp only [Act.put, List.getElem_toArray, List.getElem_cons_succ, List.getElem_cons_zero, List.setIfInBounds_toArray, List.set_cons_zero, List.set_cons_succ]
            refine wpAnyH_take (i := 27) (oi := _) (v := undef) rfl (by kernel_rfl) (by kernel_rfl) (by kernel_rfl) (fun _ _ _ h => h) (Or.inr ⟨by rfl, rfl⟩) (by assumption) ?_
            try simp only [Act.put, List.getElem_toArray, List.getElem_cons_succ, List.getElem_cons_zero, List.setIfInBounds_toArray, List.set_cons_zero, List.set_cons_succ]
            refine wpAnyH_take (i := 28) (oi := _) (v := undef) rfl (by kernel_rfl) (by kernel_rfl) (by kernel_rfl) (fun _ _ _ h => h) (Or.inr ⟨by rfl, rfl⟩) (by assumption) ?_
            try simp only [Act.put, List.getElem_toArray, List.getElem_cons_succ, List.getElem_cons_zero, List.setIfInBounds_toArray, List.set_cons_zero, List.set_cons_succ]
            refine wpAnyH_take (i := 29) (oi := _) (v := undef) rfl (by kernel_rfl) (by kernel_rfl) (by kernel_rfl) (fun _ _ _ h => h) (Or.inr ⟨by rfl, rfl⟩) (by assumption) ?_
            try simp only [Act.put, List.getElem_toArray, List.getElem_cons_succ, List.getElem_cons_zero, List.setIfInBounds_toArray, List.set_cons_zero, List.set_cons_succ]
            refine wpAnyH_take (i := 30) (oi := _) (v := undef) rfl (by kernel_rfl) (by kernel_rfl) (by kernel_rfl) (fun _ _ _ h => h) (Or.inr ⟨by rfl, rfl⟩) (by assumption) ?_
            try simp only [Act.put, List.getElem_toArray, List.getElem_cons_succ, List.getElem_cons_zero, List.setIfInBounds_toArray, List.set_cons_zero, List.set_cons_succ]
            refine wpAnyH_take (i := 31) (oi := _) (v := undef) rfl (by kernel_rfl) (by kernel_rfl) (by kernel_rfl) (fun _ _ _ h => h) (Or.inr ⟨by rfl, rfl⟩) (by assumption) ?_
            try simp only [Act.put, List.getElem_toArray, List.getElem_cons_succ, List.getElem_cons_zero, List.setIfInBounds_toArray, List.set_cons_zero, List.set_cons_succ]
            refine wpAnyH_take (i := 32) (oi := _) (v := ?_) rfl (by kernel_rfl) (by kernel_rfl) (by kernel_rfl) (fun _ _ _ h => h) (Or.inl ⟨by rfl, ?_⟩) (by assumption) ?_
            rotate_left
            · intro w hSw
              try dsimp only at hSw
              go_simp
              try with_reducible rfl
            try simp only [Act.put, List.getElem_toArray, List.getElem_cons_succ, List.getElem_cons_zero, List.setIfInBounds_toArray, List.set_cons_zero, List.set_cons_succ]
            refine wpAnyH_done (by kernel_rfl) ?_ _
            clear hHeld HLD HEN HS0
            go_wp2
            go_roundw
            case rel => exact ⟨_, q + 1, c, rfl, by go_num, by go_num, by omega, by omega, HQ.out, HF7.out⟩
            case measure => simp [intOf]; omega
          | true =>
            by_cases hk : o.eKind = xk
            · have d1 : (o.eKind == xk) = true := beq_iff_eq.2 hk
              have d1' : decide (o.eKind = xk) = true := decide_eq_true hk
              by_cases hk2 : o.eErr = xe
              · have d2 : (o.eErr == xe) = true := beq_iff_eq.2 hk2
                have d2' : decide (o.eErr = xe) = true := decide_eq_true hk2
                have HQ := Lib.hid (show c + 1 = cnt (xs.take (q + 1)) (xk, xe) from by rw [HCS.out, ← HCN.out]; simp [Ev.key, hk, hk2])
                refine wp_region_held_drew (S := fun w' => EvAt w' g (off + q * 30) o ∧ w'.cell? ⟨g, off + q * 30 + 17, none⟩ = some (.int .i64 o.eKind) ∧ w'.cell? ⟨g, off + q * 30 + 18, none⟩ = some (.int .i64 o.eErr) ∧ w'.cell? ⟨g2, off2 + p * 3, none⟩ = some (.int .i64 xk) ∧ w'.cell? ⟨g2, off2 + p * 3 + 1, none⟩ = some (.int .i64 xe)) (by kernel_rfl) (HS0.out) (fun hHeld => ?_)
                refine wpAnyH_take (i := 0) (oi := _) (v := ?_) rfl (by kernel_rfl) (by kernel_rfl) (by kernel_rfl) (fun _ _ _ h => h) (Or.inl ⟨by rfl, ?_⟩) (by assumption) ?_
                rotate_left
                · intro w hSw
                  try dsimp only at hSw
                  go_simp
                  try with_reducible rfl
                try simp only [Act.put, List.getElem_toArray, List.getElem_cons_succ, List.getElem_cons_zero, List.setIfInBounds_toArray, List.set_cons_zero, List.set_cons_succ]
                refine wpAnyH_take (i := 1) (oi := _) (v := ?_) rfl (by kernel_rfl) (by kernel_rfl) (by kernel_rfl) (fun _ _ _ h => h) (Or.inl ⟨by rfl, ?_⟩) (by assumption) ?_
                rotate_left
                · intro w hSw
                  try dsimp only at hSw
                  go_simp
                  try with_reducible rfl
                try simp only [Act.put, List.getElem_toArray, List.getElem_cons_succ, List.getElem_cons_zero, List.setIfInBounds_toArray, List.set_cons_zero, List.set_cons_succ]
                refine wpAnyH_take (i := 2) (oi := _) (v := ?_) rfl (by kernel_rfl) (by kernel_rfl) (by kernel_rfl) (fun _ _ _ h => h) (Or.inl ⟨by rfl, ?_⟩) (by assumption) ?_
                rotate_left
                · intro w hSw
                  try dsimp only at hSw
                  go_simp
                  try with_reducible rfl
                try simp only [Act.put, List.getElem_toArray, List.getElem_cons_succ, List.getElem_cons_zero, List.setIfInBounds_toArray, List.set_cons_zero, List.set_cons_succ]
                refine wpAnyH_take (i := 3) (oi := _) (v := V) rfl (by kernel_rfl) (by kernel_rfl) (by kernel_rfl) (fun _ _ _ h => h) (Or.inl ⟨by rfl, ?_⟩) (by assumption) ?_
                · intro w hSw
                  show Sem.run Tryz.prog ((Instr.loadAt 103 (.pointer (some ⟨g, off + q * 30, none⟩))) >>= fun x => pure (Next.value x)) w = _
                  rw [Sem.run_bind, HLD.out _ hSw.1]
                  rfl
                try simp only [Act.put, List.getElem_toArray, List.getElem_cons_succ, List.getElem_cons_zero, List.setIfInBounds_toArray, List.set_cons_zero, List.set_cons_succ]
                refine wpAnyH_ready (rs := [4]) (by kernel_rfl) (by simp) ?_
                refine AllReadyH.cons (o := _) rfl (fun K hK => ?_) AllReadyH.nil
                go_simp
                refine (HEN.out _).mono ?_
                rintro e w7 ⟨rfl, f7⟩
                have HF7 := Lib.hid ((HFq.out.drewN 1).step f7)
                refine hK.out _ _ (⟨fun j u hu => f7.keep (hHeld.1 j u hu) (by simp), f7.keep hHeld.2.1 (by simp), f7.keep hHeld.2.2.1 (by simp), f7.keep hHeld.2.2.2.1 (by simp), f7.keep hHeld.2.2.2.2 (by simp)⟩) (fun hHeld => ?_)
                clear hK K
                try simp only [Act.put, List.getElem_toArray, List.getElem_cons_succ, List.getElem_cons_zero, List.setIfInBounds_toArray, List.set_cons_zero, List.set_cons_succ]
                refine wpAnyH_take (i := 5) (oi := _) (v := ?_) rfl (by kernel_rfl) (by kernel_rfl) (by kernel_rfl) (fun _ _ _ h => h) (Or.inl ⟨by rfl, ?_⟩) (by assumption) ?_
                rotate_left
                · intro w hSw
                  try dsimp only at hSw
                  go_simp
                  try with_reducible rfl
                try simp only [Act.put, List.getElem_toArray, List.getElem_cons_succ, List.getElem_cons_zero, List.setIfInBounds_toArray, List.set_cons_zero, List.set_cons_succ]
                refine wpAnyH_take (i := 6) (oi := _) (v := ?_) rfl (by kernel_rfl) (by kernel_rfl) (by kernel_rfl) (fun _ _ _ h => h) (Or.inl ⟨by rfl, ?_⟩) (by assumption) ?_
                rotate_left
                · intro w hSw
                  try dsimp only at hSw
                  go_simp
                  try with_reducible rfl
                try simp only [Act.put, List.getElem_toArray, List.getElem_cons_succ, List.getElem_cons_zero, List.setIfInBounds_toArray, List.set_cons_zero, List.set_cons_succ]
                refine wpAnyH_take (i := 7) (oi := _) (v := ?_) rfl (by kernel_rfl) (by kernel_rfl) (by kernel_rfl) (fun _ _ _ h => h) (Or.inl ⟨by rfl, ?_⟩) (by assumption) ?_
                rotate_left
                · intro w hSw
                  try dsimp only at hSw
                  go_simp
                  try with_reducible rfl
                try simp only [Act.put, List.getElem_toArray, List.getElem_cons_succ, List.getElem_cons_zero, List.setIfInBounds_toArray, List.set_cons_zero, List.set_cons_succ]
                refine wpAnyH_take (i := 8) (oi := _) (v := ?_) rfl (by kernel_rfl) (by kernel_rfl) (by kernel_rfl) (fun _ _ _ h => h) (Or.inl ⟨by rfl, ?_⟩) (by assumption) ?_
                rotate_left
                · intro w hSw
                  try dsimp only at hSw
                  go_simp
                  try with_reducible rfl
                try simp only [Act.put, List.getElem_toArray, List.getElem_cons_succ, List.getElem_cons_zero, List.setIfInBounds_toArray, List.set_cons_zero, List.set_cons_succ]
                refine wpAnyH_take (i := 9) (oi := _) (v := ?_) rfl (by kernel_rfl) (by kernel_rfl) (by kernel_rfl) (fun _ _ _ h => h) (Or.inl ⟨by rfl, ?_⟩) (by assumption) ?_
                rotate_left
                · intro w hSw
                  try dsimp only at hSw
                  go_simp
                  try with_reducible rfl
                try simp only [Act.put, List.getElem_toArray, List.getElem_cons_succ, List.getElem_cons_zero, List.setIfInBounds_toArray, List.set_cons_zero, List.set_cons_succ]
                refine wpAnyH_take (i := 10) (oi := _) (v := ?_) rfl (by kernel_rfl) (by kernel_rfl) (by kernel_rfl) (fun _ _ _ h => h) (Or.inl ⟨by rfl, ?_⟩) (by assumption) ?_
                rotate_left
                · intro w hSw
                  try dsimp only at hSw
                  go_simp
                  try with_reducible rfl
                try simp only [Act.put, List.getElem_toArray, List.getElem_cons_succ, List.getElem_cons_zero, List.setIfInBounds_toArray, List.set_cons_zero, List.set_cons_succ]
                refine wpAnyH_take (i := 11) (oi := _) (v := ?_) rfl (by kernel_rfl) (by kernel_rfl) (by kernel_rfl) (fun _ _ _ h => h) (Or.inl ⟨by rfl, ?_⟩) (by assumption) ?_
                rotate_left
                · intro w hSw
                  try dsimp only at hSw
                  go_simp
                  try with_reducible rfl
                try simp only [Act.put, List.getElem_toArray, List.getElem_cons_succ, List.getElem_cons_zero, List.setIfInBounds_toArray, List.set_cons_zero, List.set_cons_succ]
                refine wpAnyH_take (i := 12) (oi := _) (v := ?_) rfl (by kernel_rfl) (by kernel_rfl) (by kernel_rfl) (fun _ _ _ h => h) (Or.inl ⟨by rfl, ?_⟩) (by assumption) ?_
                rotate_left
                · intro w hSw
                  try dsimp only at hSw
                  go_simp
                  try with_reducible rfl
                try simp only [Act.put, List.getElem_toArray, List.getElem_cons_succ, List.getElem_cons_zero, List.setIfInBounds_toArray, List.set_cons_zero, List.set_cons_succ]
                refine wpAnyH_take (i := 13) (oi := _) (v := ?_) rfl (by kernel_rfl) (by kernel_rfl) (by kernel_rfl) (fun _ _ _ h => h) (Or.inl ⟨by rfl, ?_⟩) (by assumption) ?_
                rotate_left
                · intro w hSw
                  try dsimp only at hSw
                  go_simp
                  try with_reducible rfl
                try simp only [Act.put, List.getElem_toArray, List.getElem_cons_succ, List.getElem_cons_zero, List.setIfInBounds_toArray, List.set_cons_zero, List.set_cons_succ]
                refine wpAnyH_take (i := 14) (oi := _) (v := ?_) rfl (by kernel_rfl) (by kernel_rfl) (by kernel_rfl) (fun _ _ _ h => h) (Or.inl ⟨by rfl, ?_⟩) (by assumption) ?_
                rotate_left
                · intro w hSw
                  try dsimp only at hSw
                  go_simp
                  try with_reducible rfl
                try simp only [Act.put, List.getElem_toArray, List.getElem_cons_succ, List.getElem_cons_zero, List.setIfInBounds_toArray, List.set_cons_zero, List.set_cons_succ]
                refine wpAnyH_take (i := 15) (oi := _) (v := ?_) rfl (by kernel_rfl) (by kernel_rfl) (by kernel_rfl) (fun _ _ _ h => h) (Or.inl ⟨by rfl, ?_⟩) (by assumption) ?_
                rotate_left
                · intro w hSw
                  try dsimp only at hSw
                  go_simp
                  try with_reducible rfl
                try simp only [Act.put, List.getElem_toArray, List.getElem_cons_succ, List.getElem_cons_zero, List.setIfInBounds_toArray, List.set_cons_zero, List.set_cons_succ]
                refine wpAnyH_take (i := 16) (oi := _) (v := ?_) rfl (by kernel_rfl) (by kernel_rfl) (by kernel_rfl) (fun _ _ _ h => h) (Or.inl ⟨by rfl, ?_⟩) (by assumption) ?_
                rotate_left
                · intro w hSw
                  try dsimp only at hSw
                  go_simp
                  try with_reducible rfl
                try simp only [Act.put, List.getElem_toArray, List.getElem_cons_succ, List.getElem_cons_zero, List.setIfInBounds_toArray, List.set_cons_zero, List.set_cons_succ]
                refine wpAnyH_take (i := 17) (oi := _) (v := ?_) rfl (by kernel_rfl) (by kernel_rfl) (by kernel_rfl) (fun _ _ _ h => h) (Or.inl ⟨by rfl, ?_⟩) (by assumption) ?_
                rotate_left
                · intro w hSw
                  try dsimp only at hSw
                  go_simp
                  try with_reducible rfl
                try simp only [Act.put, List.getElem_toArray, List.getElem_cons_succ, List.getElem_cons_zero, List.setIfInBounds_toArray, List.set_cons_zero, List.set_cons_succ]
                refine wpAnyH_take (i := 18) (oi := _) (v := ?_) rfl (by kernel_rfl) (by kernel_rfl) (by kernel_rfl) (fun _ _ _ h => h) (Or.inl ⟨by rfl, ?_⟩) (by assumption) ?_
                rotate_left
                · intro w hSw
                  try dsimp only at hSw
                  go_simp
                  try with_reducible rfl
                try simp only [Act.put, List.getElem_toArray, List.getElem_cons_succ, List.getElem_cons_zero, List.setIfInBounds_toArray, List.set_cons_zero, List.set_cons_succ]
                refine wpAnyH_take (i := 19) (oi := _) (v := ?_) rfl (by kernel_rfl) (by kernel_rfl) (by kernel_rfl) (fun _ _ _ h => h) (Or.inl ⟨by rfl, ?_⟩) (by assumption) ?_
                rotate_left
                · intro w hSw
                  try dsimp only at hSw
                  go_simp
                  try with_reducible rfl
                try simp only [Act.put, List.getElem_toArray, List.getElem_cons_succ, List.getElem_cons_zero, List.setIfInBounds_toArray, List.set_cons_zero, List.set_cons_succ]
                refine wpAnyH_take (i := 20) (oi := _) (v := ?_) rfl (by kernel_rfl) (by kernel_rfl) (by kernel_rfl) (fun _ _ _ h => h) (Or.inl ⟨by rfl, ?_⟩) (by assumption) ?_
                rotate_left
                · intro w hSw
                  try dsimp only at hSw
                  go_simp
                  try with_reducible rfl
                try simp only [Act.put, List.getElem_toArray, List.getElem_cons_succ, List.getElem_cons_zero, List.setIfInBounds_toArray, List.set_cons_zero, List.set_cons_succ]
                refine wpAnyH_take (i := 21) (oi := _) (v := ?_) rfl (by kernel_rfl) (by kernel_rfl) (by kernel_rfl) (fun _ _ _ h => h) (Or.inl ⟨by rfl, ?_⟩) (by assumption) ?_
                rotate_left
                · intro w hSw
                  try dsimp only at hSw
                  go_simp
                  try with_reducible rfl
                try simp only [Act.put, List.getElem_toArray, List.getElem_cons_succ, List.getElem_cons_zero, List.setIfInBounds_toArray, List.set_cons_zero, List.set_cons_succ]
                refine wpAnyH_take (i := 22) (oi := _) (v := ?_) rfl (by kernel_rfl) (by kernel_rfl) (by kernel_rfl) (fun _ _ _ h => h) (Or.inl ⟨by rfl, ?_⟩) (by assumption) ?_
                rotate_left
                · intro w hSw
                  try dsimp only at hSw
                  go_simp
                  try with_reducible rfl
                try simp only [Act.put, List.getElem_toArray, List.getElem_cons_succ, List.getElem_cons_zero, List.setIfInBounds_toArray, List.set_cons_zero, List.set_cons_succ]
                refine wpAnyH_take (i := 23) (oi := _) (v := ?_) rfl (by kernel_rfl) (by kernel_rfl) (by kernel_rfl) (fun _ _ _ h => h) (Or.inl ⟨by rfl, ?_⟩) (by assumption) ?_
                rotate_left
                · intro w hSw
                  try dsimp only at hSw
                  go_simp
                  try with_reducible rfl
                try simp only [Act.put, List.getElem_toArray, List.getElem_cons_succ, List.getElem_cons_zero, List.setIfInBounds_toArray, List.set_cons_zero, List.set_cons_succ]
                refine wpAnyH_take (i := 24) (oi := _) (v := ?_) rfl (by kernel_rfl) (by kernel_rfl) (by kernel_rfl) (fun _ _ _ h => h) (Or.inl ⟨by rfl, ?_⟩) (by assumption) ?_
                rotate_left
                · intro w hSw
                  try dsimp only at hSw
                  go_simp
                  try with_reducible rfl
                try simp only [Act.put, List.getElem_toArray, List.getElem_cons_succ, List.getElem_cons_zero, List.setIfInBounds_toArray, List.set_cons_zero, List.set_cons_succ]
                refine wpAnyH_take (i := 25) (oi := _) (v := ?_) rfl (by kernel_rfl) (by kernel_rfl) (by kernel_rfl) (fun _ _ _ h => h) (Or.inl ⟨by rfl, ?_⟩) (by assumption) ?_
                rotate_left
                · intro w hSw
                  try dsimp only at hSw
                  go_simp
                  try with_reducible rfl
                try simp only [Act.put, List.getElem_toArray, List.getElem_cons_succ, List.getElem_cons_zero, List.setIfInBounds_toArray, List.set_cons_zero, List.set_cons_succ]
                refine wpAnyH_take (i := 26) (oi := _) (v := ?_) rfl (by kernel_rfl) (by kernel_rfl) (by kernel_rfl) (fun _ _ _ h => h) (Or.inl ⟨by rfl, ?_⟩) (by assumption) ?_
                rotate_left
                · intro w hSw
                  try dsimp only at hSw
                  go_simp
                  try with_reducible rfl
                try simp only [Act.put, List.getElem_toArray, List.getElem_cons_succ, List.getElem_cons_zero, List.setIfInBounds_toArray, List.set_cons_zero, List.set_cons_succ]
                refine wpAnyH_take (i := 27) (oi := _) (v := ?_) rfl (by kernel_rfl) (by kernel_rfl) (by kernel_rfl) (fun _ _ _ h => h) (Or.inl ⟨by rfl, ?_⟩) (by assumption) ?_
                rotate_left
                · intro w hSw
                  try dsimp only at hSw
                  go_simp
                  try with_reducible rfl
                try simp only [Act.put, List.getElem_toArray, List.getElem_cons_succ, List.getElem_cons_zero, List.setIfInBounds_toArray, List.set_cons_zero, List.set_cons_succ]
                refine wpAnyH_take (i := 28) (oi := _) (v := ?_) rfl (by kernel_rfl) (by kernel_rfl) (by kernel_rfl) (fun _ _ _ h => h) (Or.inl ⟨by rfl, ?_⟩) (by assumption) ?_
                rotate_left
                · intro w hSw
                  try dsimp only at hSw
                  go_simp
                  try with_reducible rfl
                try simp only [Act.put, List.getElem_toArray, List.getElem_cons_succ, List.getElem_cons_zero, List.setIfInBounds_toArray, List.set_cons_zero, List.set_cons_succ]
                refine wpAnyH_take (i := 29) (oi := _) (v := ?_) rfl (by kernel_rfl) (by kernel_rfl) (by kernel_rfl) (fun _ _ _ h => h) (Or.inl ⟨by rfl, ?_⟩) (by assumption) ?_
                rotate_left
                · intro w hSw
                  try dsimp only at hSw
                  go_simp
                  try with_reducible rfl
                try simp only [Act.put, List.getElem_toArray, List.getElem_cons_succ, List.getElem_cons_zero, List.setIfInBounds_toArray, List.set_cons_zero, List.set_cons_succ]
                refine wpAnyH_take (i := 30) (oi := _) (v := ?_) rfl (by kernel_rfl) (by kernel_rfl) (by kernel_rfl) (fun _ _ _ h => h) (Or.inl ⟨by rfl, ?_⟩) (by assumption) ?_
                rotate_left
                · intro w hSw
                  try dsimp only at hSw
                  go_simp
                  try with_reducible rfl
                try simp only [Act.put, List.getElem_toArray, List.getElem_cons_succ, List.getElem_cons_zero, List.setIfInBounds_toArray, List.set_cons_zero, List.set_cons_succ]
                refine wpAnyH_take (i := 31) (oi := _) (v := ?_) rfl (by kernel_rfl) (by kernel_rfl) (by kernel_rfl) (fun _ _ _ h => h) (Or.inl ⟨by rfl, ?_⟩) (by assumption) ?_
                rotate_left
                · intro w hSw
                  try dsimp only at hSw
                  go_simp
                  try with_reducible rfl
                try simp only [Act.put, List.getElem_toArray, List.getElem_cons_succ, List.getElem_cons_zero, List.setIfInBounds_toArray, List.set_cons_zero, List.set_cons_succ]
                refine wpAnyH_take (i := 32) (oi := _) (v := ?_) rfl (by kernel_rfl) (by kernel_rfl) (by kernel_rfl) (fun _ _ _ h => h) (Or.inl ⟨by rfl, ?_⟩) (by assumption) ?_
                rotate_left
                · intro w hSw
                  try dsimp only at hSw
                  go_simp
                  try with_reducible rfl
                try simp only [Act.put, List.getElem_toArray, List.getElem_cons_succ, List.getElem_cons_zero, List.setIfInBounds_toArray, List.set_cons_zero, List.set_cons_succ]
                refine wpAnyH_done (by kernel_rfl) ?_ _
                clear hHeld HLD HEN HS0
                go_wp2
                go_roundw
                case rel => exact ⟨_, q + 1, c + 1, rfl, by go_num, by go_num, by omega, by omega, HQ.out, HF7.out⟩
                case measure => simp [intOf]; omega
              · have d2 : (o.eErr == xe) = false := beq_eq_false_iff_ne.2 hk2
                have d2' : decide (o.eErr = xe) = false := decide_eq_false hk2
                have HQ := Lib.hid (show c = cnt (xs.take (q + 1)) (xk, xe) from by rw [HCS.out, ← HCN.out]; simp [Ev.key, hk, hk2])
                refine wp_region_held_drew (S := fun w' => EvAt w' g (off + q * 30) o ∧ w'.cell? ⟨g, off + q * 30 + 17, none⟩ = some (.int .i64 o.eKind) ∧ w'.cell? ⟨g, off + q * 30 + 18, none⟩ = some (.int .i64 o.eErr) ∧ w'.cell? ⟨g2, off2 + p * 3, none⟩ = some (.int .i64 xk) ∧ w'.cell? ⟨g2, off2 + p * 3 + 1, none⟩ = some (.int .i64 xe)) (by kernel_rfl) (HS0.out) (fun hHeld => ?_)
                refine wpAnyH_take (i := 0) (oi := _) (v := ?_) rfl (by kernel_rfl) (by kernel_rfl) (by kernel_rfl) (fun _ _ _ h => h) (Or.inl ⟨by rfl, ?_⟩) (by assumption) ?_
                rotate_left
                · intro w hSw
                  try dsimp only at hSw
                  go_simp
                  try with_reducible rfl
                try simp only [Act.put, List.getElem_toArray, List.getElem_cons_succ, List.getElem_cons_zero, List.setIfInBounds_toArray, List.set_cons_zero, List.set_cons_succ]
                refine wpAnyH_take (i := 1) (oi := _) (v := ?_) rfl (by kernel_rfl) (by kernel_rfl) (by kernel_rfl) (fun _ _ _ h => h) (Or.inl ⟨by rfl, ?_⟩) (by assumption) ?_
                rotate_left
                · intro w hSw
                  try dsimp only at hSw
                  go_simp
                  try with_reducible rfl
                try simp only [Act.put, List.getElem_toArray, List.getElem_cons_succ, List.getElem_cons_zero, List.setIfInBounds_toArray, List.set_cons_zero, List.set_cons_succ]
                refine wpAnyH_take (i := 2) (oi := _) (v := ?_) rfl (by kernel_rfl) (by kernel_rfl) (by kernel_rfl) (fun _ _ _ h => h) (Or.inl ⟨by rfl, ?_⟩) (by assumption) ?_
                rotate_left
                · intro w hSw
                  try dsimp only at hSw
                  go_simp
                  try with_reducible rfl
                try simp only [Act.put, List.getElem_toArray, List.getElem_cons_succ, List.getElem_cons_zero, List.setIfInBounds_toArray, List.set_cons_zero, List.set_cons_succ]
                refine wpAnyH_take (i := 3) (oi := _) (v := V) rfl (by kernel_rfl) (by kernel_rfl) (by kernel_rfl) (fun _ _ _ h => h) (Or.inl ⟨by rfl, ?_⟩) (by assumption) ?_
                · intro w hSw
                  show Sem.run Tryz.prog ((Instr.loadAt 103 (.pointer (some ⟨g, off + q * 30, none⟩))) >>= fun x => pure (Next.value x)) w = _
                  rw [Sem.run_bind, HLD.out _ hSw.1]
                  rfl
                try simp only [Act.put, List.getElem_toArray, List.getElem_cons_succ, List.getElem_cons_zero, List.setIfInBounds_toArray, List.set_cons_zero, List.set_cons_succ]
                refine wpAnyH_ready (rs := [4]) (by kernel_rfl) (by simp) ?_
                refine AllReadyH.cons (o := _) rfl (fun K hK => ?_) AllReadyH.nil
                go_simp
                refine (HEN.out _).mono ?_
                rintro e w7 ⟨rfl, f7⟩
                have HF7 := Lib.hid ((HFq.out.drewN 1).step f7)
                refine hK.out _ _ (⟨fun j u hu => f7.keep (hHeld.1 j u hu) (by simp), f7.keep hHeld.2.1 (by simp), f7.keep hHeld.2.2.1 (by simp), f7.keep hHeld.2.2.2.1 (by simp), f7.keep hHeld.2.2.2.2 (by simp)⟩) (fun hHeld => ?_)
                clear hK K
                try simp only [Act.put, List.getElem_toArray, List.getElem_cons_succ, List.getElem_cons_zero, List.setIfInBounds_toArray, List.set_cons_zero, List.set_cons_succ]
                refine wpAnyH_take (i := 5) (oi := _) (v := ?_) rfl (by kernel_rfl) (by kernel_rfl) (by kernel_rfl) (fun _ _ _ h => h) (Or.inl ⟨by rfl, ?_⟩) (by assumption) ?_
                rotate_left
                · intro w hSw
                  try dsimp only at hSw
                  go_simp
                  try with_reducible rfl
                try simp only [Act.put, List.getElem_toArray, List.getElem_cons_succ, List.getElem_cons_zero, List.setIfInBounds_toArray, List.set_cons_zero, List.set_cons_succ]
                refine wpAnyH_take (i := 6) (oi := _) (v := ?_) rfl (by kernel_rfl) (by kernel_rfl) (by kernel_rfl) (fun _ _ _ h => h) (Or.inl ⟨by rfl, ?_⟩) (by assumption) ?_
                rotate_left
                · intro w hSw
                  try dsimp only at hSw
                  go_simp
                  try with_reducible rfl
                try simp only [Act.put, List.getElem_toArray, List.getElem_cons_succ, List.getElem_cons_zero, List.setIfInBounds_toArray, List.set_cons_zero, List.set_cons_succ]
                refine wpAnyH_take (i := 7) (oi := _) (v := ?_) rfl (by kernel_rfl) (by kernel_rfl) (by kernel_rfl) (fun _ _ _ h => h) (Or.inl ⟨by rfl, ?_⟩) (by assumption) ?_
                rotate_left
                · intro w hSw
                  try dsimp only at hSw
                  go_simp
                  try with_reducible rfl
                try simp only [Act.put, List.getElem_toArray, List.getElem_cons_succ, List.getElem_cons_zero, List.setIfInBounds_toArray, List.set_cons_zero, List.set_cons_succ]
                refine wpAnyH_take (i := 8) (oi := _) (v := ?_) rfl (by kernel_rfl) (by kernel_rfl) (by kernel_rfl) (fun _ _ _ h => h) (Or.inl ⟨by rfl, ?_⟩) (by assumption) ?_
                rotate_left
                · intro w hSw
                  try dsimp only at hSw
                  go_simp
                  try with_reducible rfl
                try simp only [Act.put, List.getElem_toArray, List.getElem_cons_succ, List.getElem_cons_zero, List.setIfInBounds_toArray, List.set_cons_zero, List.set_cons_succ]
                refine wpAnyH_take (i := 9) (oi := _) (v := ?_) rfl (by kernel_rfl) (by kernel_rfl) (by kernel_rfl) (fun _ _ _ h => h) (Or.inl ⟨by rfl, ?_⟩) (by assumption) ?_
                rotate_left
                · intro w hSw
                  try dsimp only at hSw
                  go_simp
                  try with_reducible rfl
                try simp only [Act.put, List.getElem_toArray, List.getElem_cons_succ, List.getElem_cons_zero, List.setIfInBounds_toArray, List.set_cons_zero, List.set_cons_succ]
                refine wpAnyH_take (i := 10) (oi := _) (v := ?_) rfl (by kernel_rfl) (by kernel_rfl) (by kernel_rfl) (fun _ _ _ h => h) (Or.inl ⟨by rfl, ?_⟩) (by assumption) ?_
                rotate_left
                · intro w hSw
                  try dsimp only at hSw
                  go_simp
                  try with_reducible rfl
                try simp only [Act.put, List.getElem_toArray, List.getElem_cons_succ, List.getElem_cons_zero, List.setIfInBounds_toArray, List.set_cons_zero, List.set_cons_succ]
                refine wpAnyH_take (i := 11) (oi := _) (v := ?_) rfl (by kernel_rfl) (by kernel_rfl) (by kernel_rfl) (fun _ _ _ h => h) (Or.inl ⟨by rfl, ?_⟩) (by assumption) ?_
                rotate_left
                · intro w hSw
                  try dsimp only at hSw
                  go_simp
                  try with_reducible rfl
                try simp only [Act.put, List.getElem_toArray, List.getElem_cons_succ, List.getElem_cons_zero, List.setIfInBounds_toArray, List.set_cons_zero, List.set_cons_succ]
                refine wpAnyH_take (i := 12) (oi := _) (v := ?_) rfl (by kernel_rfl) (by kernel_rfl) (by kernel_rfl) (fun _ _ _ h => h) (Or.inl ⟨by rfl, ?_⟩) (by assumption) ?_
                rotate_left
                · intro w hSw
                  try dsimp only at hSw
                  go_simp
                  try with_reducible rfl
                try simp only [Act.put, List.getElem_toArray, List.getElem_cons_succ, List.getElem_cons_zero, List.setIfInBounds_toArray, List.set_cons_zero, List.set_cons_succ]
                refine wpAnyH_take (i := 13) (oi := _) (v := ?_) rfl (by kernel_rfl) (by kernel_rfl) (by kernel_rfl) (fun _ _ _ h => h) (Or.inl ⟨by rfl, ?_⟩) (by assumption) ?_
                rotate_left
                · intro w hSw
                  try dsimp only at hSw
                  go_simp
                  try with_reducible rfl
                try simp only [Act.put, List.getElem_toArray, List.getElem_cons_succ, List.getElem_cons_zero, List.setIfInBounds_toArray, List.set_cons_zero, List.set_cons_succ]
                refine wpAnyH_take (i := 14) (oi := _) (v := ?_) rfl (by kernel_rfl) (by kernel_rfl) (by kernel_rfl) (fun _ _ _ h => h) (Or.inl ⟨by rfl, ?_⟩) (by assumption) ?_
                rotate_left
                · intro w hSw
                  try dsimp only at hSw
                  go_simp
                  try with_reducible rfl
                try simp only [Act.put, List.getElem_toArray, List.getElem_cons_succ, List.getElem_cons_zero, List.setIfInBounds_toArray, List.set_cons_zero, List.set_cons_succ]
                refine wpAnyH_take (i := 15) (oi := _) (v := ?_) rfl (by kernel_rfl) (by kernel_rfl) (by kernel_rfl) (fun _ _ _ h => h) (Or.inl ⟨by rfl, ?_⟩) (by assumption) ?_
                rotate_left
                · intro w hSw
                  try dsimp only at hSw
                  go_simp
                  try with_reducible rfl
                try simp only [Act.put, List.getElem_toArray, List.getElem_cons_succ, List.getElem_cons_zero, List.setIfInBounds_toArray, List.set_cons_zero, List.set_cons_succ]
                refine wpAnyH_take (i := 16) (oi := _) (v := ?_) rfl (by kernel_rfl) (by kernel_rfl) (by kernel_rfl) (fun _ _ _ h => h) (Or.inl ⟨by rfl, ?_⟩) (by assumption) ?_
                rotate_left
                · intro w hSw
                  try dsimp only at hSw
                  go_simp
                  try with_reducible rfl
                try simp only [Act.put, List.getElem_toArray, List.getElem_cons_succ, List.getElem_cons_zero, List.setIfInBounds_toArray, List.set_cons_zero, List.set_cons_succ]
                refine wpAnyH_take (i := 17) (oi := _) (v := ?_) rfl (by kernel_rfl) (by kernel_rfl) (by kernel_rfl) (fun _ _ _ h => h) (Or.inl ⟨by rfl, ?_⟩) (by assumption) ?_
                rotate_left
                · intro w hSw
                  try dsimp only at hSw
                  go_simp
                  try with_reducible rfl
                try simp only [Act.put, List.getElem_toArray, List.getElem_cons_succ, List.getElem_cons_zero, List.setIfInBounds_toArray, List.set_cons_zero, List.set_cons_succ]
                refine wpAnyH_take (i := 18) (oi := _) (v := ?_) rfl (by kernel_rfl) (by kernel_rfl) (by kernel_rfl) (fun _ _ _ h => h) (Or.inl ⟨by rfl, ?_⟩) (by assumption) ?_
                rotate_left
                · intro w hSw
                  try dsimp only at hSw
                  go_simp
                  try with_reducible rfl
                try simp only [Act.put, List.getElem_toArray, List.getElem_cons_succ, List.getElem_cons_zero, List.setIfInBounds_toArray, List.set_cons_zero, List.set_cons_succ]
                refine wpAnyH_take (i := 19) (oi := _) (v := ?_) rfl (by kernel_rfl) (by kernel_rfl) (by kernel_rfl) (fun _ _ _ h => h) (Or.inl ⟨by rfl, ?_⟩) (by assumption) ?_
                rotate_left
                · intro w hSw
                  try dsimp only at hSw
                  go_simp
                  try with_reducible rfl
                try simp only [Act.put, List.getElem_toArray, List.getElem_cons_succ, List.getElem_cons_zero, List.setIfInBounds_toArray, List.set_cons_zero, List.set_cons_succ]
                refine wpAnyH_take (i := 20) (oi := _) (v := ?_) rfl (by kernel_rfl) (by kernel_rfl) (by kernel_rfl) (fun _ _ _ h => h) (Or.inl ⟨by rfl, ?_⟩) (by assumption) ?_
                rotate_left
                · intro w hSw
                  try dsimp only at hSw
                  go_simp
                  try with_reducible rfl
                try simp only [Act.put, List.getElem_toArray, List.getElem_cons_succ, List.getElem_cons_zero, List.setIfInBounds_toArray, List.set_cons_zero, List.set_cons_succ]
                refine wpAnyH_take (i := 21) (oi := _) (v := ?_) rfl (by kernel_rfl) (by kernel_rfl) (by kernel_rfl) (fun _ _ _ h => h) (Or.inl ⟨by rfl, ?_⟩) (by assumption) ?_
                rotate_left
                · intro w hSw
                  try dsimp only at hSw
                  go_simp
                  try with_reducible rfl
                try simp only [Act.put, List.getElem_toArray, List.getElem_cons_succ, List.getElem_cons_zero, List.setIfInBounds_toArray, List.set_cons_zero, List.set_cons_succ]
                refine wpAnyH_take (i := 22) (oi := _) (v := ?_) rfl (by kernel_rfl) (by kernel_rfl) (by kernel_rfl) (fun _ _ _ h => h) (Or.inl ⟨by rfl, ?_⟩) (by assumption) ?_
                rotate_left
                · intro w hSw
                  try dsimp only at hSw
                  go_simp
                  try with_reducible rfl
                try simp only [Act.put, List.getElem_toArray, List.getElem_cons_succ, List.getElem_cons_zero, List.setIfInBounds_toArray, List.set_cons_zero, List.set_cons_succ]
                refine wpAnyH_take (i := 23) (oi := _) (v := ?_) rfl (by kernel_rfl) (by kernel_rfl) (by kernel_rfl) (fun _ _ _ h => h) (Or.inl ⟨by rfl, ?_⟩) (by assumption) ?_
                rotate_left
                · intro w hSw
                  try dsimp only at hSw
                  go_simp
                  try with_reducible rfl
                try simp only [Act.put, List.getElem_toArray, List.getElem_cons_succ, List.getElem_cons_zero, List.setIfInBounds_toArray, List.set_cons_zero, List.set_cons_succ]
                refine wpAnyH_take (i := 24) (oi := _) (v := ?_) rfl (by kernel_rfl) (by kernel_rfl) (by kernel_rfl) (fun _ _ _ h => h) (Or.inl ⟨by rfl, ?_⟩) (by assumption) ?_
                rotate_left
                · intro w hSw
                  try dsimp only at hSw
                  go_simp
                  try with_reducible rfl
                try simp only [Act.put, List.getElem_toArray, List.getElem_cons_succ, List.getElem_cons_zero, List.setIfInBounds_toArray, List.set_cons_zero, List.set_cons_succ]
                refine wpAnyH_take (i := 25) (oi := _) (v := ?_) rfl (by kernel_rfl) (by kernel_rfl) (by kernel_rfl) (fun _ _ _ h => h) (Or.inl ⟨by rfl, ?_⟩) (by assumption) ?_
                rotate_left
                · intro w hSw
                  try dsimp only at hSw
                  go_simp
                  try with_reducible rfl
                try simp only [Act.put, List.getElem_toArray, List.getElem_cons_succ, List.getElem_cons_zero, List.setIfInBounds_toArray, List.set_cons_zero, List.set_cons_succ]
                refine wpAnyH_take (i := 26) (oi := _) (v := ?_) rfl (by kernel_rfl) (by kernel_rfl) (by kernel_rfl) (fun _ _ _ h => h) (Or.inl ⟨by rfl, ?_⟩) (by assumption) ?_
                rotate_left
                · intro w hSw
                  try dsimp only at hSw
                  go_simp
                  try with_reducible rfl
                try simp only [Act.put, List.getElem_toArray, List.getElem_cons_succ, List.getElem_cons_zero, List.setIfInBounds_toArray, List.set_cons_zero, List.set_cons_succ]
                refine wpAnyH_take (i := 27) (oi := _) (v := ?_) rfl (by kernel_rfl) (by kernel_rfl) (by kernel_rfl) (fun _ _ _ h => h) (Or.inl ⟨by rfl, ?_⟩) (by assumption) ?_
                rotate_left
                · intro w hSw
                  try dsimp only at hSw
                  go_simp
                  try with_reducible rfl
                try simp only [Act.put, List.getElem_toArray, List.getElem_cons_succ, List.getElem_cons_zero, List.setIfInBounds_toArray, List.set_cons_zero, List.set_cons_succ]
                refine wpAnyH_take (i := 28) (oi := _) (v := ?_) rfl (by kernel_rfl) (by kernel_rfl) (by kernel_rfl) (fun _ _ _ h => h) (Or.inl ⟨by rfl, ?_⟩) (by assumption) ?_
                rotate_left
                · intro w hSw
                  try dsimp only at hSw
                  go_simp
                  try with_reducible rfl
                try simp only [Act.put, List.getElem_toArray, List.getElem_cons_succ, List.getElem_cons_zero, List.setIfInBounds_toArray, List.set_cons_zero, List.set_cons_succ]
                refine wpAnyH_take (i := 29) (oi := _) (v := ?_) rfl (by kernel_rfl) (by kernel_rfl) (by kernel_rfl) (fun _ _ _ h => h) (Or.inl ⟨by rfl, ?_⟩) (by assumption) ?_
                rotate_left
                · intro w hSw
                  try dsimp only at hSw
                  go_simp
                  try with_reducible rfl
                try simp only [Act.put, List.getElem_toArray, List.getElem_cons_succ, List.getElem_cons_zero, List.setIfInBounds_toArray, List.set_cons_zero, List.set_cons_succ]
                refine wpAnyH_take (i := 30) (oi := _) (v := ?_) rfl (by kernel_rfl) (by kernel_rfl) (by kernel_rfl) (fun _ _ _ h => h) (Or.inl ⟨by rfl, ?_⟩) (by assumption) ?_
                rotate_left
                · intro w hSw
                  try dsimp only at hSw
                  go_simp
                  try with_reducible rfl
                try simp only [Act.put, List.getElem_toArray, List.getElem_cons_succ, List.getElem_cons_zero, List.setIfInBounds_toArray, List.set_cons_zero, List.set_cons_succ]
                refine wpAnyH_take (i := 31) (oi := _) (v := ?_) rfl (by kernel_rfl) (by kernel_rfl) (by kernel_rfl) (fun _ _ _ h => h) (Or.inl ⟨by rfl, ?_⟩) (by assumption) ?_
                rotate_left
                · intro w hSw
                  try dsimp only at hSw
                  go_simp
                  try with_reducible rfl
                try simp only [Act.put, List.getElem_toArray, List.getElem_cons_succ, List.getElem_cons_zero, List.setIfInBounds_toArray, List.set_cons_zero, List.set_cons_succ]
                refine wpAnyH_take (i := 32) (oi := _) (v := ?_) rfl (by kernel_rfl) (by kernel_rfl) (by kernel_rfl) (fun _ _ _ h => h) (Or.inl ⟨by rfl, ?_⟩) (by assumption) ?_
                rotate_left
                · intro w hSw
                  try dsimp only at hSw
                  go_simp
                  try with_reducible rfl
                try simp only [Act.put, List.getElem_toArray, List.getElem_cons_succ, List.getElem_cons_zero, List.setIfInBounds_toArray, List.set_cons_zero, List.set_cons_succ]
                refine wpAnyH_done (by kernel_rfl) ?_ _
                clear hHeld HLD HEN HS0
                go_wp2
                go_roundw
                case rel => exact ⟨_, q + 1, c, rfl, by go_num, by go_num, by omega, by omega, HQ.out, HF7.out⟩
                case measure => simp [intOf]; omega
            · have d1 : (o.eKind == xk) = false := beq_eq_false_iff_ne.2 hk
              have d1' : decide (o.eKind = xk) = false := decide_eq_false hk
              have HQ := Lib.hid (show c = cnt (xs.take (q + 1)) (xk, xe) from by rw [HCS.out, ← HCN.out]; simp [Ev.key, hk])
              refine wp_region_held_drew (S := fun w' => EvAt w' g (off + q * 30) o ∧ w'.cell? ⟨g, off + q * 30 + 17, none⟩ = some (.int .i64 o.eKind) ∧ w'.cell? ⟨g, off + q * 30 + 18, none⟩ = some (.int .i64 o.eErr) ∧ w'.cell? ⟨g2, off2 + p * 3, none⟩ = some (.int .i64 xk) ∧ w'.cell? ⟨g2, off2 + p * 3 + 1, none⟩ = some (.int .i64 xe)) (by kernel_rfl) (HS0.out) (fun hHeld => ?_)
              refine wpAnyH_take (i := 0) (oi := _) (v := ?_) rfl (by kernel_rfl) (by kernel_rfl) (by kernel_rfl) (fun _ _ _ h => h) (Or.inl ⟨by rfl, ?_⟩) (by assumption) ?_
              rotate_left
              · intro w hSw
                try dsimp only at hSw
                go_simp
                try with_reducible rfl
              try simp only [Act.put, List.getElem_toArray, List.getElem_cons_succ, List.getElem_cons_zero, List.setIfInBounds_toArray, List.set_cons_zero, List.set_cons_succ]
              refine wpAnyH_take (i := 1) (oi := _) (v := ?_) rfl (by kernel_rfl) (by kernel_rfl) (by kernel_rfl) (fun _ _ _ h => h) (Or.inl ⟨by rfl, ?_⟩) (by assumption) ?_
              rotate_left
              · intro w hSw
                try dsimp only at hSw
                go_simp
                try with_reducible rfl
              try simp only [Act.put, List.getElem_toArray, List.getElem_cons_succ, List.getElem_cons_zero, List.setIfInBounds_toArray, List.set_cons_zero, List.set_cons_succ]
              refine wpAnyH_take (i := 2) (oi := _) (v := ?_) rfl (by kernel_rfl) (by kernel_rfl) (by kernel_rfl) (fun _ _ _ h => h) (Or.inl ⟨by rfl, ?_⟩) (by assumption) ?_
              rotate_left
              · intro w hSw
                try dsimp only at hSw
                go_simp
                try with_reducible rfl
              try simp only [Act.put, List.getElem_toArray, List.getElem_cons_succ, List.getElem_cons_zero, List.setIfInBounds_toArray, List.set_cons_zero, List.set_cons_succ]
              refine wpAnyH_take (i := 3) (oi := _) (v := V) rfl (by kernel_rfl) (by kernel_rfl) (by kernel_rfl) (fun _ _ _ h => h) (Or.inl ⟨by rfl, ?_⟩) (by assumption) ?_
              · intro w hSw
                show Sem.run Tryz.prog ((Instr.loadAt 103 (.pointer (some ⟨g, off + q * 30, none⟩))) >>= fun x => pure (Next.value x)) w = _
                rw [Sem.run_bind, HLD.out _ hSw.1]
                rfl
              try simp only [Act.put, List.getElem_toArray, List.getElem_cons_succ, List.getElem_cons_zero, List.setIfInBounds_toArray, List.set_cons_zero, List.set_cons_succ]
              refine wpAnyH_ready (rs := [4]) (by kernel_rfl) (by simp) ?_
              refine AllReadyH.cons (o := _) rfl (fun K hK => ?_) AllReadyH.nil
              go_simp
              refine (HEN.out _).mono ?_
              rintro e w7 ⟨rfl, f7⟩
              have HF7 := Lib.hid ((HFq.out.drewN 1).step f7)
              refine hK.out _ _ (⟨fun j u hu => f7.keep (hHeld.1 j u hu) (by simp), f7.keep hHeld.2.1 (by simp), f7.keep hHeld.2.2.1 (by simp), f7.keep hHeld.2.2.2.1 (by simp), f7.keep hHeld.2.2.2.2 (by simp)⟩) (fun hHeld => ?_)
              clear hK K
              try simp only [Act.put, List.getElem_toArray, List.getElem_cons_succ, List.getElem_cons_zero, List.setIfInBounds_toArray, List.set_cons_zero, List.set_cons_succ]
              refine wpAnyH_take (i := 5) (oi := _) (v := ?_) rfl (by kernel_rfl) (by kernel_rfl) (by kernel_rfl) (fun _ _ _ h => h) (Or.inl ⟨by rfl, ?_⟩) (by assumption) ?_
              rotate_left
              · intro w hSw
                try dsimp only at hSw
                go_simp
                try with_reducible rfl
              try simp only [Act.put, List.getElem_toArray, List.getElem_cons_succ, List.getElem_cons_zero, List.setIfInBounds_toArray, List.set_cons_zero, List.set_cons_succ]
              refine wpAnyH_take (i := 6) (oi := _) (v := ?_) rfl (by kernel_rfl) (by kernel_rfl) (by kernel_rfl) (fun _ _ _ h => h) (Or.inl ⟨by rfl, ?_⟩) (by assumption) ?_
              rotate_left
              · intro w hSw
                try dsimp only at hSw
                go_simp
                try with_reducible rfl
              try simp only [Act.put, List.getElem_toArray, List.getElem_cons_succ, List.getElem_cons_zero, List.setIfInBounds_toArray, List.set_cons_zero, List.set_cons_succ]
              refine wpAnyH_take (i := 7) (oi := _) (v := ?_) rfl (by kernel_rfl) (by kernel_rfl) (by kernel_rfl) (fun _ _ _ h => h) (Or.inl ⟨by rfl, ?_⟩) (by assumption) ?_
              rotate_left
              · intro w hSw
                try dsimp only at hSw
                go_simp
                try with_reducible rfl
              try simp only [Act.put, List.getElem_toArray, List.getElem_cons_succ, List.getElem_cons_zero, List.setIfInBounds_toArray, List.set_cons_zero, List.set_cons_succ]
              refine wpAnyH_take (i := 8) (oi := _) (v := ?_) rfl (by kernel_rfl) (by kernel_rfl) (by kernel_rfl) (fun _ _ _ h => h) (Or.inl ⟨by rfl, ?_⟩) (by assumption) ?_
              rotate_left
              · intro w hSw
                try dsimp only at hSw
                go_simp
                try with_reducible rfl
              try simp only [Act.put, List.getElem_toArray, List.getElem_cons_succ, List.getElem_cons_zero, List.setIfInBounds_toArray, List.set_cons_zero, List.set_cons_succ]
              refine wpAnyH_take (i := 9) (oi := _) (v := ?_) rfl (by kernel_rfl) (by kernel_rfl) (by kernel_rfl) (fun _ _ _ h => h) (Or.inl ⟨by rfl, ?_⟩) (by assumption) ?_
              rotate_left
              · intro w hSw
                try dsimp only at hSw
                go_simp
                try with_reducible rfl
              try simp only [Act.put, List.getElem_toArray, List.getElem_cons_succ, List.getElem_cons_zero, List.setIfInBounds_toArray, List.set_cons_zero, List.set_cons_succ]
              refine wpAnyH_take (i := 10) (oi := _) (v := ?_) rfl (by kernel_rfl) (by kernel_rfl) (by kernel_rfl) (fun _ _ _ h => h) (Or.inl ⟨by rfl, ?_⟩) (by assumption) ?_
              rotate_left
              · intro w hSw
                try dsimp only at hSw
                go_simp
                try with_reducible rfl
              try simp only [Act.put, List.getElem_toArray, List.getElem_cons_succ, List.getElem_cons_zero, List.setIfInBounds_toArray, List.set_cons_zero, List.set_cons_succ]
              refine wpAnyH_take (i := 11) (oi := _) (v := ?_) rfl (by kernel_rfl) (by kernel_rfl) (by kernel_rfl) (fun _ _ _ h => h) (Or.inl ⟨by rfl, ?_⟩) (by assumption) ?_
              rotate_left
              · intro w hSw
                try dsimp only at hSw
                go_simp
                try with_reducible rfl
              try simp only [Act.put, List.getElem_toArray, List.getElem_cons_succ, List.getElem_cons_zero, List.setIfInBounds_toArray, List.set_cons_zero, List.set_cons_succ]
              refine wpAnyH_take (i := 12) (oi := _) (v := ?_) rfl (by kernel_rfl) (by kernel_rfl) (by kernel_rfl) (fun _ _ _ h => h) (Or.inl ⟨by rfl, ?_⟩) (by assumption) ?_
              rotate_left
              · intro w hSw
                try dsimp only at hSw
                go_simp
                try with_reducible rfl
              try simp only [Act.put, List.getElem_toArray, List.getElem_cons_succ, List.getElem_cons_zero, List.setIfInBounds_toArray, List.set_cons_zero, List.set_cons_succ]
              refine wpAnyH_take (i := 13) (oi := _) (v := ?_) rfl (by kernel_rfl) (by kernel_rfl) (by kernel_rfl) (fun _ _ _ h => h) (Or.inl ⟨by rfl, ?_⟩) (by assumption) ?_
              rotate_left
              · intro w hSw
                try dsimp only at hSw
                go_simp
                try with_reducible rfl
              try simp only [Act.put, List.getElem_toArray, List.getElem_cons_succ, List.getElem_cons_zero, List.setIfInBounds_toArray, List.set_cons_zero, List.set_cons_succ]
              refine wpAnyH_take (i := 14) (oi := _) (v := ?_) rfl (by kernel_rfl) (by kernel_rfl) (by kernel_rfl) (fun _ _ _ h => h) (Or.inl ⟨by rfl, ?_⟩) (by assumption) ?_
              rotate_left
              · intro w hSw
                try dsimp only at hSw
                go_simp
                try with_reducible rfl
              try simp only [Act.put, List.getElem_toArray, List.getElem_cons_succ, List.getElem_cons_zero, List.setIfInBounds_toArray, List.set_cons_zero, List.set_cons_succ]
              refine wpAnyH_take (i := 15) (oi := _) (v := ?_) rfl (by kernel_rfl) (by kernel_rfl) (by kernel_rfl) (fun _ _ _ h => h) (Or.inl ⟨by rfl, ?_⟩) (by assumption) ?_
              rotate_left
              · intro w hSw
                try dsimp only at hSw
                go_simp
                try with_reducible rfl
              try simp only [Act.put, List.getElem_toArray, List.getElem_cons_succ, List.getElem_cons_zero, List.setIfInBounds_toArray, List.set_cons_zero, List.set_cons_succ]
              refine wpAnyH_take (i := 16) (oi := _) (v := ?_) rfl (by kernel_rfl) (by kernel_rfl) (by kernel_rfl) (fun _ _ _ h => h) (Or.inl ⟨by rfl, ?_⟩) (by assumption) ?_
              rotate_left
              · intro w hSw
                try dsimp only at hSw
                go_simp
                try with_reducible rfl
              try simp only [Act.put, List.getElem_toArray, List.getElem_cons_succ, List.getElem_cons_zero, List.setIfInBounds_toArray, List.set_cons_zero, List.set_cons_succ]
              refine wpAnyH_take (i := 17) (oi := _) (v := ?_) rfl (by kernel_rfl) (by kernel_rfl) (by kernel_rfl) (fun _ _ _ h => h) (Or.inl ⟨by rfl, ?_⟩) (by assumption) ?_
              rotate_left
              · intro w hSw
                try dsimp only at hSw
                go_simp
                try with_reducible rfl
              try simp only [Act.put, List.getElem_toArray, List.getElem_cons_succ, List.getElem_cons_zero, List.setIfInBounds_toArray, List.set_cons_zero, List.set_cons_succ]
              refine wpAnyH_take (i := 18) (oi := _) (v := ?_) rfl (by kernel_rfl) (by kernel_rfl) (by kernel_rfl) (fun _ _ _ h => h) (Or.inl ⟨by rfl, ?_⟩) (by assumption) ?_
              rotate_left
              · intro w hSw
                try dsimp only at hSw
                go_simp
                try with_reducible rfl
              try simp only [Act.put, List.getElem_toArray, List.getElem_cons_succ, List.getElem_cons_zero, List.setIfInBounds_toArray, List.set_cons_zero, List.set_cons_succ]
              refine wpAnyH_take (i := 19) (oi := _) (v := ?_) rfl (by kernel_rfl) (by kernel_rfl) (by kernel_rfl) (fun _ _ _ h => h) (Or.inl ⟨by rfl, ?_⟩) (by assumption) ?_
              rotate_left
              · intro w hSw
                try dsimp only at hSw
                go_simp
                try with_reducible rfl
              try simp only [Act.put, List.getElem_toArray, List.getElem_cons_succ, List.getElem_cons_zero, List.setIfInBounds_toArray, List.set_cons_zero, List.set_cons_succ]
              refine wpAnyH_take (i := 20) (oi := _) (v := undef) rfl (by kernel_rfl) (by kernel_rfl) (by kernel_rfl) (fun _ _ _ h => h) (Or.inr ⟨by rfl, rfl⟩) (by assumption) ?_
              try simp only [Act.put, List.getElem_toArray, List.getElem_cons_succ, List.getElem_cons_zero, List.setIfInBounds_toArray, List.set_cons_zero, List.set_cons_succ]
              refine wpAnyH_take (i := 21) (oi := _) (v := undef) rfl (by kernel_rfl) (by kernel_rfl) (by kernel_rfl) (fun _ _ _ h => h) (Or.inr ⟨by rfl, rfl⟩) (by assumption) ?_
              try simp only [Act.put, List.getElem_toArray, List.getElem_cons_succ, List.getElem_cons_zero, List.setIfInBounds_toArray, List.set_cons_zero, List.set_cons_succ]
              refine wpAnyH_take (i := 22) (oi := _) (v := undef) rfl (by kernel_rfl) (by kernel_rfl) (by kernel_rfl) (fun _ _ _ h => h) (Or.inr ⟨by rfl, rfl⟩) (by assumption) ?_
              try simp only [Act.put, List.getElem_toArray, List.getElem_cons_succ, List.getElem_cons_zero, List.setIfInBounds_toArray, List.set_cons_zero, List.set_cons_succ]
              refine wpAnyH_take (i := 23) (oi := _) (v := undef) rfl (by kernel_rfl) (by kernel_rfl) (by kernel_rfl) (fun _ _ _ h => h) (Or.inr ⟨by rfl, rfl⟩) (by assumption) ?_
              try simp only [Act.put, List.getElem_toArray, List.getElem_cons_succ, List.getElem_cons_zero, List.setIfInBounds_toArray, List.set_cons_zero, List.set_cons_succ]
              refine wpAnyH_take (i := 24) (oi := _) (v := undef) rfl (by kernel_rfl) (by kernel_rfl) (by kernel_rfl) (fun _ _ _ h => h) (Or.inr ⟨by rfl, rfl⟩) (by assumption) ?_
              try simp only [Act.put, List.getElem_toArray, List.getElem_cons_succ, List.getElem_cons_zero, List.setIfInBounds_toArray, List.set_cons_zero, List.set_cons_succ]
              refine wpAnyH_take (i := 25) (oi := _) (v := undef) rfl (by kernel_rfl) (by kernel_rfl) (by kernel_rfl) (fun _ _ _ h => h) (Or.inr ⟨by rfl, rfl⟩) (by assumption) ?_
              try simp only [Act.put, List.getElem_toArray, List.getElem_cons_succ, List.getElem_cons_zero, List.setIfInBounds_toArray, List.set_cons_zero, List.set_cons_succ]
              refine wpAnyH_take (i := 26) (oi := _) (v := undef) rfl (by kernel_rfl) (by kernel_rfl) (by kernel_rfl) (fun _ _ _ h => h) (Or.inr ⟨by rfl, rfl⟩) (by assumption) ?_
              try simp only [Act.put, List.getElem_toArray, List.getElem_cons_succ, List.getElem_cons_zero, List.setIfInBounds_toArray, List.set_cons_zero, List.set_cons_succ]
              refine wpAnyH_take (i := 27) (oi := _) (v := undef) rfl (by kernel_rfl) (by kernel_rfl) (by kernel_rfl) (fun _ _ _ h => h) (Or.inr ⟨by rfl, rfl⟩) (by assumption) ?_
              try simp only [Act.put, List.getElem_toArray, List.getElem_cons_succ, List.getElem_cons_zero, List.setIfInBounds_toArray, List.set_cons_zero, List.set_cons_succ]
              refine wpAnyH_take (i := 28) (oi := _) (v := undef) rfl (by kernel_rfl) (by kernel_rfl) (by kernel_rfl) (fun _ _ _ h => h) (Or.inr ⟨by rfl, rfl⟩) (by assumption) ?_
              try simp only [Act.put, List.getElem_toArray, List.getElem_cons_succ, List.getElem_cons_zero, List.setIfInBounds_toArray, List.set_cons_zero, List.set_cons_succ]
              refine wpAnyH_take (i := 29) (oi := _) (v := undef) rfl (by kernel_rfl) (by kernel_rfl) (by kernel_rfl) (fun _ _ _ h => h) (Or.inr ⟨by rfl, rfl⟩) (by assumption) ?_
              try simp only [Act.put, List.getElem_toArray, List.getElem_cons_succ, List.getElem_cons_zero, List.setIfInBounds_toArray, List.set_cons_zero, List.set_cons_succ]
              refine wpAnyH_take (i := 30) (oi := _) (v := undef) rfl (by kernel_rfl) (by kernel_rfl) (by kernel_rfl) (fun _ _ _ h => h) (Or.inr ⟨by rfl, rfl⟩) (by assumption) ?_
              try simp only [Act.put, List.getElem_toArray, List.getElem_cons_succ, List.getElem_cons_zero, List.setIfInBounds_toArray, List.set_cons_zero, List.set_cons_succ]
              refine wpAnyH_take (i := 31) (oi := _) (v := undef) rfl (by kernel_rfl) (by kernel_rfl) (by kernel_rfl) (fun _ _ _ h => h) (Or.inr ⟨by rfl, rfl⟩) (by assumption) ?_
              try simp only [Act.put, List.getElem_toArray, List.getElem_cons_succ, List.getElem_cons_zero, List.setIfInBounds_toArray, List.set_cons_zero, List.set_cons_succ]
              refine wpAnyH_take (i := 32) (oi := _) (v := ?_) rfl (by kernel_rfl) (by kernel_rfl) (by kernel_rfl) (fun _ _ _ h => h) (Or.inl ⟨by rfl, ?_⟩) (by assumption) ?_
              rotate_left
              · intro w hSw
                try dsimp only at hSw
                go_simp
                try with_reducible rfl
              try simp only [Act.put, List.getElem_toArray, List.getElem_cons_succ, List.getElem_cons_zero, List.setIfInBounds_toArray, List.set_cons_zero, List.set_cons_succ]
              refine wpAnyH_done (by kernel_rfl) ?_ _
              clear hHeld HLD HEN HS0
              go_wp2
              go_roundw
              case rel => exact ⟨_, q + 1, c, rfl, by go_num, by go_num, by omega, by omega, HQ.out, HF7.out⟩
              case measure => simp [intOf]; omega
        · have hqn : q = n := by omega
          subst hqn
          have hcc : c = cnt xs (xk, xe) := by
            have := HCN.out
            rwa [List.take_of_length_le (by rw [HM.out]; exact Nat.le_refl _)] at this
          have hcx : (c : Int) = xn := by rw [hcc]; exact HNUM.out.1.symm
          have hc1 : 0 < c := by rw [hcc]; exact HNUM.out.2
          subst hcx
          have HCC := Lib.hid hcc
          clear hcc
          have d0 : ((c : Int) == 0) = false := beq_eq_false_iff_ne.2 (by omega)
          have d0' : decide ((c : Int) = 0) = false := decide_eq_false (by omega)
          have d1 : ((c : Int) != (c : Int)) = false := by simp
          have x0 := HFq.out.keep HC.out.1 (by simp)
          have x1 := HFq.out.keep HC.out.2.1 (by simp)
          have x2 := HFq.out.keep HC.out.2.2 (by simp)
          have hsum := sum_succ L p _ HXL.out
          have HSS := Lib.hid (show s + (c : Int) = ((L.take (p + 1)).map (·.n)).sum from by rw [hsum, HS.out])
          clear hsum
          have q0 : (0 : Int) ≤ (p : Int) := by omega
          by_cases h0 : p = 0
          · have z1 : decide ((0 : Int) < (p : Int)) = false := decide_eq_false (by omega)
            have z2 : ¬ (0 : Int) < (p : Int) := by omega
            have z1' : decide (0 < p) = false := decide_eq_false (by omega)
            clear h0
            go_upto_region 14 with fail
            go_quiet (fail)
            go_wp2
            go_roundw
            case rel => exact ⟨_, p + 1, _, rfl, rfl, by go_num, by omega, HSS.out, (HFq.out.drewN _)⟩
            case measure => simp [intOf]; omega
          · have hp1 : p - 1 < L.length := by rw [HMM.out]; omega
            have hy := List.getElem?_eq_getElem hp1
            obtain ⟨y, hye⟩ : ∃ y, L[p - 1]'hp1 = y := ⟨_, rfl⟩
            rw [hye] at hy
            have hlts := List.pairwise_iff_getElem.1 HCA.out.lt (p - 1) p hp1 (by rw [HMM.out]; exact hlt) (by omega)
            have hxp : L[p]'(by rw [HMM.out]; exact hlt) = ⟨xk, xe, c⟩ := by
              have := HXL.out
              rw [List.getElem?_eq_getElem (by rw [HMM.out]; exact hlt)] at this
              exact Option.some.inj this
            rw [hye, hxp] at hlts
            unfold cdLt at hlts
            obtain ⟨g3, off3, cap3, hv3, hg3, y0, y1, y2⟩ := HRW.out.cells hy
            rw [HMM.out] at hv3
            simp only [Value.slice.injEq, Option.some.injEq, Addr.mk.injEq] at hv3
            obtain ⟨⟨rfl, rfl, _⟩, _, _⟩ := hv3
            obtain ⟨yk, ye, yn⟩ := y
            simp only at y0 y1 y2 hlts
            have v0 := HFq.out.keep y0 (by simp)
            have v1 := HFq.out.keep y1 (by simp)
            have z1 : decide ((0 : Int) < (p : Int)) = true := decide_eq_true (by omega)
            have z1' : decide (0 < p) = true := decide_eq_true (by omega)
            have z3 : ((p : Int) - 1).toNat = p - 1 := by omega
            have z4 : (0 : Int) ≤ (p : Int) - 1 := by omega
            have z5 : (p : Int) - 1 < (m : Int) := by omega
            have z6 : decide (xk < yk) = false := decide_eq_false (by omega)
            clear hy hye hp1 y0 y1 y2 hxp hg3
            by_cases hk : yk = xk
            · have z7 : (yk == xk) = true := beq_iff_eq.2 hk
              have z7' : decide (yk = xk) = true := decide_eq_true hk
              have z8 : decide (xe ≤ ye) = false := decide_eq_false (by omega)
              have z9 : ¬ xe ≤ ye := by omega
              clear hlts
              subst hk
              go_upto_region 14 with fail
              go_quiet (fail)
              go_wp2
              go_roundw
              case rel => exact ⟨_, p + 1, _, rfl, rfl, by go_num, by omega, HSS.out, (HFq.out.drewN _)⟩
              case measure => simp [intOf]; omega
            · have z7 : (yk == xk) = false := beq_eq_false_iff_ne.2 hk
              have z7' : decide (yk = xk) = false := decide_eq_false hk
              clear hlts
              go_upto_region 14 with fail
              go_quiet (fail)
              go_wp2
              go_roundw
              case rel => exact ⟨_, p + 1, _, rfl, rfl, by go_num, by omega, HSS.out, (HFq.out.drewN _)⟩
              case measure => simp [intOf]; omega
    · have hpm2 : p = m := by omega
      subst hpm2
      have hs2 : s = (xs.countP (·.ended) : Int) := by
        rw [HS.out, List.take_of_length_le (by rw [HMM.out]; exact Nat.le_refl _)]
        exact HCA.out.sum
      have HS2 := Lib.hid hs2
      clear hs2
      go_wp2
      go_loopw [5, 9] (fun s5 s9 wq => ∃ (wz : World) (q : Nat) (s' : Int), wz = wq ∧ s5 = .int .i64 s' ∧ s9 = .int .i64 q ∧ q ≤ n ∧ s' = s - ((xs.take q).countP (·.ended) : Int) ∧ Fr [] w2 wq) (fun _ s9 _ => n - (intOf s9).toNat)
      case atStart => exact ⟨_, 0, s, rfl, rfl, rfl, by omega, by simp, HF.out⟩
      case round =>
        obtain ⟨wq, q, s', hwz, rfl, rfl, hq, hs', hF⟩ := hrel
        subst hwz
        have hcl : (xs.take q).countP (·.ended) ≤ n := Nat.le_trans List.countP_le_length (by rw [List.length_take]; omega)
        have HFq := Lib.hid hF
        have HS' := Lib.hid hs'
        have hs60 : -60 ≤ s' ∧ s' ≤ 4000 := by omega
        clear hF hs' hcl
        have hq60 : (q : Int) ≤ 60 := by omega
        by_cases hlq : q < n
        · have hlq' : (q : Int) < (n : Int) := by omega
          have hx := List.getElem?_eq_getElem (l := xs) (i := q) (by rw [HM.out]; exact hlq)
          obtain ⟨o, hoe⟩ : ∃ o, xs[q]'(by rw [HM.out]; exact hlq) = o := ⟨_, rfl⟩
          rw [hoe] at hx
          obtain ⟨g, off, cap', hv, hg, hcells⟩ := (HR.out.new (HF2.out.step HFq.out)).cells hx
          rw [HM.out] at hv
          simp only [Value.slice.injEq] at hv
          obtain ⟨rfl, _, rfl⟩ := hv
          have HCS := Lib.hid (ends_succ xs q o hx)
          have hld := ev_load hcells
          obtain ⟨V, hV⟩ : ∃ V, evV o = V := ⟨_, rfl⟩
          have HEV := Lib.hid hV
          rw [hV] at hld
          have HLD := Lib.hid hld
          have HEN := Lib.hid (fun W => (show Calls Tryz.prog 35 #[V] W fun e w' => e = .returned (.bool o.ended) ∧ Fr [] W w' from by
            have h := endedL_any o W
            rw [← HEV.out]
            exact h))
          have HG := Lib.hid hg
          clear hx hoe hcells hV hg hld
          go_upto_region 20 with fail
          refine wp_region_lit ?_
          refine wpList_plain rfl (fun K hK => ?_)
          go_simp
          refine hK _ _ ?_
          clear hK K
          refine wpList_plain rfl (fun K hK => ?_)
          go_simp
          refine hK _ _ ?_
          clear hK K
          refine wpList_plain rfl (fun K hK => ?_)
          go_simp
          refine hK _ _ ?_
          clear hK K
          refine wpList_val rfl (v := V) (w' := wq) ?_ ?_
          · show Sem.run Tryz.prog ((Instr.loadAt 103 (.pointer (some ⟨g, off + q * 30, none⟩))) >>= fun x => pure (Next.value x)) wq = _
            rw [Sem.run_bind, HLD.out]
            rfl
          try simp only [Act.put, List.getElem_toArray, List.getElem_cons_succ, List.getElem_cons_zero, List.setIfInBounds_toArray, List.set_cons_zero, List.set_cons_succ]
          go_wp2_with fail
          refine (HEN.out _).mono ?_
          rintro e w7 ⟨rfl, f7⟩
          have HF7 := Lib.hid (HFq.out.step f7)
          obtain ⟨en, hen⟩ : ∃ z, o.ended = z := ⟨_, rfl⟩
          rw [hen] at HCS ⊢
          clear hen f7
          cases en with
          | false =>
            have HQ := Lib.hid (show s' = s - ((xs.take (q + 1)).countP (·.ended) : Int) from by rw [HCS.out, HS'.out]; simp)
            go_wp2
            go_roundw
            case rel => exact ⟨_, q + 1, _, rfl, rfl, by go_num, by omega, HQ.out, HF7.out⟩
            case measure => simp [intOf]; omega
          | true =>
            have HQ := Lib.hid (show s' - 1 = s - ((xs.take (q + 1)).countP (·.ended) : Int) from by rw [HCS.out, HS'.out]; simp; omega)
            go_wp2
            go_roundw
            case rel => exact ⟨_, q + 1, _, rfl, rfl, by go_num, by omega, HQ.out, HF7.out⟩
            case measure => simp [intOf]; omega
        · have hqn : q = n := by omega
          subst hqn
          have hz : s' = 0 := by
            rw [HS'.out, HS2.out, List.take_of_length_le (by rw [HM.out]; exact Nat.le_refl _)]
            omega
          subst hz
          have HKN := Lib.hid (known_any wq (HE.out.new (HF2.out.step HFq.out)))
          have HFF := Lib.hid (HF2.out.step HFq.out)
          go_wp2_with fail
          refine HKN.out.mono ?_
          rintro e w9 ⟨rfl, f9⟩
          go_wp2
          go_ret
          exact ⟨rfl, HFF.out.step f9⟩
end Go.Proofs.YtllmejkcohfbiaaGreatDoor
