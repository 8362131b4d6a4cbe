/- The law TimeClocks: what a clock shows after any calls, and their errors, are the reference's, at any time and any list of calls (lists of more than 60 calls only run the chapter's examples). Condition: none but the card's own list of library tables. -/
import Derived.Test.YtgkmmkaaokbmiaaDoorF
import Derived.Test.YtgkmmkaaokbmiaaDoorLaw
import Derived.Test.YtgkmmkaaokbmiaaDoorG
import Derived.Test.YtgkmmkaaokbmiaaDoorH
namespace Go.Proofs.YtgkmmkaaokbmiaaDoor.timeClocks
open Go.ChangeShapes Go.WideShapes Go.ChangeAt Go.RowKit
set_option linter.unusedVariables false

theorem u64_bd {x : Int} (h : (Lit.int .u64 x).wf = true) : 0 ≤ x ∧ x ≤ 18446744073709551615 := by
  simpa [Lit.wf, IntKind.min, IntKind.max, IntKind.signed, IntKind.bits] using h
theorem cells3 : Tryd.prog.cellsOf 3 = 1 := by kernel_rfl
theorem cells22 : Tryd.prog.cellsOf 22 = 1 := by kernel_rfl
theorem cells23 : Tryd.prog.cellsOf 23 = 1 := by kernel_rfl
theorem cells52 : Tryd.prog.cellsOf 52 = 3 := by kernel_rfl
theorem act_of {H : Type} {enc : TypeId × Value → H} {w : World} {n : Nat} {cs : List Value} {y : DataW H × List MemPlace} (hl : cs.length = 3) (h : DataW.trod enc Tryd.prog w 0 (fun _ => true) true n 52 cs = some y) :
    ∃ x : Int × Int × Int, cs = [.int .i64 x.1, .int .u64 x.2.1, .int .u64 x.2.2] ∧ 0 ≤ x.2.1 ∧ x.2.1 ≤ 18446744073709551615 ∧ 0 ≤ x.2.2 ∧ x.2.2 ≤ 18446744073709551615 := by
  obtain ⟨xs, m, _, _, _, hxs, hf⟩ := DataW.trod_struct Tryd.underlying52 h
  match cs, hl with
  | [c0, c1, c2], _ =>
    match xs, hxs with
    | [z0, z1, z2], _ =>
      have f0 : DataW.trod enc Tryd.prog w 0 (fun _ => true) true m 3 [c0] = some z0 := by have := hf 0 _ rfl; simpa [cells3] using this
      have f1 : DataW.trod enc Tryd.prog w 0 (fun _ => true) true m 23 [c1] = some z1 := by have := hf 1 _ rfl; simpa [cells23] using this
      have f2 : DataW.trod enc Tryd.prog w 0 (fun _ => true) true m 22 [c2] = some z2 := by have := hf 2 _ rfl; simpa [cells22] using this
      obtain ⟨x0, e0, _, _⟩ := DataW.trod_int Tryd.underlying3 f0
      obtain ⟨x1, e1, _, w1⟩ := DataW.trod_int Tryd.underlying23 f1
      obtain ⟨x2, e2, _, w2⟩ := DataW.trod_int Tryd.underlying22 f2
      simp only [List.cons.injEq, and_true] at e0 e1 e2
      subst e0 e1 e2
      exact ⟨(x0, x1, x2), rfl, (u64_bd w1).1, (u64_bd w1).2, (u64_bd w2).1, (u64_bd w2).2⟩

theorem contract (H : Type) (enc : TypeId × Value → H) (W : World) (base : Nat) (args : Array Value) (ds gs : List (DataW H)) (before : List MemPlace)
    (hval : ∀ (j : Nat) t v, Tryd.f6.params[j]? = some t → args[j]? = some v → Value.okWide Tryd.prog W .any base t v)
    (hW : DataW.Whole enc Tryd.prog Tryd.f6.params.toList Rows.timeClocksSpec.vars false W args.toList ds gs before) (hL : laidMetH Tryd.prog Rows.timeClocksRow.laid W) :
    Calls Tryd.prog 6 args W fun e W' => ∃ v, e = .returned v ∧ Rows.timeClocksSpec.post enc Tryd.prog Tryd.f6 false true false false W args v W' := by
  have hW' := hW
  obtain ⟨p, q, hA0, hV, rfl, hfz, hnd⟩ := hW
  have hA : DataW.TrodAll enc Tryd.prog W 0 (fun _ => true) true Tryd.f6.params.toList args.toList ds p := hA0
  rw [Tryd.params6] at hA hval
  obtain ⟨v0, vs0, d0, ds0, p0, q0, hargs, rfl, rfl, h0, r0⟩ := trodAll_cons hA
  obtain ⟨v1, vs1, d1, ds1, p1, q1, rfl, rfl, rfl, h1, r1⟩ := trodAll_cons r0
  obtain ⟨rfl, rfl, rfl⟩ := trodAll_nil r1
  obtain rfl : args = #[v0, v1] := by cases args; simp_all
  obtain ⟨rfl, rfl⟩ := trodVars_none hV
  have hlt : ∀ x ∈ p0 ++ p1, x.block < W.heap.size := fun x hx => hW'.lt x (by simpa using hx)
  have finish : ∀ W', Below W.heap.size W W' → Rows.timeClocksSpec.post enc Tryd.prog Tryd.f6 false true false false W _ (.bool true) W' := fun W' hb =>
    laws.law_post (by kernel_rfl) (by kernel_rfl) rfl rfl Tryd.underlying4 hW' rfl hb
  clear hW' hA hA0
  obtain ⟨x0, rfl, rfl, rfl, w0⟩ := open_int Tryd.underlying23 (hval 0 23 v0 rfl rfl) h0
  obtain ⟨sa, slen, scap, rfl⟩ := okWide_slice Tryd.underlying46 (hval 1 46 v1 rfl rfl)
  obtain ⟨fuel, hf⟩ := h1
  have he := env_of hL
  have b0 := u64_bd w0
  have key : Calls Tryd.prog 6 #[.int .u64 x0, .slice sa slen scap] W fun e w' => e = .returned (.bool true) ∧ Below W.heap.size W w' := by
    by_cases hlong : 60 < (slen : Int)
    · exact clocks_long x0 sa slen scap W he hlong
    · rcases beq_cases x0 18446744073709551615 with ⟨hD, _⟩ | ⟨hD, _⟩
      · rw [beq_iff_eq] at hD
        subst hD
        exact clocks_never sa slen scap W he hlong
      · have hlt0 : x0 < 18446744073709551615 := by rw [beq_eq_false_iff_ne] at hD; omega
        simp only [Value.cells] at hf
        rcases laws.open_rows Tryd.underlying46 cells52 (by omega) hf with ⟨rfl, rfl, rfl⟩ | ⟨hl, hm, a, rfl, hz | ⟨b, off, rfl, hrows⟩⟩
        · exact clocks_none x0 none 0 W he b0.1 hD hlt0
        · subst hz
          exact clocks_none x0 (some a) scap W he b0.1 hD hlt0
        · have hx : ∀ i, i < slen → ∃ x : Int × Int × Int, (W.cell? ⟨b, off + i * 3, none⟩ = some (.int .i64 x.1) ∧ W.cell? ⟨b, off + i * 3 + 1, none⟩ = some (.int .u64 x.2.1) ∧ W.cell? ⟨b, off + i * 3 + 2, none⟩ = some (.int .u64 x.2.2)) ∧ 0 ≤ x.2.1 ∧ x.2.1 ≤ 18446744073709551615 ∧ 0 ≤ x.2.2 ∧ x.2.2 ≤ 18446744073709551615 := fun i hi => by
            obtain ⟨cs, n, y, hlen, hcell, hy⟩ := hrows i hi
            obtain ⟨x, rfl, hx⟩ := act_of hlen hy
            exact ⟨x, ⟨hcell 0 (by omega), hcell 1 (by omega), hcell 2 (by omega)⟩, hx⟩
          obtain ⟨X, hX⟩ := Deep.choose_lt hx
          refine clocks_any x0 b off slen scap (fun i => (X i).1) (fun i => (X i).2.1) (fun i => (X i).2.2) W he hlong b0.1 hD hlt0 ?_ (fun i hi => (hX i hi).1.1) (fun i hi => (hX i hi).1.2.1) (fun i hi => (hX i hi).1.2.2) (fun i hi => (hX i hi).2)
          by_cases h0 : slen = 0
          · exact .inl h0
          · exact .inr (cell_lt (hX 0 (by omega)).1.1)
  refine (key).mono fun e W' ⟨he, hb⟩ => ?_
  subst he
  exact ⟨_, rfl, finish W' hb⟩

theorem reads (os : Os) {H : Type} (enc : TypeId × Value → H) : ∃ places, DataW.whole enc Tryd.prog ((laidWorld os).forCall (fun _ _ => 0) ⟨#[], #[.int .u64 0, .slice none 0 0], []⟩).memory Tryd.f6.params.toList Rows.timeClocksSpec.vars false (#[.int .u64 0, .slice none 0 0] : Array Value).toList 8 = some ([.lit (.int .u64 0), .nil], [], places) :=
  ⟨[], by kernel_rfl⟩

set_option maxRecDepth 100000 in
theorem lifted (os : Os) (started : os.Started) (H : Type) (enc : TypeId × Value → H) (F : Stop.Interp) :
    ReturnsInHanded {} Tryd.checked os 6 .any ((OpenSpec.ofChange Rows.timeClocksSpec).preRow enc Tryd.prog Tryd.f6 Rows.timeClocksRow.domain false Rows.timeClocksRow.laid) (((OpenSpec.ofChange Rows.timeClocksSpec).at F).post enc Tryd.prog Tryd.f6 false true false false) := by
  obtain ⟨places, hx⟩ := reads os enc
  refine returnsInHanded_of_row (C := Tryd.checked) (s := OpenSpec.ofChange Rows.timeClocksSpec) own started (by kernel_rfl) Tryd.func6
    (witness_row_at (enc := enc) (C := Tryd.checked) false (laidWorld os) #[.int .u64 0, .slice none 0 0] rfl (by kernel_rfl) (by kernel_rfl) (by kernel_rfl)
      (OpenSpec.preRow_of_cond 8 hx (by kernel_rfl) (fun k hk => by cases hk) (by kernel_rfl) (laid_met os _))) ?_
  intro W base args ds gs before hval hW _ _ hz hL _ _
  exact contract H enc W base args ds gs before hval hW hL

theorem said : Rows.TimeClocksSaid :=
  OpenClaim.holds_of_cond 6 Tryd.f6 rfl rfl rfl rfl rfl rfl rfl ⟨rfl, rfl, rfl, rfl, rfl⟩ rfl rfl rfl rfl rfl (by kernel_rfl) Tryd.func6 (by kernel_rfl)
    (of_decide_eq_true (by kernel_rfl)) (by unfold Func.isWrapper; first | (rw [if_pos (by decide +kernel)]; kernel_rfl) | (rw [if_neg (by decide +kernel)]; exact ⟨rfl, rfl⟩))
    (fun os started H enc _ F => by rw [OpenClaim.pre_eq_preRow]; exact lifted os started H enc F)

theorem plain (f : FuncId) (fn : Func) (hf : Tryd.pinned.checked.prog.funcNamed "aqueduct/aqueductlaw01.TimeClocks" = some f) (hfn : Tryd.pinned.checked.prog.funcs[f]? = some fn) :
    true = Tryd.pinned.checked.prog.looks [] ∧ ∀ (j : Nat) t, fn.params[j]? = some t → Tryd.pinned.checked.prog.wantsStandIn t = false := by
  obtain rfl : f = 6 := Option.some.inj ((show Tryd.prog.funcNamed "aqueduct/aqueductlaw01.TimeClocks" = some 6 by kernel_rfl).symm.trans hf) |>.symm
  obtain rfl : fn = Tryd.f6 := (Option.some.inj (Tryd.func6.symm.trans hfn)).symm
  refine ⟨by kernel_rfl, fun j t ht => ?_⟩
  rw [Tryd.params6] at ht
  have ht' := Array.mem_of_getElem? ht
  simp only [List.mem_toArray, List.mem_cons, List.not_mem_nil, or_false] at ht'
  rcases ht' with rfl | rfl
  · exact (show Tryd.prog.wantsStandIn 23 = false by kernel_rfl)
  · exact (show Tryd.prog.wantsStandIn 46 = false by kernel_rfl)

theorem card : Rows.TimeClocksCardSaid :=
  Claim7.holds_tied_plain_at .later [] _ _ _ _ said (fun _ h => by cases h) (by kernel_rfl) (fun _ h => by cases h) timeClocks_row_tie rfl ⟨rfl, rfl⟩ (by kernel_rfl) rfl plain (by kernel_rfl)
end Go.Proofs.YtgkmmkaaokbmiaaDoor.timeClocks
