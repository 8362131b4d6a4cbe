/- The law ReportHolds: what Tasks writes ReadTasks reads back, what Codes writes ReadCodes reads back, two texts are alike just where two lists are, and the two reckonings of a trace agree, at every three lists and every trace (greater ones only run the chapter's examples). Condition: none but the card's own list of library tables. -/
import Derived.Test.YtllmejkcohfbiaaGreatDoorRQHolds
import Derived.Test.YtllmejkcohfbiaaGreatDoorW2
import Derived.Test.YtllmejkcohfbiaaGreatDoorROpenE
namespace Go.Proofs.YtllmejkcohfbiaaGreatDoor.reportHolds
open Go.ChangeShapes Go.WideShapes Go.ChangeAt Go.RowKit
set_option linter.unusedVariables false

set_option maxRecDepth 100000 in
theorem contract (H : Type) (enc : TypeId × Value → H) (W : World) (base : Nat) (args : Array Value) (ds gs : List (DataW H)) (before : List MemPlace)
    (hval : ∀ (j : Nat) t v, Tryz.f9.params[j]? = some t → args[j]? = some v → Value.okWide Tryz.prog W .any base t v)
    (hW : DataW.Whole enc Tryz.prog Tryz.f9.params.toList Rows.reportHoldsSpec.vars false W args.toList ds gs before) (hL : laidMetH Tryz.prog Rows.reportHoldsRow.laid W) (hsh : W.ShapedOpen Tryz.prog) :
    Calls Tryz.prog 9 args W fun e W' => ∃ v, e = .returned v ∧ Rows.reportHoldsSpec.post enc Tryz.prog Tryz.f9 false true false false W args v W' := by
  have hW' := hW
  obtain ⟨p, q, hA0, hV, rfl, hfz, hnd⟩ := hW
  have hA : DataW.TrodAll enc Tryz.prog W 0 (fun _ => true) true Tryz.f9.params.toList args.toList ds p := hA0
  rw [Tryz.params9] at hA hval
  obtain ⟨v0, vs0, d0, ds0, p0, q0, hargs, rfl, rfl, h0, r0⟩ := trodAll_cons hA
  obtain ⟨v1, vs1, d1, ds1, p1, q1, rfl, rfl, rfl, h1, r1⟩ := trodAll_cons r0
  obtain ⟨v2, vs2, d2, ds2, p2, q2, rfl, rfl, rfl, h2, r2⟩ := trodAll_cons r1
  obtain ⟨v3, vs3, d3, ds3, p3, q3, rfl, rfl, rfl, h3, r3⟩ := trodAll_cons r2
  obtain ⟨rfl, rfl, rfl⟩ := trodAll_nil r3
  obtain rfl : args = #[v0, v1, v2, v3] := by cases args; simp_all
  obtain ⟨rfl, rfl⟩ := trodVars_none hV
  have hlt : ∀ x ∈ p0 ++ p1 ++ p2 ++ p3, x.block < W.heap.size := fun x hx => hW'.lt x (by simpa using hx)
  have finish : ∀ W', Below W.heap.size W W' → Rows.reportHoldsSpec.post enc Tryz.prog Tryz.f9 false true false false W _ (.bool true) W' := fun W' hb =>
    laws.law_post (by kernel_rfl) (by kernel_rfl) rfl rfl Tryz.underlying4 hW' rfl hb
  clear hW' hA hA0
  obtain ⟨sa, slen, scap, rfl⟩ := okWide_slice Tryz.underlying52 (hval 0 52 v0 rfl rfl)
  obtain ⟨ta, tlen, tcap, rfl⟩ := okWide_slice Tryz.underlying52 (hval 1 52 v1 rfl rfl)
  obtain ⟨ua, ulen, ucap, rfl⟩ := okWide_slice Tryz.underlying53 (hval 2 53 v2 rfl rfl)
  obtain ⟨va, vlen, vcap, rfl⟩ := okWide_slice Tryz.underlying85 (hval 3 85 v3 rfl rfl)
  obtain ⟨fuel, hf⟩ := h0
  obtain ⟨fuel2, hg⟩ := h1
  obtain ⟨fuel3, hh⟩ := h2
  obtain ⟨fuel4, hk⟩ := h3
  have he := env_of hL hsh
  simp only [Value.cells] at hf hg hh hk
  obtain ⟨xa, hla, hra, hwa⟩ := tks_of hf
  obtain ⟨xb, hlb, hrb, hwb⟩ := tks_of hg
  obtain ⟨cs, hlc, hrc, hwc⟩ := cds_of hh
  obtain ⟨ev, hlv, hrv, hwv⟩ := evs_of hk
  subst hla hlb hlc hlv
  have key : Calls Tryz.prog 9 #[.slice sa xa.length scap, .slice ta xb.length tcap, .slice ua cs.length ucap, .slice va ev.length vcap] W fun e W' => e = .returned (.bool true) ∧ Fr [] W W' := by
    by_cases hb : 20 < xa.length ∨ 20 < xb.length ∨ 20 < cs.length ∨ lightB ev = false
    · exact holds_big sa scap ta tcap ua ucap _ _ _ _ ev W he hrv hb
    · exact holds_main sa scap ta tcap ua ucap xa xb cs _ ev W he hra hrb hrc hrv hwa hwb hwc (by omega) (by omega) (by omega) (by cases h : lightB ev with
        | true => rfl
        | false => exact absurd (.inr (.inr (.inr h))) hb) (fun x hx => ⟨(hwv x hx).1, (hwv x hx).2.2.2, (hwv x hx).2.1, (hwv x hx).2.2.1⟩)
  refine (key).mono fun e W' ⟨he, hb⟩ => ?_
  subst he
  exact ⟨_, rfl, finish W' hb.below0⟩

theorem reads (os : Os) {H : Type} (enc : TypeId × Value → H) : ∃ places, DataW.whole enc Tryz.prog ((laidWorld os).forCall (fun _ _ => 0) ⟨#[], #[.slice none 0 0, .slice none 0 0, .slice none 0 0, .slice none 0 0], []⟩).memory Tryz.f9.params.toList Rows.reportHoldsSpec.vars false (#[.slice none 0 0, .slice none 0 0, .slice none 0 0, .slice none 0 0] : Array Value).toList 16 = some ([.nil, .nil, .nil, .nil], [], places) :=
  ⟨[], by kernel_rfl⟩

set_option maxRecDepth 100000 in
theorem lifted (os : Os) (started : os.Started) (H : Type) (enc : TypeId × Value → H) (F : Stop.Interp) :
    ReturnsInHanded {} Tryz.checked os 9 .any ((OpenSpec.ofChange Rows.reportHoldsSpec).preRow enc Tryz.prog Tryz.f9 Rows.reportHoldsRow.domain false Rows.reportHoldsRow.laid) (((OpenSpec.ofChange Rows.reportHoldsSpec).at F).post enc Tryz.prog Tryz.f9 false true false false) := by
  obtain ⟨places, hx⟩ := reads os enc
  refine returnsInHanded_of_row (C := Tryz.checked) (s := OpenSpec.ofChange Rows.reportHoldsSpec) own started (by kernel_rfl) Tryz.func9
    (witness_row_atRef (enc := enc) (C := Tryz.checked) false (laidWorld os) #[.slice none 0 0, .slice none 0 0, .slice none 0 0, .slice none 0 0] rfl (by kernel_rfl) (by kernel_rfl) (by kernel_rfl)
      (OpenSpec.preRow_of_cond 16 hx (by kernel_rfl) (fun k hk => by cases hk) (by kernel_rfl) (laid_met os _))) ?_
  intro W base args ds gs before hval hW _ _ hz hL hsh _
  exact contract H enc W base args ds gs before hval hW hL hsh

theorem said : Rows.ReportHoldsSaid :=
  OpenClaim.holds_of_cond 9 Tryz.f9 rfl rfl rfl rfl rfl rfl rfl ⟨rfl, rfl, rfl, rfl, rfl⟩ rfl rfl rfl rfl rfl (by kernel_rfl) Tryz.func9 reportHolds_facts
    (of_decide_eq_true (by kernel_rfl)) (by unfold Func.isWrapper; first | (rw [if_pos (by decide +kernel)]; kernel_rfl) | (rw [if_neg (by decide +kernel)]; exact ⟨rfl, rfl⟩))
    (fun os started H enc _ F => by rw [OpenClaim.pre_eq_preRow]; exact lifted os started H enc F)

theorem plain (f : FuncId) (fn : Func) (hf : Tryz.pinned.checked.prog.funcNamed "aqueduct/aqueductlaw52.ReportHolds" = some f) (hfn : Tryz.pinned.checked.prog.funcs[f]? = some fn) :
    true = Tryz.pinned.checked.prog.looks [] ∧ ∀ (j : Nat) t, fn.params[j]? = some t → Tryz.pinned.checked.prog.wantsStandIn t = false := by
  obtain rfl : f = 9 := Option.some.inj ((show Tryz.prog.funcNamed "aqueduct/aqueductlaw52.ReportHolds" = some 9 by kernel_rfl).symm.trans hf) |>.symm
  obtain rfl : fn = Tryz.f9 := (Option.some.inj (Tryz.func9.symm.trans hfn)).symm
  refine ⟨by kernel_rfl, fun j t ht => ?_⟩
  rw [Tryz.params9] at ht
  have ht' := Array.mem_of_getElem? ht
  simp only [List.mem_toArray, List.mem_cons, List.not_mem_nil, or_false] at ht'
  rcases ht' with rfl | rfl | rfl | rfl
  · exact (show Tryz.prog.wantsStandIn 52 = false by kernel_rfl)
  · exact (show Tryz.prog.wantsStandIn 52 = false by kernel_rfl)
  · exact (show Tryz.prog.wantsStandIn 53 = false by kernel_rfl)
  · exact (show Tryz.prog.wantsStandIn 85 = false by kernel_rfl)

theorem card : Rows.ReportHoldsCardSaid :=
  Claim7.holds_tied_plain_at .later [] _ _ _ _ said (fun _ h => by cases h) (by kernel_rfl) (fun _ h => by cases h) reportHolds_row_tie rfl ⟨rfl, rfl⟩ (by kernel_rfl) rfl plain (by kernel_rfl)
end Go.Proofs.YtllmejkcohfbiaaGreatDoor.reportHolds
