/- Report: the law's own light, ended and done. -/
import Derived.Test.YtllmejkcohfbiaaGreatDoorR25K
import Derived.Test.YtllmejkcohfbiaaGreatDoorS3
namespace Go.Proofs.YtllmejkcohfbiaaGreatDoor
open Go.RowKit Go.Maps Go.Shelf Go.Sort Go.Lib
set_option linter.unusedVariables false
set_option linter.unusedSimpArgs false
set_option maxRecDepth 100000
set_option maxHeartbeats 16000000

theorem endedL_any (x : Ev) (w : World) :
    Calls Tryz.prog 35 #[.agg #[.int .i64 x.kind, .int .i64 x.task, .int .i64 x.cK, .int .i64 x.cF1, .int .i64 x.cF2, .int .i64 x.cT1, .int .i64 x.cT2, .string x.cA, .int .i64 x.cP, .slice x.cD.1 x.cD.2.1 x.cD.2.2, .int .i64 x.cM, .int .i64 x.cN, .int .i64 x.cR, .int .u64 x.cAt, .int .i64 x.err, .bool x.done, .int .i64 x.eTask, .int .i64 x.eKind, .int .i64 x.eErr, .int .i64 x.eN, .slice x.eD.1 x.eD.2.1 x.eD.2.2, .int .i64 x.eF1, .int .i64 x.eF2, .int .i64 x.eT1, .int .i64 x.eT2, .string x.eA, .int .i64 x.eP, .int .u64 x.eAt, .slice x.woke.1 x.woke.2.1 x.woke.2.2, .int .u64 x.now]] w fun e w' => e = .returned (.bool x.ended) ∧ Fr [] w w' := by
  have hE : x.ended = ((x.kind == 2) && ((x.err == 0) && x.done)) := rfl
  have HE := Lib.hid hE
  clear hE
  cases h1 : (x.kind == 2) with
  | false =>
    rw [h1] at HE
    go_enter Tryz.func35, Tryz.ntmps35
    go_wp2
    go_ret
    exact ⟨by rw [HE.out]; rfl, (Fr.refl [] w).alloc _⟩
  | true =>
    rw [h1] at HE
    cases h2 : (x.err == 0) with
    | false =>
      rw [h2] at HE
      go_enter Tryz.func35, Tryz.ntmps35
      go_wp2
      go_ret
      exact ⟨by rw [HE.out]; rfl, (Fr.refl [] w).alloc _⟩
    | true =>
      rw [h2] at HE
      obtain ⟨d, hd⟩ : ∃ d, x.done = d := ⟨_, rfl⟩
      rw [hd] at HE ⊢
      clear hd
      go_enter Tryz.func35, Tryz.ntmps35
      go_wp2
      go_ret
      exact ⟨by rw [HE.out]; cases d <;> rfl, (Fr.refl [] w).alloc _⟩
def slim (xs : List Ev) : Bool := xs.all fun x => decide (x.eD.2.1 ≤ 300)
/-- Not more than 60 events, of at most 300 bytes each. -/
def lightB (xs : List Ev) : Bool := slim (xs.take 60) && decide (xs.length ≤ 60)
theorem slim_succ {xs : List Ev} {q : Nat} {o : Ev} (h : slim (xs.take q) = true) (hx : xs[q]? = some o) (ho : o.eD.2.1 ≤ 300) : slim (xs.take (q + 1)) = true := by
  unfold slim at *
  rw [List.take_add_one, hx, List.all_append, h]
  simp [ho]
theorem slim_bad {xs : List Ev} {q : Nat} {o : Ev} (hq : q < 60) (hx : xs[q]? = some o) (ho : 300 < o.eD.2.1) : lightB xs = false := by
  have hm : o ∈ xs.take 60 := List.mem_of_getElem? (i := q) (by rw [List.getElem?_take, if_pos hq]; exact hx)
  unfold lightB slim
  rw [Bool.and_eq_false_iff]
  left
  rw [List.all_eq_false]
  exact ⟨o, hm, by simpa using ho⟩
theorem light_any (v : Value) (xs : List Ev) (w : World) (h : EvRow w v xs) :
    Calls Tryz.prog 33 #[v, .int .i64 60] w fun e w' => e = .returned (.bool (lightB xs)) ∧ w = w' := by
  obtain ⟨a, cap, rfl⟩ := h.val
  obtain ⟨n, hnl⟩ : ∃ n, xs.length = n := ⟨_, rfl⟩
  have HM := Lib.hid hnl
  have HR := Lib.hid h
  rw [hnl] at HR ⊢
  clear h hnl
  go_enter Tryz.func33, Tryz.ntmps33
  go_wp2
  go_loopw [5] (fun i wr => ∃ (q : Nat), i = .int .i64 q ∧ q ≤ n ∧ q ≤ 60 ∧ slim (xs.take q) = true ∧ w = wr) (fun i _ => n - (intOf i).toNat)
  case atStart => exact ⟨0, rfl, by omega, by omega, rfl, rfl⟩
  case round =>
    obtain ⟨q, rfl, hq, hq6, hs, rfl⟩ := hrel
    have HS := Lib.hid hs
    clear hs
    have d0 : (((q : Nat) : Int) < (n : Int)) = (q < n) := by simp
    by_cases hlt : q < n
    · have hd1 : decide ((q : Int) < (n : Int)) = true := decide_eq_true (by omega)
      by_cases h60 : q < 60
      · have hd2 : decide ((q : Int) < 60) = true := decide_eq_true (by omega)
        have hx := List.getElem?_eq_getElem (l := xs) (i := q) (by rw [HM.out]; exact hlt)
        obtain ⟨o, hoe⟩ : ∃ o, xs[q]'(by rw [HM.out]; exact hlt) = o := ⟨_, rfl⟩
        rw [hoe] at hx
        rcases HR.out with ⟨e1, _⟩ | ⟨g, off, cap', hv, hg, hcells⟩
        · rw [e1] at hx
          simp at hx
        rw [HM.out] at hv
        simp only [Value.slice.injEq] at hv
        obtain ⟨rfl, _, rfl⟩ := hv
        have k20 := hcells q o hx 20 _ rfl
        have HX := Lib.hid hx
        clear hx hoe hcells
        by_cases h3 : 300 < o.eD.2.1
        · have hb := Lib.hid (slim_bad h60 HX.out h3)
          have hd3 : decide ((300 : Int) < (o.eD.2.1 : Int)) = true := decide_eq_true (by omega)
          go_wp2
          go_ret
          first | exact ⟨by rw [hb.out]; rfl, rfl⟩ | exact ⟨by rw [hb.out]; rfl, trivial⟩
        · have hb := Lib.hid (slim_succ HS.out HX.out (by omega))
          have hd3 : decide ((300 : Int) < (o.eD.2.1 : Int)) = false := decide_eq_false (by omega)
          go_wp2
          go_roundw
          case rel => exact ⟨q + 1, by go_num, by omega, by omega, hb.out, trivial⟩
          case measure => simp [intOf]; omega
      · have hd2 : decide ((q : Int) < 60) = false := decide_eq_false (by omega)
        have hq60 : q = 60 := by omega
        subst hq60
        have hr : lightB xs = decide (n ≤ 60) := by unfold lightB; rw [HS.out, HM.out]; rfl
        have hr2 : decide ((n : Int) ≤ 60) = false := decide_eq_false (by omega)
        have hr3 : decide (n ≤ 60) = false := decide_eq_false (by omega)
        have HRR := Lib.hid (hr.trans hr3)
        clear hr hr3
        go_wp2
        go_ret
        first | exact ⟨by rw [HRR.out]; rfl, rfl⟩ | exact ⟨by rw [HRR.out]; rfl, trivial⟩
    · have hd1 : decide ((q : Int) < (n : Int)) = false := decide_eq_false (by omega)
      have hqn : q = n := by omega
      subst hqn
      have hr : lightB xs = true := by
        unfold lightB
        rw [List.take_of_length_le (by rw [HM.out]; exact hq6)]
        have := HS.out
        rw [List.take_of_length_le (by rw [HM.out]; exact Nat.le_refl _)] at this
        rw [this, HM.out, decide_eq_true hq6]
        rfl
      have hr2 : decide ((q : Int) ≤ 60) = true := decide_eq_true (by omega)
      have HRR := Lib.hid hr
      clear hr
      go_wp2
      go_ret
      first | exact ⟨by rw [HRR.out]; rfl, rfl⟩ | exact ⟨by rw [HRR.out]; rfl, trivial⟩
end Go.Proofs.YtllmejkcohfbiaaGreatDoor
