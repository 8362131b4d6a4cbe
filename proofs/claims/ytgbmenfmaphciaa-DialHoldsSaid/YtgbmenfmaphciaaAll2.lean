/- Contracts of dial.All: refused nets, a dialing that is none, too many, copies of one that is refused, none at all. -/
import Derived.Test.YtgbmenfmaphciaaStates
import Derived.WalkMore
namespace Go.Proofs.Ytgbmenfmaphciaa
open Go.RowKit
open Go.Maps (Keyed)
set_option linter.unusedVariables false
set_option maxRecDepth 100000
set_option maxHeartbeats 4000000

/-- No net. -/
theorem all_dead {nv sv : Value} (now : Int) (w : World) (h : NoNet w nv) :
    Calls Try.prog 20 #[sv, nv, .int .u64 now] w fun e w' => e = .returned (.tuple #[.int .i64 0, .int .i64 1]) ∧ Fr [] w w' := by
  go_enter Try.func20, Try.ntmps20
  go_wp2_with fail
  go_step3
  go_wp2_with (go_at_call 37; refine (dead_no _ h).mono ?_; rintro e w1 ⟨rfl, f1⟩)
  rw [Exit.noGoto_ret]
  go_ret2
  exact ⟨rfl, f1⟩

section
variable {n r m lm cm : Nat} {names ls cs : List (Value × Value)}
/-- One of them is none. -/
theorem all_none (b len cap k : Nat) (dv : Nat → Value) (now : Int) (w : World) (hn : NetIs w n r m lm cm names ls cs) (hk : k < len) (hlen : len ≤ 100000)
    (hc : ∀ i, i < len → w.cell? ⟨b, i, none⟩ = some (dv i))
    (hlow : ∀ i, i < k → ∀ W, Fr [] w W → Calls Try.prog 35 #[dv i] W fun e w' => e = .returned (.bool false) ∧ W = w')
    (hat : ∀ W, Fr [] w W → Calls Try.prog 35 #[dv k] W fun e w' => e = .returned (.bool true) ∧ W = w') :
    Calls Try.prog 20 #[.slice (some ⟨b, 0, none⟩) len cap, .pointer (some ⟨n, 0, none⟩), .int .u64 now] w fun e w' => e = .returned (.tuple #[.int .i64 0, .int .i64 1]) ∧ Fr [] w w' := by
  have HC := Lib.hid hc
  have HL := Lib.hid hlow
  have HA := Lib.hid hat
  clear hc hlow hat
  have hkt : decide (k < len) = true := by simp [hk]
  go_enter Try.func20, Try.ntmps20
  go_wp2_with fail
  go_step3
  go_wp2_with fail
  refine (dead_ok _ hn).mono ?_
  rintro e w1 ⟨rfl, f1⟩
  go_wp2_with fail
  refine (containsNone b 0 len cap k dv w1 (by omega) hlen (fun i hi => by simpa using f1.keep (HC.out i hi) (by simp)) (fun i hi => HL.out i hi w1 f1) (fun _ => HA.out w1 f1)).mono ?_
  rintro e w' ⟨rfl, rfl⟩
  rw [hkt]
  go_wp2_with fail
  rw [Exit.noGoto_ret]
  go_ret2
  exact ⟨rfl, f1⟩
/-- Too many. -/
theorem all_many (b len cap : Nat) (dv : Nat → Value) (now : Int) (w : World) (hn : NetIs w n r m lm cm names ls cs) (hlen : len ≤ 100000) (hm : 1000 < len)
    (hc : ∀ i, i < len → w.cell? ⟨b, i, none⟩ = some (dv i))
    (hlow : ∀ i, i < len → ∀ W, Fr [] w W → Calls Try.prog 35 #[dv i] W fun e w' => e = .returned (.bool false) ∧ W = w') :
    Calls Try.prog 20 #[.slice (some ⟨b, 0, none⟩) len cap, .pointer (some ⟨n, 0, none⟩), .int .u64 now] w fun e w' => e = .returned (.tuple #[.int .i64 0, .int .i64 2]) ∧ Fr [] w w' := by
  have HC := Lib.hid hc
  have HL := Lib.hid hlow
  clear hc hlow
  have hm' : 1000 < (len : Int) := by omega
  have hkt : decide (len < len) = false := by simp
  go_enter Try.func20, Try.ntmps20
  go_wp2_with fail
  go_step3
  go_wp2_with fail
  refine (dead_ok _ hn).mono ?_
  rintro e w1 ⟨rfl, f1⟩
  go_wp2_with fail
  refine (containsNone b 0 len cap len dv w1 (by omega) hlen (fun i hi => by simpa using f1.keep (HC.out i hi) (by simp)) (fun i hi => HL.out i hi w1 f1) (fun h => absurd h (by omega))).mono ?_
  rintro e w' ⟨rfl, rfl⟩
  rw [hkt]
  go_wp2_with fail
  rw [Exit.noGoto_ret]
  go_ret2
  exact ⟨rfl, f1⟩
/-- None at all. -/
theorem all_empty (now : Int) (w : World) (hn : NetIs w n r m lm cm names ls cs) :
    Calls Try.prog 20 #[.slice none 0 0, .pointer (some ⟨n, 0, none⟩), .int .u64 now] w fun e w' => e = .returned (.tuple #[.int .i64 0, .int .i64 0]) ∧ Fr [] w w' := by
  go_enter Try.func20, Try.ntmps20
  go_wp2_with fail
  go_step3
  go_wp2_with fail
  refine (dead_ok _ hn).mono ?_
  rintro e w1 ⟨rfl, f1⟩
  go_wp2_with fail
  refine (containsNone_nil _).mono ?_
  rintro e w' ⟨rfl, rfl⟩
  go_wp2_with fail
  go_step3
  go_wp2_with fail
  refine wp_loop_rounds 1 ?_
  rw [rounds_succ]
  go_wp2_with fail
  refine (states_nil _).mono ?_
  rintro e w2 ⟨b1, rfl, f2⟩
  go_wp2_with fail
  refine wp_loop_rounds 1 ?_
  rw [rounds_succ]
  go_wp2_with fail
  refine (states_nil _).mono ?_
  rintro e w3 ⟨b2, rfl, f3⟩
  go_wp2_with fail
  refine (equalStates b1 b2 0 0 0 (fun _ => 0) (fun _ => 0) 0 _ (by omega) (by omega) (fun i hi => absurd hi (by omega)) (fun i hi => absurd hi (by omega)) (fun i hi => absurd hi (by omega)) (fun h => absurd h (by omega))).mono ?_
  rintro e w4 ⟨rfl, nq, rfl⟩
  go_wp2_with fail
  rw [Exit.noGoto_ret]
  go_ret2
  exact ⟨rfl, ((f1.step f2).step f3).drewN _⟩
end

/-- Copies of one dialing that is refused: one try. -/
theorem all_refused (b len cap d u n r m lm cm : Nat) (w : World) (hn : NetIs w n r m lm cm [] [] []) (h : DialIs w d u aName 1 (1 : Nat) 5 0 0 0 0) (hdn : d ∉ [n, r, m, lm, cm]) (hdb : b ≠ d) (h1 : 1 ≤ len) (hlen : len ≤ 1000)
    (hc : ∀ i, i < len → w.cell? ⟨b, i, none⟩ = some (.pointer (some ⟨d, 0, none⟩))) :
    Calls Try.prog 20 #[.slice (some ⟨b, 0, none⟩) len cap, .pointer (some ⟨n, 0, none⟩), .int .u64 0] w fun e w' => e = .returned (.tuple #[.int .i64 1, .int .i64 0]) ∧ DialIs w' d u aName 1 (1 : Nat) 5 2 0 15 1 ∧ Fr [d] w w' := by
  have HC := Lib.hid hc
  have hm' : ¬ 1000 < (len : Int) := by omega
  have hkt : decide (len < len) = false := by simp
  have hz : decide (0 = len) = false := by simp; omega
  have hud := h.ne
  have hdlt := cell_lt h.c0
  have hblt := cell_lt (hc 0 (by omega))
  have hne : (∀ x ∈ [n, r, m, lm, cm], x ∉ [d]) := fun x hx hm => by
    simp only [List.mem_singleton] at hm
    subst hm
    exact hdn hx
  clear hc
  go_enter Try.func20, Try.ntmps20
  go_wp2_with fail
  go_step3
  go_wp2_with fail
  refine (dead_ok _ hn).mono ?_
  rintro e w1 ⟨rfl, f1⟩
  go_wp2_with fail
  refine (containsNone b 0 len cap len (fun _ => .pointer (some ⟨d, 0, none⟩)) w1 (by omega) (by omega) (fun i hi => by simpa using f1.keep (HC.out i hi) (by simp)) (fun i hi => dialNone_any d u aName 1 _ 5 0 0 0 0 w1 (h.new f1)) (fun h => absurd h (by omega))).mono ?_
  rintro e w' ⟨rfl, rfl⟩
  rw [hkt]
  go_wp2_with fail
  go_step3
  go_wp2_with fail
  refine wp_loop_rounds 2 ?_
  rw [rounds_succ]
  go_wp2_with fail
  refine (states_any b 0 len cap (fun _ => .pointer (some ⟨d, 0, none⟩)) (fun _ => 0) w1 (by omega) (fun i hi => by simpa using f1.keep (HC.out i hi) (by simp)) (fun i hi W hW => (dialState_any d u aName 1 _ 5 0 0 0 0 W ((h.new f1).new hW)).mono (fun e w' q => ⟨⟨_, _, q.1⟩, q.2⟩))).mono ?_
  rintro e w2 ⟨b1, rfl, lb1, hb1, f2⟩
  have F2 := f1.step f2
  have N2 := hn.new F2
  have hd2 := h.new F2
  have HB := Lib.hid (fun i (hi : i < len) => F2.keep (HC.out i hi) (by simp))
  have hb1lt := cell_lt (hb1 0 (by omega))
  have hbd : b1 ≠ d := by have := f1.size; omega
  have HB1 := Lib.hid hb1
  have HN := Lib.hid (fun (W : World) (hW : Fr [d] w2 W) => N2.keep hW (hne n (by simp)) (hne r (by simp)) (hne m (by simp)) (hne lm (by simp)) (hne cm (by simp)))
  have HD := Lib.hid hdn
  have f1 := F2
  clear hb1 HC hn h f2 N2 hne hdn
  go_wp2_with fail
  go_loopw [28, 8] (fun i t wr => ∃ j : Nat, i = .int .i64 j ∧ j ≤ len ∧ t = .int .i64 (if j = 0 then 0 else 1) ∧ DialIs wr d u aName 1 (1 : Nat) 5 (if j = 0 then 0 else 2) 0 (if j = 0 then 0 else 15) (if j = 0 then 0 else 1) ∧ Fr [d] w2 wr) (fun i _ _ => len - (intOf i).toNat)
  case atStart => exact ⟨0, rfl, by omega, by simp, by simpa using hd2, Fr.refl _ _⟩
  case round =>
    obtain ⟨j, rfl, hj, ht, hd, fr⟩ := hrel
    clear hd2
    by_cases hl : j < len
    · have hl' : (j : Int) < (len : Int) := by omega
      have hcj : wr.cell? ⟨b, j, none⟩ = some (.pointer (some ⟨d, 0, none⟩)) := fr.keep (HB.out j hl) (by simpa using hdb)
      by_cases h0 : j = 0
      · subst h0
        simp only [if_true] at ht hd
        subst ht
        have c8 := hd.c8
        have HH := Lib.hid hd
        clear hd
        go_wp2_with fail
        refine (try_refused d u n r m lm cm _ HH.out (HN.out _ fr) HD.out).mono ?_
        rintro e w3 ⟨rfl, hd3, f3⟩
        have c8' := hd3.c8
        have H3 := Lib.hid hd3
        clear hd3
        go_wp2_with fail
        go_roundw
        case rel => exact ⟨1, by go_num, by omega, by simp, by simpa using H3.out, fr.trans f3 (fun x hx _ => hx)⟩
        case measure => simp [intOf]; omega
      · rw [if_neg h0] at ht
        rw [if_neg h0, if_neg h0, if_neg h0] at hd
        subst ht
        have c8 := hd.c8
        have HH := Lib.hid hd
        clear hd
        go_wp2_with fail
        refine (dialTry_state d u aName 1 5 2 0 15 1 1 0 _ HH.out (HN.out _ fr) (by decide)).mono ?_
        rintro e w3 ⟨rfl, f3⟩
        have H3 := Lib.hid (HH.out.new f3)
        have c8' := H3.out.c8
        go_wp2_with fail
        go_roundw
        case rel => exact ⟨j + 1, by go_num, by omega, by simp, by simpa using H3.out, fr.step f3⟩
        case measure => simp [intOf]; omega
    · have hl' : ¬ (j : Int) < (len : Int) := by omega
      have h0 : ¬ j = 0 := by omega
      rw [if_neg h0] at ht
      rw [if_neg h0, if_neg h0, if_neg h0] at hd
      subst ht
      have HH := Lib.hid hd
      clear hd
      go_wp2_with fail
      refine (states_any b 0 len cap (fun _ => .pointer (some ⟨d, 0, none⟩)) (fun _ => 2) wr (by omega) (fun i hi => by simpa using fr.keep (HB.out i hi) (by simpa using hdb)) (fun i hi W hW => (dialState_any d u aName 1 _ 5 2 0 15 1 W (HH.out.new hW)).mono (fun e w' q => ⟨⟨_, _, q.1⟩, q.2⟩))).mono ?_
      rintro e w3 ⟨b2, rfl, lb2, hb2, f3⟩
      go_wp2_with fail
      refine (equalStates b1 b2 len len len (fun _ => 0) (fun _ => 2) 0 _ (by omega) (by omega) (fun i hi => (fr.step f3).keep (HB1.out i hi) (by simpa using hbd)) hb2 (fun i hi => absurd hi (by omega)) (fun _ => by decide)).mono ?_
      rintro e w4 ⟨rfl, nq, rfl⟩
      rw [hz]
      have F4 := (fr.step f3).drewN nq
      have hd4 := Lib.hid (HH.out.new (f3.drewN nq))
      clear f3 hb2 lb2 HH fr
      have B4 := Lib.hid (fun i (hi : i < len) => F4.keep (HB.out i hi) (by simpa using hdb))
      clear HB1 HB
      go_wp2_with fail
      rw [rounds_succ]
      go_wp2_with fail
      refine (states_any b 0 len cap (fun _ => .pointer (some ⟨d, 0, none⟩)) (fun _ => 2) _ (by omega) (fun i hi => by simpa using B4.out i hi) (fun i hi W hW => (dialState_any d u aName 1 _ 5 2 0 15 1 W (hd4.out.new hW)).mono (fun e w' q => ⟨⟨_, _, q.1⟩, q.2⟩))).mono ?_
      rintro e w5 ⟨b3, rfl, lb3, hb3, f5⟩
      have F5 := F4.step f5
      have N5 := HN.out _ F5
      have hd5 := hd4.out.new f5
      have B5 := Lib.hid (fun i (hi : i < len) => f5.keep (B4.out i hi) (by simp))
      have HB3 := Lib.hid hb3
      have H5 := Lib.hid (And.intro N5 hd5)
      clear hb3 N5 hd5 B4 hd4 F4 f5
      go_wp2_with fail
      go_loopw [28, 8] (fun i t wr => ∃ j : Nat, i = .int .i64 j ∧ j ≤ len ∧ t = .int .i64 1 ∧ Fr [] w5 wr) (fun i _ _ => len - (intOf i).toNat)
      case atStart => exact ⟨0, rfl, by omega, rfl, Fr.refl _ _⟩
      case round =>
        obtain ⟨j, rfl, hj, rfl, fr⟩ := hrel
        by_cases hl : j < len
        · have hl' : (j : Int) < (len : Int) := by omega
          have hcj : wr.cell? ⟨b, j, none⟩ = some (.pointer (some ⟨d, 0, none⟩)) := fr.keep (B5.out j hl) (by simp)
          have HH := Lib.hid (H5.out.2.new fr)
          have c8 := HH.out.c8
          go_wp2_with fail
          refine (dialTry_state d u aName 1 5 2 0 15 1 1 0 _ HH.out (H5.out.1.new fr) (by decide)).mono ?_
          rintro e w6 ⟨rfl, f6⟩
          have H6 := Lib.hid (HH.out.new f6)
          have c8' := H6.out.c8
          go_wp2_with fail
          go_roundw
          case rel => exact ⟨j + 1, by go_num, by omega, by simp, fr.step f6⟩
          case measure => simp [intOf]; omega
        · have hl' : ¬ (j : Int) < (len : Int) := by omega
          have HH := Lib.hid (H5.out.2.new fr)
          go_wp2_with fail
          refine (states_any b 0 len cap (fun _ => .pointer (some ⟨d, 0, none⟩)) (fun _ => 2) wr (by omega) (fun i hi => by simpa using fr.keep (B5.out i hi) (by simp)) (fun i hi W hW => (dialState_any d u aName 1 _ 5 2 0 15 1 W (HH.out.new hW)).mono (fun e w' q => ⟨⟨_, _, q.1⟩, q.2⟩))).mono ?_
          rintro e w7 ⟨b4, rfl, lb4, hb4, f7⟩
          go_wp2_with fail
          refine (equalStates b3 b4 len len len (fun _ => 2) (fun _ => 2) len _ (by omega) (by omega) (fun i hi => (fr.step f7).keep (HB3.out i hi) (by simp)) hb4 (fun i hi => rfl) (fun h => absurd h (by omega))).mono ?_
          rintro e w8 ⟨rfl, n8, rfl⟩
          rw [decide_eq_true (rfl : len = len)]
          go_wp2_with fail
          rw [Exit.noGoto_ret]
          go_ret2
          exact ⟨rfl, HH.out.new (f7.drewN n8), ((f1.mono (fun x hx => by cases hx)).trans (F5.step (fr.step (f7.drewN n8))) (fun x hx _ => hx))⟩
end Go.Proofs.Ytgbmenfmaphciaa
