/- Streams: Valid of a state that is one. -/
import Derived.Test.YtmdhlodafjpnmaaGreatM15
namespace Go.Proofs.YtmdhlodafjpnmaaGreat
open Go.RowKit
set_option linter.unusedVariables false
set_option linter.unusedSimpArgs false
set_option maxRecDepth 100000
set_option maxHeartbeats 4000000

theorem code_ok (c : Int) (h0 : 0 ≤ c) (h1 : c ≤ 1000) (w : World) : Calls Tryz.prog 167 #[.int .i64 c] w fun e w' => e = .returned (.bool true) ∧ w = w' := by
  have d0 : decide (0 ≤ c) = true := decide_eq_true h0
  have d1 : decide (c ≤ 1000) = true := decide_eq_true h1
  go_enter Tryz.func167, Tryz.ntmps167
  go_wp2
  go_ret
  exact ⟨by simp [h0, h1], rfl⟩
theorem strValid {w : World} {x : SS} {b r : Sli} (ok : StOk x) (hb : b.2.1 = x.buf.length) (hr : r.2.1 = x.rest.length) :
    Calls Tryz.prog 153 #[.agg (stC x b r).toArray] w fun e w' => e = .returned (.bool true) ∧ Fr [] w w' := by
  obtain ⟨ba, lb, bc⟩ := b
  obtain ⟨ra, lr, rc⟩ := r
  obtain ⟨cap, buf, busy, rest, acc, wr, rd⟩ := x
  simp only at hb hr
  have HO := Lib.hid ok
  have g0 := ok.cap0
  have g1 := ok.cap1
  have g2 := ok.buf
  have g3 := ok.acc0
  have g4 := ok.acc1
  have g5 := ok.wr
  have g6 := ok.rd
  simp only at g0 g1 g2 g3 g4 g5 g6
  rw [← hb] at g2
  rw [← hr] at g4
  have d0 : decide (cap < 0) = false := decide_eq_false (by omega)
  have d1 : decide (4096 < cap) = false := decide_eq_false (by omega)
  have d2 : decide (cap < (lb : Int)) = false := decide_eq_false (by omega)
  have d3 : decide (acc < 0) = false := decide_eq_false (by omega)
  have d4 : decide (65536 < acc) = false := decide_eq_false (by omega)
  have d5 : IntKind.i64.wrap (acc + (lr : Int)) = acc + (lr : Int) := IntWalk.i64_in _ (by omega)
  have d6 : decide (65536 < acc + (lr : Int)) = false := decide_eq_false (by omega)
  have d7 : wrap64 (acc + (lr : Int)) = acc + (lr : Int) := by unfold wrap64; omega
  have d8 : wrap64 acc = acc := by unfold wrap64; omega
  have d9 : ¬ 65536 < acc + (lr : Int) := by omega
  have d10 : ¬ 65536 < acc := by omega
  have d11 : ¬ acc < 0 := by omega
  have d12 : ¬ 65536 < wrap64 (acc + (lr : Int)) := by rw [d7]; exact d9
  have d13 : ¬ 65536 < wrap64 acc := by rw [d8]; exact d10
  have HSH := Lib.hid (show rd ≠ 0 → lb = 0 from fun h => by rw [hb, show buf = [] from ok.shut h]; rfl)
  have HID := Lib.hid (show busy = false → lr = 0 ∧ acc = 0 from fun h => by have := ok.idle h; rw [hr, show rest = [] from this.1]; exact ⟨rfl, this.2⟩)
  have HFU := Lib.hid (show busy = true → wr = 0 → rd = 0 → lr = 0 ∨ (lb : Int) = cap from fun h1 h2 h3 => by
    rcases ok.full h1 h2 h3 with h | h
    · exact .inl (by rw [hr, show rest = [] from h]; rfl)
    · exact .inr (by rw [hb]; exact h))
  have HC := Lib.hid (And.intro g5 g6)
  clear ok hb hr HO g0 g1 g2 g3 g4 g5 g6
  obtain ⟨X, hX⟩ : ∃ A, w.heap.size = A := ⟨_, rfl⟩
  obtain ⟨w0, hw0⟩ : ∃ z, w.alloc (.cells #[.int .i64 cap, .slice ba lb bc, .bool busy, .slice ra lr rc, .int .i64 acc, .int .i64 wr, .int .i64 rd] 90) = z := ⟨_, rfl⟩
  have f0 : Fr [] w w0 := by rw [← hw0]; exact (Fr.refl [] w).alloc _
  have b0 : Blk w0 X 90 [.int .i64 cap, .slice ba lb bc, .bool busy, .slice ra lr rc, .int .i64 acc, .int .i64 wr, .int .i64 rd] := by rw [← hw0, ← hX]; exact Blk.made w _ _
  have c0 : w0.cell? ⟨X, 0, none⟩ = some (.int .i64 cap) := b0.at 0 _ rfl
  have c1 : w0.cell? ⟨X, 1, none⟩ = some (.slice ba lb bc) := b0.at 1 _ rfl
  have c2 : w0.cell? ⟨X, 2, none⟩ = some (.bool busy) := b0.at 2 _ rfl
  have c3 : w0.cell? ⟨X, 3, none⟩ = some (.slice ra lr rc) := b0.at 3 _ rfl
  have c4 : w0.cell? ⟨X, 4, none⟩ = some (.int .i64 acc) := b0.at 4 _ rfl
  have c5 : w0.cell? ⟨X, 5, none⟩ = some (.int .i64 wr) := b0.at 5 _ rfl
  have c6 : w0.cell? ⟨X, 6, none⟩ = some (.int .i64 rd) := b0.at 6 _ rfl
  have HX := Lib.hid hX
  have HW0 := Lib.hid hw0
  have HF := Lib.hid f0
  simp only [stC]
  clear b0 hX hw0 f0
  by_cases hw : wr = 0
  · subst hw
    by_cases hv : rd = 0
    · subst hv
      cases busy with
      | false =>
        obtain ⟨rfl, rfl⟩ := HID.out rfl
        go_enter Tryz.func153, Tryz.ntmps153
        go_upto_region 1 with fail
        rw [HW0.out]
        simp only [HX.out]
        go_wp2_with (go_at_call 167; first | (with_reducible refine (code_ok wr HC.out.1.1 HC.out.1.2 _).mono ?_; rintro e w' ⟨rfl, rfl⟩) | (with_reducible refine (code_ok rd HC.out.2.1 HC.out.2.2 _).mono ?_; rintro e w' ⟨rfl, rfl⟩) | (with_reducible refine (code_ok 0 (by omega) (by omega) _).mono ?_; rintro e w' ⟨rfl, rfl⟩))
        all_goals go_ret
        all_goals exact ⟨by simp [*], HF.out⟩
      | true =>
        rcases HFU.out rfl rfl rfl with rfl | hcap
        · skip
          go_enter Tryz.func153, Tryz.ntmps153
          go_upto_region 1 with fail
          rw [HW0.out]
          simp only [HX.out]
          go_wp2_with (go_at_call 167; first | (with_reducible refine (code_ok wr HC.out.1.1 HC.out.1.2 _).mono ?_; rintro e w' ⟨rfl, rfl⟩) | (with_reducible refine (code_ok rd HC.out.2.1 HC.out.2.2 _).mono ?_; rintro e w' ⟨rfl, rfl⟩) | (with_reducible refine (code_ok 0 (by omega) (by omega) _).mono ?_; rintro e w' ⟨rfl, rfl⟩))
          all_goals go_ret
          all_goals exact ⟨by simp [*], HF.out⟩
        · have hce : ((lb : Int) == cap) = true := by simpa using hcap
          have hcd : decide ((lb : Int) = cap) = true := decide_eq_true hcap
          go_enter Tryz.func153, Tryz.ntmps153
          go_upto_region 1 with fail
          rw [HW0.out]
          simp only [HX.out]
          go_wp2_with (go_at_call 167; first | (with_reducible refine (code_ok wr HC.out.1.1 HC.out.1.2 _).mono ?_; rintro e w' ⟨rfl, rfl⟩) | (with_reducible refine (code_ok rd HC.out.2.1 HC.out.2.2 _).mono ?_; rintro e w' ⟨rfl, rfl⟩) | (with_reducible refine (code_ok 0 (by omega) (by omega) _).mono ?_; rintro e w' ⟨rfl, rfl⟩))
          all_goals go_ret
          all_goals exact ⟨by simp [*], HF.out⟩
    · have hvd : decide (rd = 0) = false := decide_eq_false hv
      have hve : (rd == 0) = false := beq_eq_false_iff_ne.2 hv
      obtain rfl := HSH.out hv
      cases busy with
      | false =>
        obtain ⟨rfl, rfl⟩ := HID.out rfl
        go_enter Tryz.func153, Tryz.ntmps153
        go_upto_region 1 with fail
        rw [HW0.out]
        simp only [HX.out]
        go_wp2_with (go_at_call 167; first | (with_reducible refine (code_ok wr HC.out.1.1 HC.out.1.2 _).mono ?_; rintro e w' ⟨rfl, rfl⟩) | (with_reducible refine (code_ok rd HC.out.2.1 HC.out.2.2 _).mono ?_; rintro e w' ⟨rfl, rfl⟩) | (with_reducible refine (code_ok 0 (by omega) (by omega) _).mono ?_; rintro e w' ⟨rfl, rfl⟩))
        all_goals go_ret
        all_goals exact ⟨by simp [*], HF.out⟩
      | true =>
        go_enter Tryz.func153, Tryz.ntmps153
        go_upto_region 1 with fail
        rw [HW0.out]
        simp only [HX.out]
        go_wp2_with (go_at_call 167; first | (with_reducible refine (code_ok wr HC.out.1.1 HC.out.1.2 _).mono ?_; rintro e w' ⟨rfl, rfl⟩) | (with_reducible refine (code_ok rd HC.out.2.1 HC.out.2.2 _).mono ?_; rintro e w' ⟨rfl, rfl⟩) | (with_reducible refine (code_ok 0 (by omega) (by omega) _).mono ?_; rintro e w' ⟨rfl, rfl⟩))
        all_goals go_ret
        all_goals exact ⟨by simp [*], HF.out⟩
  · have hwd : decide (wr = 0) = false := decide_eq_false hw
    have hwe : (wr == 0) = false := beq_eq_false_iff_ne.2 hw
    by_cases hv : rd = 0
    · subst hv
      cases busy with
      | false =>
        obtain ⟨rfl, rfl⟩ := HID.out rfl
        go_enter Tryz.func153, Tryz.ntmps153
        go_upto_region 1 with fail
        rw [HW0.out]
        simp only [HX.out]
        go_wp2_with (go_at_call 167; first | (with_reducible refine (code_ok wr HC.out.1.1 HC.out.1.2 _).mono ?_; rintro e w' ⟨rfl, rfl⟩) | (with_reducible refine (code_ok rd HC.out.2.1 HC.out.2.2 _).mono ?_; rintro e w' ⟨rfl, rfl⟩) | (with_reducible refine (code_ok 0 (by omega) (by omega) _).mono ?_; rintro e w' ⟨rfl, rfl⟩))
        all_goals go_ret
        all_goals exact ⟨by simp [*], HF.out⟩
      | true =>
        go_enter Tryz.func153, Tryz.ntmps153
        go_upto_region 1 with fail
        rw [HW0.out]
        simp only [HX.out]
        go_wp2_with (go_at_call 167; first | (with_reducible refine (code_ok wr HC.out.1.1 HC.out.1.2 _).mono ?_; rintro e w' ⟨rfl, rfl⟩) | (with_reducible refine (code_ok rd HC.out.2.1 HC.out.2.2 _).mono ?_; rintro e w' ⟨rfl, rfl⟩) | (with_reducible refine (code_ok 0 (by omega) (by omega) _).mono ?_; rintro e w' ⟨rfl, rfl⟩))
        all_goals go_ret
        all_goals exact ⟨by simp [*], HF.out⟩
    · have hvd : decide (rd = 0) = false := decide_eq_false hv
      have hve : (rd == 0) = false := beq_eq_false_iff_ne.2 hv
      obtain rfl := HSH.out hv
      cases busy with
      | false =>
        obtain ⟨rfl, rfl⟩ := HID.out rfl
        go_enter Tryz.func153, Tryz.ntmps153
        go_upto_region 1 with fail
        rw [HW0.out]
        simp only [HX.out]
        go_wp2_with (go_at_call 167; first | (with_reducible refine (code_ok wr HC.out.1.1 HC.out.1.2 _).mono ?_; rintro e w' ⟨rfl, rfl⟩) | (with_reducible refine (code_ok rd HC.out.2.1 HC.out.2.2 _).mono ?_; rintro e w' ⟨rfl, rfl⟩) | (with_reducible refine (code_ok 0 (by omega) (by omega) _).mono ?_; rintro e w' ⟨rfl, rfl⟩))
        all_goals go_ret
        all_goals exact ⟨by simp [*], HF.out⟩
      | true =>
        go_enter Tryz.func153, Tryz.ntmps153
        go_upto_region 1 with fail
        rw [HW0.out]
        simp only [HX.out]
        go_wp2_with (go_at_call 167; first | (with_reducible refine (code_ok wr HC.out.1.1 HC.out.1.2 _).mono ?_; rintro e w' ⟨rfl, rfl⟩) | (with_reducible refine (code_ok rd HC.out.2.1 HC.out.2.2 _).mono ?_; rintro e w' ⟨rfl, rfl⟩) | (with_reducible refine (code_ok 0 (by omega) (by omega) _).mono ?_; rintro e w' ⟨rfl, rfl⟩))
        all_goals go_ret
        all_goals exact ⟨by simp [*], HF.out⟩
end Go.Proofs.YtmdhlodafjpnmaaGreat
