/- The contract of dial's Try where it connects. -/
import Derived.Test.YtgbmenfmaphciaaTry2
namespace Go.Proofs.Ytgbmenfmaphciaa
open Go.RowKit
open Go.Maps (Keyed)
set_option linter.unusedVariables false
set_option maxRecDepth 100000
set_option maxHeartbeats 4000000

theorem setOne {a : Nat} {o o1 : Nat} {v v1 : Value} {w : World} (h : w.cell? ⟨a, o, none⟩ = some v) (h1 : o1 ≠ o := by decide) : (w.setCell ⟨a, o1, none⟩ v1).cell? ⟨a, o, none⟩ = some v :=
  (World.cell?_setCell_other _ _ _ _ (fun e => h1 (by injection e))).trans h

section
variable {n r m lm cm : Nat} {names ls cs : List (Value × Value)}
variable (d u : Nat) (s : ByteArray) (p un conn er tr : Int) (c : Nat)
/-- Try where the time has not passed: the tries grow by one, and the end hangs on Connect's. R says what Connect has done. -/
theorem dialTry_go (now k fe : Int) (S : List Nat) (R : World → Prop) (hR : ∀ a b : World, R a → Fr [d] a b → R b) (w : World) (h : DialIs w d u s p c un 0 conn er tr) (hn : NetIs w n r m lm cm names ls cs) (ho : passB un now = false)
    (htr : 0 ≤ tr) (htr' : tr ≤ 1000000000) (hdn : d ∉ [n, r, m, lm, cm]) (hdS : d ∉ S) (huS : u ∉ S)
    (hC : ∀ W, Fr [d] w W → Calls Try.prog 50 #[.pointer (some ⟨n, 0, none⟩), .agg #[.string s, .int .i64 p], .int .i64 c] W fun e w' => e = .returned (.tuple #[.int .i64 k, .int .i64 fe]) ∧ R w' ∧ Fr S W w') :
    Calls Try.prog 26 #[.pointer (some ⟨d, 0, none⟩), .pointer (some ⟨n, 0, none⟩), .int .u64 now] w fun e w' => e = .returned (.tuple #[.int .i64 (if fe = 0 ∨ fe = 16 then k else 0), .int .i64 fe]) ∧ DialIs w' d u s p c un (if fe = 0 then 1 else if fe = 16 then 0 else 2) (if fe = 0 then k else conn) (if fe = 0 ∨ fe = 16 then er else fe) (tr + 1) ∧ R w' ∧ Fr (d :: S) w w' := by
  have hdlt := cell_lt h.c0
  have hult := cell_lt h.cu
  have hne := h.ne
  have HO := Lib.hid ho
  have HC := Lib.hid hC
  have HR := Lib.hid hR
  clear ho hC hR
  go_enter Try.func26, Try.ntmps26
  go_wp2_with (first
    | (go_at_call 35; refine (dialNone_any d u s p c un 0 conn er tr _ h).mono ?_; rintro e w' ⟨rfl, rfl⟩)
    | (go_at_call 37; refine (dead_ok _ hn).mono ?_; rintro e w1 ⟨rfl, f1⟩; have c5 := (h.new f1).c5; have c4 := (h.new f1).c4; have c8 := (h.new f1).c8; have hfz := (h.new f1).free)
    | (go_at_call 30; refine (over_any u un now _ (h.new f1).cu).mono ?_; rintro e w' ⟨rfl, rfl⟩; rw [HO.out]))
  have f2 : Fr [d] w1 (w1.setCell ⟨d, 8, none⟩ (.int .i64 (tr + 1))) := (Fr.refl _ w1).setCell (fun _ => by simp) _
  have h1 := h.new f1
  have h2 : DialIs (w1.setCell ⟨d, 8, none⟩ (.int .i64 (tr + 1))) d u s p c un 0 conn er (tr + 1) :=
    ⟨setOne h1.c0, setOne h1.c1, setOne h1.c2, setOne h1.c3, setOne h1.c4, setOne h1.c5, setOne h1.c6, setOne h1.c7, World.cell?_setCell_same _ _ _ h1.c8, fun o => by simpa using h1.free o, f2.keep h1.cu (by simp; omega), h.ne⟩
  have g2 : Fr [d] w (w1.setCell ⟨d, 8, none⟩ (.int .i64 (tr + 1))) := (f1.mono (fun x hx => by cases hx)).trans f2 (fun x hx _ => hx)
  clear c4 c5 c8 hfz f2 h1
  generalize w1.setCell ⟨d, 8, none⟩ (.int .i64 (tr + 1)) = w2 at h2 g2 ⊢
  have c0 := h2.c0
  have c1 := h2.c1
  have c2 := h2.c2
  go_cut [8, 9] from 39 to 51 (fun s8 s9 wc => s8 = .int .i64 k ∧ s9 = .int .i64 fe ∧ R wc ∧ Fr S w2 wc)
  case first => --D
    go_region_with (go_at_call 50; refine (HC.out _ (g2.drewN 1)).mono ?_; rintro e w3 ⟨rfl, hr3, f3⟩)
    all_goals go_wp2
    all_goals go_meet
    case' rel => skip
    all_goals exact ⟨rfl, rfl, hr3, f3.behind⟩
  case rest =>
    obtain ⟨rfl, rfl, hr3, f3⟩ := hcut
    have h3 := h2.keep f3 hdS huS
    have g3 : Fr (d :: S) w wc := (g2.mono (T := d :: S) (fun x hx _ => by simp at hx; simp [hx])).trans f3 (fun x hx _ => by simp [hx])
    clear c0 c1 c2 h2 g2 f3
    by_cases hz : fe = 0
    · subst hz
      have c5 := h3.c5
      have c6 := h3.c6
      have hfz := h3.free
      go_wp2
      go_ret2
      have fE : Fr [d] wc ((wc.setCell ⟨d, 5, none⟩ (.int .i64 1)).setCell ⟨d, 6, none⟩ (.int .i64 k)) := ((Fr.refl _ wc).setCell (fun _ => by simp) _).setCell (fun _ => by simp) _
      refine ⟨rfl, ⟨setTwo h3.c0, setTwo h3.c1, setTwo h3.c2, setTwo h3.c3, setTwo h3.c4, (World.cell?_setCell_other _ _ _ _ (by simp)).trans (World.cell?_setCell_same _ _ _ h3.c5), World.cell?_setCell_same _ _ _ ((World.cell?_setCell_other _ _ _ _ (by simp)).trans h3.c6), setTwo h3.c7, setTwo h3.c8, fun o => by simpa using h3.free o, fE.keep h3.cu (by simp; omega), h.ne⟩, HR.out _ _ hr3 fE, g3.trans fE (fun x hx _ => by simp at hx; simp [hx])⟩
    · have hz0 : (fe == 0) = false := by simp [hz]
      by_cases hb : fe = 16
      · subst hb
        go_wp2
        go_ret2
        exact ⟨rfl, h3, hr3, g3⟩
      · have hb0 : (fe != 16) = true := by simp [hb]
        have HZ := Lib.hid hz
        have HB := Lib.hid hb
        clear hz hb
        go_wp2_with (go_at_call 36; refine (dialFail_any d u s p c un 0 conn er (tr + 1) _ fe h3).mono ?_; rintro e w4 ⟨rfl, h4, f4⟩)
        go_ret2
        exact ⟨rfl, h4, HR.out _ _ hr3 f4, g3.trans f4 (fun x hx _ => by simp at hx; simp [hx])⟩
end
end Go.Proofs.Ytgbmenfmaphciaa
