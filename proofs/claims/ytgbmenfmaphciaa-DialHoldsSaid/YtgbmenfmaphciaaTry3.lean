/- Contracts of dial's New, dead and Try. -/
/- Contracts of dial's dead and Try. -/
/- The contract of dial's Try where it connects. -/
import Derived.Test.YtgbmenfmaphciaaDial
import Derived.Deep.RegionWith
import Derived.Deep.CutRange
namespace Go.Proofs.Ytgbmenfmaphciaa
open Go.RowKit
open Go.Maps (Keyed)
set_option linter.unusedVariables false
set_option maxRecDepth 100000
set_option maxHeartbeats 2000000

theorem dialNew_ok (s : ByteArray) (p un : Int) (c : Nat) (w : World) (hs : s.size ≤ 1000000) (hv : addrB s.data.toList p = true) (hp : (p == 0) = false) (hc : c ≤ 4096) :
    Calls Try.prog 9 #[.agg #[.string s, .int .i64 p], .int .i64 c, .int .u64 un] w fun e w' => ∃ d u, e = .returned (.tuple #[.pointer (some ⟨d, 0, none⟩), .int .i64 0]) ∧ DialIs w' d u s p c un 0 0 0 0 ∧ w.heap.size ≤ d ∧ w.heap.size ≤ u ∧ Fr [] w w' := by
  have HV := Lib.hid hv
  clear hv
  have f0 : Fr [] w ((w.alloc (.cells #[.string s, .int .i64 p] 23)).alloc (.cells #[.int .u64 un] 25)) := ((Fr.refl [] w).alloc _).alloc _
  go_enter Try.func9, Try.ntmps9
  go_wp2_with (first
    | (go_at_call 28; refine (dupNew_ok c hc _).mono ?_; rintro e w1 ⟨dd, rfl, hd, f1⟩; have k0 : w1.cell? ⟨w.heap.size, 0, none⟩ = some (.string s) := f1.keep (by simp) (by simp); have k1 : w1.cell? ⟨w.heap.size, 1, none⟩ = some (.int .i64 p) := f1.keep (by simp) (by simp); have k2 : w1.cell? ⟨w.heap.size + 1, 0, none⟩ = some (.int .u64 un) := f1.keep (by simp) (by simp))
    | (go_at_call 29; refine (valid_any s p hs _).mono ?_; rintro e w2 ⟨rfl, f2⟩; rw [HV.out]; have j0 := f2.keep k0 (by simp); have j1 := f2.keep k1 (by simp); have j2 := f2.keep k2 (by simp)))
  go_ret2
  have z := (f1.step f2).size
  have z0 : w.heap.size + 2 ≤ w2.heap.size := by simpa using z
  refine ⟨w2.heap.size, w.heap.size + 1, rfl, ⟨by simp, by simp, by simp, by simp, by simp, by simp, by simp, by simp, by simp, fun o => by simp, ?_, by omega⟩, by omega, by omega, ((f0.step f1).step f2).alloc _⟩
  exact ((Fr.refl [] w2).alloc _).keep j2 (by simp)

theorem dialNew_bad (s : ByteArray) (p c un : Int) (w : World) (hs : s.size ≤ 1000000) (h : addrB s.data.toList p = false ∨ p = 0 ∨ c < 0 ∨ 4096 < c) :
    Calls Try.prog 9 #[.agg #[.string s, .int .i64 p], .int .i64 c, .int .u64 un] w fun e w' => e = .returned (.tuple #[.pointer none, .int .i64 2]) ∧ Fr [] w w' := by
  have f0 : Fr [] w ((w.alloc (.cells #[.string s, .int .i64 p] 23)).alloc (.cells #[.int .u64 un] 25)) := ((Fr.refl [] w).alloc _).alloc _
  have hdup : ∀ W : World, Calls Try.prog 28 #[.int .i64 c, .int .i64 c] W fun e w' => ∃ v er, e = .returned (.tuple #[.pointer v, .int .i64 er]) ∧ (er = 0 ∨ er = 2) ∧ (er = 0 → ¬ (c < 0 ∨ 4096 < c)) ∧ Fr [] W w' := by
    intro W
    by_cases hc : c < 0 ∨ 4096 < c
    · refine (dupNew_bad c hc W).mono ?_
      rintro e w' ⟨rfl, hf⟩
      exact ⟨_, _, rfl, .inr rfl, by omega, hf⟩
    · obtain ⟨k, rfl⟩ : ∃ k : Nat, c = k := ⟨c.toNat, by omega⟩
      refine (dupNew_ok k (by omega) W).mono ?_
      rintro e w' ⟨d, rfl, _, hf⟩
      exact ⟨_, _, rfl, .inl rfl, fun _ => hc, hf⟩
  have H := Lib.hid h
  have HD := Lib.hid hdup
  clear h hdup
  go_enter Try.func9, Try.ntmps9
  go_wp2_with fail
  refine (HD.out _).mono ?_
  rintro e w1 ⟨dv, er, rfl, her, hce, f1⟩
  have k0 : w1.cell? ⟨w.heap.size, 0, none⟩ = some (.string s) := f1.keep (by simp) (by simp)
  have k1 : w1.cell? ⟨w.heap.size, 1, none⟩ = some (.int .i64 p) := f1.keep (by simp) (by simp)
  have HCE := Lib.hid hce
  clear hce
  have HV : Hid (addrB s.data.toList p = addrB s.data.toList p) := Lib.hid rfl
  rcases her with rfl | rfl
  · cases hb : addrB s.data.toList p
    · have HB := Lib.hid hb
      clear hb
      go_wp2_with (go_at_call 29; refine (valid_any s p hs _).mono ?_; rintro e w2 ⟨rfl, f2⟩; rw [HB.out])
      go_ret2
      exact ⟨rfl, (f0.step f1).step f2⟩
    · have hp : p = 0 := by
        rcases H.out with h | h | h
        · rw [hb] at h; cases h
        · exact h
        · exact absurd h (HCE.out rfl)
      subst hp
      have HB := Lib.hid hb
      clear hb
      go_wp2_with (go_at_call 29; refine (valid_any s 0 hs _).mono ?_; rintro e w2 ⟨rfl, f2⟩; rw [HB.out]; have j1 := f2.keep k1 (by simp))
      go_ret2
      exact ⟨rfl, (f0.step f1).step f2⟩
  · cases hb : addrB s.data.toList p
    · have HB := Lib.hid hb
      clear hb
      go_wp2_with (go_at_call 29; refine (valid_any s p hs _).mono ?_; rintro e w2 ⟨rfl, f2⟩; rw [HB.out])
      go_ret2
      exact ⟨rfl, (f0.step f1).step f2⟩
    · have HB := Lib.hid hb
      clear hb
      by_cases hp : p = 0
      · subst hp
        go_wp2_with (go_at_call 29; refine (valid_any s 0 hs _).mono ?_; rintro e w2 ⟨rfl, f2⟩; rw [HB.out]; have j1 := f2.keep k1 (by simp))
        go_ret2
        exact ⟨rfl, (f0.step f1).step f2⟩
      · have hp0 : (p == 0) = false := by simp [hp]
        go_wp2_with (go_at_call 29; refine (valid_any s p hs _).mono ?_; rintro e w2 ⟨rfl, f2⟩; rw [HB.out]; have j1 := f2.keep k1 (by simp))
        go_ret2
        exact ⟨rfl, (f0.step f1).step f2⟩
end Go.Proofs.Ytgbmenfmaphciaa
namespace Go.Proofs.Ytgbmenfmaphciaa
open Go.RowKit
open Go.Maps (Keyed)
set_option linter.unusedVariables false
set_option maxRecDepth 100000
set_option maxHeartbeats 2000000

/-- No net: nil, or zero. -/
def NoNet (w : World) (v : Value) : Prop := v = .pointer none ∨ ∃ n, v = .pointer (some ⟨n, 0, none⟩) ∧ w.cell? ⟨n, 0, none⟩ = some (.pointer none)
theorem NoNet.new {w w' : World} {v : Value} (h : NoNet w v) (hf : Fr [] w w') : NoNet w' v := by
  rcases h with h | ⟨n, h, h1⟩
  · exact .inl h
  · exact .inr ⟨n, h, hf.keep h1 (by simp)⟩
theorem NoDial.new {w w' : World} {v : Value} (h : NoDial w v) (hf : Fr [] w w') : NoDial w' v := by
  rcases h with h | ⟨n, h, h1⟩
  · exact .inl h
  · exact .inr ⟨n, h, hf.keep h1 (by simp)⟩

theorem netNone_no {v : Value} (w : World) (h : NoNet w v) :
    Calls Try.prog 41 #[v] w fun e w' => e = .returned (.bool true) ∧ w = w' := by
  rcases h with rfl | ⟨n, rfl, h⟩
  · go_enter Try.func41, Try.ntmps41
    go_wp2
    go_ret
    exact ⟨rfl, rfl⟩
  · go_enter Try.func41, Try.ntmps41
    go_wp2
    go_ret
    exact ⟨rfl, rfl⟩

theorem netFind_no {v : Value} (s : ByteArray) (p : Int) (w : World) (h : NoNet w v) :
    Calls Try.prog 24 #[v, .agg #[.string s, .int .i64 p]] w fun e w' => e = .returned (.tuple #[.int .i64 0, .int .i64 1]) ∧ Fr [] w w' := by
  have f0 : Fr [] w (w.alloc (.cells #[.string s, .int .i64 p] 23)) := (Fr.refl [] w).alloc _
  have h0 := h.new f0
  go_enter Try.func24, Try.ntmps24
  go_wp2_with (go_at_call 41; refine (netNone_no _ h0).mono ?_; rintro e w' ⟨rfl, rfl⟩)
  go_ret2
  exact ⟨rfl, f0⟩

theorem dead_no {v : Value} (w : World) (h : NoNet w v) :
    Calls Try.prog 37 #[v] w fun e w' => e = .returned (.bool true) ∧ Fr [] w w' := by
  go_enter Try.func37, Try.ntmps37
  go_wp2_with (go_at_call 24; refine (netFind_no ⟨#[]⟩ 0 _ h).mono ?_; rintro e w' ⟨rfl, f1⟩)
  go_ret
  exact ⟨rfl, f1⟩

section
variable {n r m lm cm : Nat} {names ls cs : List (Value × Value)}
theorem dead_ok (w : World) (h : NetIs w n r m lm cm names ls cs) :
    Calls Try.prog 37 #[.pointer (some ⟨n, 0, none⟩)] w fun e w' => e = .returned (.bool false) ∧ Fr [] w w' := by
  go_enter Try.func37, Try.ntmps37
  go_wp2_with (go_at_call 24; refine (netFind_bad ⟨#[]⟩ 0 _ h (by decide) (by decide)).mono ?_; rintro e w' ⟨rfl, f1⟩)
  go_ret
  exact ⟨rfl, f1⟩

theorem dialTry_nod {v nv : Value} (now : Int) (w : World) (h : NoDial w v) :
    Calls Try.prog 26 #[v, nv, .int .u64 now] w fun e w' => e = .returned (.tuple #[.int .i64 0, .int .i64 1]) ∧ w = w' := by
  go_enter Try.func26, Try.ntmps26
  go_wp2_with (go_at_call 35; refine (dialNone_no _ h).mono ?_; rintro e w' ⟨rfl, rfl⟩)
  go_ret2
  exact ⟨rfl, rfl⟩

variable (d u : Nat) (s : ByteArray) (p un st conn er tr : Int) (c : Nat)
theorem dialTry_non {nv : Value} (now : Int) (w : World) (h : DialIs w d u s p c un st conn er tr) (hn : NoNet w nv) :
    Calls Try.prog 26 #[.pointer (some ⟨d, 0, none⟩), nv, .int .u64 now] w fun e w' => e = .returned (.tuple #[.int .i64 0, .int .i64 1]) ∧ Fr [] w w' := by
  go_enter Try.func26, Try.ntmps26
  go_wp2_with (first
    | (go_at_call 35; refine (dialNone_any d u s p c un st conn er tr _ h).mono ?_; rintro e w' ⟨rfl, rfl⟩)
    | (go_at_call 37; refine (dead_no _ hn).mono ?_; rintro e w1 ⟨rfl, f1⟩))
  go_ret2
  exact ⟨rfl, f1⟩
theorem dialTry_state (now : Int) (w : World) (h : DialIs w d u s p c un st conn er tr) (hn : NetIs w n r m lm cm names ls cs) (hst : st ≠ 0) :
    Calls Try.prog 26 #[.pointer (some ⟨d, 0, none⟩), .pointer (some ⟨n, 0, none⟩), .int .u64 now] w fun e w' => e = .returned (.tuple #[.int .i64 0, .int .i64 8]) ∧ Fr [] w w' := by
  have hs0 : (st != 0) = true := by simp [hst]
  go_enter Try.func26, Try.ntmps26
  go_wp2_with (first
    | (go_at_call 35; refine (dialNone_any d u s p c un st conn er tr _ h).mono ?_; rintro e w' ⟨rfl, rfl⟩)
    | (go_at_call 37; refine (dead_ok _ hn).mono ?_; rintro e w1 ⟨rfl, f1⟩; have c5 := (h.new f1).c5))
  go_ret2
  exact ⟨rfl, f1⟩
theorem dialTry_over (now : Int) (w : World) (h : DialIs w d u s p c un 0 conn er tr) (hn : NetIs w n r m lm cm names ls cs) (ho : passB un now = true) :
    Calls Try.prog 26 #[.pointer (some ⟨d, 0, none⟩), .pointer (some ⟨n, 0, none⟩), .int .u64 now] w fun e w' => e = .returned (.tuple #[.int .i64 0, .int .i64 12]) ∧ DialIs w' d u s p c un 2 conn 12 tr ∧ Fr [d] w w' := by
  have HO := Lib.hid ho
  clear ho
  go_enter Try.func26, Try.ntmps26
  go_wp2_with (first
    | (go_at_call 35; refine (dialNone_any d u s p c un 0 conn er tr _ h).mono ?_; rintro e w' ⟨rfl, rfl⟩)
    | (go_at_call 37; refine (dead_ok _ hn).mono ?_; rintro e w1 ⟨rfl, f1⟩; have c5 := (h.new f1).c5; have c4 := (h.new f1).c4)
    | (go_at_call 30; refine (over_any u un now _ (h.new f1).cu).mono ?_; rintro e w' ⟨rfl, rfl⟩; rw [HO.out])
    | (go_at_call 36; refine (dialFail_any d u s p c un 0 conn er tr _ 12 (h.new f1)).mono ?_; rintro e w2 ⟨rfl, h2, f2⟩))
  go_ret2
  exact ⟨rfl, h2, (f1.mono (fun x hx => by cases hx)).trans f2 (fun x hx _ => hx)⟩
end
end Go.Proofs.Ytgbmenfmaphciaa
namespace Go.Proofs.Ytgbmenfmaphciaa
open Go.RowKit
open Go.Maps (Keyed)
set_option linter.unusedVariables false
set_option maxRecDepth 100000
set_option maxHeartbeats 4000000

theorem setOne {a : Nat} {o o1 : Nat} {v v1 : Value} {w : World} (h : w.cell? ⟨a, o, none⟩ = some v) (h1 : o1 ≠ o := by decide) : (w.setCell ⟨a, o1, none⟩ v1).cell? ⟨a, o, none⟩ = some v :=
  (World.cell?_setCell_other _ _ _ _ (fun e => h1 (by injection e))).trans h

section
variable {n r m lm cm : Nat} {names ls cs : List (Value × Value)}
variable (d u : Nat) (s : ByteArray) (p un conn er tr : Int) (c : Nat)
/-- Try where the time has not passed: the tries grow by one, and the end hangs on Connect's. R says what Connect has done. -/
theorem dialTry_go (now k fe : Int) (S : List Nat) (R : World → Prop) (hR : ∀ a b : World, R a → Fr [d] a b → R b) (w : World) (h : DialIs w d u s p c un 0 conn er tr) (hn : NetIs w n r m lm cm names ls cs) (ho : passB un now = false)
    (htr : 0 ≤ tr) (htr' : tr ≤ 1000000000) (hdn : d ∉ [n, r, m, lm, cm]) (hdS : d ∉ S) (huS : u ∉ S)
    (hC : ∀ W, Fr [d] w W → Calls Try.prog 50 #[.pointer (some ⟨n, 0, none⟩), .agg #[.string s, .int .i64 p], .int .i64 c] W fun e w' => e = .returned (.tuple #[.int .i64 k, .int .i64 fe]) ∧ R w' ∧ Fr S W w') :
    Calls Try.prog 26 #[.pointer (some ⟨d, 0, none⟩), .pointer (some ⟨n, 0, none⟩), .int .u64 now] w fun e w' => e = .returned (.tuple #[.int .i64 (if fe = 0 ∨ fe = 16 then k else 0), .int .i64 fe]) ∧ DialIs w' d u s p c un (if fe = 0 then 1 else if fe = 16 then 0 else 2) (if fe = 0 then k else conn) (if fe = 0 ∨ fe = 16 then er else fe) (tr + 1) ∧ R w' ∧ Fr (d :: S) w w' := by
  have hdlt := cell_lt h.c0
  have hult := cell_lt h.cu
  have hne := h.ne
  have HO := Lib.hid ho
  have HC := Lib.hid hC
  have HR := Lib.hid hR
  clear ho hC hR
  go_enter Try.func26, Try.ntmps26
  go_wp2_with (first
    | (go_at_call 35; refine (dialNone_any d u s p c un 0 conn er tr _ h).mono ?_; rintro e w' ⟨rfl, rfl⟩)
    | (go_at_call 37; refine (dead_ok _ hn).mono ?_; rintro e w1 ⟨rfl, f1⟩; have c5 := (h.new f1).c5; have c4 := (h.new f1).c4; have c8 := (h.new f1).c8; have hfz := (h.new f1).free)
    | (go_at_call 30; refine (over_any u un now _ (h.new f1).cu).mono ?_; rintro e w' ⟨rfl, rfl⟩; rw [HO.out]))
  have f2 : Fr [d] w1 (w1.setCell ⟨d, 8, none⟩ (.int .i64 (tr + 1))) := (Fr.refl _ w1).setCell (fun _ => by simp) _
  have h1 := h.new f1
  have h2 : DialIs (w1.setCell ⟨d, 8, none⟩ (.int .i64 (tr + 1))) d u s p c un 0 conn er (tr + 1) :=
    ⟨setOne h1.c0, setOne h1.c1, setOne h1.c2, setOne h1.c3, setOne h1.c4, setOne h1.c5, setOne h1.c6, setOne h1.c7, World.cell?_setCell_same _ _ _ h1.c8, fun o => by simpa using h1.free o, f2.keep h1.cu (by simp; omega), h.ne⟩
  have g2 : Fr [d] w (w1.setCell ⟨d, 8, none⟩ (.int .i64 (tr + 1))) := (f1.mono (fun x hx => by cases hx)).trans f2 (fun x hx _ => hx)
  clear c4 c5 c8 hfz f2 h1
  generalize w1.setCell ⟨d, 8, none⟩ (.int .i64 (tr + 1)) = w2 at h2 g2 ⊢
  have c0 := h2.c0
  have c1 := h2.c1
  have c2 := h2.c2
  go_cut [8, 9] from 39 to 51 (fun s8 s9 wc => s8 = .int .i64 k ∧ s9 = .int .i64 fe ∧ R wc ∧ Fr S w2 wc)
  case first => --D
    go_region_with (go_at_call 50; refine (HC.out _ (g2.drewN 1)).mono ?_; rintro e w3 ⟨rfl, hr3, f3⟩)
    all_goals go_wp2
    all_goals go_meet
    case' rel => skip
    all_goals exact ⟨rfl, rfl, hr3, f3.behind⟩
  case rest =>
    obtain ⟨rfl, rfl, hr3, f3⟩ := hcut
    have h3 := h2.keep f3 hdS huS
    have g3 : Fr (d :: S) w wc := (g2.mono (T := d :: S) (fun x hx _ => by simp at hx; simp [hx])).trans f3 (fun x hx _ => by simp [hx])
    clear c0 c1 c2 h2 g2 f3
    by_cases hz : fe = 0
    · subst hz
      have c5 := h3.c5
      have c6 := h3.c6
      have hfz := h3.free
      go_wp2
      go_ret2
      have fE : Fr [d] wc ((wc.setCell ⟨d, 5, none⟩ (.int .i64 1)).setCell ⟨d, 6, none⟩ (.int .i64 k)) := ((Fr.refl _ wc).setCell (fun _ => by simp) _).setCell (fun _ => by simp) _
      refine ⟨rfl, ⟨setTwo h3.c0, setTwo h3.c1, setTwo h3.c2, setTwo h3.c3, setTwo h3.c4, (World.cell?_setCell_other _ _ _ _ (by simp)).trans (World.cell?_setCell_same _ _ _ h3.c5), World.cell?_setCell_same _ _ _ ((World.cell?_setCell_other _ _ _ _ (by simp)).trans h3.c6), setTwo h3.c7, setTwo h3.c8, fun o => by simpa using h3.free o, fE.keep h3.cu (by simp; omega), h.ne⟩, HR.out _ _ hr3 fE, g3.trans fE (fun x hx _ => by simp at hx; simp [hx])⟩
    · have hz0 : (fe == 0) = false := by simp [hz]
      by_cases hb : fe = 16
      · subst hb
        go_wp2
        go_ret2
        exact ⟨rfl, h3, hr3, g3⟩
      · have hb0 : (fe != 16) = true := by simp [hb]
        have HZ := Lib.hid hz
        have HB := Lib.hid hb
        clear hz hb
        go_wp2_with (go_at_call 36; refine (dialFail_any d u s p c un 0 conn er (tr + 1) _ fe h3).mono ?_; rintro e w4 ⟨rfl, h4, f4⟩)
        go_ret2
        exact ⟨rfl, h4, HR.out _ _ hr3 f4, g3.trans f4 (fun x hx _ => by simp at hx; simp [hx])⟩
end
end Go.Proofs.Ytgbmenfmaphciaa
