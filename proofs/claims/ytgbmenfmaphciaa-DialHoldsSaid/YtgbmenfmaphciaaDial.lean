/- Contracts of dial's New, none, fail, State, Tries, Until, Give. -/
import Derived.Test.YtgbmenfmaphciaaPair
namespace Go.Proofs.Ytgbmenfmaphciaa
open Go.RowKit
open Go.Maps (Keyed)
set_option linter.unusedVariables false

def passB (a b : Int) : Bool := (b != 18446744073709551615) && decide (a ≤ b)
/-- A dialing in block d whose time lies in block u too. -/
structure DialIs (w : World) (d u : Nat) (s : ByteArray) (p c un st conn er tr : Int) : Prop where
  c0 : w.cell? ⟨d, 0, none⟩ = some (.string s)
  c1 : w.cell? ⟨d, 1, none⟩ = some (.int .i64 p)
  c2 : w.cell? ⟨d, 2, none⟩ = some (.int .i64 c)
  c3 : w.cell? ⟨d, 3, none⟩ = some (.int .u64 un)
  c4 : w.cell? ⟨d, 4, none⟩ = some (.func (.func 30) #[] #[.pointer (some ⟨u, 0, none⟩)])
  c5 : w.cell? ⟨d, 5, none⟩ = some (.int .i64 st)
  c6 : w.cell? ⟨d, 6, none⟩ = some (.int .i64 conn)
  c7 : w.cell? ⟨d, 7, none⟩ = some (.int .i64 er)
  c8 : w.cell? ⟨d, 8, none⟩ = some (.int .i64 tr)
  free : ∀ o, w.frozen? ⟨d, o, none⟩ = false
  cu : w.cell? ⟨u, 0, none⟩ = some (.int .u64 un)
  ne : d ≠ u
theorem DialIs.keep {S : List Nat} {w w' : World} {d u : Nat} {s : ByteArray} {p c un st conn er tr : Int} (h : DialIs w d u s p c un st conn er tr) (hf : Fr S w w') (h1 : d ∉ S) (h2 : u ∉ S) : DialIs w' d u s p c un st conn er tr :=
  ⟨hf.keep h.c0 h1, hf.keep h.c1 h1, hf.keep h.c2 h1, hf.keep h.c3 h1, hf.keep h.c4 h1, hf.keep h.c5 h1, hf.keep h.c6 h1, hf.keep h.c7 h1, hf.keep h.c8 h1, fun o => by rw [hf.frozen (cell_lt h.c0) h1]; exact h.free o, hf.keep h.cu h2, h.ne⟩
theorem DialIs.new {w w' : World} {d u : Nat} {s : ByteArray} {p c un st conn er tr : Int} (h : DialIs w d u s p c un st conn er tr) (hf : Fr [] w w') : DialIs w' d u s p c un st conn er tr := h.keep hf (by simp) (by simp)

set_option maxRecDepth 100000 in
set_option maxHeartbeats 1000000 in
theorem passed_any (a b : Int) (w : World) :
    Calls Try.prog 31 #[.int .u64 a, .int .u64 b] w fun e w' => e = .returned (.bool (passB a b)) ∧ w = w' := by
  unfold passB
  by_cases hb : b = 18446744073709551615
  · subst hb
    go_enter Try.func31, Try.ntmps31
    go_wp2
    go_ret
    exact ⟨by simp, rfl⟩
  · have h0 : (b != 18446744073709551615) = true := by simp [hb]
    by_cases hl : a ≤ b
    · go_enter Try.func31, Try.ntmps31
      go_wp2
      go_ret
      exact ⟨by simp [hb, hl], rfl⟩
    · go_enter Try.func31, Try.ntmps31
      go_wp2
      go_ret
      exact ⟨by simp; omega, rfl⟩

set_option maxRecDepth 100000 in
set_option maxHeartbeats 1000000 in
theorem over_any (u : Nat) (un now : Int) (w : World) (h : w.cell? ⟨u, 0, none⟩ = some (.int .u64 un)) :
    Calls Try.prog 30 #[.int .u64 now, .pointer (some ⟨u, 0, none⟩)] w fun e w' => e = .returned (.bool (passB un now)) ∧ w = w' := by
  go_enter Try.func30, Try.ntmps30
  go_wp2_with (go_at_call 31; refine (passed_any un now _).mono ?_; rintro e w' ⟨rfl, rfl⟩)
  go_ret
  exact ⟨rfl, rfl⟩

section
variable (d u : Nat) (s : ByteArray) (p c un st conn er tr : Int) (w : World)
set_option maxRecDepth 100000
set_option maxHeartbeats 1000000

theorem dialNone_any (h : DialIs w d u s p c un st conn er tr) :
    Calls Try.prog 35 #[.pointer (some ⟨d, 0, none⟩)] w fun e w' => e = .returned (.bool false) ∧ w = w' := by
  have c4 := h.c4
  have heq : ∀ W : World, (binOp BinOp.eql 42 (.func (.func 30) #[] #[.pointer (some ⟨u, 0, none⟩)]) .nilFunc).run Try.prog W = .ok (.bool false) W := fun W => by kernel_rfl
  go_enter Try.func35, Try.ntmps35
  go_wp2
  go_ret
  exact ⟨rfl, rfl⟩
theorem dialNone_nil :
    Calls Try.prog 35 #[.pointer none] w fun e w' => e = .returned (.bool true) ∧ w = w' := by
  go_enter Try.func35, Try.ntmps35
  go_wp2
  go_ret
  exact ⟨rfl, rfl⟩
theorem dialNone_zero (h : w.cell? ⟨d, 4, none⟩ = some .nilFunc) :
    Calls Try.prog 35 #[.pointer (some ⟨d, 0, none⟩)] w fun e w' => e = .returned (.bool true) ∧ w = w' := by
  have heq : ∀ W : World, (binOp BinOp.eql 42 .nilFunc .nilFunc).run Try.prog W = .ok (.bool true) W := fun W => by kernel_rfl
  go_enter Try.func35, Try.ntmps35
  go_wp2
  go_ret
  exact ⟨rfl, rfl⟩
/-- No dialing: nil, or zero. -/
def NoDial (w : World) (v : Value) : Prop := v = .pointer none ∨ ∃ d, v = .pointer (some ⟨d, 0, none⟩) ∧ w.cell? ⟨d, 4, none⟩ = some .nilFunc
theorem dialNone_no {v : Value} (h : NoDial w v) :
    Calls Try.prog 35 #[v] w fun e w' => e = .returned (.bool true) ∧ w = w' := by
  rcases h with rfl | ⟨d, rfl, h⟩
  · exact dialNone_nil w
  · exact dialNone_zero d w h

theorem dialState_any (h : DialIs w d u s p c un st conn er tr) :
    Calls Try.prog 25 #[.pointer (some ⟨d, 0, none⟩)] w fun e w' => e = .returned (.tuple #[.int .i64 st, .int .i64 conn, .int .i64 er]) ∧ Fr [] w w' := by
  have c5 := h.c5
  have c6 := h.c6
  have c7 := h.c7
  go_enter Try.func25, Try.ntmps25
  go_wp2_with (go_at_call 35; refine (dialNone_any d u s p c un st conn er tr _ h).mono ?_; rintro e w' ⟨rfl, rfl⟩)
  go_quiet (fail)
  go_wp2
  go_ret3
  exact ⟨rfl, (Fr.refl [] w).drewN _⟩
theorem dialState_no {v : Value} (h : NoDial w v) :
    Calls Try.prog 25 #[v] w fun e w' => e = .returned (.tuple #[.int .i64 0, .int .i64 0, .int .i64 0]) ∧ w = w' := by
  go_enter Try.func25, Try.ntmps25
  go_wp2_with (go_at_call 35; refine (dialNone_no _ h).mono ?_; rintro e w' ⟨rfl, rfl⟩)
  go_ret3
  exact ⟨rfl, rfl⟩
theorem dialTries_any (h : DialIs w d u s p c un st conn er tr) :
    Calls Try.prog 16 #[.pointer (some ⟨d, 0, none⟩)] w fun e w' => e = .returned (.int .i64 tr) ∧ w = w' := by
  have c8 := h.c8
  go_enter Try.func16, Try.ntmps16
  go_wp2_with (go_at_call 35; refine (dialNone_any d u s p c un st conn er tr _ h).mono ?_; rintro e w' ⟨rfl, rfl⟩)
  go_ret
  exact ⟨rfl, rfl⟩
theorem dialTries_no {v : Value} (h : NoDial w v) :
    Calls Try.prog 16 #[v] w fun e w' => e = .returned (.int .i64 0) ∧ w = w' := by
  go_enter Try.func16, Try.ntmps16
  go_wp2_with (go_at_call 35; refine (dialNone_no _ h).mono ?_; rintro e w' ⟨rfl, rfl⟩)
  go_ret
  exact ⟨rfl, rfl⟩
theorem dialUntil_any (h : DialIs w d u s p c un st conn er tr) :
    Calls Try.prog 17 #[.pointer (some ⟨d, 0, none⟩)] w fun e w' => e = .returned (.int .u64 un) ∧ w = w' := by
  have c3 := h.c3
  go_enter Try.func17, Try.ntmps17
  go_wp2_with (go_at_call 35; refine (dialNone_any d u s p c un st conn er tr _ h).mono ?_; rintro e w' ⟨rfl, rfl⟩)
  go_ret
  exact ⟨rfl, rfl⟩
theorem dialUntil_no {v : Value} (h : NoDial w v) :
    Calls Try.prog 17 #[v] w fun e w' => e = .returned (.int .u64 0) ∧ w = w' := by
  go_enter Try.func17, Try.ntmps17
  go_wp2_with (go_at_call 35; refine (dialNone_no _ h).mono ?_; rintro e w' ⟨rfl, rfl⟩)
  go_ret
  exact ⟨rfl, rfl⟩
theorem dialCopy_no {v : Value} (h : NoDial w v) :
    Calls Try.prog 18 #[v] w fun e w' => e = .returned (.pointer none) ∧ w = w' := by
  go_enter Try.func18, Try.ntmps18
  go_wp2_with (go_at_call 35; refine (dialNone_no _ h).mono ?_; rintro e w' ⟨rfl, rfl⟩)
  go_ret
  exact ⟨rfl, rfl⟩
theorem dialGive_no {v : Value} (h : NoDial w v) :
    Calls Try.prog 14 #[v] w fun e w' => e = .returned (.int .i64 1) ∧ w = w' := by
  go_enter Try.func14, Try.ntmps14
  go_wp2_with (go_at_call 35; refine (dialNone_no _ h).mono ?_; rintro e w' ⟨rfl, rfl⟩)
  go_ret
  exact ⟨rfl, rfl⟩
theorem dialGive_state (h : DialIs w d u s p c un st conn er tr) (hst : st ≠ 0) :
    Calls Try.prog 14 #[.pointer (some ⟨d, 0, none⟩)] w fun e w' => e = .returned (.int .i64 8) ∧ w = w' := by
  have c5 := h.c5
  have hs0 : (st != 0) = true := by simp [hst]
  go_enter Try.func14, Try.ntmps14
  go_wp2_with (go_at_call 35; refine (dialNone_any d u s p c un st conn er tr _ h).mono ?_; rintro e w' ⟨rfl, rfl⟩)
  go_ret
  exact ⟨rfl, rfl⟩
theorem setTwo {a : Nat} {o o1 o2 : Nat} {v v1 v2 : Value} {w : World} (h : w.cell? ⟨a, o, none⟩ = some v) (h1 : o1 ≠ o := by decide) (h2 : o2 ≠ o := by decide) : ((w.setCell ⟨a, o1, none⟩ v1).setCell ⟨a, o2, none⟩ v2).cell? ⟨a, o, none⟩ = some v :=
  (World.cell?_setCell_other _ _ _ _ (by simp [h2])).trans ((World.cell?_setCell_other _ _ _ _ (by simp [h1])).trans h)
theorem dialFail_any (x : Int) (h : DialIs w d u s p c un st conn er tr) :
    Calls Try.prog 36 #[.pointer (some ⟨d, 0, none⟩), .int .i64 x] w fun e w' => e = .returned (.int .i64 x) ∧ DialIs w' d u s p c un 2 conn x tr ∧ Fr [d] w w' := by
  have c5 := h.c5
  have c7 := h.c7
  have hf := h.free
  go_enter Try.func36, Try.ntmps36
  go_wp2
  go_ret
  have fE : Fr [d] w ((w.setCell ⟨d, 5, none⟩ (.int .i64 2)).setCell ⟨d, 7, none⟩ (.int .i64 x)) := ((Fr.refl _ w).setCell (fun _ => by simp) _).setCell (fun _ => by simp) _
  have hne := h.ne
  exact ⟨rfl, ⟨setTwo h.c0, setTwo h.c1, setTwo h.c2, setTwo h.c3, setTwo h.c4, (World.cell?_setCell_other _ _ _ _ (by simp)).trans (World.cell?_setCell_same _ _ _ h.c5), setTwo h.c6, World.cell?_setCell_same _ _ _ ((World.cell?_setCell_other _ _ _ _ (by simp)).trans h.c7), setTwo h.c8, fun o => by simpa using h.free o, fE.keep h.cu (by simp; omega), h.ne⟩, fE⟩
end
end Go.Proofs.Ytgbmenfmaphciaa
