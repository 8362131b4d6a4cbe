/- Contracts of dial's dead and Try. -/
import Derived.Test.YtgbmenfmaphciaaTry
import Derived.Deep.RegionWith
import Derived.Deep.CutRange
namespace Go.Proofs.Ytgbmenfmaphciaa
open Go.RowKit
open Go.Maps (Keyed)
set_option linter.unusedVariables false
set_option maxRecDepth 100000
set_option maxHeartbeats 2000000

/-- No net: nil, or zero. -/
def NoNet (w : World) (v : Value) : Prop := v = .pointer none ∨ ∃ n, v = .pointer (some ⟨n, 0, none⟩) ∧ w.cell? ⟨n, 0, none⟩ = some (.pointer none)
theorem NoNet.new {w w' : World} {v : Value} (h : NoNet w v) (hf : Fr [] w w') : NoNet w' v := by
  rcases h with h | ⟨n, h, h1⟩
  · exact .inl h
  · exact .inr ⟨n, h, hf.keep h1 (by simp)⟩
theorem NoDial.new {w w' : World} {v : Value} (h : NoDial w v) (hf : Fr [] w w') : NoDial w' v := by
  rcases h with h | ⟨n, h, h1⟩
  · exact .inl h
  · exact .inr ⟨n, h, hf.keep h1 (by simp)⟩

theorem netNone_no {v : Value} (w : World) (h : NoNet w v) :
    Calls Try.prog 41 #[v] w fun e w' => e = .returned (.bool true) ∧ w = w' := by
  rcases h with rfl | ⟨n, rfl, h⟩
  · go_enter Try.func41, Try.ntmps41
    go_wp2
    go_ret
    exact ⟨rfl, rfl⟩
  · go_enter Try.func41, Try.ntmps41
    go_wp2
    go_ret
    exact ⟨rfl, rfl⟩

theorem netFind_no {v : Value} (s : ByteArray) (p : Int) (w : World) (h : NoNet w v) :
    Calls Try.prog 24 #[v, .agg #[.string s, .int .i64 p]] w fun e w' => e = .returned (.tuple #[.int .i64 0, .int .i64 1]) ∧ Fr [] w w' := by
  have f0 : Fr [] w (w.alloc (.cells #[.string s, .int .i64 p] 23)) := (Fr.refl [] w).alloc _
  have h0 := h.new f0
  go_enter Try.func24, Try.ntmps24
  go_wp2_with (go_at_call 41; refine (netNone_no _ h0).mono ?_; rintro e w' ⟨rfl, rfl⟩)
  go_ret2
  exact ⟨rfl, f0⟩

theorem dead_no {v : Value} (w : World) (h : NoNet w v) :
    Calls Try.prog 37 #[v] w fun e w' => e = .returned (.bool true) ∧ Fr [] w w' := by
  go_enter Try.func37, Try.ntmps37
  go_wp2_with (go_at_call 24; refine (netFind_no ⟨#[]⟩ 0 _ h).mono ?_; rintro e w' ⟨rfl, f1⟩)
  go_ret
  exact ⟨rfl, f1⟩

section
variable {n r m lm cm : Nat} {names ls cs : List (Value × Value)}
theorem dead_ok (w : World) (h : NetIs w n r m lm cm names ls cs) :
    Calls Try.prog 37 #[.pointer (some ⟨n, 0, none⟩)] w fun e w' => e = .returned (.bool false) ∧ Fr [] w w' := by
  go_enter Try.func37, Try.ntmps37
  go_wp2_with (go_at_call 24; refine (netFind_bad ⟨#[]⟩ 0 _ h (by decide) (by decide)).mono ?_; rintro e w' ⟨rfl, f1⟩)
  go_ret
  exact ⟨rfl, f1⟩

theorem dialTry_nod {v nv : Value} (now : Int) (w : World) (h : NoDial w v) :
    Calls Try.prog 26 #[v, nv, .int .u64 now] w fun e w' => e = .returned (.tuple #[.int .i64 0, .int .i64 1]) ∧ w = w' := by
  go_enter Try.func26, Try.ntmps26
  go_wp2_with (go_at_call 35; refine (dialNone_no _ h).mono ?_; rintro e w' ⟨rfl, rfl⟩)
  go_ret2
  exact ⟨rfl, rfl⟩

variable (d u : Nat) (s : ByteArray) (p un st conn er tr : Int) (c : Nat)
theorem dialTry_non {nv : Value} (now : Int) (w : World) (h : DialIs w d u s p c un st conn er tr) (hn : NoNet w nv) :
    Calls Try.prog 26 #[.pointer (some ⟨d, 0, none⟩), nv, .int .u64 now] w fun e w' => e = .returned (.tuple #[.int .i64 0, .int .i64 1]) ∧ Fr [] w w' := by
  go_enter Try.func26, Try.ntmps26
  go_wp2_with (first
    | (go_at_call 35; refine (dialNone_any d u s p c un st conn er tr _ h).mono ?_; rintro e w' ⟨rfl, rfl⟩)
    | (go_at_call 37; refine (dead_no _ hn).mono ?_; rintro e w1 ⟨rfl, f1⟩))
  go_ret2
  exact ⟨rfl, f1⟩
theorem dialTry_state (now : Int) (w : World) (h : DialIs w d u s p c un st conn er tr) (hn : NetIs w n r m lm cm names ls cs) (hst : st ≠ 0) :
    Calls Try.prog 26 #[.pointer (some ⟨d, 0, none⟩), .pointer (some ⟨n, 0, none⟩), .int .u64 now] w fun e w' => e = .returned (.tuple #[.int .i64 0, .int .i64 8]) ∧ Fr [] w w' := by
  have hs0 : (st != 0) = true := by simp [hst]
  go_enter Try.func26, Try.ntmps26
  go_wp2_with (first
    | (go_at_call 35; refine (dialNone_any d u s p c un st conn er tr _ h).mono ?_; rintro e w' ⟨rfl, rfl⟩)
    | (go_at_call 37; refine (dead_ok _ hn).mono ?_; rintro e w1 ⟨rfl, f1⟩; have c5 := (h.new f1).c5))
  go_ret2
  exact ⟨rfl, f1⟩
theorem dialTry_over (now : Int) (w : World) (h : DialIs w d u s p c un 0 conn er tr) (hn : NetIs w n r m lm cm names ls cs) (ho : passB un now = true) :
    Calls Try.prog 26 #[.pointer (some ⟨d, 0, none⟩), .pointer (some ⟨n, 0, none⟩), .int .u64 now] w fun e w' => e = .returned (.tuple #[.int .i64 0, .int .i64 12]) ∧ DialIs w' d u s p c un 2 conn 12 tr ∧ Fr [d] w w' := by
  have HO := Lib.hid ho
  clear ho
  go_enter Try.func26, Try.ntmps26
  go_wp2_with (first
    | (go_at_call 35; refine (dialNone_any d u s p c un 0 conn er tr _ h).mono ?_; rintro e w' ⟨rfl, rfl⟩)
    | (go_at_call 37; refine (dead_ok _ hn).mono ?_; rintro e w1 ⟨rfl, f1⟩; have c5 := (h.new f1).c5; have c4 := (h.new f1).c4)
    | (go_at_call 30; refine (over_any u un now _ (h.new f1).cu).mono ?_; rintro e w' ⟨rfl, rfl⟩; rw [HO.out])
    | (go_at_call 36; refine (dialFail_any d u s p c un 0 conn er tr _ 12 (h.new f1)).mono ?_; rintro e w2 ⟨rfl, h2, f2⟩))
  go_ret2
  exact ⟨rfl, h2, (f1.mono (fun x hx => by cases hx)).trans f2 (fun x hx _ => hx)⟩
end
end Go.Proofs.Ytgbmenfmaphciaa
