/- Contracts of dial's New, dead and Try. -/
import Derived.Test.YtgbmenfmaphciaaDial
namespace Go.Proofs.Ytgbmenfmaphciaa
open Go.RowKit
open Go.Maps (Keyed)
set_option linter.unusedVariables false
set_option maxRecDepth 100000
set_option maxHeartbeats 2000000

theorem dialNew_ok (s : ByteArray) (p un : Int) (c : Nat) (w : World) (hs : s.size ≤ 1000000) (hv : addrB s.data.toList p = true) (hp : (p == 0) = false) (hc : c ≤ 4096) :
    Calls Try.prog 9 #[.agg #[.string s, .int .i64 p], .int .i64 c, .int .u64 un] w fun e w' => ∃ d u, e = .returned (.tuple #[.pointer (some ⟨d, 0, none⟩), .int .i64 0]) ∧ DialIs w' d u s p c un 0 0 0 0 ∧ w.heap.size ≤ d ∧ w.heap.size ≤ u ∧ Fr [] w w' := by
  have HV := Lib.hid hv
  clear hv
  have f0 : Fr [] w ((w.alloc (.cells #[.string s, .int .i64 p] 23)).alloc (.cells #[.int .u64 un] 25)) := ((Fr.refl [] w).alloc _).alloc _
  go_enter Try.func9, Try.ntmps9
  go_wp2_with (first
    | (go_at_call 28; refine (dupNew_ok c hc _).mono ?_; rintro e w1 ⟨dd, rfl, hd, f1⟩; have k0 : w1.cell? ⟨w.heap.size, 0, none⟩ = some (.string s) := f1.keep (by simp) (by simp); have k1 : w1.cell? ⟨w.heap.size, 1, none⟩ = some (.int .i64 p) := f1.keep (by simp) (by simp); have k2 : w1.cell? ⟨w.heap.size + 1, 0, none⟩ = some (.int .u64 un) := f1.keep (by simp) (by simp))
    | (go_at_call 29; refine (valid_any s p hs _).mono ?_; rintro e w2 ⟨rfl, f2⟩; rw [HV.out]; have j0 := f2.keep k0 (by simp); have j1 := f2.keep k1 (by simp); have j2 := f2.keep k2 (by simp)))
  go_ret2
  have z := (f1.step f2).size
  have z0 : w.heap.size + 2 ≤ w2.heap.size := by simpa using z
  refine ⟨w2.heap.size, w.heap.size + 1, rfl, ⟨by simp, by simp, by simp, by simp, by simp, by simp, by simp, by simp, by simp, fun o => by simp, ?_, by omega⟩, by omega, by omega, ((f0.step f1).step f2).alloc _⟩
  exact ((Fr.refl [] w2).alloc _).keep j2 (by simp)

theorem dialNew_bad (s : ByteArray) (p c un : Int) (w : World) (hs : s.size ≤ 1000000) (h : addrB s.data.toList p = false ∨ p = 0 ∨ c < 0 ∨ 4096 < c) :
    Calls Try.prog 9 #[.agg #[.string s, .int .i64 p], .int .i64 c, .int .u64 un] w fun e w' => e = .returned (.tuple #[.pointer none, .int .i64 2]) ∧ Fr [] w w' := by
  have f0 : Fr [] w ((w.alloc (.cells #[.string s, .int .i64 p] 23)).alloc (.cells #[.int .u64 un] 25)) := ((Fr.refl [] w).alloc _).alloc _
  have hdup : ∀ W : World, Calls Try.prog 28 #[.int .i64 c, .int .i64 c] W fun e w' => ∃ v er, e = .returned (.tuple #[.pointer v, .int .i64 er]) ∧ (er = 0 ∨ er = 2) ∧ (er = 0 → ¬ (c < 0 ∨ 4096 < c)) ∧ Fr [] W w' := by
    intro W
    by_cases hc : c < 0 ∨ 4096 < c
    · refine (dupNew_bad c hc W).mono ?_
      rintro e w' ⟨rfl, hf⟩
      exact ⟨_, _, rfl, .inr rfl, by omega, hf⟩
    · obtain ⟨k, rfl⟩ : ∃ k : Nat, c = k := ⟨c.toNat, by omega⟩
      refine (dupNew_ok k (by omega) W).mono ?_
      rintro e w' ⟨d, rfl, _, hf⟩
      exact ⟨_, _, rfl, .inl rfl, fun _ => hc, hf⟩
  have H := Lib.hid h
  have HD := Lib.hid hdup
  clear h hdup
  go_enter Try.func9, Try.ntmps9
  go_wp2_with fail
  refine (HD.out _).mono ?_
  rintro e w1 ⟨dv, er, rfl, her, hce, f1⟩
  have k0 : w1.cell? ⟨w.heap.size, 0, none⟩ = some (.string s) := f1.keep (by simp) (by simp)
  have k1 : w1.cell? ⟨w.heap.size, 1, none⟩ = some (.int .i64 p) := f1.keep (by simp) (by simp)
  have HCE := Lib.hid hce
  clear hce
  have HV : Hid (addrB s.data.toList p = addrB s.data.toList p) := Lib.hid rfl
  rcases her with rfl | rfl
  · cases hb : addrB s.data.toList p
    · have HB := Lib.hid hb
      clear hb
      go_wp2_with (go_at_call 29; refine (valid_any s p hs _).mono ?_; rintro e w2 ⟨rfl, f2⟩; rw [HB.out])
      go_ret2
      exact ⟨rfl, (f0.step f1).step f2⟩
    · have hp : p = 0 := by
        rcases H.out with h | h | h
        · rw [hb] at h; cases h
        · exact h
        · exact absurd h (HCE.out rfl)
      subst hp
      have HB := Lib.hid hb
      clear hb
      go_wp2_with (go_at_call 29; refine (valid_any s 0 hs _).mono ?_; rintro e w2 ⟨rfl, f2⟩; rw [HB.out]; have j1 := f2.keep k1 (by simp))
      go_ret2
      exact ⟨rfl, (f0.step f1).step f2⟩
  · cases hb : addrB s.data.toList p
    · have HB := Lib.hid hb
      clear hb
      go_wp2_with (go_at_call 29; refine (valid_any s p hs _).mono ?_; rintro e w2 ⟨rfl, f2⟩; rw [HB.out])
      go_ret2
      exact ⟨rfl, (f0.step f1).step f2⟩
    · have HB := Lib.hid hb
      clear hb
      by_cases hp : p = 0
      · subst hp
        go_wp2_with (go_at_call 29; refine (valid_any s 0 hs _).mono ?_; rintro e w2 ⟨rfl, f2⟩; rw [HB.out]; have j1 := f2.keep k1 (by simp))
        go_ret2
        exact ⟨rfl, (f0.step f1).step f2⟩
      · have hp0 : (p == 0) = false := by simp [hp]
        go_wp2_with (go_at_call 29; refine (valid_any s p hs _).mono ?_; rintro e w2 ⟨rfl, f2⟩; rw [HB.out]; have j1 := f2.keep k1 (by simp))
        go_ret2
        exact ⟨rfl, (f0.step f1).step f2⟩
end Go.Proofs.Ytgbmenfmaphciaa
