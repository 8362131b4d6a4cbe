/- Contracts of the reference's Valid of dialings, and of the law's few (one dialing) and is. -/
import Derived.Test.YtgbmenfmaphciaaNew2
namespace Go.Proofs.Ytgbmenfmaphciaa
open Go.RowKit
open Go.Maps (Keyed)
set_option linter.unusedVariables false
set_option maxRecDepth 100000
set_option maxHeartbeats 4000000

theorem ref15New_any (c : Int) (w : World) : ∃ k x : Int, (x == 0) = capB c ∧
    Calls Try.prog 32 #[.int .i64 c, .int .i64 c] w fun e w' => e = .returned (.tuple #[connV k, .int .i64 x]) ∧ Fr [] w w' := by
  by_cases h : 0 ≤ c ∧ c ≤ 4096
  · exact ⟨c, 0, by simp [capB, h.1, h.2], ref15New_ok c w (by omega) (by omega)⟩
  · refine ⟨0, 2, ?_, ref15New_bad c w (by omega)⟩
    have : capB c = false := by
      unfold capB
      by_cases h1 : 0 ≤ c
      · simp [h1]; omega
      · simp [h1]
    rw [this]
    rfl

theorem refDialValid_any (s : ByteArray) (p c : Int) (w : World) (hs : s.size ≤ 1000000) :
    Calls Try.prog 10 #[.agg #[.string s, .int .i64 p], .int .i64 c] w fun e w' => e = .returned (.bool (addrB s.data.toList p && decide (0 < p) && capB c)) ∧ Fr [] w w' := by
  have f0 : Fr [] w (w.alloc (.cells #[.string s, .int .i64 p] 23)) := (Fr.refl [] w).alloc _
  obtain ⟨k, x, hx, HN⟩ := ref15New_any c (w.alloc (.cells #[.string s, .int .i64 p] 23))
  have HN := Lib.hid HN
  have hA : ∀ W, Calls Try.prog 33 #[.agg #[.string s, .int .i64 p]] W fun e w' => e = .returned (.bool (addrB s.data.toList p)) ∧ Fr [] W w' := fun W => refValid_any s p hs W
  generalize addrB s.data.toList p = a at hA ⊢
  have HA := Lib.hid hA
  clear hA
  generalize capB c = q at hx ⊢
  go_enter Try.func10, Try.ntmps10
  go_wp2_with fail
  refine HN.out.mono ?_
  unfold connV
  rintro e w1 ⟨rfl, f1⟩
  have f2 := f0.step f1
  have f3 : Fr [] w1 (w1.alloc (.cells #[.int .i64 k, .slice none 0 0, .bool false, .slice none 0 0, .int .i64 0, .int .i64 0, .int .i64 0, .int .i64 k, .slice none 0 0, .bool false, .slice none 0 0, .int .i64 0, .int .i64 0, .int .i64 0, .bool false, .bool false] 89)) := (Fr.refl [] w1).alloc _
  have k0 : (w1.alloc (.cells #[.int .i64 k, .slice none 0 0, .bool false, .slice none 0 0, .int .i64 0, .int .i64 0, .int .i64 0, .int .i64 k, .slice none 0 0, .bool false, .slice none 0 0, .int .i64 0, .int .i64 0, .int .i64 0, .bool false, .bool false] 89)).cell? ⟨w.heap.size, 0, none⟩ = some (.string s) := (f1.step f3).keep (by simp) (by simp)
  have k1 : (w1.alloc (.cells #[.int .i64 k, .slice none 0 0, .bool false, .slice none 0 0, .int .i64 0, .int .i64 0, .int .i64 0, .int .i64 k, .slice none 0 0, .bool false, .slice none 0 0, .int .i64 0, .int .i64 0, .int .i64 0, .bool false, .bool false] 89)).cell? ⟨w.heap.size, 1, none⟩ = some (.int .i64 p) := (f1.step f3).keep (by simp) (by simp)
  go_wp2_with fail
  refine (HA.out _).mono ?_
  rintro e w2 ⟨rfl, f4⟩
  have k1' : w2.cell? ⟨w.heap.size, 1, none⟩ = some (.int .i64 p) := f4.keep k1 (by simp)
  have fE := (f2.step f3).step f4
  subst hx
  clear k0 k1 HA HN f0 f1 f2 f3 f4
  cases a
  · go_wp2_with fail
    go_ret
    exact ⟨by simp, fE⟩
  · by_cases hp : 0 < p
    · cases hq : x == 0
      · go_wp2_with fail
        go_ret
        have hq' : x ≠ 0 := by simpa using hq
        exact ⟨by simp [hq'], fE⟩
      · go_wp2_with fail
        go_ret
        have hq' : x = 0 := by simpa using hq
        exact ⟨by simp [hp, hq'], fE⟩
    · go_wp2_with fail
      go_ret
      exact ⟨by simp; omega, fE⟩

theorem dialState_quiet (d u : Nat) (s : ByteArray) (p c un st conn er tr : Int) (w : World) (h : DialIs w d u s p c un st conn er tr) :
    Calls Try.prog 25 #[.pointer (some ⟨d, 0, none⟩)] w fun e w' => e = .returned (.tuple #[.int .i64 st, .int .i64 conn, .int .i64 er]) ∧ ∃ m, w' = w.drewN m := by
  have c5 := h.c5
  have c6 := h.c6
  have c7 := h.c7
  go_enter Try.func25, Try.ntmps25
  go_wp2_with (go_at_call 35; refine (dialNone_any d u s p c un st conn er tr _ h).mono ?_; rintro e w' ⟨rfl, rfl⟩)
  go_quiet (fail)
  go_wp2
  go_ret3
  exact ⟨rfl, _, rfl⟩

theorem stands_quiet (r : Bool) (d u : Nat) (s : ByteArray) (p c un a b x tr st conn e0 : Int) (w : World) (h : DialIs w d u s p c un a b x tr) (hr : ((a == st) && (b == conn) && (x == e0)) = r) :
    Calls Try.prog 15 #[.pointer (some ⟨d, 0, none⟩), .int .i64 st, .int .i64 conn, .int .i64 e0] w fun e w' => e = .returned (.bool r) ∧ ∃ m, w' = w.drewN m := by
  rw [← hr]
  exact stands_any a b x st conn e0 (fun W => ∃ m, W = w.drewN m) w (dialState_quiet d u s p c un a b x tr w h)

theorem is_any (d u : Nat) (s s' : ByteArray) (p c un st conn er tr p' c' un' st' conn' er' tr' : Int) (w : World) (h : DialIs w d u s p c un st conn er tr) :
    Calls Try.prog 11 #[.pointer (some ⟨d, 0, none⟩), .agg #[.string s', .int .i64 p', .int .i64 c', .int .u64 un', .int .i64 st', .int .i64 conn', .int .i64 er', .int .i64 tr']] w fun e w' =>
      e = .returned (.bool (((st == st') && (conn == conn') && (er == er')) && (tr == tr') && (un == un'))) ∧ Fr [] w w' := by
  have f0 : Fr [] w (w.alloc (.cells #[.string s', .int .i64 p', .int .i64 c', .int .u64 un', .int .i64 st', .int .i64 conn', .int .i64 er', .int .i64 tr'] 38)) := (Fr.refl [] w).alloc _
  have hd := Lib.hid (h.new f0)
  obtain ⟨r, hr⟩ : ∃ r, ((st == st') && (conn == conn') && (er == er')) = r := ⟨_, rfl⟩
  rw [hr]
  have HR := Lib.hid hr
  clear hr
  cases r
  · go_enter Try.func11, Try.ntmps11
    go_wp2_with fail
    go_quiet ((go_at_call 15; exact Calls.quiet_of (stands_quiet false d u s p c un st conn er tr _ _ _ _ (hd.out.new ((Fr.refl [] _).drewN _)) HR.out)))
    go_wp2
    go_ret
    exact ⟨by simp, f0.drewN _⟩
  · cases h1 : tr == tr'
    · go_enter Try.func11, Try.ntmps11
      go_wp2_with fail
      go_quiet (first
        | (go_at_call 15; exact Calls.quiet_of (stands_quiet true d u s p c un st conn er tr _ _ _ _ (hd.out.new ((Fr.refl [] _).drewN _)) HR.out))
        | (go_at_call 16; exact Calls.quiet_of_same ((dialTries_any d u s p c un st conn er tr _ (hd.out.new ((Fr.refl [] _).drewN _))).mono (fun _ _ h => ⟨h.1, h.2.symm⟩))))
      go_wp2
      go_ret
      exact ⟨by simp, f0.drewN _⟩
    · cases h2 : un == un'
      · go_enter Try.func11, Try.ntmps11
        go_wp2_with fail
        go_quiet (first
          | (go_at_call 15; exact Calls.quiet_of (stands_quiet true d u s p c un st conn er tr _ _ _ _ (hd.out.new ((Fr.refl [] _).drewN _)) HR.out))
          | (go_at_call 16; exact Calls.quiet_of_same ((dialTries_any d u s p c un st conn er tr _ (hd.out.new ((Fr.refl [] _).drewN _))).mono (fun _ _ h => ⟨h.1, h.2.symm⟩)))
          | (go_at_call 17; exact Calls.quiet_of_same ((dialUntil_any d u s p c un st conn er tr _ (hd.out.new ((Fr.refl [] _).drewN _))).mono (fun _ _ h => ⟨h.1, h.2.symm⟩))))
        go_wp2
        go_ret
        exact ⟨by simp, f0.drewN _⟩
      · go_enter Try.func11, Try.ntmps11
        go_wp2_with fail
        go_quiet (first
          | (go_at_call 15; exact Calls.quiet_of (stands_quiet true d u s p c un st conn er tr _ _ _ _ (hd.out.new ((Fr.refl [] _).drewN _)) HR.out))
          | (go_at_call 16; exact Calls.quiet_of_same ((dialTries_any d u s p c un st conn er tr _ (hd.out.new ((Fr.refl [] _).drewN _))).mono (fun _ _ h => ⟨h.1, h.2.symm⟩)))
          | (go_at_call 17; exact Calls.quiet_of_same ((dialUntil_any d u s p c un st conn er tr _ (hd.out.new ((Fr.refl [] _).drewN _))).mono (fun _ _ h => ⟨h.1, h.2.symm⟩))))
        go_wp2
        go_ret
        exact ⟨by simp, f0.drewN _⟩
end Go.Proofs.Ytgbmenfmaphciaa
