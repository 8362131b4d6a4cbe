/- Contracts of the law's own to, tries, stands. -/
import Derived.Test.YtgbmenfmaphciaaTry3
namespace Go.Proofs.Ytgbmenfmaphciaa
open Go.RowKit
open Go.Maps (Keyed)
set_option linter.unusedVariables false
set_option maxRecDepth 100000
set_option maxHeartbeats 4000000

theorem to_any (s : ByteArray) (p : Int) (w : World) :
    Calls Try.prog 19 #[.string s, .int .i64 p] w fun e w' => e = .returned (.agg #[.string s, .int .i64 p]) ∧ Fr [] w w' := by
  go_enter Try.func19, Try.ntmps19
  go_wp2
  refine bodyPost_ret (v := .agg #[.string s, .int .i64 p]) (by simp [results, Try.results19, go_sem]) rfl ⟨rfl, ?_⟩
  first | exact (Fr.refl [] w).alloc _ | exact (((Fr.refl [] w).alloc _).setCell (by simp) _).setCell (by simp) _

theorem tries_any {dv nv : Value} (now k f conn e0 : Int) (Q : World → Prop) (w : World)
    (hT : Calls Try.prog 26 #[dv, nv, .int .u64 now] w fun e w' => e = .returned (.tuple #[.int .i64 k, .int .i64 f]) ∧ Q w') :
    Calls Try.prog 13 #[dv, nv, .int .u64 now, .int .i64 conn, .int .i64 e0] w fun e w' => e = .returned (.bool ((k == conn) && (f == e0))) ∧ Q w' := by
  have HT := Lib.hid hT
  clear hT
  by_cases h1 : k = conn
  · subst h1
    cases h2 : f == e0
    · go_enter Try.func13, Try.ntmps13
      go_wp2_with (go_at_call 26; refine HT.out.mono ?_; rintro e w1 ⟨rfl, q1⟩)
      go_ret
      exact ⟨by simp, q1⟩
    · go_enter Try.func13, Try.ntmps13
      go_wp2_with (go_at_call 26; refine HT.out.mono ?_; rintro e w1 ⟨rfl, q1⟩)
      go_ret
      exact ⟨by simp, q1⟩
  · have h1' : (k == conn) = false := by simp [h1]
    go_enter Try.func13, Try.ntmps13
    go_wp2_with (go_at_call 26; refine HT.out.mono ?_; rintro e w1 ⟨rfl, q1⟩)
    go_ret
    exact ⟨by simp [h1], q1⟩

theorem stands_any {dv : Value} (a b c st conn e0 : Int) (Q : World → Prop) (w : World)
    (hT : Calls Try.prog 25 #[dv] w fun e w' => e = .returned (.tuple #[.int .i64 a, .int .i64 b, .int .i64 c]) ∧ Q w') :
    Calls Try.prog 15 #[dv, .int .i64 st, .int .i64 conn, .int .i64 e0] w fun e w' => e = .returned (.bool ((a == st) && (b == conn) && (c == e0))) ∧ Q w' := by
  have HT := Lib.hid hT
  clear hT
  cases h1 : a == st
  · go_enter Try.func15, Try.ntmps15
    go_wp2_with (go_at_call 25; refine HT.out.mono ?_; rintro e w1 ⟨rfl, q1⟩)
    go_ret
    exact ⟨by simp, q1⟩
  · cases h2 : b == conn
    · go_enter Try.func15, Try.ntmps15
      go_wp2_with (go_at_call 25; refine HT.out.mono ?_; rintro e w1 ⟨rfl, q1⟩)
      go_ret
      exact ⟨by simp, q1⟩
    · cases h3 : c == e0
      · go_enter Try.func15, Try.ntmps15
        go_wp2_with (go_at_call 25; refine HT.out.mono ?_; rintro e w1 ⟨rfl, q1⟩)
        go_ret
        exact ⟨by simp, q1⟩
      · go_enter Try.func15, Try.ntmps15
        go_wp2_with (go_at_call 25; refine HT.out.mono ?_; rintro e w1 ⟨rfl, q1⟩)
        go_ret
        exact ⟨by simp, q1⟩
end Go.Proofs.Ytgbmenfmaphciaa
