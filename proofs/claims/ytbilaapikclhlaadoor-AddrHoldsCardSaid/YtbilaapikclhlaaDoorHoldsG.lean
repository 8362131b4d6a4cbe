import Derived.Test.YtbilaapikclhlaaDoorHoldsB
import Derived.Test.YtbilaapikclhlaaDoorHoldsC
import Derived.Test.YtbilaapikclhlaaDoorHoldsD
import Derived.Test.YtbilaapikclhlaaDoorHoldsE
namespace Go.Proofs.YtbilaapikclhlaaDoor
open Go.RowKit Go.Sort
set_option linter.unusedVariables false
set_option maxRecDepth 100000
set_option maxHeartbeats 16000000

theorem holds_walk (s1 s2 s3 s : ByteArray) (p1 p2 p3 : Int) (w : World) (he : Env w) :
    Calls Tryd.prog 7 #[.agg #[.string s1, .int .i64 p1], .agg #[.string s2, .int .i64 p2], .agg #[.string s3, .int .i64 p3], .string s] w fun e w' => e = .returned (.bool true) ∧ Fr [] w w' := by
  have f0 : Fr [] w (((w.alloc (.cells #[.string s1, .int .i64 p1] 23)).alloc (.cells #[.string s2, .int .i64 p2] 23)).alloc (.cells #[.string s3, .int .i64 p3] 23)) := (((Fr.refl [] w).alloc _).alloc _).alloc _
  have HE := Lib.hid (he.new f0)
  by_cases h1 : 100 < (s1.size : Int)
  · go_enter Tryd.func7, Tryd.ntmps7
    go_wp2_with (go_at_call 8; refine (known_any _ HE.out).mono ?_; rintro e w1 ⟨rfl, f1⟩)
    go_ret
    exact ⟨rfl, f0.step f1⟩

  by_cases h2 : 100 < (s2.size : Int)
  · go_enter Tryd.func7, Tryd.ntmps7
    go_wp2_with (go_at_call 8; refine (known_any _ HE.out).mono ?_; rintro e w1 ⟨rfl, f1⟩)
    go_ret
    exact ⟨rfl, f0.step f1⟩

  by_cases h3 : 100 < (s3.size : Int)
  · go_enter Tryd.func7, Tryd.ntmps7
    go_wp2_with (go_at_call 8; refine (known_any _ HE.out).mono ?_; rintro e w1 ⟨rfl, f1⟩)
    go_ret
    exact ⟨rfl, f0.step f1⟩

  by_cases h4 : 100 < (s.size : Int)
  · go_enter Tryd.func7, Tryd.ntmps7
    go_wp2_with (go_at_call 8; refine (known_any _ HE.out).mono ?_; rintro e w1 ⟨rfl, f1⟩)
    go_ret
    exact ⟨rfl, f0.step f1⟩

  have l1 : s1.size ≤ 100 := by omega
  have l2 : s2.size ≤ 100 := by omega
  have l3 : s3.size ≤ 100 := by omega
  have l4 : s.size ≤ 100 := by omega
  cases hv : addrB s1.data.toList p1
  · cases hg : goodP s
    · exact holds_B s1 s2 s3 s p1 p2 p3 w he l1 l2 l3 l4 hv hg
    · exact holds_C s1 s2 s3 s p1 p2 p3 w he l1 l2 l3 l4 hv hg
  · cases hg : goodP s
    · exact holds_D s1 s2 s3 s p1 p2 p3 w he l1 l2 l3 l4 hv hg
    · exact holds_E s1 s2 s3 s p1 p2 p3 w he l1 l2 l3 l4 hv hg
end Go.Proofs.YtbilaapikclhlaaDoor
