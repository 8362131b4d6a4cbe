/- The law AddrSorts' walk: known alone, where the list or a name is too long. -/
import Derived.Test.YtbilaapikclhlaaDoorSortsA
namespace Go.Proofs.YtbilaapikclhlaaDoor
open Go.RowKit Go.Sort Go.Lib
set_option linter.unusedVariables false
set_option maxRecDepth 100000
set_option maxHeartbeats 16000000

theorem sorts_big (p : Option Addr) (len cap : Nat) (sa sb : ByteArray) (pa pb m : Int) (w : World) (he : Env w) (hbig : 40 < len ∨ 100 < sa.size ∨ 100 < sb.size) :
    Calls Tryd.prog 6 #[.slice p len cap, .agg #[.string sa, .int .i64 pa], .agg #[.string sb, .int .i64 pb], .int .i64 m] w fun e w' => e = .returned (.bool true) ∧ Fr [] w w' := by
  have f0 : Fr [] w ((w.alloc (.cells #[.string sa, .int .i64 pa] 23)).alloc (.cells #[.string sb, .int .i64 pb] 23)) := ((Fr.refl [] w).alloc _).alloc _
  have HE := Lib.hid he
  clear he
  by_cases h1 : 40 < (len : Int)
  · go_enter Tryd.func6, Tryd.ntmps6
    go_wp2_with fail
    refine (known_any _ (HE.out.new (f0))).mono ?_
    rintro e wz ⟨rfl, fz⟩
    go_wp2_with fail
    go_ret
    exact ⟨rfl, (f0).step fz⟩
  by_cases h2 : 100 < (sa.size : Int)
  · go_enter Tryd.func6, Tryd.ntmps6
    go_wp2_with fail
    refine (known_any _ (HE.out.new (f0))).mono ?_
    rintro e wz ⟨rfl, fz⟩
    go_wp2_with fail
    go_ret
    exact ⟨rfl, (f0).step fz⟩
  have h3 : 100 < (sb.size : Int) := by omega
  clear hbig
  go_enter Tryd.func6, Tryd.ntmps6
  go_wp2_with fail
  refine (known_any _ (HE.out.new (f0))).mono ?_
  rintro e wz ⟨rfl, fz⟩
  go_wp2_with fail
  go_ret
  exact ⟨rfl, (f0).step fz⟩
end Go.Proofs.YtbilaapikclhlaaDoor
