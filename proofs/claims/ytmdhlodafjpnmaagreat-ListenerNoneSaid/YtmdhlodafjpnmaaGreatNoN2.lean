/- Contract of listener's Connect on a nil net and on a zero net, and of Connect with a capacity that is not valid. -/
import Derived.Test.YtmdhlodafjpnmaaGreatNoN
import Derived.Test.YtmdhlodafjpnmaaGreatListen
namespace Go.Proofs.YtmdhlodafjpnmaaGreat
open Go.RowKit
open Go.Maps (Keyed)
set_option linter.unusedVariables false
set_option maxRecDepth 100000
set_option maxHeartbeats 4000000

theorem nonConnect {v : Value} (s : ByteArray) (p c : Int) (w : World) (h : NoN w v) :
    Calls Tryz.prog 31 #[v, .agg #[.string s, .int .i64 p], .int .i64 c] w fun e w' => e = .returned (.tuple #[.int .i64 0, .int .i64 1]) ∧ Fr [] w w' := by
  have f0 : Fr [] w (w.alloc (.cells #[.string s, .int .i64 p] 28)) := (Fr.refl [] w).alloc _
  have h0 := h.new f0
  by_cases hc : c < 0 ∨ 4096 < c
  · go_enter Tryz.func31, Tryz.ntmps31
    go_wp2_with (first
      | (go_at_call 32; refine (nonFind _ s p h0).mono ?_; rintro e w1 ⟨rfl, f1⟩)
      | (go_at_call 80; refine (dupNew_bad c hc _).mono ?_; rintro e w2 ⟨rfl, f2⟩))
    go_ret2
    exact ⟨rfl, (f0.step f1).step f2⟩
  · obtain ⟨c, rfl⟩ := Int.eq_ofNat_of_zero_le (show 0 ≤ c by omega)
    go_enter Tryz.func31, Tryz.ntmps31
    go_wp2_with (first
      | (go_at_call 32; refine (nonFind _ s p h0).mono ?_; rintro e w1 ⟨rfl, f1⟩)
      | (go_at_call 80; refine (dupNew_ok c (by omega) _).mono ?_; rintro e w2 ⟨d, rfl, hd, f2⟩))
    go_ret2
    exact ⟨rfl, (f0.step f1).step f2⟩
end Go.Proofs.YtmdhlodafjpnmaaGreat
