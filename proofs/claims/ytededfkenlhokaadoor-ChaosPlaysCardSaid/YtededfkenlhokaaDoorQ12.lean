/- Contract of the law's own step. -/
import Derived.Test.YtededfkenlhokaaDoorQ11
namespace Go.Proofs.YtededfkenlhokaaDoor
open Go.RowKit Go.Shelf
set_option linter.unusedVariables false
set_option linter.unusedSimpArgs false
set_option maxRecDepth 100000
set_option maxHeartbeats 4000000

theorem step_any {p m : Nat} {v : Value} {fs : List Ft} {F : LF} (au : Option Addr) (nu cu : Nat) (vl : Value) (L : List Ft) (k : Nat) (hk : k ≤ 24) (x : Ac) (w : World) (hM : Mods w p m v (.slice au nu cu) fs F vl L k) :
    Calls Tryd.prog 20 #[.pointer (some ⟨p, 0, none⟩), .agg #[.slice au nu cu, vl], .agg #[.int .i64 x.what, .int .i64 x.c, .int .i64 x.d, .int .i64 x.n]] w (StepPost w p m v (.slice au nu cu) fs k) := by
  by_cases h0 : x.what = 0
  · cases hb : laneB x.c x.d with
    | false => exact step_bad1 au nu cu vl L k hk x h0 hb w hM
    | true =>
      by_cases h1 : x.n < 0
      · exact step_bad2 au nu cu vl L k hk x h0 hb h1 w hM
      · by_cases h2 : 65536 < x.n
        · exact step_bad3 au nu cu vl L k hk x h0 hb (by omega) h2 w hM
        · exact step_call au nu cu vl L k hk x h0 hb (by omega) (by omega) w hM
  · by_cases h1 : x.what = 1
    · cases hb : laneB x.c x.d with
      | false => exact step_bad4 au nu cu vl L k hk x h1 hb w hM
      | true =>
        by_cases h2 : x.n < 0
        · exact step_bad5 au nu cu vl L k hk x h1 hb h2 w hM
        · by_cases h3 : (F x.c x.d).2.2 < x.n
          · exact step_more au nu cu vl L k hk x h1 hb (by omega) h3 w hM
          · exact step_moved au nu cu vl L k hk x h1 hb (by omega) (by omega) w hM
    · exact step_copy au nu cu vl L k hk x h0 h1 w hM
end Go.Proofs.YtededfkenlhokaaDoor
