/- Contract of listener's hang: an end of a connection is closed, and the connection is forgotten if both are. -/
import Derived.Test.YtmdhlodafjpnmaaGreatDup2
import Derived.Test.YtmdhlodafjpnmaaGreatNum
import Derived.Defers
import Derived.BigRegion
namespace Go.Proofs.YtmdhlodafjpnmaaGreat
open Go.RowKit
open Go.Maps (Keyed)
set_option linter.unusedVariables false
set_option maxRecDepth 100000
set_option maxHeartbeats 4000000

section
variable {P : Nat → Prop} {n cm d c D N K : Nat} {conn : Int} {f1 f2 : List (Value × Value)} (w : World)

/-- What is deferred: where not both ends are closed, nothing. -/
theorem hangEnd_no {a0 a1 : Bool} (u : FrameMode) (h : DupS w P d c a0 a1) (ha : (a0 && a1) = false) (hD : w.cell? ⟨D, 0, none⟩ = some (.pointer (some ⟨d, 0, none⟩))) :
    CallsD Tryz.prog 102 #[.pointer (some ⟨D, 0, none⟩), .pointer (some ⟨N, 0, none⟩), .pointer (some ⟨K, 0, none⟩)] u w fun e u' w' => u' = u ∧ (e = .returned (.tuple #[]) ∧ w = w') := by
  have H0 := Lib.hid (dupClosed_0 w h)
  have H1 := Lib.hid (dupClosed_1 w h)
  clear h
  cases a0
  · go_enter_d Tryz.func102, Tryz.ntmps102
    go_wp2_with (first
      | (refine H0.out.mono ?_; rintro e w' ⟨rfl, rfl⟩)
      | (refine H1.out.mono ?_; rintro e w' ⟨rfl, rfl⟩))
    go_end0
    exact ⟨rfl, rfl⟩
  · cases a1
    · go_enter_d Tryz.func102, Tryz.ntmps102
      go_wp2_with fail
      refine H0.out.mono ?_
      rintro e w' ⟨rfl, rfl⟩
      go_wp2_with fail
      refine H1.out.mono ?_
      rintro e w' ⟨rfl, rfl⟩
      go_wp2
      go_end0
      exact ⟨rfl, rfl⟩
    · cases ha
theorem hangEnd_yes (u : FrameMode) (h : DupS w P d c true true) (hD : w.cell? ⟨D, 0, none⟩ = some (.pointer (some ⟨d, 0, none⟩))) (hN : w.cell? ⟨N, 0, none⟩ = some (.pointer (some ⟨n, 0, none⟩))) (hK : w.cell? ⟨K, 0, none⟩ = some (.int .i64 conn))
    (hn : w.cell? ⟨n, 2, none⟩ = some (.map (some cm))) (hm : MapIs Tryz.prog 3 w cm (f1 ++ (.int .i64 conn, .pointer (some ⟨d, 0, none⟩)) :: f2)) :
    CallsD Tryz.prog 102 #[.pointer (some ⟨D, 0, none⟩), .pointer (some ⟨N, 0, none⟩), .pointer (some ⟨K, 0, none⟩)] u w fun e u' w' => u' = u ∧ (e = .returned (.tuple #[]) ∧ MapIs Tryz.prog 3 w' cm (f1 ++ f2) ∧ Fr [cm] w w') := by
  have H0 := Lib.hid (dupClosed_0 w h)
  have H1 := Lib.hid (dupClosed_1 w h)
  clear h
  obtain ⟨w2, hrun, hm2, g2⟩ := (show MapIs Tryz.prog 3 w.drew cm _ from hm).del (T := 0) keyInt (t := 51) (e := 55) Tryz.underlying51
  clear hm
  go_enter_d Tryz.func102, Tryz.ntmps102
  go_wp2_with fail
  refine H0.out.mono ?_
  rintro e w' ⟨rfl, rfl⟩
  go_wp2_with fail
  refine H1.out.mono ?_
  rintro e w' ⟨rfl, rfl⟩
  go_wp2
  go_region
  go_wp2
  go_end0
  exact ⟨rfl, hm2, (((Fr.refl [] w).drew).mono (fun x hx => by cases hx)).trans g2 (fun x hx _ => hx)⟩
end
end Go.Proofs.YtmdhlodafjpnmaaGreat
