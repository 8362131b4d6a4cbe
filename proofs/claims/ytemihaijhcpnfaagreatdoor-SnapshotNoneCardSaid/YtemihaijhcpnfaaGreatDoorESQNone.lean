/- The closed facts of the row of SnapshotNone, one by one. -/
import Derived.Test.YtemihaijhcpnfaaGreatDoorE16
namespace Go.Proofs.YtemihaijhcpnfaaGreatDoor
open Go.ChangeShapes Go.WideShapes Go.ChangeAt Go.RowKit
set_option maxRecDepth 100000

theorem and_tt {a b : Bool} (h : a = true) (k : b = true) : (a && b) = true := by rw [h, k]; rfl
set_option maxHeartbeats 0 in
theorem snapshotNone_facts : joinedFacts Tryz.pinned.checked.prog 7 Tryz.f7 (OpenSpec.ofChange Rows.snapshotNoneSpec).bare Rows.snapshotNoneRow = true := by
  unfold joinedFacts
  repeat' (with_reducible refine and_tt ?_ ?_)
  all_goals (as_aux_lemma => kernel_rfl)
end Go.Proofs.YtemihaijhcpnfaaGreatDoor
