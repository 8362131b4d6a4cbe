/- The closed facts of the row of ReportCodes, one by one. -/
import Derived.Test.YtllmejkcohfbiaaGreatDoorRF
namespace Go.Proofs.YtllmejkcohfbiaaGreatDoor
open Go.ChangeShapes Go.WideShapes Go.ChangeAt Go.RowKit
set_option maxRecDepth 100000

theorem and_tt {a b : Bool} (h : a = true) (k : b = true) : (a && b) = true := by rw [h, k]; rfl
set_option maxHeartbeats 0 in
theorem reportCodes_facts : joinedFacts Tryz.pinned.checked.prog 6 Tryz.f6 (OpenSpec.ofChange Rows.reportCodesSpec).bare Rows.reportCodesRow = true := by
  unfold joinedFacts
  repeat' (with_reducible refine and_tt ?_ ?_)
  all_goals (as_aux_lemma => kernel_rfl)
end Go.Proofs.YtllmejkcohfbiaaGreatDoor
