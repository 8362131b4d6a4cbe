/- Report: ReadTasks of no text. -/
import Derived.Test.YtllmejkcohfbiaaGreatDoorR20
import Derived.Test.YtllmejkcohfbiaaGreatDoorR19N
namespace Go.Proofs.YtllmejkcohfbiaaGreatDoor
open Go.RowKit Go.Shelf Go.Sort Go.Lib
set_option linter.unusedVariables false
set_option linter.unusedSimpArgs false
set_option maxRecDepth 100000
set_option maxHeartbeats 4000000

theorem readTasks_none (w : World) (he : EnvR w) : Calls Tryz.prog 26 #[.string ⟨#[]⟩] w (TkPost w ([], 0, 0)) := by
  have H := Lib.hid (show Calls Tryz.prog _ #[.string ⟨#[]⟩, _, _, _] w (TkPost w ([], 0, 0)) from tkLines_none (fun _ => ⟨0, 0, 0, 0, 0, 0, 0, 0⟩) [] (by simp) w he.tab rfl)
  clear he
  go_enter Tryz.func26, Tryz.ntmps26
  go_wp2_with fail
  refine H.out.mono ?_
  rintro e w1 ⟨v, rfl, hr, f1⟩
  simp only at hr
  have HR := Lib.hid hr
  clear hr
  go_wp2
  go_ret3
  exact ⟨v, rfl, HR.out, f1⟩
end Go.Proofs.YtllmejkcohfbiaaGreatDoor
