/- What the listed library variables give a walk, and a world in which they lie as listed. -/
/- The closed facts of the row of ReportReads, one by one. -/
import Derived.Test.YtllmejkcohfbiaaGreatDoorCards
import Derived.Test.YtllmejkcohfbiaaGreatDoorTie
import Derived.Test.YtllmejkcohfbiaaGreatDoorR13
import Derived.ProofKit
import Derived.OpenShut
import Derived.Lib.LaidU8
import Derived.Deep.DeepHandedRow
import Derived.Deep.DeepWitnessRowRef
import Derived.Stop.LaidErr
namespace Go.Proofs.YtllmejkcohfbiaaGreatDoor
open Go.ChangeShapes Go.WideShapes Go.ChangeAt Go.RowKit
set_option linter.unusedVariables false
set_option maxRecDepth 100000

theorem own : ownKnob Tryz.prog.godebug = none := by kernel_rfl
theorem gTabType : (Tryz.prog.globals[0]?).map (·.type) = some 278 := by kernel_rfl
theorem gSynType : (Tryz.prog.globals[2]?).map (·.type) = some 153 := by kernel_rfl
theorem gRanType : (Tryz.prog.globals[3]?).map (·.type) = some 153 := by kernel_rfl
theorem cellsPow : Tryz.prog.cellsOf 278 = 20 := by kernel_rfl
theorem cellsU64 : Tryz.prog.cellsOf 38 = 1 := by kernel_rfl
theorem cellsErr : Tryz.prog.cellsOf 305 = 1 := by kernel_rfl
theorem cellsStr : Tryz.prog.cellsOf 9 = 1 := by kernel_rfl
theorem star : "*" ++ "errors.errorString" = "*errors.errorString" := by decide
theorem rowErr (u : TypeId) (h : Tryz.prog.typeName? 3 u = some "*errors.errorString") : u = 303 :=
  typeName_ptr_named (nm := "errors.errorString") (by rw [star]; kernel_rfl) (by kernel_rfl) (by decide) u (by rw [star]; exact h)
theorem env_of {W : World} (hL : laidMetH Tryz.prog Rows.reportChecksRow.laid W) (hsh : W.ShapedOpen Tryz.prog) : EnvR W := by
  have h : laidMet Tryz.prog Rows.reportChecksRow.laid W := hL
  have h3 := h.tail.tail
  have h4 := h3.tail.tail
  have h5 := h4.tail
  obtain ⟨a0, s0, hv0, _⟩ := laid_sentinel h4 gRan gRanType Tryz.underlying153 rowErr Tryz.underlying303 Tryz.underlying305 rfl rfl Tryz.underlying9 cellsErr cellsStr
  obtain ⟨a1, s1, hv1, _⟩ := laid_sentinel h5 gSyn gSynType Tryz.underlying153 rowErr Tryz.underlying303 Tryz.underlying305 rfl rfl Tryz.underlying9 cellsErr cellsStr
  exact ⟨Lib.tabIs_of_head gTab gTabType Tryz.underlying278 Tryz.underlying38 cellsU64 cellsPow h3, ⟨_, _, hv1⟩, ⟨_, _, hv0⟩, Tryz.laysM146.s1_3 W hsh⟩
/-- So many blocks has the settled world. -/
noncomputable def low : Nat := (World.holding Tryz.prog default ⟨#[], #[], []⟩).heap.size
noncomputable def setVar (w : World) (g : Nat) (cs : Array Value) : World :=
  { w with heap := w.heap.modify g fun
      | .cells _ t frozen => .cells cs t frozen
      | o => o }
def rangeText : ByteArray := ⟨#[118, 97, 108, 117, 101, 32, 111, 117, 116, 32, 111, 102, 32, 114, 97, 110, 103, 101]⟩
def badText : ByteArray := ⟨#[105, 110, 118, 97, 108, 105, 100, 32, 115, 121, 110, 116, 97, 120]⟩
def firstCells : Array Value := #[Value.int .u8 240, Value.int .u8 240, Value.int .u8 240, Value.int .u8 240, Value.int .u8 240, Value.int .u8 240, Value.int .u8 240, Value.int .u8 240, Value.int .u8 240, Value.int .u8 240, Value.int .u8 240, Value.int .u8 240, Value.int .u8 240, Value.int .u8 240, Value.int .u8 240, Value.int .u8 240, Value.int .u8 240, Value.int .u8 240, Value.int .u8 240, Value.int .u8 240, Value.int .u8 240, Value.int .u8 240, Value.int .u8 240, Value.int .u8 240, Value.int .u8 240, Value.int .u8 240, Value.int .u8 240, Value.int .u8 240, Value.int .u8 240, Value.int .u8 240, Value.int .u8 240, Value.int .u8 240, Value.int .u8 240, Value.int .u8 240, Value.int .u8 240, Value.int .u8 240, Value.int .u8 240, Value.int .u8 240, Value.int .u8 240, Value.int .u8 240, Value.int .u8 240, Value.int .u8 240, Value.int .u8 240, Value.int .u8 240, Value.int .u8 240, Value.int .u8 240, Value.int .u8 240, Value.int .u8 240, Value.int .u8 240, Value.int .u8 240, Value.int .u8 240, Value.int .u8 240, Value.int .u8 240, Value.int .u8 240, Value.int .u8 240, Value.int .u8 240, Value.int .u8 240, Value.int .u8 240, Value.int .u8 240, Value.int .u8 240, Value.int .u8 240, Value.int .u8 240, Value.int .u8 240, Value.int .u8 240, Value.int .u8 240, Value.int .u8 240, Value.int .u8 240, Value.int .u8 240, Value.int .u8 240, Value.int .u8 240, Value.int .u8 240, Value.int .u8 240, Value.int .u8 240, Value.int .u8 240, Value.int .u8 240, Value.int .u8 240, Value.int .u8 240, Value.int .u8 240, Value.int .u8 240, Value.int .u8 240, Value.int .u8 240, Value.int .u8 240, Value.int .u8 240, Value.int .u8 240, Value.int .u8 240, Value.int .u8 240, Value.int .u8 240, Value.int .u8 240, Value.int .u8 240, Value.int .u8 240, Value.int .u8 240, Value.int .u8 240, Value.int .u8 240, Value.int .u8 240, Value.int .u8 240, Value.int .u8 240, Value.int .u8 240, Value.int .u8 240, Value.int .u8 240, Value.int .u8 240, Value.int .u8 240, Value.int .u8 240, Value.int .u8 240, Value.int .u8 240, Value.int .u8 240, Value.int .u8 240, Value.int .u8 240, Value.int .u8 240, Value.int .u8 240, Value.int .u8 240, Value.int .u8 240, Value.int .u8 240, Value.int .u8 240, Value.int .u8 240, Value.int .u8 240, Value.int .u8 240, Value.int .u8 240, Value.int .u8 240, Value.int .u8 240, Value.int .u8 240, Value.int .u8 240, Value.int .u8 240, Value.int .u8 240, Value.int .u8 240, Value.int .u8 240, Value.int .u8 240, Value.int .u8 240, Value.int .u8 240, Value.int .u8 241, Value.int .u8 241, Value.int .u8 241, Value.int .u8 241, Value.int .u8 241, Value.int .u8 241, Value.int .u8 241, Value.int .u8 241, Value.int .u8 241, Value.int .u8 241, Value.int .u8 241, Value.int .u8 241, Value.int .u8 241, Value.int .u8 241, Value.int .u8 241, Value.int .u8 241, Value.int .u8 241, Value.int .u8 241, Value.int .u8 241, Value.int .u8 241, Value.int .u8 241, Value.int .u8 241, Value.int .u8 241, Value.int .u8 241, Value.int .u8 241, Value.int .u8 241, Value.int .u8 241, Value.int .u8 241, Value.int .u8 241, Value.int .u8 241, Value.int .u8 241, Value.int .u8 241, Value.int .u8 241, Value.int .u8 241, Value.int .u8 241, Value.int .u8 241, Value.int .u8 241, Value.int .u8 241, Value.int .u8 241, Value.int .u8 241, Value.int .u8 241, Value.int .u8 241, Value.int .u8 241, Value.int .u8 241, Value.int .u8 241, Value.int .u8 241, Value.int .u8 241, Value.int .u8 241, Value.int .u8 241, Value.int .u8 241, Value.int .u8 241, Value.int .u8 241, Value.int .u8 241, Value.int .u8 241, Value.int .u8 241, Value.int .u8 241, Value.int .u8 241, Value.int .u8 241, Value.int .u8 241, Value.int .u8 241, Value.int .u8 241, Value.int .u8 241, Value.int .u8 241, Value.int .u8 241, Value.int .u8 241, Value.int .u8 241, Value.int .u8 2, Value.int .u8 2, Value.int .u8 2, Value.int .u8 2, Value.int .u8 2, Value.int .u8 2, Value.int .u8 2, Value.int .u8 2, Value.int .u8 2, Value.int .u8 2, Value.int .u8 2, Value.int .u8 2, Value.int .u8 2, Value.int .u8 2, Value.int .u8 2, Value.int .u8 2, Value.int .u8 2, Value.int .u8 2, Value.int .u8 2, Value.int .u8 2, Value.int .u8 2, Value.int .u8 2, Value.int .u8 2, Value.int .u8 2, Value.int .u8 2, Value.int .u8 2, Value.int .u8 2, Value.int .u8 2, Value.int .u8 2, Value.int .u8 2, Value.int .u8 19, Value.int .u8 3, Value.int .u8 3, Value.int .u8 3, Value.int .u8 3, Value.int .u8 3, Value.int .u8 3, Value.int .u8 3, Value.int .u8 3, Value.int .u8 3, Value.int .u8 3, Value.int .u8 3, Value.int .u8 3, Value.int .u8 35, Value.int .u8 3, Value.int .u8 3, Value.int .u8 52, Value.int .u8 4, Value.int .u8 4, Value.int .u8 4, Value.int .u8 68, Value.int .u8 241, Value.int .u8 241, Value.int .u8 241, Value.int .u8 241, Value.int .u8 241, Value.int .u8 241, Value.int .u8 241, Value.int .u8 241, Value.int .u8 241, Value.int .u8 241, Value.int .u8 241]
noncomputable def laidWorld (os : Os) : World :=
  setVar (setVar (setVar (setVar (setVar (setVar (setVar (World.holding Tryz.prog os ⟨#[.cells #[.string rangeText] 305, .cells #[.string badText] 305], #[], []⟩)
    0 #[Value.int .u64 1, Value.int .u64 10, Value.int .u64 100, Value.int .u64 1000, Value.int .u64 10000, Value.int .u64 100000, Value.int .u64 1000000, Value.int .u64 10000000, Value.int .u64 100000000, Value.int .u64 1000000000, Value.int .u64 10000000000, Value.int .u64 100000000000, Value.int .u64 1000000000000, Value.int .u64 10000000000000, Value.int .u64 100000000000000, Value.int .u64 1000000000000000, Value.int .u64 10000000000000000, Value.int .u64 100000000000000000, Value.int .u64 1000000000000000000, Value.int .u64 10000000000000000000])
    2 #[.iface 303 (.pointer (some ⟨low + 1, 0, none⟩))])
    3 #[.iface 303 (.pointer (some ⟨low, 0, none⟩))])
    6 #[Value.int .u8 0, Value.int .u8 1, Value.int .u8 28, Value.int .u8 2, Value.int .u8 29, Value.int .u8 14, Value.int .u8 24, Value.int .u8 3, Value.int .u8 30, Value.int .u8 22, Value.int .u8 20, Value.int .u8 15, Value.int .u8 25, Value.int .u8 17, Value.int .u8 4, Value.int .u8 8, Value.int .u8 31, Value.int .u8 27, Value.int .u8 13, Value.int .u8 23, Value.int .u8 21, Value.int .u8 19, Value.int .u8 16, Value.int .u8 7, Value.int .u8 26, Value.int .u8 12, Value.int .u8 18, Value.int .u8 6, Value.int .u8 11, Value.int .u8 5, Value.int .u8 10, Value.int .u8 9])
    7 #[Value.int .u8 0, Value.int .u8 1, Value.int .u8 56, Value.int .u8 2, Value.int .u8 57, Value.int .u8 49, Value.int .u8 28, Value.int .u8 3, Value.int .u8 61, Value.int .u8 58, Value.int .u8 42, Value.int .u8 50, Value.int .u8 38, Value.int .u8 29, Value.int .u8 17, Value.int .u8 4, Value.int .u8 62, Value.int .u8 47, Value.int .u8 59, Value.int .u8 36, Value.int .u8 45, Value.int .u8 43, Value.int .u8 51, Value.int .u8 22, Value.int .u8 53, Value.int .u8 39, Value.int .u8 33, Value.int .u8 30, Value.int .u8 24, Value.int .u8 18, Value.int .u8 12, Value.int .u8 5, Value.int .u8 63, Value.int .u8 55, Value.int .u8 48, Value.int .u8 27, Value.int .u8 60, Value.int .u8 41, Value.int .u8 37, Value.int .u8 16, Value.int .u8 46, Value.int .u8 35, Value.int .u8 44, Value.int .u8 21, Value.int .u8 52, Value.int .u8 32, Value.int .u8 23, Value.int .u8 11, Value.int .u8 54, Value.int .u8 26, Value.int .u8 40, Value.int .u8 15, Value.int .u8 34, Value.int .u8 20, Value.int .u8 31, Value.int .u8 10, Value.int .u8 25, Value.int .u8 14, Value.int .u8 19, Value.int .u8 9, Value.int .u8 13, Value.int .u8 8, Value.int .u8 7, Value.int .u8 6])
    5 #[Value.int .u8 128, Value.int .u8 191, Value.int .u8 160, Value.int .u8 191, Value.int .u8 128, Value.int .u8 159, Value.int .u8 144, Value.int .u8 191, Value.int .u8 128, Value.int .u8 143, Value.int .u8 0, Value.int .u8 0, Value.int .u8 0, Value.int .u8 0, Value.int .u8 0, Value.int .u8 0, Value.int .u8 0, Value.int .u8 0, Value.int .u8 0, Value.int .u8 0, Value.int .u8 0, Value.int .u8 0, Value.int .u8 0, Value.int .u8 0, Value.int .u8 0, Value.int .u8 0, Value.int .u8 0, Value.int .u8 0, Value.int .u8 0, Value.int .u8 0, Value.int .u8 0, Value.int .u8 0])
    4 firstCells
theorem laid_met (os : Os) (args : Array Value) : laidMet Tryz.prog Rows.reportChecksRow.laid ((laidWorld os).forCall (fun _ _ => 0) ⟨#[], args, []⟩).memory :=
  laidMet_of_run' 16 (by kernel_rfl) (by kernel_rfl)
end Go.Proofs.YtllmejkcohfbiaaGreatDoor
namespace Go.Proofs.YtllmejkcohfbiaaGreatDoor
open Go.ChangeShapes Go.WideShapes Go.ChangeAt Go.RowKit
set_option maxRecDepth 100000

theorem and_tt {a b : Bool} (h : a = true) (k : b = true) : (a && b) = true := by rw [h, k]; rfl
set_option maxHeartbeats 0 in
theorem reportReads_facts : joinedFacts Tryz.pinned.checked.prog 5 Tryz.f5 (OpenSpec.ofChange Rows.reportReadsSpec).bare Rows.reportReadsRow = true := by
  unfold joinedFacts
  repeat' (with_reducible refine and_tt ?_ ?_)
  all_goals (as_aux_lemma => kernel_rfl)
end Go.Proofs.YtllmejkcohfbiaaGreatDoor
