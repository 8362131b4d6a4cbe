/-
  DERIVED. GIVEN WITH THE SEED: THE CARDS: each row of YtllmejkcohfbiaaGreatDoorRows.lean that lists a variable, with what it lists TIED to the program's text (the seventh form; the later family's looks); each row that meets fmt, with fmt's text TOLD by the authors' own Lean function (tested against real Go, not proved from fmt's source: count such statements apart). THE CARD IS WHAT COUNTS. Prove the row's statement (the work); the ties are given (YtllmejkcohfbiaaGreatDoorTie.lean); close each card by the builder's one call (the guide's Derived/Test/ToyasCard.lean, 'card_holds'). Laid BY PROGRAM, IN A SANDBOX (cutbox-door.mjs). By AI agents, Wed Nov 11 2026. No macro, syntax, notation, axiom, sorry.
-/
import Derived.Test.YtllmejkcohfbiaaGreatDoorRows
import GoSem.ClaimSeven
namespace Go.Proofs.YtllmejkcohfbiaaGreatDoor
namespace Rows

/-- THE TIED CARD OF 'aqueductlaw52.ReportChecks'. -/
def reportChecksCard : Claim7 := { stood := { row := reportChecksRow, standIns := [], harness := (true, "35a568eee688f0bade6832581cee370f87e33399492756f6d940d5955b2cda90"), looks := true }, kinds := [], alts := [], laidByText := true, laidKinds := [.data, .data, .data, .data, .sentinel, .sentinel, .pinned], laidTests := true, laidLooks := .later }
def ReportChecksCardSaid : Prop := Claim7.holds Tryz.pinned (.plain (OpenSpec.ofChange reportChecksSpec)) reportChecksCard

/-- THE TIED CARD OF 'aqueductlaw52.ReportWrites'. -/
def reportWritesCard : Claim7 := { stood := { row := reportWritesRow, standIns := [], harness := (true, "35a568eee688f0bade6832581cee370f87e33399492756f6d940d5955b2cda90"), looks := true }, kinds := [], alts := [], laidByText := true, laidKinds := [.data, .data, .data, .data, .sentinel, .sentinel, .pinned], laidTests := true, laidLooks := .later }
def ReportWritesCardSaid : Prop := Claim7.holds Tryz.pinned (.plain (OpenSpec.ofChange reportWritesSpec)) reportWritesCard

/-- THE TIED CARD OF 'aqueductlaw52.ReportReads'. -/
def reportReadsCard : Claim7 := { stood := { row := reportReadsRow, standIns := [], harness := (true, "35a568eee688f0bade6832581cee370f87e33399492756f6d940d5955b2cda90"), looks := true }, kinds := [], alts := [], laidByText := true, laidKinds := [.data, .data, .data, .data, .sentinel, .sentinel, .pinned], laidTests := true, laidLooks := .later }
def ReportReadsCardSaid : Prop := Claim7.holds Tryz.pinned (.plain (OpenSpec.ofChange reportReadsSpec)) reportReadsCard

/-- THE TIED CARD OF 'aqueductlaw52.ReportCodes'. -/
def reportCodesCard : Claim7 := { stood := { row := reportCodesRow, standIns := [], harness := (true, "35a568eee688f0bade6832581cee370f87e33399492756f6d940d5955b2cda90"), looks := true }, kinds := [], alts := [], laidByText := true, laidKinds := [.data, .data, .data, .data, .sentinel, .sentinel, .pinned], laidTests := true, laidLooks := .later }
def ReportCodesCardSaid : Prop := Claim7.holds Tryz.pinned (.plain (OpenSpec.ofChange reportCodesSpec)) reportCodesCard

/-- THE TIED CARD OF 'aqueductlaw52.ReportTasks'. -/
def reportTasksCard : Claim7 := { stood := { row := reportTasksRow, standIns := [], harness := (true, "35a568eee688f0bade6832581cee370f87e33399492756f6d940d5955b2cda90"), looks := true }, kinds := [], alts := [], laidByText := true, laidKinds := [.data, .data, .data, .data, .sentinel, .sentinel, .pinned], laidTests := true, laidLooks := .later }
def ReportTasksCardSaid : Prop := Claim7.holds Tryz.pinned (.plain (OpenSpec.ofChange reportTasksSpec)) reportTasksCard

/-- THE TIED CARD OF 'aqueductlaw52.ReportFulls'. -/
def reportFullsCard : Claim7 := { stood := { row := reportFullsRow, standIns := [], harness := (true, "35a568eee688f0bade6832581cee370f87e33399492756f6d940d5955b2cda90"), looks := true }, kinds := [], alts := [], laidByText := true, laidKinds := [.data, .data, .data, .data, .sentinel, .sentinel, .pinned], laidTests := true, laidLooks := .later }
def ReportFullsCardSaid : Prop := Claim7.holds Tryz.pinned (.plain (OpenSpec.ofChange reportFullsSpec)) reportFullsCard

/-- THE TIED CARD OF 'aqueductlaw52.ReportHolds'. -/
def reportHoldsCard : Claim7 := { stood := { row := reportHoldsRow, standIns := [], harness := (true, "35a568eee688f0bade6832581cee370f87e33399492756f6d940d5955b2cda90"), looks := true }, kinds := [], alts := [], laidByText := true, laidKinds := [.data, .data, .data, .data, .sentinel, .sentinel, .pinned], laidTests := true, laidLooks := .later }
def ReportHoldsCardSaid : Prop := Claim7.holds Tryz.pinned (.plain (OpenSpec.ofChange reportHoldsSpec)) reportHoldsCard

/-- THE SECOND FORM's CARD OF 'aqueductlaw52.ReportChecks'. -/
def reportChecksUptoCard : Claim7 := { stood := { row := reportChecksUptoRow, standIns := [], harness := (true, "35a568eee688f0bade6832581cee370f87e33399492756f6d940d5955b2cda90"), looks := true }, kinds := [], alts := [], laidByText := true, laidKinds := [.data, .data, .data, .data, .sentinel, .sentinel, .pinned], laidTests := true, laidLooks := .later }
def ReportChecksUptoCardSaid : Prop := Claim7.holds Tryz.pinned (.plain (OpenSpec.upto reportChecksSpec)) reportChecksUptoCard

/-- THE SECOND FORM's CARD OF 'aqueductlaw52.ReportWrites'. -/
def reportWritesUptoCard : Claim7 := { stood := { row := reportWritesUptoRow, standIns := [], harness := (true, "35a568eee688f0bade6832581cee370f87e33399492756f6d940d5955b2cda90"), looks := true }, kinds := [], alts := [], laidByText := true, laidKinds := [.data, .data, .data, .data, .sentinel, .sentinel, .pinned], laidTests := true, laidLooks := .later }
def ReportWritesUptoCardSaid : Prop := Claim7.holds Tryz.pinned (.plain (OpenSpec.upto reportWritesSpec)) reportWritesUptoCard

/-- THE SECOND FORM's CARD OF 'aqueductlaw52.ReportReads'. -/
def reportReadsUptoCard : Claim7 := { stood := { row := reportReadsUptoRow, standIns := [], harness := (true, "35a568eee688f0bade6832581cee370f87e33399492756f6d940d5955b2cda90"), looks := true }, kinds := [], alts := [], laidByText := true, laidKinds := [.data, .data, .data, .data, .sentinel, .sentinel, .pinned], laidTests := true, laidLooks := .later }
def ReportReadsUptoCardSaid : Prop := Claim7.holds Tryz.pinned (.plain (OpenSpec.upto reportReadsSpec)) reportReadsUptoCard

/-- THE SECOND FORM's CARD OF 'aqueductlaw52.ReportCodes'. -/
def reportCodesUptoCard : Claim7 := { stood := { row := reportCodesUptoRow, standIns := [], harness := (true, "35a568eee688f0bade6832581cee370f87e33399492756f6d940d5955b2cda90"), looks := true }, kinds := [], alts := [], laidByText := true, laidKinds := [.data, .data, .data, .data, .sentinel, .sentinel, .pinned], laidTests := true, laidLooks := .later }
def ReportCodesUptoCardSaid : Prop := Claim7.holds Tryz.pinned (.plain (OpenSpec.upto reportCodesSpec)) reportCodesUptoCard

/-- THE SECOND FORM's CARD OF 'aqueductlaw52.ReportTasks'. -/
def reportTasksUptoCard : Claim7 := { stood := { row := reportTasksUptoRow, standIns := [], harness := (true, "35a568eee688f0bade6832581cee370f87e33399492756f6d940d5955b2cda90"), looks := true }, kinds := [], alts := [], laidByText := true, laidKinds := [.data, .data, .data, .data, .sentinel, .sentinel, .pinned], laidTests := true, laidLooks := .later }
def ReportTasksUptoCardSaid : Prop := Claim7.holds Tryz.pinned (.plain (OpenSpec.upto reportTasksSpec)) reportTasksUptoCard

/-- THE SECOND FORM's CARD OF 'aqueductlaw52.ReportFulls'. -/
def reportFullsUptoCard : Claim7 := { stood := { row := reportFullsUptoRow, standIns := [], harness := (true, "35a568eee688f0bade6832581cee370f87e33399492756f6d940d5955b2cda90"), looks := true }, kinds := [], alts := [], laidByText := true, laidKinds := [.data, .data, .data, .data, .sentinel, .sentinel, .pinned], laidTests := true, laidLooks := .later }
def ReportFullsUptoCardSaid : Prop := Claim7.holds Tryz.pinned (.plain (OpenSpec.upto reportFullsSpec)) reportFullsUptoCard

/-- THE SECOND FORM's CARD OF 'aqueductlaw52.ReportHolds'. -/
def reportHoldsUptoCard : Claim7 := { stood := { row := reportHoldsUptoRow, standIns := [], harness := (true, "35a568eee688f0bade6832581cee370f87e33399492756f6d940d5955b2cda90"), looks := true }, kinds := [], alts := [], laidByText := true, laidKinds := [.data, .data, .data, .data, .sentinel, .sentinel, .pinned], laidTests := true, laidLooks := .later }
def ReportHoldsUptoCardSaid : Prop := Claim7.holds Tryz.pinned (.plain (OpenSpec.upto reportHoldsSpec)) reportHoldsUptoCard
end Rows
end Go.Proofs.YtllmejkcohfbiaaGreatDoor
