/-
  DERIVED. GIVEN WITH THE SEED: THE CARDS: each row of YtgkmmkaaokbmiaaDoorRows.lean that lists a variable, with what it lists TIED to the program's text (the seventh form; the later family's looks); each row that meets fmt, with fmt's text TOLD by the authors' own Lean function (tested against real Go, not proved from fmt's source: count such statements apart). THE CARD IS WHAT COUNTS. Prove the row's statement (the work); the ties are given (YtgkmmkaaokbmiaaDoorTie.lean); close each card by the builder's one call (the guide's Derived/Test/ToyasCard.lean, 'card_holds'). Laid BY PROGRAM, IN A SANDBOX (cutbox-door.mjs). By AI agents, Wed Nov 11 2026. No macro, syntax, notation, axiom, sorry.
-/
import Derived.Test.YtgkmmkaaokbmiaaDoorRows
import GoSem.ClaimSeven
namespace Go.Proofs.YtgkmmkaaokbmiaaDoor
namespace Rows

/-- THE TIED CARD OF 'aqueductlaw01.TimeSums'. -/
def timeSumsCard : Claim7 := { stood := { row := timeSumsRow, standIns := [], harness := (true, "16cf2ee9987651187442f8306fc0ff8e4d79f1a60250859d61b252eb762c02b2"), looks := true }, kinds := [], alts := [], laidByText := true, laidKinds := [.data, .data, .data, .sentinel, .sentinel], laidTests := true, laidLooks := .later }
def TimeSumsCardSaid : Prop := Claim7.holds Tryd.pinned (.plain (OpenSpec.ofChange timeSumsSpec)) timeSumsCard

/-- THE TIED CARD OF 'aqueductlaw01.TimeTexts'. -/
def timeTextsCard : Claim7 := { stood := { row := timeTextsRow, standIns := [], harness := (true, "16cf2ee9987651187442f8306fc0ff8e4d79f1a60250859d61b252eb762c02b2"), looks := true }, kinds := [], alts := [], laidByText := true, laidKinds := [.data, .data, .data, .sentinel, .sentinel], laidTests := true, laidLooks := .later }
def TimeTextsCardSaid : Prop := Claim7.holds Tryd.pinned (.plain (OpenSpec.ofChange timeTextsSpec)) timeTextsCard

/-- THE TIED CARD OF 'aqueductlaw01.TimeHolds'. -/
def timeHoldsCard : Claim7 := { stood := { row := timeHoldsRow, standIns := [], harness := (true, "16cf2ee9987651187442f8306fc0ff8e4d79f1a60250859d61b252eb762c02b2"), looks := true }, kinds := [], alts := [], laidByText := true, laidKinds := [.data, .data, .data, .sentinel, .sentinel], laidTests := true, laidLooks := .later }
def TimeHoldsCardSaid : Prop := Claim7.holds Tryd.pinned (.plain (OpenSpec.ofChange timeHoldsSpec)) timeHoldsCard

/-- THE TIED CARD OF 'aqueductlaw01.TimeClocks'. -/
def timeClocksCard : Claim7 := { stood := { row := timeClocksRow, standIns := [], harness := (true, "16cf2ee9987651187442f8306fc0ff8e4d79f1a60250859d61b252eb762c02b2"), looks := true }, kinds := [], alts := [], laidByText := true, laidKinds := [.data, .data, .data, .sentinel, .sentinel], laidTests := true, laidLooks := .later }
def TimeClocksCardSaid : Prop := Claim7.holds Tryd.pinned (.plain (OpenSpec.ofChange timeClocksSpec)) timeClocksCard

/-- THE TIED CARD OF 'aqueductlaw01.TimeNil'. -/
def timeNilCard : Claim7 := { stood := { row := timeNilRow, standIns := [], harness := (true, "16cf2ee9987651187442f8306fc0ff8e4d79f1a60250859d61b252eb762c02b2"), looks := true }, kinds := [], alts := [], laidByText := true, laidKinds := [.data, .data, .data, .sentinel, .sentinel], laidTests := true, laidLooks := .later }
def TimeNilCardSaid : Prop := Claim7.holds Tryd.pinned (.plain (OpenSpec.ofChange timeNilSpec)) timeNilCard

/-- THE SECOND FORM's CARD OF 'aqueductlaw01.TimeSums'. -/
def timeSumsUptoCard : Claim7 := { stood := { row := timeSumsUptoRow, standIns := [], harness := (true, "16cf2ee9987651187442f8306fc0ff8e4d79f1a60250859d61b252eb762c02b2"), looks := true }, kinds := [], alts := [], laidByText := true, laidKinds := [.data, .data, .data, .sentinel, .sentinel], laidTests := true, laidLooks := .later }
def TimeSumsUptoCardSaid : Prop := Claim7.holds Tryd.pinned (.plain (OpenSpec.upto timeSumsSpec)) timeSumsUptoCard

/-- THE SECOND FORM's CARD OF 'aqueductlaw01.TimeTexts'. -/
def timeTextsUptoCard : Claim7 := { stood := { row := timeTextsUptoRow, standIns := [], harness := (true, "16cf2ee9987651187442f8306fc0ff8e4d79f1a60250859d61b252eb762c02b2"), looks := true }, kinds := [], alts := [], laidByText := true, laidKinds := [.data, .data, .data, .sentinel, .sentinel], laidTests := true, laidLooks := .later }
def TimeTextsUptoCardSaid : Prop := Claim7.holds Tryd.pinned (.plain (OpenSpec.upto timeTextsSpec)) timeTextsUptoCard

/-- THE SECOND FORM's CARD OF 'aqueductlaw01.TimeHolds'. -/
def timeHoldsUptoCard : Claim7 := { stood := { row := timeHoldsUptoRow, standIns := [], harness := (true, "16cf2ee9987651187442f8306fc0ff8e4d79f1a60250859d61b252eb762c02b2"), looks := true }, kinds := [], alts := [], laidByText := true, laidKinds := [.data, .data, .data, .sentinel, .sentinel], laidTests := true, laidLooks := .later }
def TimeHoldsUptoCardSaid : Prop := Claim7.holds Tryd.pinned (.plain (OpenSpec.upto timeHoldsSpec)) timeHoldsUptoCard

/-- THE SECOND FORM's CARD OF 'aqueductlaw01.TimeClocks'. -/
def timeClocksUptoCard : Claim7 := { stood := { row := timeClocksUptoRow, standIns := [], harness := (true, "16cf2ee9987651187442f8306fc0ff8e4d79f1a60250859d61b252eb762c02b2"), looks := true }, kinds := [], alts := [], laidByText := true, laidKinds := [.data, .data, .data, .sentinel, .sentinel], laidTests := true, laidLooks := .later }
def TimeClocksUptoCardSaid : Prop := Claim7.holds Tryd.pinned (.plain (OpenSpec.upto timeClocksSpec)) timeClocksUptoCard

/-- THE SECOND FORM's CARD OF 'aqueductlaw01.TimeNil'. -/
def timeNilUptoCard : Claim7 := { stood := { row := timeNilUptoRow, standIns := [], harness := (true, "16cf2ee9987651187442f8306fc0ff8e4d79f1a60250859d61b252eb762c02b2"), looks := true }, kinds := [], alts := [], laidByText := true, laidKinds := [.data, .data, .data, .sentinel, .sentinel], laidTests := true, laidLooks := .later }
def TimeNilUptoCardSaid : Prop := Claim7.holds Tryd.pinned (.plain (OpenSpec.upto timeNilSpec)) timeNilUptoCard
end Rows
end Go.Proofs.YtgkmmkaaokbmiaaDoor
