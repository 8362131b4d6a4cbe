/-
  DERIVED. GIVEN WITH THE SEED: THE CARDS: each row of YtbilaapikclhlaaDoorRows.lean that lists a variable, with what it lists TIED to the program's text (the seventh form; the later family's looks); each row that meets fmt, with fmt's text TOLD by the authors' own Lean function (tested against real Go, not proved from fmt's source: count such statements apart). THE CARD IS WHAT COUNTS. Prove the row's statement (the work); the ties are given (YtbilaapikclhlaaDoorTie.lean); close each card by the builder's one call (the guide's Derived/Test/ToyasCard.lean, 'card_holds'). Laid BY PROGRAM, IN A SANDBOX (cutbox-door.mjs). By AI agents, Wed Nov 11 2026. No macro, syntax, notation, axiom, sorry.
-/
import Derived.Test.YtbilaapikclhlaaDoorRows
import GoSem.ClaimSeven
namespace Go.Proofs.YtbilaapikclhlaaDoor
namespace Rows

/-- THE TIED CARD OF 'aqueductlaw16.AddrNames'. -/
def addrNamesCard : Claim7 := { stood := { row := addrNamesRow, standIns := [], harness := (true, "aed53655eae3c184de0cdf6a270c5b5a08a262e64b305e8d5eb5d929976574ed"), looks := true }, kinds := [], alts := [], laidByText := true, laidKinds := [.data, .data, .data, .sentinel, .sentinel], laidTests := true, laidLooks := .later }
def AddrNamesCardSaid : Prop := Claim7.holds Tryd.pinned (.plain (OpenSpec.ofChange addrNamesSpec)) addrNamesCard

/-- THE TIED CARD OF 'aqueductlaw16.AddrTexts'. -/
def addrTextsCard : Claim7 := { stood := { row := addrTextsRow, standIns := [], harness := (true, "aed53655eae3c184de0cdf6a270c5b5a08a262e64b305e8d5eb5d929976574ed"), looks := true }, kinds := [], alts := [], laidByText := true, laidKinds := [.data, .data, .data, .sentinel, .sentinel], laidTests := true, laidLooks := .later }
def AddrTextsCardSaid : Prop := Claim7.holds Tryd.pinned (.plain (OpenSpec.ofChange addrTextsSpec)) addrTextsCard

/-- THE TIED CARD OF 'aqueductlaw16.AddrParses'. -/
def addrParsesCard : Claim7 := { stood := { row := addrParsesRow, standIns := [], harness := (true, "aed53655eae3c184de0cdf6a270c5b5a08a262e64b305e8d5eb5d929976574ed"), looks := true }, kinds := [], alts := [], laidByText := true, laidKinds := [.data, .data, .data, .sentinel, .sentinel], laidTests := true, laidLooks := .later }
def AddrParsesCardSaid : Prop := Claim7.holds Tryd.pinned (.plain (OpenSpec.ofChange addrParsesSpec)) addrParsesCard

/-- THE TIED CARD OF 'aqueductlaw16.AddrSorts'. -/
def addrSortsCard : Claim7 := { stood := { row := addrSortsRow, standIns := [], harness := (true, "aed53655eae3c184de0cdf6a270c5b5a08a262e64b305e8d5eb5d929976574ed"), looks := true }, kinds := [], alts := [], laidByText := true, laidKinds := [.data, .data, .data, .sentinel, .sentinel], laidTests := true, laidLooks := .later }
def AddrSortsCardSaid : Prop := Claim7.holds Tryd.pinned (.plain (OpenSpec.ofChange addrSortsSpec)) addrSortsCard

/-- THE TIED CARD OF 'aqueductlaw16.AddrHolds'. -/
def addrHoldsCard : Claim7 := { stood := { row := addrHoldsRow, standIns := [], harness := (true, "aed53655eae3c184de0cdf6a270c5b5a08a262e64b305e8d5eb5d929976574ed"), looks := true }, kinds := [], alts := [], laidByText := true, laidKinds := [.data, .data, .data, .sentinel, .sentinel], laidTests := true, laidLooks := .later }
def AddrHoldsCardSaid : Prop := Claim7.holds Tryd.pinned (.plain (OpenSpec.ofChange addrHoldsSpec)) addrHoldsCard

/-- THE SECOND FORM's CARD OF 'aqueductlaw16.AddrNames'. -/
def addrNamesUptoCard : Claim7 := { stood := { row := addrNamesUptoRow, standIns := [], harness := (true, "aed53655eae3c184de0cdf6a270c5b5a08a262e64b305e8d5eb5d929976574ed"), looks := true }, kinds := [], alts := [], laidByText := true, laidKinds := [.data, .data, .data, .sentinel, .sentinel], laidTests := true, laidLooks := .later }
def AddrNamesUptoCardSaid : Prop := Claim7.holds Tryd.pinned (.plain (OpenSpec.upto addrNamesSpec)) addrNamesUptoCard

/-- THE SECOND FORM's CARD OF 'aqueductlaw16.AddrTexts'. -/
def addrTextsUptoCard : Claim7 := { stood := { row := addrTextsUptoRow, standIns := [], harness := (true, "aed53655eae3c184de0cdf6a270c5b5a08a262e64b305e8d5eb5d929976574ed"), looks := true }, kinds := [], alts := [], laidByText := true, laidKinds := [.data, .data, .data, .sentinel, .sentinel], laidTests := true, laidLooks := .later }
def AddrTextsUptoCardSaid : Prop := Claim7.holds Tryd.pinned (.plain (OpenSpec.upto addrTextsSpec)) addrTextsUptoCard

/-- THE SECOND FORM's CARD OF 'aqueductlaw16.AddrParses'. -/
def addrParsesUptoCard : Claim7 := { stood := { row := addrParsesUptoRow, standIns := [], harness := (true, "aed53655eae3c184de0cdf6a270c5b5a08a262e64b305e8d5eb5d929976574ed"), looks := true }, kinds := [], alts := [], laidByText := true, laidKinds := [.data, .data, .data, .sentinel, .sentinel], laidTests := true, laidLooks := .later }
def AddrParsesUptoCardSaid : Prop := Claim7.holds Tryd.pinned (.plain (OpenSpec.upto addrParsesSpec)) addrParsesUptoCard

/-- THE SECOND FORM's CARD OF 'aqueductlaw16.AddrSorts'. -/
def addrSortsUptoCard : Claim7 := { stood := { row := addrSortsUptoRow, standIns := [], harness := (true, "aed53655eae3c184de0cdf6a270c5b5a08a262e64b305e8d5eb5d929976574ed"), looks := true }, kinds := [], alts := [], laidByText := true, laidKinds := [.data, .data, .data, .sentinel, .sentinel], laidTests := true, laidLooks := .later }
def AddrSortsUptoCardSaid : Prop := Claim7.holds Tryd.pinned (.plain (OpenSpec.upto addrSortsSpec)) addrSortsUptoCard

/-- THE SECOND FORM's CARD OF 'aqueductlaw16.AddrHolds'. -/
def addrHoldsUptoCard : Claim7 := { stood := { row := addrHoldsUptoRow, standIns := [], harness := (true, "aed53655eae3c184de0cdf6a270c5b5a08a262e64b305e8d5eb5d929976574ed"), looks := true }, kinds := [], alts := [], laidByText := true, laidKinds := [.data, .data, .data, .sentinel, .sentinel], laidTests := true, laidLooks := .later }
def AddrHoldsUptoCardSaid : Prop := Claim7.holds Tryd.pinned (.plain (OpenSpec.upto addrHoldsSpec)) addrHoldsUptoCard
end Rows
end Go.Proofs.YtbilaapikclhlaaDoor
