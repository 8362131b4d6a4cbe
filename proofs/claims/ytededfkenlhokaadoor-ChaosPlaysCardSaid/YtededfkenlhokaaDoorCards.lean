/-
  DERIVED. GIVEN WITH THE SEED: THE CARDS: each row of YtededfkenlhokaaDoorRows.lean that lists a variable, with what it lists TIED to the program's text (the seventh form; the later family's looks); each row that meets fmt, with fmt's text TOLD by the authors' own Lean function (tested against real Go, not proved from fmt's source: count such statements apart). THE CARD IS WHAT COUNTS. Prove the row's statement (the work); the ties are given (YtededfkenlhokaaDoorTie.lean); close each card by the builder's one call (the guide's Derived/Test/ToyasCard.lean, 'card_holds'). Laid BY PROGRAM, IN A SANDBOX (cutbox-door.mjs). By AI agents, Wed Nov 11 2026. No macro, syntax, notation, axiom, sorry.
-/
import Derived.Test.YtededfkenlhokaaDoorRows
import GoSem.ClaimSeven
namespace Go.Proofs.YtededfkenlhokaaDoor
namespace Rows

/-- THE TIED CARD OF 'aqueductlaw42.ChaosTexts'. -/
def chaosTextsCard : Claim7 := { stood := { row := chaosTextsRow, standIns := [], harness := (true, "b85ae38c88f53ec103e9180864dfb31a97e0504bf96c87ce1e45584ce8007686"), looks := true }, kinds := [], alts := [], laidByText := true, laidKinds := [.data, .data, .data, .sentinel, .sentinel, .listed, .data], laidTests := true, laidLooks := .later }
def ChaosTextsCardSaid : Prop := Claim7.holds Tryd.pinned (.plain (OpenSpec.ofChange chaosTextsSpec)) chaosTextsCard

/-- THE TIED CARD OF 'aqueductlaw42.ChaosHolds'. -/
def chaosHoldsCard : Claim7 := { stood := { row := chaosHoldsRow, standIns := [], harness := (true, "b85ae38c88f53ec103e9180864dfb31a97e0504bf96c87ce1e45584ce8007686"), looks := true }, kinds := [], alts := [], laidByText := true, laidKinds := [.data, .data, .data, .sentinel, .sentinel, .listed, .data], laidTests := true, laidLooks := .later }
def ChaosHoldsCardSaid : Prop := Claim7.holds Tryd.pinned (.plain (OpenSpec.ofChange chaosHoldsSpec)) chaosHoldsCard

/-- THE TIED CARD OF 'aqueductlaw42.ChaosPlays'. -/
def chaosPlaysCard : Claim7 := { stood := { row := chaosPlaysRow, standIns := [], harness := (true, "b85ae38c88f53ec103e9180864dfb31a97e0504bf96c87ce1e45584ce8007686"), looks := true }, kinds := [], alts := [], laidByText := true, laidKinds := [.data, .data, .data, .sentinel, .sentinel, .listed, .data], laidTests := true, laidLooks := .later }
def ChaosPlaysCardSaid : Prop := Claim7.holds Tryd.pinned (.plain (OpenSpec.ofChange chaosPlaysSpec)) chaosPlaysCard

/-- THE TIED CARD OF 'aqueductlaw42.ChaosNone'. -/
def chaosNoneCard : Claim7 := { stood := { row := chaosNoneRow, standIns := [], harness := (true, "b85ae38c88f53ec103e9180864dfb31a97e0504bf96c87ce1e45584ce8007686"), looks := true }, kinds := [], alts := [], laidByText := true, laidKinds := [.data, .data, .data, .sentinel, .sentinel, .listed, .data], laidTests := true, laidLooks := .later }
def ChaosNoneCardSaid : Prop := Claim7.holds Tryd.pinned (.plain (OpenSpec.ofChange chaosNoneSpec)) chaosNoneCard

/-- THE SECOND FORM's CARD OF 'aqueductlaw42.ChaosTexts'. -/
def chaosTextsUptoCard : Claim7 := { stood := { row := chaosTextsUptoRow, standIns := [], harness := (true, "b85ae38c88f53ec103e9180864dfb31a97e0504bf96c87ce1e45584ce8007686"), looks := true }, kinds := [], alts := [], laidByText := true, laidKinds := [.data, .data, .data, .sentinel, .sentinel, .listed, .data], laidTests := true, laidLooks := .later }
def ChaosTextsUptoCardSaid : Prop := Claim7.holds Tryd.pinned (.plain (OpenSpec.upto chaosTextsSpec)) chaosTextsUptoCard

/-- THE SECOND FORM's CARD OF 'aqueductlaw42.ChaosHolds'. -/
def chaosHoldsUptoCard : Claim7 := { stood := { row := chaosHoldsUptoRow, standIns := [], harness := (true, "b85ae38c88f53ec103e9180864dfb31a97e0504bf96c87ce1e45584ce8007686"), looks := true }, kinds := [], alts := [], laidByText := true, laidKinds := [.data, .data, .data, .sentinel, .sentinel, .listed, .data], laidTests := true, laidLooks := .later }
def ChaosHoldsUptoCardSaid : Prop := Claim7.holds Tryd.pinned (.plain (OpenSpec.upto chaosHoldsSpec)) chaosHoldsUptoCard

/-- THE SECOND FORM's CARD OF 'aqueductlaw42.ChaosPlays'. -/
def chaosPlaysUptoCard : Claim7 := { stood := { row := chaosPlaysUptoRow, standIns := [], harness := (true, "b85ae38c88f53ec103e9180864dfb31a97e0504bf96c87ce1e45584ce8007686"), looks := true }, kinds := [], alts := [], laidByText := true, laidKinds := [.data, .data, .data, .sentinel, .sentinel, .listed, .data], laidTests := true, laidLooks := .later }
def ChaosPlaysUptoCardSaid : Prop := Claim7.holds Tryd.pinned (.plain (OpenSpec.upto chaosPlaysSpec)) chaosPlaysUptoCard

/-- THE SECOND FORM's CARD OF 'aqueductlaw42.ChaosNone'. -/
def chaosNoneUptoCard : Claim7 := { stood := { row := chaosNoneUptoRow, standIns := [], harness := (true, "b85ae38c88f53ec103e9180864dfb31a97e0504bf96c87ce1e45584ce8007686"), looks := true }, kinds := [], alts := [], laidByText := true, laidKinds := [.data, .data, .data, .sentinel, .sentinel, .listed, .data], laidTests := true, laidLooks := .later }
def ChaosNoneUptoCardSaid : Prop := Claim7.holds Tryd.pinned (.plain (OpenSpec.upto chaosNoneSpec)) chaosNoneUptoCard
end Rows
end Go.Proofs.YtededfkenlhokaaDoor
