/-
  DERIVED. GIVEN WITH THE SEED: THE CARDS: each row of YtemihaijhcpnfaaGreatDoorRows.lean that lists a variable, with what it lists TIED to the program's text (the seventh form; the later family's looks); each row that meets fmt, with fmt's text TOLD by the authors' own Lean function (tested against real Go, not proved from fmt's source: count such statements apart). THE CARD IS WHAT COUNTS. Prove the row's statement (the work); the ties are given (YtemihaijhcpnfaaGreatDoorTie.lean); close each card by the builder's one call (the guide's Derived/Test/ToyasCard.lean, 'card_holds'). Laid BY PROGRAM, IN A SANDBOX (cutbox-door.mjs). By AI agents, Wed Nov 11 2026. No macro, syntax, notation, axiom, sorry.
-/
import Derived.Test.YtemihaijhcpnfaaGreatDoorRows
import GoSem.ClaimSeven
namespace Go.Proofs.YtemihaijhcpnfaaGreatDoor
namespace Rows

/-- THE TIED CARD OF 'aqueductlaw33.SnapshotSums'. -/
def snapshotSumsCard : Claim7 := { stood := { row := snapshotSumsRow, standIns := [], harness := (true, "7c05eeaafa71da542de77cadd01ee1602d23f421984dd22cb1e85c6b88a49139"), looks := true }, kinds := [], alts := [], laidByText := true, laidKinds := [.data], laidTests := true, laidLooks := .later }
def SnapshotSumsCardSaid : Prop := Claim7.holds Tryz.pinned (.plain (OpenSpec.ofChange snapshotSumsSpec)) snapshotSumsCard

/-- THE TIED CARD OF 'aqueductlaw33.SnapshotWrites'. -/
def snapshotWritesCard : Claim7 := { stood := { row := snapshotWritesRow, standIns := [], harness := (true, "7c05eeaafa71da542de77cadd01ee1602d23f421984dd22cb1e85c6b88a49139"), looks := true }, kinds := [], alts := [], laidByText := true, laidKinds := [.data], laidTests := true, laidLooks := .later }
def SnapshotWritesCardSaid : Prop := Claim7.holds Tryz.pinned (.plain (OpenSpec.ofChange snapshotWritesSpec)) snapshotWritesCard

/-- THE TIED CARD OF 'aqueductlaw33.SnapshotSpoilt'. -/
def snapshotSpoiltCard : Claim7 := { stood := { row := snapshotSpoiltRow, standIns := [], harness := (true, "7c05eeaafa71da542de77cadd01ee1602d23f421984dd22cb1e85c6b88a49139"), looks := true }, kinds := [], alts := [], laidByText := true, laidKinds := [.data], laidTests := true, laidLooks := .later }
def SnapshotSpoiltCardSaid : Prop := Claim7.holds Tryz.pinned (.plain (OpenSpec.ofChange snapshotSpoiltSpec)) snapshotSpoiltCard

/-- THE TIED CARD OF 'aqueductlaw33.SnapshotReads'. -/
def snapshotReadsCard : Claim7 := { stood := { row := snapshotReadsRow, standIns := [], harness := (true, "7c05eeaafa71da542de77cadd01ee1602d23f421984dd22cb1e85c6b88a49139"), looks := true }, kinds := [], alts := [], laidByText := true, laidKinds := [.data], laidTests := true, laidLooks := .later }
def SnapshotReadsCardSaid : Prop := Claim7.holds Tryz.pinned (.plain (OpenSpec.ofChange snapshotReadsSpec)) snapshotReadsCard

/-- THE TIED CARD OF 'aqueductlaw33.SnapshotNone'. -/
def snapshotNoneCard : Claim7 := { stood := { row := snapshotNoneRow, standIns := [], harness := (true, "7c05eeaafa71da542de77cadd01ee1602d23f421984dd22cb1e85c6b88a49139"), looks := true }, kinds := [], alts := [], laidByText := true, laidKinds := [.data], laidTests := true, laidLooks := .later }
def SnapshotNoneCardSaid : Prop := Claim7.holds Tryz.pinned (.plain (OpenSpec.ofChange snapshotNoneSpec)) snapshotNoneCard

/-- THE TIED CARD OF 'aqueductlaw33.SnapshotHolds'. -/
def snapshotHoldsCard : Claim7 := { stood := { row := snapshotHoldsRow, standIns := [], harness := (true, "7c05eeaafa71da542de77cadd01ee1602d23f421984dd22cb1e85c6b88a49139"), looks := true }, kinds := [], alts := [], laidByText := true, laidKinds := [.data], laidTests := true, laidLooks := .later }
def SnapshotHoldsCardSaid : Prop := Claim7.holds Tryz.pinned (.plain (OpenSpec.ofChange snapshotHoldsSpec)) snapshotHoldsCard

/-- THE SECOND FORM's CARD OF 'aqueductlaw33.SnapshotSums'. -/
def snapshotSumsUptoCard : Claim7 := { stood := { row := snapshotSumsUptoRow, standIns := [], harness := (true, "7c05eeaafa71da542de77cadd01ee1602d23f421984dd22cb1e85c6b88a49139"), looks := true }, kinds := [], alts := [], laidByText := true, laidKinds := [.data], laidTests := true, laidLooks := .later }
def SnapshotSumsUptoCardSaid : Prop := Claim7.holds Tryz.pinned (.plain (OpenSpec.upto snapshotSumsSpec)) snapshotSumsUptoCard

/-- THE SECOND FORM's CARD OF 'aqueductlaw33.SnapshotWrites'. -/
def snapshotWritesUptoCard : Claim7 := { stood := { row := snapshotWritesUptoRow, standIns := [], harness := (true, "7c05eeaafa71da542de77cadd01ee1602d23f421984dd22cb1e85c6b88a49139"), looks := true }, kinds := [], alts := [], laidByText := true, laidKinds := [.data], laidTests := true, laidLooks := .later }
def SnapshotWritesUptoCardSaid : Prop := Claim7.holds Tryz.pinned (.plain (OpenSpec.upto snapshotWritesSpec)) snapshotWritesUptoCard

/-- THE SECOND FORM's CARD OF 'aqueductlaw33.SnapshotSpoilt'. -/
def snapshotSpoiltUptoCard : Claim7 := { stood := { row := snapshotSpoiltUptoRow, standIns := [], harness := (true, "7c05eeaafa71da542de77cadd01ee1602d23f421984dd22cb1e85c6b88a49139"), looks := true }, kinds := [], alts := [], laidByText := true, laidKinds := [.data], laidTests := true, laidLooks := .later }
def SnapshotSpoiltUptoCardSaid : Prop := Claim7.holds Tryz.pinned (.plain (OpenSpec.upto snapshotSpoiltSpec)) snapshotSpoiltUptoCard

/-- THE SECOND FORM's CARD OF 'aqueductlaw33.SnapshotReads'. -/
def snapshotReadsUptoCard : Claim7 := { stood := { row := snapshotReadsUptoRow, standIns := [], harness := (true, "7c05eeaafa71da542de77cadd01ee1602d23f421984dd22cb1e85c6b88a49139"), looks := true }, kinds := [], alts := [], laidByText := true, laidKinds := [.data], laidTests := true, laidLooks := .later }
def SnapshotReadsUptoCardSaid : Prop := Claim7.holds Tryz.pinned (.plain (OpenSpec.upto snapshotReadsSpec)) snapshotReadsUptoCard

/-- THE SECOND FORM's CARD OF 'aqueductlaw33.SnapshotNone'. -/
def snapshotNoneUptoCard : Claim7 := { stood := { row := snapshotNoneUptoRow, standIns := [], harness := (true, "7c05eeaafa71da542de77cadd01ee1602d23f421984dd22cb1e85c6b88a49139"), looks := true }, kinds := [], alts := [], laidByText := true, laidKinds := [.data], laidTests := true, laidLooks := .later }
def SnapshotNoneUptoCardSaid : Prop := Claim7.holds Tryz.pinned (.plain (OpenSpec.upto snapshotNoneSpec)) snapshotNoneUptoCard

/-- THE SECOND FORM's CARD OF 'aqueductlaw33.SnapshotHolds'. -/
def snapshotHoldsUptoCard : Claim7 := { stood := { row := snapshotHoldsUptoRow, standIns := [], harness := (true, "7c05eeaafa71da542de77cadd01ee1602d23f421984dd22cb1e85c6b88a49139"), looks := true }, kinds := [], alts := [], laidByText := true, laidKinds := [.data], laidTests := true, laidLooks := .later }
def SnapshotHoldsUptoCardSaid : Prop := Claim7.holds Tryz.pinned (.plain (OpenSpec.upto snapshotHoldsSpec)) snapshotHoldsUptoCard
end Rows
end Go.Proofs.YtemihaijhcpnfaaGreatDoor
