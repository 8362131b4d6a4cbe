/-
  NARROWER THAN 'FOR EVERY INPUT', by the rows' own cells (each row's printed sentence says how): SnapshotSums: laid · SnapshotWrites: laid · SnapshotSpoilt: laid · SnapshotReads: laid · SnapshotNone: laid · SnapshotHolds: laid.
  DERIVED. THE GIVEN ROWS OF THIS SEAT. 6 by the template 'for every input the law returns true; each argument reads behind the call as it read before'; 0 by the template 'total and deterministic' (their statements: YtemihaijhcpnfaaGreatDoorTotals.lean).
  GIVEN WITH THE SEED: the statements are not yours to turn. If you find one false, say at which input.
  Laid BY PROGRAM, IN A SANDBOX (cutbox-rows.mjs): the forced cells as the released guide's own fill.sh prints them over the translation 75adb9fa96374286… (all of the seat's roots in one cut). By AI agents, Wed Nov 11 2026. No macro, syntax, notation, axiom, sorry.
-/
import Derived.Test.YtemihaijhcpnfaaGreatDoorChecked
import GoSem.Claim
import GoSem.ClaimJoined
import GoSem.ClaimMapViews
import Derived.JoinedTies
import Derived.KernelRfl
namespace Go.Proofs.YtemihaijhcpnfaaGreatDoor
/- THE CELL 'sum', in the pinned program and in every row, IS THE sha256 OF THE DUMP (.gsa) THAT YtemihaijhcpnfaaGreatDoorProg.lean LOADS. Nothing in Lean hashes anything: it is a label: what it is worth is what the hold of that sum in a sandbox is worth. -/
noncomputable def Tryz.pinned : Pinned := { name := "ytemihaijhcpnfaagreatdoor", sum := "75adb9fa963742863ddc194da2f2b37929119dbc02fd6faeccc7131ad44e14ce", checked := Tryz.checked }
namespace Rows
def none {H : Type} : Left H := { results := [], args := [] }

/- WHAT THE LISTED PACKAGE-LEVEL VARIABLES READ AS WHEN THE CALL BEGINS. Each datum BY PROGRAM (the guide's laid-datum.mjs) off the statement by which the dump's own 'gosem.cut.vars' lays the variable. In a bare row this is a premise. The card (YtemihaijhcpnfaaGreatDoorCards.lean) ties it to the program's text. -/
def laid_aqueduct_engine_nowhere {H : Type} : DataW H := .agg [.lit (.int .i64 (-1)), .lit (.int .i64 0)]

/-- 'aqueductlaw33.SnapshotSums': WHATEVER THE INPUT: true; the input reads as it did. -/
def snapshotSumsSpec : ChangeSpec := { name := "snapshotSums", fn := fun _ => fun
  | [d] => { results := [.lit (.bool true)], args := [d] }
  | _ => none }
def snapshotSumsRow : OpenClaim := { program := "ytemihaijhcpnfaagreatdoor", sum := "75adb9fa963742863ddc194da2f2b37929119dbc02fd6faeccc7131ad44e14ce", func := "aqueduct/aqueductlaw33.SnapshotSums", spec := "snapshotSums", inPlace := ["maps.clone"], unfollowed := true, recurses := true, named := ["aqueduct/engine.nowhere"], plainKeys := false, apart := false, laid := [("aqueduct/engine.nowhere", laid_aqueduct_engine_nowhere)] }
def SnapshotSumsSaid : Prop := snapshotSumsRow.holds Tryz.pinned (OpenSpec.ofChange snapshotSumsSpec)

/-- ITS FALSE NEIGHBOUR: 'it returns false'. Refute it at one input. -/
def snapshotSumsWrong : ChangeSpec := { name := "snapshotSums", fn := fun _ => fun
  | [d] => { results := [.lit (.bool false)], args := [d] }
  | _ => none }
def SnapshotSumsWrongFalsely : Prop := snapshotSumsRow.holds Tryz.pinned (OpenSpec.ofChange snapshotSumsWrong)

/-- 'aqueductlaw33.SnapshotWrites': WHATEVER THE INPUT: true; the input reads as it did. -/
def snapshotWritesSpec : ChangeSpec := { name := "snapshotWrites", fn := fun _ => fun
  | [d] => { results := [.lit (.bool true)], args := [d] }
  | _ => none }
def snapshotWritesRow : OpenClaim := { program := "ytemihaijhcpnfaagreatdoor", sum := "75adb9fa963742863ddc194da2f2b37929119dbc02fd6faeccc7131ad44e14ce", func := "aqueduct/aqueductlaw33.SnapshotWrites", spec := "snapshotWrites", inPlace := ["maps.clone"], unfollowed := true, recurses := true, named := ["aqueduct/engine.nowhere"], plainKeys := false, apart := false, laid := [("aqueduct/engine.nowhere", laid_aqueduct_engine_nowhere)] }
def SnapshotWritesSaid : Prop := snapshotWritesRow.holds Tryz.pinned (OpenSpec.ofChange snapshotWritesSpec)

/-- ITS FALSE NEIGHBOUR: 'it returns false'. Refute it at one input. -/
def snapshotWritesWrong : ChangeSpec := { name := "snapshotWrites", fn := fun _ => fun
  | [d] => { results := [.lit (.bool false)], args := [d] }
  | _ => none }
def SnapshotWritesWrongFalsely : Prop := snapshotWritesRow.holds Tryz.pinned (OpenSpec.ofChange snapshotWritesWrong)

/-- 'aqueductlaw33.SnapshotSpoilt': WHATEVER THE INPUT: true; the input reads as it did. -/
def snapshotSpoiltSpec : ChangeSpec := { name := "snapshotSpoilt", fn := fun _ => fun
  | [d1, d2, d3, d4] => { results := [.lit (.bool true)], args := [d1, d2, d3, d4] }
  | _ => none }
def snapshotSpoiltRow : OpenClaim := { program := "ytemihaijhcpnfaagreatdoor", sum := "75adb9fa963742863ddc194da2f2b37929119dbc02fd6faeccc7131ad44e14ce", func := "aqueduct/aqueductlaw33.SnapshotSpoilt", spec := "snapshotSpoilt", inPlace := ["maps.clone"], unfollowed := true, recurses := true, named := ["aqueduct/engine.nowhere"], plainKeys := false, apart := false, laid := [("aqueduct/engine.nowhere", laid_aqueduct_engine_nowhere)] }
def SnapshotSpoiltSaid : Prop := snapshotSpoiltRow.holds Tryz.pinned (OpenSpec.ofChange snapshotSpoiltSpec)

/-- ITS FALSE NEIGHBOUR: 'it returns false'. Refute it at one input. -/
def snapshotSpoiltWrong : ChangeSpec := { name := "snapshotSpoilt", fn := fun _ => fun
  | [d1, d2, d3, d4] => { results := [.lit (.bool false)], args := [d1, d2, d3, d4] }
  | _ => none }
def SnapshotSpoiltWrongFalsely : Prop := snapshotSpoiltRow.holds Tryz.pinned (OpenSpec.ofChange snapshotSpoiltWrong)

/-- 'aqueductlaw33.SnapshotReads': WHATEVER THE INPUT: true; the input reads as it did. -/
def snapshotReadsSpec : ChangeSpec := { name := "snapshotReads", fn := fun _ => fun
  | [d] => { results := [.lit (.bool true)], args := [d] }
  | _ => none }
def snapshotReadsRow : OpenClaim := { program := "ytemihaijhcpnfaagreatdoor", sum := "75adb9fa963742863ddc194da2f2b37929119dbc02fd6faeccc7131ad44e14ce", func := "aqueduct/aqueductlaw33.SnapshotReads", spec := "snapshotReads", inPlace := ["maps.clone"], unfollowed := true, recurses := true, named := ["aqueduct/engine.nowhere"], plainKeys := false, apart := false, laid := [("aqueduct/engine.nowhere", laid_aqueduct_engine_nowhere)] }
def SnapshotReadsSaid : Prop := snapshotReadsRow.holds Tryz.pinned (OpenSpec.ofChange snapshotReadsSpec)

/-- ITS FALSE NEIGHBOUR: 'it returns false'. Refute it at one input. -/
def snapshotReadsWrong : ChangeSpec := { name := "snapshotReads", fn := fun _ => fun
  | [d] => { results := [.lit (.bool false)], args := [d] }
  | _ => none }
def SnapshotReadsWrongFalsely : Prop := snapshotReadsRow.holds Tryz.pinned (OpenSpec.ofChange snapshotReadsWrong)

/-- 'aqueductlaw33.SnapshotNone': WHATEVER THE INPUT: true; the input reads as it did. -/
def snapshotNoneSpec : ChangeSpec := { name := "snapshotNone", fn := fun _ => fun
  | [d] => { results := [.lit (.bool true)], args := [d] }
  | _ => none }
def snapshotNoneRow : OpenClaim := { program := "ytemihaijhcpnfaagreatdoor", sum := "75adb9fa963742863ddc194da2f2b37929119dbc02fd6faeccc7131ad44e14ce", func := "aqueduct/aqueductlaw33.SnapshotNone", spec := "snapshotNone", inPlace := ["maps.clone"], unfollowed := true, recurses := true, named := ["aqueduct/engine.nowhere"], plainKeys := false, apart := false, laid := [("aqueduct/engine.nowhere", laid_aqueduct_engine_nowhere)] }
def SnapshotNoneSaid : Prop := snapshotNoneRow.holds Tryz.pinned (OpenSpec.ofChange snapshotNoneSpec)

/-- ITS FALSE NEIGHBOUR: 'it returns false'. Refute it at one input. -/
def snapshotNoneWrong : ChangeSpec := { name := "snapshotNone", fn := fun _ => fun
  | [d] => { results := [.lit (.bool false)], args := [d] }
  | _ => none }
def SnapshotNoneWrongFalsely : Prop := snapshotNoneRow.holds Tryz.pinned (OpenSpec.ofChange snapshotNoneWrong)

/-- 'aqueductlaw33.SnapshotHolds': WHATEVER THE INPUT: true; the input reads as it did. -/
def snapshotHoldsSpec : ChangeSpec := { name := "snapshotHolds", fn := fun _ => fun
  | [d1, d2] => { results := [.lit (.bool true)], args := [d1, d2] }
  | _ => none }
def snapshotHoldsRow : OpenClaim := { program := "ytemihaijhcpnfaagreatdoor", sum := "75adb9fa963742863ddc194da2f2b37929119dbc02fd6faeccc7131ad44e14ce", func := "aqueduct/aqueductlaw33.SnapshotHolds", spec := "snapshotHolds", inPlace := ["maps.clone", "slices.overlaps[aqueduct/api.File]"], unfollowed := true, recurses := true, named := ["aqueduct/engine.nowhere"], plainKeys := false, apart := false, laid := [("aqueduct/engine.nowhere", laid_aqueduct_engine_nowhere)] }
def SnapshotHoldsSaid : Prop := snapshotHoldsRow.holds Tryz.pinned (OpenSpec.ofChange snapshotHoldsSpec)

/-- ITS FALSE NEIGHBOUR: 'it returns false'. Refute it at one input. -/
def snapshotHoldsWrong : ChangeSpec := { name := "snapshotHolds", fn := fun _ => fun
  | [d1, d2] => { results := [.lit (.bool false)], args := [d1, d2] }
  | _ => none }
def SnapshotHoldsWrongFalsely : Prop := snapshotHoldsRow.holds Tryz.pinned (OpenSpec.ofChange snapshotHoldsWrong)

/- THE SECOND FORM. 'bulk': how many values and letters a reading holds, each counted each time it is reached (what is shared counts as often as it is met; a slice's spare places count too). A statement '..UptoSaid' is the law's where the arguments, and the package variables that the reading takes, are together of bulk at most 1048576: NARROWER than '..Said'. Prove '..Said' where nothing that the law and all that it calls make is longer than what came in: it says more and counts as full. Else prove '..UptoSaid'. A law counts once. -/
mutual
def uptoBulk {H : Type} : DataW H → Nat
  | .lit (.string bytes) => bytes.length + 1
  | .lit _ => 1
  | .nil => 1
  | .ptr d => uptoBulk d + 1
  | .slice elems spare => uptoBulkAll elems + uptoBulkAll spare + 1
  | .agg parts => uptoBulkAll parts + 1
  | .iface _ d => uptoBulk d + 1
  | .map entries => uptoBulkEntries entries + 1
  | .held _ => 1
def uptoBulkAll {H : Type} : List (DataW H) → Nat
  | [] => 0
  | d :: r => uptoBulk d + uptoBulkAll r
def uptoBulkEntries {H : Type} : List (Lit × DataW H) → Nat
  | [] => 0
  | x :: r => uptoBulkEntry x + uptoBulkEntries r
def uptoBulkEntry {H : Type} : Lit × DataW H → Nat
  | (.string bytes, d) => bytes.length + uptoBulk d + 1
  | (_, d) => uptoBulk d + 1
 end
def uptoSmall : (H : Type) → List (DataW H) → Bool := fun _ ds => decide (uptoBulkAll ds ≤ 1048576)
def OpenSpec.upto (s : _root_.Go.ChangeSpec) : _root_.Go.OpenSpec := { _root_.Go.OpenSpec.ofChange s with cond := some uptoSmall }

/-- 'aqueductlaw33.SnapshotSums', WHERE WHAT IT READS IS OF BULK AT MOST 1048576: true; the input reads as it did. -/
def snapshotSumsUptoRow : OpenClaim := { program := "ytemihaijhcpnfaagreatdoor", sum := "75adb9fa963742863ddc194da2f2b37929119dbc02fd6faeccc7131ad44e14ce", func := "aqueduct/aqueductlaw33.SnapshotSums", spec := "snapshotSums", inPlace := ["maps.clone"], unfollowed := true, recurses := true, named := ["aqueduct/engine.nowhere"], plainKeys := false, apart := false, laid := [("aqueduct/engine.nowhere", laid_aqueduct_engine_nowhere)], narrowed := true }
def SnapshotSumsUptoSaid : Prop := snapshotSumsUptoRow.holds Tryz.pinned (OpenSpec.upto snapshotSumsSpec)

/-- 'aqueductlaw33.SnapshotWrites', WHERE WHAT IT READS IS OF BULK AT MOST 1048576: true; the input reads as it did. -/
def snapshotWritesUptoRow : OpenClaim := { program := "ytemihaijhcpnfaagreatdoor", sum := "75adb9fa963742863ddc194da2f2b37929119dbc02fd6faeccc7131ad44e14ce", func := "aqueduct/aqueductlaw33.SnapshotWrites", spec := "snapshotWrites", inPlace := ["maps.clone"], unfollowed := true, recurses := true, named := ["aqueduct/engine.nowhere"], plainKeys := false, apart := false, laid := [("aqueduct/engine.nowhere", laid_aqueduct_engine_nowhere)], narrowed := true }
def SnapshotWritesUptoSaid : Prop := snapshotWritesUptoRow.holds Tryz.pinned (OpenSpec.upto snapshotWritesSpec)

/-- 'aqueductlaw33.SnapshotSpoilt', WHERE WHAT IT READS IS OF BULK AT MOST 1048576: true; the input reads as it did. -/
def snapshotSpoiltUptoRow : OpenClaim := { program := "ytemihaijhcpnfaagreatdoor", sum := "75adb9fa963742863ddc194da2f2b37929119dbc02fd6faeccc7131ad44e14ce", func := "aqueduct/aqueductlaw33.SnapshotSpoilt", spec := "snapshotSpoilt", inPlace := ["maps.clone"], unfollowed := true, recurses := true, named := ["aqueduct/engine.nowhere"], plainKeys := false, apart := false, laid := [("aqueduct/engine.nowhere", laid_aqueduct_engine_nowhere)], narrowed := true }
def SnapshotSpoiltUptoSaid : Prop := snapshotSpoiltUptoRow.holds Tryz.pinned (OpenSpec.upto snapshotSpoiltSpec)

/-- 'aqueductlaw33.SnapshotReads', WHERE WHAT IT READS IS OF BULK AT MOST 1048576: true; the input reads as it did. -/
def snapshotReadsUptoRow : OpenClaim := { program := "ytemihaijhcpnfaagreatdoor", sum := "75adb9fa963742863ddc194da2f2b37929119dbc02fd6faeccc7131ad44e14ce", func := "aqueduct/aqueductlaw33.SnapshotReads", spec := "snapshotReads", inPlace := ["maps.clone"], unfollowed := true, recurses := true, named := ["aqueduct/engine.nowhere"], plainKeys := false, apart := false, laid := [("aqueduct/engine.nowhere", laid_aqueduct_engine_nowhere)], narrowed := true }
def SnapshotReadsUptoSaid : Prop := snapshotReadsUptoRow.holds Tryz.pinned (OpenSpec.upto snapshotReadsSpec)

/-- 'aqueductlaw33.SnapshotNone', WHERE WHAT IT READS IS OF BULK AT MOST 1048576: true; the input reads as it did. -/
def snapshotNoneUptoRow : OpenClaim := { program := "ytemihaijhcpnfaagreatdoor", sum := "75adb9fa963742863ddc194da2f2b37929119dbc02fd6faeccc7131ad44e14ce", func := "aqueduct/aqueductlaw33.SnapshotNone", spec := "snapshotNone", inPlace := ["maps.clone"], unfollowed := true, recurses := true, named := ["aqueduct/engine.nowhere"], plainKeys := false, apart := false, laid := [("aqueduct/engine.nowhere", laid_aqueduct_engine_nowhere)], narrowed := true }
def SnapshotNoneUptoSaid : Prop := snapshotNoneUptoRow.holds Tryz.pinned (OpenSpec.upto snapshotNoneSpec)

/-- 'aqueductlaw33.SnapshotHolds', WHERE WHAT IT READS IS OF BULK AT MOST 1048576: true; the input reads as it did. -/
def snapshotHoldsUptoRow : OpenClaim := { program := "ytemihaijhcpnfaagreatdoor", sum := "75adb9fa963742863ddc194da2f2b37929119dbc02fd6faeccc7131ad44e14ce", func := "aqueduct/aqueductlaw33.SnapshotHolds", spec := "snapshotHolds", inPlace := ["maps.clone", "slices.overlaps[aqueduct/api.File]"], unfollowed := true, recurses := true, named := ["aqueduct/engine.nowhere"], plainKeys := false, apart := false, laid := [("aqueduct/engine.nowhere", laid_aqueduct_engine_nowhere)], narrowed := true }
def SnapshotHoldsUptoSaid : Prop := snapshotHoldsUptoRow.holds Tryz.pinned (OpenSpec.upto snapshotHoldsSpec)

end Rows
end Go.Proofs.YtemihaijhcpnfaaGreatDoor
