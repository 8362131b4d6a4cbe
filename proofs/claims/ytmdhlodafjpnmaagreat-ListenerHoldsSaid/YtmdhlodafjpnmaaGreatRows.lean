/-
  No cell of these rows narrows 'for every input' (looked for: loops, veiled, ifaces, maps, wideKeys, modest, calm, conditions, laid).
  DERIVED. THE GIVEN ROWS OF THIS SEAT. 5 by the template 'for every input the law returns true; each argument reads behind the call as it read before'; 0 by the template 'total and deterministic' (their statements: YtmdhlodafjpnmaaGreatTotals.lean).
  GIVEN WITH THE SEED: the statements are not yours to turn. If you find one false, say at which input.
  Laid BY PROGRAM, IN A SANDBOX (cutbox-rows.mjs): the forced cells as the released guide's own fill.sh prints them over the translation de1327f141d002f0… (all of the seat's roots in one cut). By AI agents, Wed Nov 11 2026. No macro, syntax, notation, axiom, sorry.
-/
import Derived.Test.YtmdhlodafjpnmaaGreatChecked
import GoSem.Claim
import GoSem.ClaimJoined
import GoSem.ClaimMapViews
import Derived.JoinedTies
import Derived.KernelRfl
namespace Go.Proofs.YtmdhlodafjpnmaaGreat
/- THE CELL 'sum', in the pinned program and in every row, IS THE sha256 OF THE DUMP (.gsa) THAT YtmdhlodafjpnmaaGreatProg.lean LOADS. Nothing in Lean hashes anything: it is a label: what it is worth is what the hold of that sum in a sandbox is worth. -/
noncomputable def Tryz.pinned : Pinned := { name := "ytmdhlodafjpnmaagreat", sum := "de1327f141d002f0f1ca316d385187c923b15835062758df91dae3e4a9839cda", checked := Tryz.checked }
namespace Rows
def none {H : Type} : Left H := { results := [], args := [] }

/-- 'aqueductlaw19.ListenerFull': WHATEVER THE INPUT: true; the input reads as it did. -/
def listenerFullSpec : ChangeSpec := { name := "listenerFull", fn := fun _ => fun
  | [d1, d2] => { results := [.lit (.bool true)], args := [d1, d2] }
  | _ => none }
def listenerFullRow : OpenClaim := { program := "ytmdhlodafjpnmaagreat", sum := "de1327f141d002f0f1ca316d385187c923b15835062758df91dae3e4a9839cda", func := "aqueduct/aqueductlaw19.ListenerFull", spec := "listenerFull", inPlace := ["maps.clone"], unfollowed := true, recurses := true, plainKeys := false, apart := false }
def ListenerFullSaid : Prop := listenerFullRow.holds Tryz.pinned (OpenSpec.ofChange listenerFullSpec)

/-- ITS FALSE NEIGHBOUR: 'it returns false'. Refute it at one input. -/
def listenerFullWrong : ChangeSpec := { name := "listenerFull", fn := fun _ => fun
  | [d1, d2] => { results := [.lit (.bool false)], args := [d1, d2] }
  | _ => none }
def ListenerFullWrongFalsely : Prop := listenerFullRow.holds Tryz.pinned (OpenSpec.ofChange listenerFullWrong)

/-- 'aqueductlaw19.ListenerNone': WHATEVER THE INPUT: true; the input reads as it did. -/
def listenerNoneSpec : ChangeSpec := { name := "listenerNone", fn := fun _ => fun
  | [d1, d2, d3] => { results := [.lit (.bool true)], args := [d1, d2, d3] }
  | _ => none }
def listenerNoneRow : OpenClaim := { program := "ytmdhlodafjpnmaagreat", sum := "de1327f141d002f0f1ca316d385187c923b15835062758df91dae3e4a9839cda", func := "aqueduct/aqueductlaw19.ListenerNone", spec := "listenerNone", inPlace := ["maps.clone"], unfollowed := true, recurses := true, plainKeys := false, apart := false }
def ListenerNoneSaid : Prop := listenerNoneRow.holds Tryz.pinned (OpenSpec.ofChange listenerNoneSpec)

/-- ITS FALSE NEIGHBOUR: 'it returns false'. Refute it at one input. -/
def listenerNoneWrong : ChangeSpec := { name := "listenerNone", fn := fun _ => fun
  | [d1, d2, d3] => { results := [.lit (.bool false)], args := [d1, d2, d3] }
  | _ => none }
def ListenerNoneWrongFalsely : Prop := listenerNoneRow.holds Tryz.pinned (OpenSpec.ofChange listenerNoneWrong)

/-- 'aqueductlaw19.ListenerPlays': WHATEVER THE INPUT: true; the input reads as it did. -/
def listenerPlaysSpec : ChangeSpec := { name := "listenerPlays", fn := fun _ => fun
  | [d] => { results := [.lit (.bool true)], args := [d] }
  | _ => none }
def listenerPlaysRow : OpenClaim := { program := "ytmdhlodafjpnmaagreat", sum := "de1327f141d002f0f1ca316d385187c923b15835062758df91dae3e4a9839cda", func := "aqueduct/aqueductlaw19.ListenerPlays", spec := "listenerPlays", inPlace := ["maps.clone"], unfollowed := true, recurses := true, plainKeys := false, apart := false }
def ListenerPlaysSaid : Prop := listenerPlaysRow.holds Tryz.pinned (OpenSpec.ofChange listenerPlaysSpec)

/-- ITS FALSE NEIGHBOUR: 'it returns false'. Refute it at one input. -/
def listenerPlaysWrong : ChangeSpec := { name := "listenerPlays", fn := fun _ => fun
  | [d] => { results := [.lit (.bool false)], args := [d] }
  | _ => none }
def ListenerPlaysWrongFalsely : Prop := listenerPlaysRow.holds Tryz.pinned (OpenSpec.ofChange listenerPlaysWrong)

/-- 'aqueductlaw19.ListenerHolds': WHATEVER THE INPUT: true; the input reads as it did. -/
def listenerHoldsSpec : ChangeSpec := { name := "listenerHolds", fn := fun _ => fun
  | [d] => { results := [.lit (.bool true)], args := [d] }
  | _ => none }
def listenerHoldsRow : OpenClaim := { program := "ytmdhlodafjpnmaagreat", sum := "de1327f141d002f0f1ca316d385187c923b15835062758df91dae3e4a9839cda", func := "aqueduct/aqueductlaw19.ListenerHolds", spec := "listenerHolds", inPlace := ["maps.clone"], unfollowed := true, recurses := true, plainKeys := false, apart := false }
def ListenerHoldsSaid : Prop := listenerHoldsRow.holds Tryz.pinned (OpenSpec.ofChange listenerHoldsSpec)

/-- ITS FALSE NEIGHBOUR: 'it returns false'. Refute it at one input. -/
def listenerHoldsWrong : ChangeSpec := { name := "listenerHolds", fn := fun _ => fun
  | [d] => { results := [.lit (.bool false)], args := [d] }
  | _ => none }
def ListenerHoldsWrongFalsely : Prop := listenerHoldsRow.holds Tryz.pinned (OpenSpec.ofChange listenerHoldsWrong)

/-- 'aqueductlaw19.ListenerRestores': WHATEVER THE INPUT: true; the input reads as it did. -/
def listenerRestoresSpec : ChangeSpec := { name := "listenerRestores", fn := fun _ => fun
  | [d1, d2, d3] => { results := [.lit (.bool true)], args := [d1, d2, d3] }
  | _ => none }
def listenerRestoresRow : OpenClaim := { program := "ytmdhlodafjpnmaagreat", sum := "de1327f141d002f0f1ca316d385187c923b15835062758df91dae3e4a9839cda", func := "aqueduct/aqueductlaw19.ListenerRestores", spec := "listenerRestores", inPlace := ["maps.clone"], unfollowed := true, recurses := true, plainKeys := false, apart := false }
def ListenerRestoresSaid : Prop := listenerRestoresRow.holds Tryz.pinned (OpenSpec.ofChange listenerRestoresSpec)

/-- ITS FALSE NEIGHBOUR: 'it returns false'. Refute it at one input. -/
def listenerRestoresWrong : ChangeSpec := { name := "listenerRestores", fn := fun _ => fun
  | [d1, d2, d3] => { results := [.lit (.bool false)], args := [d1, d2, d3] }
  | _ => none }
def ListenerRestoresWrongFalsely : Prop := listenerRestoresRow.holds Tryz.pinned (OpenSpec.ofChange listenerRestoresWrong)

/- THE SECOND FORM. 'bulk': how many values and letters a reading holds, each counted each time it is reached (what is shared counts as often as it is met; a slice's spare places count too). A statement '..UptoSaid' is the law's where the arguments, and the package variables that the reading takes, are together of bulk at most 1048576: NARROWER than '..Said'. Prove '..Said' where nothing that the law and all that it calls make is longer than what came in: it says more and counts as full. Else prove '..UptoSaid'. A law counts once. -/
mutual
def uptoBulk {H : Type} : DataW H → Nat
  | .lit (.string bytes) => bytes.length + 1
  | .lit _ => 1
  | .nil => 1
  | .ptr d => uptoBulk d + 1
  | .slice elems spare => uptoBulkAll elems + uptoBulkAll spare + 1
  | .agg parts => uptoBulkAll parts + 1
  | .iface _ d => uptoBulk d + 1
  | .map entries => uptoBulkEntries entries + 1
  | .held _ => 1
def uptoBulkAll {H : Type} : List (DataW H) → Nat
  | [] => 0
  | d :: r => uptoBulk d + uptoBulkAll r
def uptoBulkEntries {H : Type} : List (Lit × DataW H) → Nat
  | [] => 0
  | x :: r => uptoBulkEntry x + uptoBulkEntries r
def uptoBulkEntry {H : Type} : Lit × DataW H → Nat
  | (.string bytes, d) => bytes.length + uptoBulk d + 1
  | (_, d) => uptoBulk d + 1
 end
def uptoSmall : (H : Type) → List (DataW H) → Bool := fun _ ds => decide (uptoBulkAll ds ≤ 1048576)
def OpenSpec.upto (s : _root_.Go.ChangeSpec) : _root_.Go.OpenSpec := { _root_.Go.OpenSpec.ofChange s with cond := some uptoSmall }

/-- 'aqueductlaw19.ListenerFull', WHERE WHAT IT READS IS OF BULK AT MOST 1048576: true; the input reads as it did. -/
def listenerFullUptoRow : OpenClaim := { program := "ytmdhlodafjpnmaagreat", sum := "de1327f141d002f0f1ca316d385187c923b15835062758df91dae3e4a9839cda", func := "aqueduct/aqueductlaw19.ListenerFull", spec := "listenerFull", inPlace := ["maps.clone"], unfollowed := true, recurses := true, plainKeys := false, apart := false, narrowed := true }
def ListenerFullUptoSaid : Prop := listenerFullUptoRow.holds Tryz.pinned (OpenSpec.upto listenerFullSpec)

/-- 'aqueductlaw19.ListenerNone', WHERE WHAT IT READS IS OF BULK AT MOST 1048576: true; the input reads as it did. -/
def listenerNoneUptoRow : OpenClaim := { program := "ytmdhlodafjpnmaagreat", sum := "de1327f141d002f0f1ca316d385187c923b15835062758df91dae3e4a9839cda", func := "aqueduct/aqueductlaw19.ListenerNone", spec := "listenerNone", inPlace := ["maps.clone"], unfollowed := true, recurses := true, plainKeys := false, apart := false, narrowed := true }
def ListenerNoneUptoSaid : Prop := listenerNoneUptoRow.holds Tryz.pinned (OpenSpec.upto listenerNoneSpec)

/-- 'aqueductlaw19.ListenerPlays', WHERE WHAT IT READS IS OF BULK AT MOST 1048576: true; the input reads as it did. -/
def listenerPlaysUptoRow : OpenClaim := { program := "ytmdhlodafjpnmaagreat", sum := "de1327f141d002f0f1ca316d385187c923b15835062758df91dae3e4a9839cda", func := "aqueduct/aqueductlaw19.ListenerPlays", spec := "listenerPlays", inPlace := ["maps.clone"], unfollowed := true, recurses := true, plainKeys := false, apart := false, narrowed := true }
def ListenerPlaysUptoSaid : Prop := listenerPlaysUptoRow.holds Tryz.pinned (OpenSpec.upto listenerPlaysSpec)

/-- 'aqueductlaw19.ListenerHolds', WHERE WHAT IT READS IS OF BULK AT MOST 1048576: true; the input reads as it did. -/
def listenerHoldsUptoRow : OpenClaim := { program := "ytmdhlodafjpnmaagreat", sum := "de1327f141d002f0f1ca316d385187c923b15835062758df91dae3e4a9839cda", func := "aqueduct/aqueductlaw19.ListenerHolds", spec := "listenerHolds", inPlace := ["maps.clone"], unfollowed := true, recurses := true, plainKeys := false, apart := false, narrowed := true }
def ListenerHoldsUptoSaid : Prop := listenerHoldsUptoRow.holds Tryz.pinned (OpenSpec.upto listenerHoldsSpec)

/-- 'aqueductlaw19.ListenerRestores', WHERE WHAT IT READS IS OF BULK AT MOST 1048576: true; the input reads as it did. -/
def listenerRestoresUptoRow : OpenClaim := { program := "ytmdhlodafjpnmaagreat", sum := "de1327f141d002f0f1ca316d385187c923b15835062758df91dae3e4a9839cda", func := "aqueduct/aqueductlaw19.ListenerRestores", spec := "listenerRestores", inPlace := ["maps.clone"], unfollowed := true, recurses := true, plainKeys := false, apart := false, narrowed := true }
def ListenerRestoresUptoSaid : Prop := listenerRestoresUptoRow.holds Tryz.pinned (OpenSpec.upto listenerRestoresSpec)

end Rows
end Go.Proofs.YtmdhlodafjpnmaaGreat
