/-
  No cell of these rows narrows 'for every input' (looked for: loops, veiled, ifaces, maps, wideKeys, modest, calm, conditions, laid).
  DERIVED. THE GIVEN ROWS OF THIS SEAT. 4 by the template 'for every input the law returns true; each argument reads behind the call as it read before'; 0 by the template 'total and deterministic' (their statements: YtgbmenfmaphciaaTotals.lean).
  GIVEN WITH THE SEED: the statements are not yours to turn. If you find one false, say at which input.
  Laid BY PROGRAM, IN A SANDBOX (cutbox-rows.mjs): the forced cells as the released guide's own fill.sh prints them over the translation 45862f57632fad19… (all of the seat's roots in one cut). By AI agents, Wed Nov 11 2026. No macro, syntax, notation, axiom, sorry.
-/
import Derived.Test.YtgbmenfmaphciaaChecked
import GoSem.Claim
import GoSem.ClaimJoined
import GoSem.ClaimMapViews
import Derived.JoinedTies
import Derived.KernelRfl
namespace Go.Proofs.Ytgbmenfmaphciaa
/- THE CELL 'sum', in the pinned program and in every row, IS THE sha256 OF THE DUMP (.gsa) THAT YtgbmenfmaphciaaProg.lean LOADS. Nothing in Lean hashes anything: it is a label: what it is worth is what the hold of that sum in a sandbox is worth. -/
noncomputable def Try.pinned : Pinned := { name := "ytgbmenfmaphciaa", sum := "45862f57632fad1935a3dd1fdada8c3c027f8f4e07fa96b23d1ca80977b98dc3", checked := Try.checked }
namespace Rows
def none {H : Type} : Left H := { results := [], args := [] }

/-- 'aqueductlaw20.DialNew': WHATEVER THE INPUT: true; the input reads as it did. -/
def dialNewSpec : ChangeSpec := { name := "dialNew", fn := fun _ => fun
  | [d] => { results := [.lit (.bool true)], args := [d] }
  | _ => none }
def dialNewRow : OpenClaim := { program := "ytgbmenfmaphciaa", sum := "45862f57632fad1935a3dd1fdada8c3c027f8f4e07fa96b23d1ca80977b98dc3", func := "aqueduct/aqueductlaw20.DialNew", spec := "dialNew", unfollowed := true, recurses := true, plainKeys := false, apart := false }
def DialNewSaid : Prop := dialNewRow.holds Try.pinned (OpenSpec.ofChange dialNewSpec)

/-- ITS FALSE NEIGHBOUR: 'it returns false'. Refute it at one input. -/
def dialNewWrong : ChangeSpec := { name := "dialNew", fn := fun _ => fun
  | [d] => { results := [.lit (.bool false)], args := [d] }
  | _ => none }
def DialNewWrongFalsely : Prop := dialNewRow.holds Try.pinned (OpenSpec.ofChange dialNewWrong)

/-- 'aqueductlaw20.DialNone': WHATEVER THE INPUT: true; the input reads as it did. -/
def dialNoneSpec : ChangeSpec := { name := "dialNone", fn := fun _ => fun
  | [d] => { results := [.lit (.bool true)], args := [d] }
  | _ => none }
def dialNoneRow : OpenClaim := { program := "ytgbmenfmaphciaa", sum := "45862f57632fad1935a3dd1fdada8c3c027f8f4e07fa96b23d1ca80977b98dc3", func := "aqueduct/aqueductlaw20.DialNone", spec := "dialNone", unfollowed := true, recurses := true, plainKeys := false, apart := false }
def DialNoneSaid : Prop := dialNoneRow.holds Try.pinned (OpenSpec.ofChange dialNoneSpec)

/-- ITS FALSE NEIGHBOUR: 'it returns false'. Refute it at one input. -/
def dialNoneWrong : ChangeSpec := { name := "dialNone", fn := fun _ => fun
  | [d] => { results := [.lit (.bool false)], args := [d] }
  | _ => none }
def DialNoneWrongFalsely : Prop := dialNoneRow.holds Try.pinned (OpenSpec.ofChange dialNoneWrong)

/-- 'aqueductlaw20.DialErrors': WHATEVER THE INPUT: true; the input reads as it did. -/
def dialErrorsSpec : ChangeSpec := { name := "dialErrors", fn := fun _ => fun
  | [d1, d2, d3] => { results := [.lit (.bool true)], args := [d1, d2, d3] }
  | _ => none }
def dialErrorsRow : OpenClaim := { program := "ytgbmenfmaphciaa", sum := "45862f57632fad1935a3dd1fdada8c3c027f8f4e07fa96b23d1ca80977b98dc3", func := "aqueduct/aqueductlaw20.DialErrors", spec := "dialErrors", unfollowed := true, recurses := true, plainKeys := false, apart := false }
def DialErrorsSaid : Prop := dialErrorsRow.holds Try.pinned (OpenSpec.ofChange dialErrorsSpec)

/-- ITS FALSE NEIGHBOUR: 'it returns false'. Refute it at one input. -/
def dialErrorsWrong : ChangeSpec := { name := "dialErrors", fn := fun _ => fun
  | [d1, d2, d3] => { results := [.lit (.bool false)], args := [d1, d2, d3] }
  | _ => none }
def DialErrorsWrongFalsely : Prop := dialErrorsRow.holds Try.pinned (OpenSpec.ofChange dialErrorsWrong)

/-- 'aqueductlaw20.DialHolds': WHATEVER THE INPUT: true; the input reads as it did. -/
def dialHoldsSpec : ChangeSpec := { name := "dialHolds", fn := fun _ => fun
  | [d1, d2] => { results := [.lit (.bool true)], args := [d1, d2] }
  | _ => none }
def dialHoldsRow : OpenClaim := { program := "ytgbmenfmaphciaa", sum := "45862f57632fad1935a3dd1fdada8c3c027f8f4e07fa96b23d1ca80977b98dc3", func := "aqueduct/aqueductlaw20.DialHolds", spec := "dialHolds", inPlace := ["maps.clone"], unfollowed := true, recurses := true, plainKeys := false, apart := false }
def DialHoldsSaid : Prop := dialHoldsRow.holds Try.pinned (OpenSpec.ofChange dialHoldsSpec)

/-- ITS FALSE NEIGHBOUR: 'it returns false'. Refute it at one input. -/
def dialHoldsWrong : ChangeSpec := { name := "dialHolds", fn := fun _ => fun
  | [d1, d2] => { results := [.lit (.bool false)], args := [d1, d2] }
  | _ => none }
def DialHoldsWrongFalsely : Prop := dialHoldsRow.holds Try.pinned (OpenSpec.ofChange dialHoldsWrong)

/- THE SECOND FORM. 'bulk': how many values and letters a reading holds, each counted each time it is reached (what is shared counts as often as it is met; a slice's spare places count too). A statement '..UptoSaid' is the law's where the arguments, and the package variables that the reading takes, are together of bulk at most 1048576: NARROWER than '..Said'. Prove '..Said' where nothing that the law and all that it calls make is longer than what came in: it says more and counts as full. Else prove '..UptoSaid'. A law counts once. -/
mutual
def uptoBulk {H : Type} : DataW H → Nat
  | .lit (.string bytes) => bytes.length + 1
  | .lit _ => 1
  | .nil => 1
  | .ptr d => uptoBulk d + 1
  | .slice elems spare => uptoBulkAll elems + uptoBulkAll spare + 1
  | .agg parts => uptoBulkAll parts + 1
  | .iface _ d => uptoBulk d + 1
  | .map entries => uptoBulkEntries entries + 1
  | .held _ => 1
def uptoBulkAll {H : Type} : List (DataW H) → Nat
  | [] => 0
  | d :: r => uptoBulk d + uptoBulkAll r
def uptoBulkEntries {H : Type} : List (Lit × DataW H) → Nat
  | [] => 0
  | x :: r => uptoBulkEntry x + uptoBulkEntries r
def uptoBulkEntry {H : Type} : Lit × DataW H → Nat
  | (.string bytes, d) => bytes.length + uptoBulk d + 1
  | (_, d) => uptoBulk d + 1
 end
def uptoSmall : (H : Type) → List (DataW H) → Bool := fun _ ds => decide (uptoBulkAll ds ≤ 1048576)
def OpenSpec.upto (s : _root_.Go.ChangeSpec) : _root_.Go.OpenSpec := { _root_.Go.OpenSpec.ofChange s with cond := some uptoSmall }

/-- 'aqueductlaw20.DialNew', WHERE WHAT IT READS IS OF BULK AT MOST 1048576: true; the input reads as it did. -/
def dialNewUptoRow : OpenClaim := { program := "ytgbmenfmaphciaa", sum := "45862f57632fad1935a3dd1fdada8c3c027f8f4e07fa96b23d1ca80977b98dc3", func := "aqueduct/aqueductlaw20.DialNew", spec := "dialNew", unfollowed := true, recurses := true, plainKeys := false, apart := false, narrowed := true }
def DialNewUptoSaid : Prop := dialNewUptoRow.holds Try.pinned (OpenSpec.upto dialNewSpec)

/-- 'aqueductlaw20.DialNone', WHERE WHAT IT READS IS OF BULK AT MOST 1048576: true; the input reads as it did. -/
def dialNoneUptoRow : OpenClaim := { program := "ytgbmenfmaphciaa", sum := "45862f57632fad1935a3dd1fdada8c3c027f8f4e07fa96b23d1ca80977b98dc3", func := "aqueduct/aqueductlaw20.DialNone", spec := "dialNone", unfollowed := true, recurses := true, plainKeys := false, apart := false, narrowed := true }
def DialNoneUptoSaid : Prop := dialNoneUptoRow.holds Try.pinned (OpenSpec.upto dialNoneSpec)

/-- 'aqueductlaw20.DialErrors', WHERE WHAT IT READS IS OF BULK AT MOST 1048576: true; the input reads as it did. -/
def dialErrorsUptoRow : OpenClaim := { program := "ytgbmenfmaphciaa", sum := "45862f57632fad1935a3dd1fdada8c3c027f8f4e07fa96b23d1ca80977b98dc3", func := "aqueduct/aqueductlaw20.DialErrors", spec := "dialErrors", unfollowed := true, recurses := true, plainKeys := false, apart := false, narrowed := true }
def DialErrorsUptoSaid : Prop := dialErrorsUptoRow.holds Try.pinned (OpenSpec.upto dialErrorsSpec)

/-- 'aqueductlaw20.DialHolds', WHERE WHAT IT READS IS OF BULK AT MOST 1048576: true; the input reads as it did. -/
def dialHoldsUptoRow : OpenClaim := { program := "ytgbmenfmaphciaa", sum := "45862f57632fad1935a3dd1fdada8c3c027f8f4e07fa96b23d1ca80977b98dc3", func := "aqueduct/aqueductlaw20.DialHolds", spec := "dialHolds", inPlace := ["maps.clone"], unfollowed := true, recurses := true, plainKeys := false, apart := false, narrowed := true }
def DialHoldsUptoSaid : Prop := dialHoldsUptoRow.holds Try.pinned (OpenSpec.upto dialHoldsSpec)

end Rows
end Go.Proofs.Ytgbmenfmaphciaa
