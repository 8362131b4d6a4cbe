/- The net in memory: Connect with an address or a capacity that is not valid; a net under way, the same; Pair with a capacity that is not valid. -/
import Derived.Test.YtmdhlodafjpnmaaGreatLn1
namespace Go.Proofs.YtmdhlodafjpnmaaGreat
open Go.RowKit
open Go.Maps (Keyed)
set_option linter.unusedVariables false
set_option maxRecDepth 100000
set_option maxHeartbeats 4000000

section
variable {own : Nat → Nat} {B : NB} {L : List LB} {C : List CB} {G : Nat} (w : World)
end
section
variable {K : Nat → Prop} {B : NB} {N : PN.Net} {G : Nat} {w : World}
end
end Go.Proofs.YtmdhlodafjpnmaaGreat
