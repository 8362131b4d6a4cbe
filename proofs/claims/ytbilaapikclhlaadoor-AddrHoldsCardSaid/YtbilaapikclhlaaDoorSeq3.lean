/- Contracts of slices.Values and slices.Collect over addresses as plain calls. -/
import Derived.Test.YtbilaapikclhlaaDoorSeq2
namespace Go.Proofs.YtbilaapikclhlaaDoor
open Go.RowKit Go.Shelf
set_option linter.unusedVariables false
set_option maxRecDepth 100000
set_option maxHeartbeats 4000000

theorem collect_any (Bs b off len cap : Nat) (f : Nat → Ad) (hlen : len ≤ 100000) (w : World) (hBs : Bs < w.heap.size) (hb : b < w.heap.size)
    (hc : w.cell? ⟨Bs, 0, none⟩ = some (.slice (some ⟨b, off, none⟩) len cap))
    (hI : ∀ j, j < len → w.cell? ⟨b, off + j * 2, none⟩ = some (.string (f j).1) ∧ w.cell? ⟨b, off + j * 2 + 1, none⟩ = some (.int .i64 (f j).2)) :
    Calls Tryd.prog 41 #[.func (.func 43) #[] #[.pointer (some ⟨Bs, 0, none⟩)]] w fun e w' =>
      ∃ v, e = .returned v ∧ w'.ownsRow w.heap.size 23 2 v len ((upto f len).flatMap encA) ∧ Below w.heap.size w w' := by
  have HA := Lib.hid ((callsIn_wide (n := 4)).1 (appendSeq_in Fence.wide 4 trivial trivial rfl (by omega) Bs b off len cap f hlen w hBs hb hc hI))
  clear hI hc
  go_enter Tryd.func41, Tryd.ntmps41
  go_wp2_with (go_at_call 49; refine HA.out.mono ?_; rintro e w' ⟨v, rfl, ho, hB⟩)
  go_ret
  exact ⟨v, rfl, ho, hB⟩

theorem values_any (a : Option Addr) (len cap : Nat) (w : World) :
    Calls Tryd.prog 34 #[.slice a len cap] w fun e w' => e = .returned (.func (.func 43) #[] #[.pointer (some ⟨w.heap.size, 0, none⟩)]) ∧ w' = w.alloc (.cells #[.slice a len cap] 35) := by
  go_enter Tryd.func34, Tryd.ntmps34
  go_wp2
  go_ret
  exact ⟨rfl, rfl⟩
end Go.Proofs.YtbilaapikclhlaaDoor
