/- Contracts of addr.Compare and what it calls. -/
import Derived.Test.YtbilaapikclhlaaDoorSeq3
import Derived.StillTailTactics
import Derived.Test.YtbilaapikclhlaaDoorShelf
namespace Go.Proofs.YtbilaapikclhlaaDoor
open Go.RowKit Go.Sort
set_option linter.unusedVariables false
set_option maxRecDepth 100000
set_option maxHeartbeats 4000000

def cmpA (x y : Ad) : Int := if Lib.compareBytes x.1.data.toList y.1.data.toList ≠ 0 then Lib.compareBytes x.1.data.toList y.1.data.toList else Lib.compareInt x.2 y.2

theorem newCell (W : World) (c : Array Value) (t : TypeId) (o : Nat) {b : Nat} {v : Value} {W' : World} (h : W'.heap = (W.alloc (.cells c t)).heap) (hb : b = W.heap.size) (hc : c[o]? = some v) : W'.cell? ⟨b, o, none⟩ = some v := by
  subst hb
  have : (W.alloc (.cells c t)).cell? ⟨W.heap.size, o, none⟩ = some v := by simpa using hc
  simpa [World.cell?, h] using this

theorem or_two (b : Nat) (x y : Int) (w : World) (h0 : w.cell? ⟨b, 0, none⟩ = some (.int .i64 x)) (h1 : w.cell? ⟨b, 1, none⟩ = some (.int .i64 y)) :
    Calls Tryd.prog 27 #[.slice (some ⟨b, 0, none⟩) 2 2] w fun e w' => e = .returned (.int .i64 (if x ≠ 0 then x else y)) ∧ w' = w := by
  by_cases hx : x = 0
  · subst hx
    by_cases hy : y = 0
    · subst hy
      go_enter Tryd.func27, Tryd.ntmps27
      go_wp2
      refine wp_loop_rounds 3 ?_
      rw [rounds_succ]
      go_wp2
      rw [rounds_succ]
      go_wp2
      rw [rounds_succ]
      go_wp2
      go_ret
      exact ⟨rfl, rfl⟩
    · have hy' : (y != 0) = true := by simp [hy]
      go_enter Tryd.func27, Tryd.ntmps27
      go_wp2
      refine wp_loop_rounds 3 ?_
      rw [rounds_succ]
      go_wp2
      rw [rounds_succ]
      go_wp2
      go_ret
      exact ⟨rfl, rfl⟩
  · have hx' : (x != 0) = true := by simp [hx]
    go_enter Tryd.func27, Tryd.ntmps27
    go_wp2
    refine wp_loop_rounds 3 ?_
    rw [rounds_succ]
    go_wp2
    go_ret
    exact ⟨by simp, rfl⟩

theorem compare_any (x y : Ad) (w : World) :
    Calls Tryd.prog 17 #[.agg #[.string x.1, .int .i64 x.2], .agg #[.string y.1, .int .i64 y.2]] w fun e w' => e = .returned (.int .i64 (cmpA x y)) ∧ ∃ q os', w' = grow (w.drewN q) os' := by
  have hS := fun W => Tryd.strings_Compare x.1 y.1 W
  have hI := fun W => Tryd.cmp_Compare_int x.2 y.2 W
  unfold cmpA
  generalize Lib.compareBytes x.1.data.toList y.1.data.toList = a at hS ⊢
  generalize Lib.compareInt x.2 y.2 = c at hI ⊢
  generalize hr : (if a ≠ 0 then a else c) = r
  have HR := Lib.hid hr
  clear hr
  go_enter Tryd.func17, Tryd.ntmps17
  go_wp2_with fail
  have k0 : ((w.alloc (.cells #[.string x.1, .int .i64 x.2] 23)).alloc (.cells #[.string y.1, .int .i64 y.2] 23)).cell? ⟨w.heap.size, 0, none⟩ = some (.string x.1) := by simp
  have k1 : ((w.alloc (.cells #[.string x.1, .int .i64 x.2] 23)).alloc (.cells #[.string y.1, .int .i64 y.2] 23)).cell? ⟨w.heap.size, 1, none⟩ = some (.int .i64 x.2) := by simp
  have k2 : ((w.alloc (.cells #[.string x.1, .int .i64 x.2] 23)).alloc (.cells #[.string y.1, .int .i64 y.2] 23)).cell? ⟨w.heap.size + 1, 0, none⟩ = some (.string y.1) := newCell (w.alloc (.cells #[.string x.1, .int .i64 x.2] 23)) #[.string y.1, .int .i64 y.2] 23 0 rfl (by simp) rfl
  have k3 : ((w.alloc (.cells #[.string x.1, .int .i64 x.2] 23)).alloc (.cells #[.string y.1, .int .i64 y.2] 23)).cell? ⟨w.heap.size + 1, 1, none⟩ = some (.int .i64 y.2) := newCell (w.alloc (.cells #[.string x.1, .int .i64 x.2] 23)) #[.string y.1, .int .i64 y.2] 23 1 rfl (by simp) rfl
  have hg : (w.alloc (.cells #[.string x.1, .int .i64 x.2] 23)).alloc (.cells #[.string y.1, .int .i64 y.2] 23) = grow w #[.cells #[.string x.1, .int .i64 x.2] 23, .cells #[.string y.1, .int .i64 y.2] 23] := by
    rw [alloc_eq_grow, alloc_eq_grow, grow_grow]
    rfl
  have hsz : ((w.alloc (.cells #[.string x.1, .int .i64 x.2] 23)).alloc (.cells #[.string y.1, .int .i64 y.2] 23)).heap.size = w.heap.size + 1 + 1 := by simp
  generalize (w.alloc (.cells #[.string x.1, .int .i64 x.2] 23)).alloc (.cells #[.string y.1, .int .i64 y.2] 23) = W0 at k0 k1 k2 k3 hg hsz ⊢
  have HG := Lib.hid (And.intro hg hsz)
  clear hg hsz
  have j0 : ({ W0 with drawn := W0.drawn + 1 } : World).cell? ⟨w.heap.size, 0, none⟩ = some (.string x.1) := k0
  have j1 : ({ W0 with drawn := W0.drawn + 1 } : World).cell? ⟨w.heap.size, 1, none⟩ = some (.int .i64 x.2) := k1
  have j2 : ({ W0 with drawn := W0.drawn + 1 } : World).cell? ⟨w.heap.size + 1, 0, none⟩ = some (.string y.1) := k2
  have j3 : ({ W0 with drawn := W0.drawn + 1 } : World).cell? ⟨w.heap.size + 1, 1, none⟩ = some (.int .i64 y.2) := k3
  go_still_tail 10, (by kernel_rfl)
  still_call (hS _)
  repeat still_step
  still_call (hI _)
  refine wpStill_nil ?_
  change wpList _ _ _ _ _ (World.drew W0)
  have hw1 : W0.drew = grow (w.drewN 1) #[.cells #[.string x.1, .int .i64 x.2] 23, .cells #[.string y.1, .int .i64 y.2] 23] := by rw [HG.out.1]; rfl
  have hs1 : W0.drew.heap.size = w.heap.size + 1 + 1 := HG.out.2
  clear j0 j1 j2 j3 k0 k1 k2 k3 HG hS hI
  generalize W0.drew = W1 at hw1 hs1 ⊢
  have HW := Lib.hid (And.intro hw1 hs1)
  clear hw1 hs1
  have hO : Calls Tryd.prog 27 #[.slice (some ⟨W1.heap.size, 0, none⟩) 2 2] (W1.alloc (.cells #[.int .i64 a, .int .i64 c] 3)) fun e w' => e = .returned (.int .i64 r) ∧ w' = W1.alloc (.cells #[.int .i64 a, .int .i64 c] 3) := by
    rw [← HR.out]
    exact or_two _ a c _ (by simp) (by simp)
  go_wp2_with (go_at_call 27; refine hO.mono ?_; rintro e w1 ⟨rfl, rfl⟩)
  go_ret
  exact ⟨rfl, 1, _, by rw [HW.out.1, alloc_eq_grow, grow_grow]⟩
end Go.Proofs.YtbilaapikclhlaaDoor
