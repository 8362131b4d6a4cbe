/- addr.Sort and the reference's Sort and Same at nil lists. -/
import Derived.Test.YtbilaapikclhlaaDoorAddrSort
import Derived.Test.YtbilaapikclhlaaDoorRefSort2
import Derived.Test.YtbilaapikclhlaaDoorLawA
namespace Go.Proofs.YtbilaapikclhlaaDoor
open Go.RowKit Go.Sort Go.Shelf
set_option linter.unusedVariables false
set_option maxRecDepth 100000
set_option maxHeartbeats 4000000

theorem values1_nil (F : Fence) (n : Nat) (h7 : F.fn 43) (hro : F.round = none) (hn : 1 ≤ n) (l Bs n₀ : Nat) (J Jx : List Ad → World → Prop)
    (W : World) (hn0 : n₀ ≤ W.heap.size) (hBs : W.cell? ⟨Bs, 0, none⟩ = some (.slice none 0 0)) (h0 : J [] W) :
    CallsIn F n Tryd.prog 43 #[.func (.yield l) #[] #[], .pointer (some ⟨Bs, 0, none⟩)] W fun e W' => (∃ v, e = .returned v) ∧
      ((∃ ys, ys = ([] : List Ad) ∧ J ys W') ∨ (∃ pre, True ∧ Jx pre W')) := by
  refine callsIn_of_wp Tryd.func43 rfl h7 ?_ hro
  simp only [Tryd.ntmps43, List.size_toArray, List.length_cons, List.length_nil, Nat.reduceAdd, Nat.reduceSub, Array.replicate_succ, Array.replicate_zero, List.push_toArray, List.append_toArray, List.nil_append, List.cons_append]
  gi_wp2
  gi_loopw [7] (fun i wr => i = .int .i64 0 ∧ wr = W) (fun _ _ => 0)
  case atStart => exact ⟨rfl, rfl⟩
  case round =>
    obtain ⟨rfl, rfl⟩ := hrel
    gi_wp2
    go_end0
    exact ⟨⟨_, rfl⟩, .inl ⟨_, rfl, h0⟩⟩

theorem values_stops_nil (F : Fence) (n : Nat) (h7 : F.fn 43) (hro : F.round = none) (hn : 1 ≤ n) (Bs n₀ : Nat) (w : World) (hBs : Bs < w.heap.size) (hn₀ : n₀ ≤ w.heap.size)
    (hc : w.cell? ⟨Bs, 0, none⟩ = some (.slice none 0 0)) :
    SeqStopsK F n Tryd.prog 43 #[.pointer (some ⟨Bs, 0, none⟩)] (fun x : Ad => #[.agg #[.string x.1, .int .i64 x.2]]) (Below n₀) (fun ys => ys = []) (fun _ => True) 0 w := fun l J Jx W hW hJ _ hY h0 => by
  have hc' := (hW.cell (p := ⟨Bs, 0, none⟩) hBs).trans hc
  exact values1_nil F n h7 hro hn l Bs n₀ J Jx W (Nat.le_trans hn₀ hW.size) hc' h0

attribute [local go_sem] Oper.semAt_some in
theorem appendSeq_nil (F : Fence) (n : Nat) (h3 : F.fn 49) (h7 : F.fn 43) (hro : F.round = none) (hn : 4 ≤ n) (Bs : Nat) (w : World) (hBs : Bs < w.heap.size)
    (hc : w.cell? ⟨Bs, 0, none⟩ = some (.slice none 0 0)) :
    CallsIn F n Tryd.prog 49 #[.slice none 0 0, .func (.func 43) #[] #[.pointer (some ⟨Bs, 0, none⟩)]] w fun e w' =>
      e = .returned (.slice none 0 0) ∧ Below w.heap.size w w' := by
  have h1 : 1 ≤ n := by omega
  obtain ⟨i0, hi, hz0, hz1, hz2⟩ := info_parts infoA
  refine callsIn_of_wp_marks Tryd.func49 rfl h3 ?_ hro
  simp only [Tryd.ntmps49, List.size_toArray, List.length_cons, List.length_nil, Nat.reduceAdd, Nat.reduceSub, Array.replicate_succ, Array.replicate_zero, List.push_toArray, List.append_toArray, List.nil_append, List.cons_append]
  gi_wp2
  have bS := Boxed.new w 35 (.slice none 0 0)
  have hB0 : Below w.heap.size w (w.alloc (.cells #[.slice none 0 0] 35)) := (Below.refl _ w).alloc (Nat.le_refl _) _
  have hsz : (w.alloc (.cells #[.slice none 0 0] 35)).heap.size = w.heap.size + 1 := by simp
  obtain ⟨W0, hW0⟩ : ∃ W0, w.alloc (.cells #[.slice none 0 0] 35) = W0 := ⟨_, rfl⟩
  rw [hW0] at bS hB0 hsz ⊢
  clear hW0
  refine wpIn_rangeFunc_ownH hro h1 (gf := 43) (lb := #[.pointer (some ⟨Bs, 0, none⟩)]) rfl h7 (enters_of Tryd.func43 (by kernel_rfl) rfl)
    (values_stops_nil F (n - 1) h7 hro (by omega) Bs w.heap.size W0 (by omega) (by omega) ((hB0.cell (p := ⟨Bs, 0, none⟩) hBs).trans hc)) belowK_t (belowK_b (by omega)) (Below.refl _ _) (fun _ => rfl)
    (fun pre W => (∃ v, Boxed W w.heap.size 35 v ∧ W.ownsRow w.heap.size 23 2 v 0 [] ∧ v = .slice none 0 0) ∧ Below w.heap.size w W)
    (fun _ _ _ => False)
    (OwnFrom.and (Own.from (holdsRow_own w.heap.size w.heap.size 35 23 2 (fun _ : List Ad => 0) (fun _ : List Ad => []) (fun _ v => v = .slice none 0 0)) _) (ownFrom_below (Nat.le_refl _) (by omega)))
    (fun _ _ _ _ _ hs _ _ => hs)
    ⟨⟨_, bS, World.ownsRow_nil _ _ _ _, rfl⟩, hB0⟩
    (fun x a' W => True)
    ?ax ?assign ?body ?done ?stop
  case ax =>
    rintro x a' _ X Y row _ hg hr
    trivial
  case assign =>
    rintro l pre x W K ⟨⟨v, hv, hrow, hvn⟩, hB⟩ hK
    gi_wp2
    exact hK _ _ ((KeepsOthers.alloc _ _).from _) ((Below.refl _ W).alloc hB.size _) ⟨⟨v, hv.alloc _, hrow.alloc _, hvn⟩, hB.alloc hB.size _⟩ trivial
  case body =>
    rintro l pre x a' W hl _ _ _ hlt
    exact absurd hlt (by simp)
  case done =>
    rintro D ys W hD rfl ⟨⟨v, hv, hrow, rfl⟩, hB⟩ hK
    have hcB := hv.cell
    gi_wp2
    refine ⟨by simp, .inl ⟨_, _, rfl, run_takeDeferred hK, ?_⟩⟩
    exact ⟨_, results_tmp rfl _ _ _, rfl, hB.trans (belowK_b (w := w) (Nat.le_refl _) W D _ _ (by omega) hK rfl rfl)⟩
  case stop =>
    rintro D c pre W _ _ h _
    exact h.elim
theorem collect_nil (Bs : Nat) (w : World) (hBs : Bs < w.heap.size) (hc : w.cell? ⟨Bs, 0, none⟩ = some (.slice none 0 0)) :
    Calls Tryd.prog 41 #[.func (.func 43) #[] #[.pointer (some ⟨Bs, 0, none⟩)]] w fun e w' => e = .returned (.slice none 0 0) ∧ Fr [] w w' := by
  have HA := Lib.hid ((callsIn_wide (n := 4)).1 (appendSeq_nil Fence.wide 4 trivial trivial rfl (by omega) Bs w hBs hc))
  clear hc
  go_enter Tryd.func41, Tryd.ntmps41
  go_wp2_with (go_at_call 49; refine HA.out.mono ?_; rintro e w' ⟨rfl, hB⟩)
  go_ret
  exact ⟨rfl, Fr.of_below hB⟩
theorem sortedFunc_nil (Bs : Nat) (w : World) (hBs : Bs < w.heap.size) (hc : w.cell? ⟨Bs, 0, none⟩ = some (.slice none 0 0)) :
    Calls Tryd.prog 33 #[.func (.func 43) #[] #[.pointer (some ⟨Bs, 0, none⟩)], .func (.func 17) #[] #[]] w fun e w' => e = .returned (.slice none 0 0) ∧ Fr [] w w' := by
  have HA := Lib.hid (collect_nil Bs w hBs hc)
  have hcon := fun W => AnyF.slices_SortFunc_none Tryd.sortA none 0 (.func (.func 17) #[] #[]) W
  change ∀ W, Calls Tryd.prog 42 _ _ _ at hcon
  have HS := Lib.hid hcon
  clear hc hcon
  go_enter Tryd.func33, Tryd.ntmps33
  go_wp2_with fail
  refine HA.out.mono ?_
  rintro e w1 ⟨rfl, f1⟩
  go_wp2_with (go_at_call 42; refine (HS.out _).mono ?_; rintro e w2 ⟨rfl, rfl⟩)
  go_ret
  exact ⟨rfl, f1⟩
theorem indexBad_nil (w : World) :
    Calls Tryd.prog 40 #[.slice none 0 0, .func (.func 31) #[] #[]] w fun e w' => e = .returned (.int .i64 (-1)) ∧ Fr [] w w' := by
  go_enter Tryd.func40, Tryd.ntmps40
  go_wp2
  go_loopw [8] (fun i wr => i = .int .i64 0 ∧ wr = w) (fun _ _ => 0)
  case atStart => exact ⟨rfl, rfl⟩
  case round =>
    obtain ⟨rfl, rfl⟩ := hrel
    go_wp2
    go_ret
    exact ⟨rfl, Fr.refl _ _⟩
theorem containsBad_nil (w : World) :
    Calls Tryd.prog 30 #[.slice none 0 0, .func (.func 31) #[] #[]] w fun e w' => e = .returned (.bool false) ∧ Fr [] w w' := by
  go_enter Tryd.func30, Tryd.ntmps30
  go_wp2_with (go_at_call 40; refine (indexBad_nil _).mono ?_; rintro e w' ⟨rfl, f1⟩)
  go_ret
  exact ⟨rfl, f1⟩
theorem compact_nil (w : World) :
    Calls Tryd.prog 32 #[.slice none 0 0] w fun e w' => e = .returned (.slice none 0 0) ∧ Fr [] w w' := by
  go_enter Tryd.func32, Tryd.ntmps32
  go_wp2
  go_ret
  exact ⟨rfl, Fr.refl _ _⟩
theorem sort_nil (w : World) :
    Calls Tryd.prog 19 #[.slice none 0 0] w fun e w' => e = .returned (.tuple #[.slice none 0 0, .int .i64 0]) ∧ Fr [] w w' := by
  go_enter Tryd.func19, Tryd.ntmps19
  go_wp2_with fail
  refine (containsBad_nil _).mono ?_
  rintro e w1 ⟨rfl, f1⟩
  go_wp2_with fail
  refine (values_any _ _ _ _).mono ?_
  rintro e w2 ⟨rfl, rfl⟩
  have f2 : Fr [] w1 (w1.alloc (.cells #[.slice none 0 0] 35)) := (Fr.refl [] w1).alloc _
  go_wp2_with fail
  refine (sortedFunc_nil w1.heap.size _ (by simp) (by simp)).mono ?_
  rintro e w3 ⟨rfl, f3⟩
  go_wp2_with fail
  refine (compact_nil _).mono ?_
  rintro e w4 ⟨rfl, f4⟩
  go_wp2_with fail
  go_ret2
  exact ⟨rfl, ((f1.step f2).step f3).step f4⟩
/-- The reference's Sort of no addresses. -/
theorem refSort_zero (p : Option Addr) (cap : Nat) (w : World) :
    Calls Tryd.prog 21 #[.slice p 0 cap] w fun e w' => e = .returned (.slice none 0 0) ∧ Fr [] w w' := by
  go_enter Tryd.func21, Tryd.ntmps21
  go_wp2_with fail
  go_loopw [4, 3] (fun i v wr => i = .int .i64 0 ∧ v = .slice none 0 0 ∧ wr = w) (fun _ _ _ => 0)
  case atStart => exact ⟨rfl, rfl, rfl⟩
  case round =>
    obtain ⟨rfl, rfl, rfl⟩ := hrel
    go_wp2
    go_ret
    exact ⟨rfl, Fr.refl _ _⟩
theorem same_zero (p q : Option Addr) (c d : Nat) (w : World) :
    Calls Tryd.prog 20 #[.slice p 0 c, .slice q 0 d] w fun e w' => e = .returned (.bool true) ∧ Fr [] w w' := by
  go_enter Tryd.func20, Tryd.ntmps20
  go_wp2
  go_loopw [5] (fun i wr => i = .int .i64 0 ∧ wr = w) (fun _ _ => 0)
  case atStart => exact ⟨rfl, rfl⟩
  case round =>
    obtain ⟨rfl, rfl⟩ := hrel
    go_wp2
    go_ret
    exact ⟨rfl, Fr.refl _ _⟩
end Go.Proofs.YtbilaapikclhlaaDoor
