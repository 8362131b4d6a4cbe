/- A new net: its lists of numbers, of connections, of listeners are empty; Restore of nothing. -/
import Derived.RangeFuncNested
import Derived.RangeFuncBound
import Derived.RangeFuncCalls
import Derived.RangeFuncLeaves
import Derived.Shelf.Abstract
import Derived.WalkKit
import Derived.OwnWalkIn
import Derived.TacticsInMore
import Derived.LoopNIn
import Derived.LoopIn
import Derived.Maps.AppendAt
import Derived.Test.YtemihaijhcpnfaaGreatDoorG0
import Derived.Test.YtemihaijhcpnfaaGreatDoorRange
namespace Go.Proofs.YtemihaijhcpnfaaGreatDoor
open Go.RowKit Go.Shelf
open Go.Maps (Keyed)
set_option linter.unusedVariables false
set_option linter.unusedSimpArgs false
set_option maxRecDepth 100000
set_option maxHeartbeats 4000000

theorem netCell (W : World) (c : Array Value) (t : TypeId) (o : Nat) {b : Nat} {v : Value} {W' : World} (h : W' = W.alloc (.cells c t)) (hb : b = W.heap.size) (hc : c[o]? = some v) : W'.cell? ⟨b, o, none⟩ = some v := by
  subst h; subst hb; simpa using hc
/-- A net without anything in block n. -/
structure Net0 (w : World) (n r m lm cm : Nat) : Prop where
  c0 : w.cell? ⟨n, 0, none⟩ = some (.pointer (some ⟨r, 0, none⟩))
  c1 : w.cell? ⟨n, 1, none⟩ = some (.map (some lm))
  c2 : w.cell? ⟨n, 2, none⟩ = some (.map (some cm))
  ls : MapIs Tryz.prog 3 w lm []
  cs : MapIs Tryz.prog 3 w cm []
theorem Net0.new {w w' : World} {n r m lm cm : Nat} (h : Net0 w n r m lm cm) (f : Fr [] w w') : Net0 w' n r m lm cm :=
  ⟨f.keep h.c0 (by simp), f.keep h.c1 (by simp), f.keep h.c2 (by simp), h.ls.keep f (by simp), h.cs.keep f (by simp)⟩
theorem regNew0 (w : World) : Calls Tryz.prog 170 #[] w fun e w' => e = .returned (.pointer (some ⟨w.heap.size + 1, 0, none⟩)) ∧ Fr [] w w' := by
  have hmm := @run_makeMap Tryz.prog
  go_enter Tryz.func170, Tryz.ntmps170
  go_wp2
  go_ret
  exact ⟨rfl, ((Fr.refl [] w).alloc _).alloc _⟩
theorem netNew0 (w : World) :
    Calls Tryz.prog 78 #[] w fun e w' => ∃ n r m lm cm, e = .returned (.pointer (some ⟨n, 0, none⟩)) ∧ Net0 w' n r m lm cm ∧ Fr [] w w' := by
  have hmm := @run_makeMap Tryz.prog
  go_enter Tryz.func78, Tryz.ntmps78
  go_wp2_with (go_at_call 170; refine (regNew0 _).mono ?_; rintro e w1 ⟨rfl, f1⟩)
  go_ret
  have f2 : Fr [] w1 (((w1.alloc (.map #[] 0)).alloc (.map #[] 0)).alloc (.cells #[.pointer (some ⟨w.heap.size + 1, 0, none⟩), .map (some w1.heap.size), .map (some (w1.heap.size + 1))] 209)) := (((Fr.refl [] w1).alloc _).alloc _).alloc _
  refine ⟨w1.heap.size + 1 + 1, w.heap.size + 1, w.heap.size, w1.heap.size, w1.heap.size + 1, rfl, ⟨netCell _ _ _ _ rfl (by simp) (by simp), netCell _ _ _ _ rfl (by simp) (by simp), netCell _ _ _ _ rfl (by simp) (by simp), ?_, ?_⟩, f1.step f2⟩
  · exact (MapIs.made Tryz.prog 3 w1).keep (((Fr.refl [] _).alloc _).alloc _) (by simp)
  · have := (MapIs.made Tryz.prog 3 (w1.alloc (.map #[] 0)))
    rw [World.size_alloc] at this
    exact this.keep ((Fr.refl [] _).alloc _) (by simp)
theorem net0None {n r m lm cm : Nat} (w : World) (h : Net0 w n r m lm cm) :
    Calls Tryz.prog 120 #[.pointer (some ⟨n, 0, none⟩)] w fun e w' => e = .returned (.bool false) ∧ w = w' := by
  have c0 := h.c0
  go_enter Tryz.func120, Tryz.ntmps120
  go_wp2
  go_ret
  exact ⟨rfl, rfl⟩
theorem RangeL.none {P : Program} {kt : TypeId} {w : World} {b r : Nat} (h : RangeL P kt w b r [] []) (ty : TypeId) : (Instr.next (.pointer (some ⟨r, 0, none⟩)) false ty).run P w = .ok (.tuple #[.bool false]) w := by
  rcases h.next ty with ⟨_, h⟩ | ⟨k, v, w', h, _⟩
  · exact h
  · cases h
section
attribute [local go_sem] Oper.semAt_some
theorem keys1Q (F : Fence) (n : Nat) (h7 : F.fn 282) (hro : F.round = none) (hn : 1 ≤ n) (l Bs b : Nat) (J Jx : List Int → World → Prop)
    (W : World) (hJ : AbidesFrom W.heap.size J) (hBs : W.cell? ⟨Bs, 0, none⟩ = some (.map (some b))) (hm : MapIs Tryz.prog 3 W b []) (h0 : J [] W) :
    CallsIn F n Tryz.prog 282 #[.func (.yield l) #[] #[], .pointer (some ⟨Bs, 0, none⟩)] W fun e W' => (∃ v, e = .returned v) ∧
      ((∃ ys, ys = ([] : List Int) ∧ J ys W') ∨ (∃ pre, True ∧ Jx pre W')) := by
  obtain ⟨since, c0, hr, hrun⟩ := RangeL.start hm
  have hrun := hrun 205 _ Tryz.underlying205
  have hnx := fun ty => hr.none ty
  have h1 := hJ _ _ _ none h0 (World.grownBy_alloc W (.mapIter (some b) since #[] c0) none) (fun r e => by cases e)
  clear hr hm hJ h0
  refine callsIn_of_wp Tryz.func282 rfl h7 ?_ hro
  simp only [Tryz.ntmps282, List.size_toArray, List.length_cons, List.length_nil, Nat.reduceAdd, Nat.reduceSub, Array.replicate_succ, Array.replicate_zero, List.push_toArray, List.append_toArray, List.nil_append, List.cons_append]
  gi_wp2
  gi_loopw [6] (fun i wr => wr = W.alloc (.mapIter (some b) since #[] c0)) (fun _ _ => 0)
  case atStart => rfl
  case round =>
    subst hrel
    gi_wp2
    go_end0
    exact ⟨⟨_, rfl⟩, .inl ⟨_, rfl, h1⟩⟩
theorem keysStopQ (F : Fence) (n : Nat) (h7 : F.fn 282) (hro : F.round = none) (hn : 1 ≤ n) (Bs b n₀ : Nat) (w : World) (hBs : Bs < w.heap.size) (hn₀ : n₀ ≤ w.heap.size)
    (hc : w.cell? ⟨Bs, 0, none⟩ = some (.map (some b))) (hm : MapIs Tryz.prog 3 w b []) :
    SeqStopsK F n Tryz.prog 282 #[.pointer (some ⟨Bs, 0, none⟩)] (fun x : Int => #[.int .i64 x]) (Below n₀) (fun ys => ys = []) (fun _ => True) 0 w := fun l J Jx W hW hJ _ hY h0 => by
  have hc' := (hW.cell (p := ⟨Bs, 0, none⟩) hBs).trans hc
  exact keys1Q F n h7 hro hn l Bs b J Jx W hJ hc' (hm.keep (Fr.of_below hW) (by simp)) h0
theorem appendSeqQ (F : Fence) (n : Nat) (h3 : F.fn 330) (h7 : F.fn 282) (hro : F.round = none) (hn : 4 ≤ n) (Bs b : Nat) (w : World) (hBs : Bs < w.heap.size)
    (hc : w.cell? ⟨Bs, 0, none⟩ = some (.map (some b))) (hm : MapIs Tryz.prog 3 w b []) :
    CallsIn F n Tryz.prog 330 #[.slice none 0 0, .func (.func 282) #[] #[.pointer (some ⟨Bs, 0, none⟩)]] w fun e w' =>
      e = .returned (.slice none 0 0) ∧ Below w.heap.size w w' := by
  have h1 : 1 ≤ n := by omega
  refine callsIn_of_wp_marks Tryz.func330 rfl h3 ?_ hro
  simp only [Tryz.ntmps330, List.size_toArray, List.length_cons, List.length_nil, Nat.reduceAdd, Nat.reduceSub, Array.replicate_succ, Array.replicate_zero, List.push_toArray, List.append_toArray, List.nil_append, List.cons_append]
  gi_wp2
  have bS := Boxed.new w 30 (.slice none 0 0)
  have hB0 : Below w.heap.size w (w.alloc (.cells #[.slice none 0 0] 30)) := (Below.refl _ w).alloc (Nat.le_refl _) _
  have hsz : (w.alloc (.cells #[.slice none 0 0] 30)).heap.size = w.heap.size + 1 := by simp
  obtain ⟨W0, hW0⟩ : ∃ W0, w.alloc (.cells #[.slice none 0 0] 30) = W0 := ⟨_, rfl⟩
  rw [hW0] at bS hB0 hsz ⊢
  clear hW0
  refine wpIn_rangeFunc_ownH hro h1 (gf := 282) (lb := #[.pointer (some ⟨Bs, 0, none⟩)]) rfl h7 (enters_of Tryz.func282 (by kernel_rfl) rfl)
    (keysStopQ F (n - 1) h7 hro (by omega) Bs b w.heap.size W0 (by omega) (by omega) ((hB0.cell (p := ⟨Bs, 0, none⟩) hBs).trans hc) (hm.keep (Fr.of_below hB0) (by simp))) belowK_t (belowK_b (by omega)) (Below.refl _ _) (fun _ => rfl)
    (fun pre W => (∃ v, Boxed W w.heap.size 30 v ∧ W.ownsRow w.heap.size 3 1 v 0 [] ∧ v = .slice none 0 0) ∧ Below w.heap.size w W)
    (fun _ _ _ => False)
    (OwnFrom.and (Own.from (holdsRow_own w.heap.size w.heap.size 30 3 1 (fun _ : List Int => 0) (fun _ : List Int => []) (fun _ v => v = .slice none 0 0)) _) (ownFrom_below (Nat.le_refl _) (by omega)))
    (fun _ _ _ _ _ hs _ _ => hs)
    ⟨⟨_, bS, World.ownsRow_nil _ _ _ _, rfl⟩, hB0⟩
    (fun x a' W => True)
    ?ax ?assign ?body ?done ?stop
  case ax =>
    rintro x a' _ X Y row _ hg hr
    trivial
  case assign =>
    rintro l pre x W K ⟨⟨v, hv, hrow, hvn⟩, hB⟩ hK
    gi_wp2
    exact hK _ _ ((KeepsOthers.refl _).from _) (Below.refl _ W) ⟨⟨v, hv, hrow, hvn⟩, hB⟩ trivial
  case body =>
    rintro l pre x a' W hl _ _ _ hlt
    exact absurd hlt (by simp)
  case done =>
    rintro D ys W hD rfl ⟨⟨v, hv, hrow, rfl⟩, hB⟩ hK
    have hcB := hv.cell
    gi_wp2
    refine ⟨by simp, .inl ⟨_, _, rfl, run_takeDeferred hK, ?_⟩⟩
    exact ⟨_, results_tmp rfl _ _ _, rfl, hB.trans (belowK_b (w := w) (Nat.le_refl _) W D _ _ (by omega) hK rfl rfl)⟩
  case stop =>
    rintro D c pre W _ _ h _
    exact h.elim
theorem keys1C (F : Fence) (n : Nat) (h7 : F.fn 278) (hro : F.round = none) (hn : 1 ≤ n) (l Bs b : Nat) (J Jx : List Int → World → Prop)
    (W : World) (hJ : AbidesFrom W.heap.size J) (hBs : W.cell? ⟨Bs, 0, none⟩ = some (.map (some b))) (hm : MapIs Tryz.prog 3 W b []) (h0 : J [] W) :
    CallsIn F n Tryz.prog 278 #[.func (.yield l) #[] #[], .pointer (some ⟨Bs, 0, none⟩)] W fun e W' => (∃ v, e = .returned v) ∧
      ((∃ ys, ys = ([] : List Int) ∧ J ys W') ∨ (∃ pre, True ∧ Jx pre W')) := by
  obtain ⟨since, c0, hr, hrun⟩ := RangeL.start hm
  have hrun := hrun 207 _ Tryz.underlying207
  have hnx := fun ty => hr.none ty
  have h1 := hJ _ _ _ none h0 (World.grownBy_alloc W (.mapIter (some b) since #[] c0) none) (fun r e => by cases e)
  clear hr hm hJ h0
  refine callsIn_of_wp Tryz.func278 rfl h7 ?_ hro
  simp only [Tryz.ntmps278, List.size_toArray, List.length_cons, List.length_nil, Nat.reduceAdd, Nat.reduceSub, Array.replicate_succ, Array.replicate_zero, List.push_toArray, List.append_toArray, List.nil_append, List.cons_append]
  gi_wp2
  gi_loopw [6] (fun i wr => wr = W.alloc (.mapIter (some b) since #[] c0)) (fun _ _ => 0)
  case atStart => rfl
  case round =>
    subst hrel
    gi_wp2
    go_end0
    exact ⟨⟨_, rfl⟩, .inl ⟨_, rfl, h1⟩⟩
theorem keysStopC (F : Fence) (n : Nat) (h7 : F.fn 278) (hro : F.round = none) (hn : 1 ≤ n) (Bs b n₀ : Nat) (w : World) (hBs : Bs < w.heap.size) (hn₀ : n₀ ≤ w.heap.size)
    (hc : w.cell? ⟨Bs, 0, none⟩ = some (.map (some b))) (hm : MapIs Tryz.prog 3 w b []) :
    SeqStopsK F n Tryz.prog 278 #[.pointer (some ⟨Bs, 0, none⟩)] (fun x : Int => #[.int .i64 x]) (Below n₀) (fun ys => ys = []) (fun _ => True) 0 w := fun l J Jx W hW hJ _ hY h0 => by
  have hc' := (hW.cell (p := ⟨Bs, 0, none⟩) hBs).trans hc
  exact keys1C F n h7 hro hn l Bs b J Jx W hJ hc' (hm.keep (Fr.of_below hW) (by simp)) h0
theorem appendSeqC (F : Fence) (n : Nat) (h3 : F.fn 330) (h7 : F.fn 278) (hro : F.round = none) (hn : 4 ≤ n) (Bs b : Nat) (w : World) (hBs : Bs < w.heap.size)
    (hc : w.cell? ⟨Bs, 0, none⟩ = some (.map (some b))) (hm : MapIs Tryz.prog 3 w b []) :
    CallsIn F n Tryz.prog 330 #[.slice none 0 0, .func (.func 278) #[] #[.pointer (some ⟨Bs, 0, none⟩)]] w fun e w' =>
      e = .returned (.slice none 0 0) ∧ Below w.heap.size w w' := by
  have h1 : 1 ≤ n := by omega
  refine callsIn_of_wp_marks Tryz.func330 rfl h3 ?_ hro
  simp only [Tryz.ntmps330, List.size_toArray, List.length_cons, List.length_nil, Nat.reduceAdd, Nat.reduceSub, Array.replicate_succ, Array.replicate_zero, List.push_toArray, List.append_toArray, List.nil_append, List.cons_append]
  gi_wp2
  have bS := Boxed.new w 30 (.slice none 0 0)
  have hB0 : Below w.heap.size w (w.alloc (.cells #[.slice none 0 0] 30)) := (Below.refl _ w).alloc (Nat.le_refl _) _
  have hsz : (w.alloc (.cells #[.slice none 0 0] 30)).heap.size = w.heap.size + 1 := by simp
  obtain ⟨W0, hW0⟩ : ∃ W0, w.alloc (.cells #[.slice none 0 0] 30) = W0 := ⟨_, rfl⟩
  rw [hW0] at bS hB0 hsz ⊢
  clear hW0
  refine wpIn_rangeFunc_ownH hro h1 (gf := 278) (lb := #[.pointer (some ⟨Bs, 0, none⟩)]) rfl h7 (enters_of Tryz.func278 (by kernel_rfl) rfl)
    (keysStopC F (n - 1) h7 hro (by omega) Bs b w.heap.size W0 (by omega) (by omega) ((hB0.cell (p := ⟨Bs, 0, none⟩) hBs).trans hc) (hm.keep (Fr.of_below hB0) (by simp))) belowK_t (belowK_b (by omega)) (Below.refl _ _) (fun _ => rfl)
    (fun pre W => (∃ v, Boxed W w.heap.size 30 v ∧ W.ownsRow w.heap.size 3 1 v 0 [] ∧ v = .slice none 0 0) ∧ Below w.heap.size w W)
    (fun _ _ _ => False)
    (OwnFrom.and (Own.from (holdsRow_own w.heap.size w.heap.size 30 3 1 (fun _ : List Int => 0) (fun _ : List Int => []) (fun _ v => v = .slice none 0 0)) _) (ownFrom_below (Nat.le_refl _) (by omega)))
    (fun _ _ _ _ _ hs _ _ => hs)
    ⟨⟨_, bS, World.ownsRow_nil _ _ _ _, rfl⟩, hB0⟩
    (fun x a' W => True)
    ?ax ?assign ?body ?done ?stop
  case ax =>
    rintro x a' _ X Y row _ hg hr
    trivial
  case assign =>
    rintro l pre x W K ⟨⟨v, hv, hrow, hvn⟩, hB⟩ hK
    gi_wp2
    exact hK _ _ ((KeepsOthers.refl _).from _) (Below.refl _ W) ⟨⟨v, hv, hrow, hvn⟩, hB⟩ trivial
  case body =>
    rintro l pre x a' W hl _ _ _ hlt
    exact absurd hlt (by simp)
  case done =>
    rintro D ys W hD rfl ⟨⟨v, hv, hrow, rfl⟩, hB⟩ hK
    have hcB := hv.cell
    gi_wp2
    refine ⟨by simp, .inl ⟨_, _, rfl, run_takeDeferred hK, ?_⟩⟩
    exact ⟨_, results_tmp rfl _ _ _, rfl, hB.trans (belowK_b (w := w) (Nat.le_refl _) W D _ _ (by omega) hK rfl rfl)⟩
  case stop =>
    rintro D c pre W _ _ h _
    exact h.elim
end
theorem insSort0 (w : World) :
    Calls Tryz.prog 356 #[.slice none 0 0, .int .i64 0, .int .i64 0] w fun e w' => e = .returned (.tuple #[]) ∧ w = w' := by
  go_enter Tryz.func356, Tryz.ntmps356
  go_wp2
  refine wp_loop_rounds 1 ?_
  rw [rounds_succ]
  go_wp2
  go_end0
  exact ⟨rfl, rfl⟩
theorem pdq0 (k : Int) (w : World) :
    Calls Tryz.prog 331 #[.slice none 0 0, .int .i64 0, .int .i64 0, .int .i64 k] w fun e w' => e = .returned (.tuple #[]) ∧ w = w' := by
  go_enter Tryz.func331, Tryz.ntmps331
  go_wp2
  refine wp_loop_rounds 1 ?_
  rw [rounds_succ]
  go_wp2_with fail
  refine (insSort0 _).mono ?_
  rintro e w' ⟨rfl, rfl⟩
  go_wp2
  refine bodyPost_ret (v := .tuple #[]) (by simp [results, Tryz.results331]) rfl ?_
  exact ⟨rfl, rfl⟩
theorem len0 (w : World) : Calls Tryz.prog 127 #[.int .u64 0] w fun e w' => (∃ k, e = .returned (.int .i64 k)) ∧ w = w' := by
  have h6 : ∀ W, Calls Tryz.prog 215 #[.int .u64 0] W fun e w' => (∃ k, e = .returned (.int .i64 k)) ∧ W = w' := by
    intro W
    go_enter Tryz.func215, Tryz.ntmps215
    go_wp2
    go_ret
    exact ⟨⟨_, rfl⟩, rfl⟩
  go_enter Tryz.func127, Tryz.ntmps127
  go_wp2_with (go_at_call 215; refine (h6 _).mono ?_; rintro e w' ⟨⟨k, rfl⟩, rfl⟩)
  go_ret
  exact ⟨⟨k, rfl⟩, rfl⟩
theorem sortInts0 (w : World) :
    Calls Tryz.prog 277 #[.slice none 0 0] w fun e w' => e = .returned (.tuple #[]) ∧ w = w' := by
  go_enter Tryz.func277, Tryz.ntmps277
  go_wp2_with fail
  refine (len0 _).mono ?_
  rintro e w' ⟨⟨k, rfl⟩, rfl⟩
  go_wp2_with fail
  refine (pdq0 _ _).mono ?_
  rintro e w' ⟨rfl, rfl⟩
  go_wp2
  go_end0
  exact ⟨rfl, rfl⟩
theorem collectQ (Bs b : Nat) (w : World) (hBs : Bs < w.heap.size) (hc : w.cell? ⟨Bs, 0, none⟩ = some (.map (some b))) (hm : MapIs Tryz.prog 3 w b []) :
    Calls Tryz.prog 276 #[.func (.func 282) #[] #[.pointer (some ⟨Bs, 0, none⟩)]] w fun e w' => e = .returned (.slice none 0 0) ∧ Fr [] w w' := by
  have HA := Lib.hid ((callsIn_wide (n := 4)).1 (appendSeqQ Fence.wide 4 trivial trivial rfl (by omega) Bs b w hBs hc hm))
  clear hc hm
  go_enter Tryz.func276, Tryz.ntmps276
  go_wp2_with (go_at_call 330; refine HA.out.mono ?_; rintro e w' ⟨rfl, hB⟩)
  go_ret
  exact ⟨rfl, Fr.of_below hB⟩
theorem sortedQ (Bs b : Nat) (w : World) (hBs : Bs < w.heap.size) (hc : w.cell? ⟨Bs, 0, none⟩ = some (.map (some b))) (hm : MapIs Tryz.prog 3 w b []) :
    Calls Tryz.prog 199 #[.func (.func 282) #[] #[.pointer (some ⟨Bs, 0, none⟩)]] w fun e w' => e = .returned (.slice none 0 0) ∧ Fr [] w w' := by
  have HA := Lib.hid (collectQ Bs b w hBs hc hm)
  clear hc hm
  go_enter Tryz.func199, Tryz.ntmps199
  go_wp2_with fail
  refine HA.out.mono ?_
  rintro e w1 ⟨rfl, f1⟩
  go_wp2_with fail
  refine (sortInts0 _).mono ?_
  rintro e w2 ⟨rfl, rfl⟩
  go_wp2
  go_ret
  exact ⟨rfl, f1⟩
theorem listQ (b : Nat) (w : World) (hm : MapIs Tryz.prog 3 w b []) :
    Calls Tryz.prog 123 #[.map (some b)] w fun e w' => e = .returned (.slice none 0 0) ∧ Fr [] w w' := by
  have f1 : Fr [] w (w.alloc (.cells #[.map (some b)] 205)) := (Fr.refl [] w).alloc _
  have HS := Lib.hid (sortedQ w.heap.size b (w.alloc (.cells #[.map (some b)] 205)) (by simp) (netCell _ _ _ 0 rfl rfl rfl) (hm.keep f1 (by simp)))
  have HF := Lib.hid f1
  have hmf : ∀ (fn : Fn) (first cap : Array Value) (w : World), (Instr.makeFunc fn first cap).run Tryz.prog w = .ok (.func fn first cap) w := fun _ _ _ _ => rfl
  have hK : ∀ W, Calls Tryz.prog 203 #[.map (some b)] W fun e w' => e = .returned (.func (.func 282) #[] #[.pointer (some ⟨W.heap.size, 0, none⟩)]) ∧ w' = W.alloc (.cells #[.map (some b)] 205) := by
    intro W
    go_enter Tryz.func203, Tryz.ntmps203
    go_wp2
    go_ret
    exact ⟨rfl, rfl⟩
  have HK := Lib.hid hK
  clear hm f1 hK
  go_enter Tryz.func123, Tryz.ntmps123
  go_wp2_with fail
  refine (HK.out _).mono ?_
  rintro e w' ⟨rfl, rfl⟩
  go_wp2_with fail
  refine HS.out.mono ?_
  rintro e w' ⟨rfl, f2⟩
  go_wp2
  go_ret
  exact ⟨rfl, HF.out.step f2⟩
theorem collectC (Bs b : Nat) (w : World) (hBs : Bs < w.heap.size) (hc : w.cell? ⟨Bs, 0, none⟩ = some (.map (some b))) (hm : MapIs Tryz.prog 3 w b []) :
    Calls Tryz.prog 276 #[.func (.func 278) #[] #[.pointer (some ⟨Bs, 0, none⟩)]] w fun e w' => e = .returned (.slice none 0 0) ∧ Fr [] w w' := by
  have HA := Lib.hid ((callsIn_wide (n := 4)).1 (appendSeqC Fence.wide 4 trivial trivial rfl (by omega) Bs b w hBs hc hm))
  clear hc hm
  go_enter Tryz.func276, Tryz.ntmps276
  go_wp2_with (go_at_call 330; refine HA.out.mono ?_; rintro e w' ⟨rfl, hB⟩)
  go_ret
  exact ⟨rfl, Fr.of_below hB⟩
theorem sortedC (Bs b : Nat) (w : World) (hBs : Bs < w.heap.size) (hc : w.cell? ⟨Bs, 0, none⟩ = some (.map (some b))) (hm : MapIs Tryz.prog 3 w b []) :
    Calls Tryz.prog 199 #[.func (.func 278) #[] #[.pointer (some ⟨Bs, 0, none⟩)]] w fun e w' => e = .returned (.slice none 0 0) ∧ Fr [] w w' := by
  have HA := Lib.hid (collectC Bs b w hBs hc hm)
  clear hc hm
  go_enter Tryz.func199, Tryz.ntmps199
  go_wp2_with fail
  refine HA.out.mono ?_
  rintro e w1 ⟨rfl, f1⟩
  go_wp2_with fail
  refine (sortInts0 _).mono ?_
  rintro e w2 ⟨rfl, rfl⟩
  go_wp2
  go_ret
  exact ⟨rfl, f1⟩
theorem listC (b : Nat) (w : World) (hm : MapIs Tryz.prog 3 w b []) :
    Calls Tryz.prog 121 #[.map (some b)] w fun e w' => e = .returned (.slice none 0 0) ∧ Fr [] w w' := by
  have f1 : Fr [] w (w.alloc (.cells #[.map (some b)] 207)) := (Fr.refl [] w).alloc _
  have HS := Lib.hid (sortedC w.heap.size b (w.alloc (.cells #[.map (some b)] 207)) (by simp) (netCell _ _ _ 0 rfl rfl rfl) (hm.keep f1 (by simp)))
  have HF := Lib.hid f1
  have hmf : ∀ (fn : Fn) (first cap : Array Value) (w : World), (Instr.makeFunc fn first cap).run Tryz.prog w = .ok (.func fn first cap) w := fun _ _ _ _ => rfl
  have hK : ∀ W, Calls Tryz.prog 200 #[.map (some b)] W fun e w' => e = .returned (.func (.func 278) #[] #[.pointer (some ⟨W.heap.size, 0, none⟩)]) ∧ w' = W.alloc (.cells #[.map (some b)] 207) := by
    intro W
    go_enter Tryz.func200, Tryz.ntmps200
    go_wp2
    go_ret
    exact ⟨rfl, rfl⟩
  have HK := Lib.hid hK
  clear hm f1 hK
  go_enter Tryz.func121, Tryz.ntmps121
  go_wp2_with fail
  refine (HK.out _).mono ?_
  rintro e w' ⟨rfl, rfl⟩
  go_wp2_with fail
  refine HS.out.mono ?_
  rintro e w' ⟨rfl, f2⟩
  go_wp2
  go_ret
  exact ⟨rfl, HF.out.step f2⟩
theorem conns0 {n r m lm cm : Nat} (w : World) (h : Net0 w n r m lm cm) :
    Calls Tryz.prog 52 #[.pointer (some ⟨n, 0, none⟩)] w fun e w' => e = .returned (.slice none 0 0) ∧ Fr [] w w' := by
  have HN := Lib.hid (net0None w h)
  have HL := Lib.hid (listC cm w h.cs)
  have c2 := h.c2
  clear h
  go_enter Tryz.func52, Tryz.ntmps52
  go_wp2_with fail
  refine HN.out.mono ?_
  rintro e w' ⟨rfl, rfl⟩
  go_wp2_with fail
  refine HL.out.mono ?_
  rintro e w1 ⟨rfl, f1⟩
  go_wp2
  refine wp_loop_rounds 1 ?_
  rw [rounds_succ]
  go_wp2
  go_ret
  exact ⟨rfl, f1⟩
theorem listeners0 {n r m lm cm : Nat} (w : World) (h : Net0 w n r m lm cm) :
    Calls Tryz.prog 53 #[.pointer (some ⟨n, 0, none⟩)] w fun e w' => e = .returned (.slice none 0 0) ∧ Fr [] w w' := by
  have HN := Lib.hid (net0None w h)
  have HL := Lib.hid (listQ lm w h.ls)
  have c1 := h.c1
  clear h
  go_enter Tryz.func53, Tryz.ntmps53
  go_wp2_with fail
  refine HN.out.mono ?_
  rintro e w' ⟨rfl, rfl⟩
  go_wp2_with fail
  refine HL.out.mono ?_
  rintro e w1 ⟨rfl, f1⟩
  go_wp2
  refine wp_loop_rounds 1 ?_
  rw [rounds_succ]
  go_wp2
  go_ret
  exact ⟨rfl, f1⟩
theorem restore0 (w : World) :
    Calls Tryz.prog 63 #[.slice none 0 0, .slice none 0 0] w fun e w' => ∃ n, e = .returned (.tuple #[.pointer (some ⟨n, 0, none⟩), .int .i64 0]) ∧ Fr [] w w' := by
  go_enter Tryz.func63, Tryz.ntmps63
  go_wp2_with fail
  refine (netNew0 _).mono ?_
  rintro e w1 ⟨n, r, m, lm, cm, rfl, hn, f1⟩
  clear hn
  go_wp2
  refine wp_loop_rounds 1 ?_
  rw [rounds_succ]
  go_wp2
  refine wp_loop_rounds 1 ?_
  rw [rounds_succ]
  go_wp2
  go_ret2
  exact ⟨n, rfl, f1⟩
end Go.Proofs.YtemihaijhcpnfaaGreatDoor
