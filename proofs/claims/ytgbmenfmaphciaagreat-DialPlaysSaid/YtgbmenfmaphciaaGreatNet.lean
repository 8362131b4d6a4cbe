/- Contracts of listener's New and Find over a net's cells, its registry and its maps. -/
import Derived.Test.YtgbmenfmaphciaaGreatBind0
import Derived.RegionCalls
import Derived.Deep.RegionHeld3
import Derived.Deep.RegionWith
namespace Go.Proofs.YtgbmenfmaphciaaGreat
open Go.RowKit
open Go.Maps (Keyed)
set_option linter.unusedVariables false
structure NetIs (w : World) (n r m lm cm : Nat) (names ls cs : List (Value × Value)) : Prop where
 c0 : w.cell? ⟨n, 0, none⟩ = some (.pointer (some ⟨r, 0, none⟩))
 c1 : w.cell? ⟨n, 1, none⟩ = some (.map (some lm))
 c2 : w.cell? ⟨n, 2, none⟩ = some (.map (some cm))
 reg : RegIs w r m names
 ls : MapIs Tryz.prog 3 w lm ls
 cs : MapIs Tryz.prog 3 w cm cs
 ne : n ≠ r ∧ n ≠ m ∧ n ≠ lm ∧ n ≠ cm ∧ r ≠ lm ∧ r ≠ cm ∧ m ≠ lm ∧ m ≠ cm ∧ lm ≠ cm
theorem NetIs.keep {S : List Nat} {w w' : World} {n r m lm cm : Nat} {names ls cs : List (Value × Value)} (h : NetIs w n r m lm cm names ls cs) (hf : Fr S w w') (h1 : n ∉ S) (h2 : r ∉ S) (h3 : m ∉ S) (h4 : lm ∉ S) (h5 : cm ∉ S) : NetIs w' n r m lm cm names ls cs :=
 ⟨hf.keep h.c0 h1, hf.keep h.c1 h1, hf.keep h.c2 h1, h.reg.keep hf h2 h3, h.ls.keep hf h4, h.cs.keep hf h5, h.ne⟩
theorem NetIs.new {w w' : World} {n r m lm cm : Nat} {names ls cs : List (Value × Value)} (h : NetIs w n r m lm cm names ls cs) (hf : Fr [] w w') : NetIs w' n r m lm cm names ls cs :=
 h.keep hf (by simp) (by simp) (by simp) (by simp) (by simp)
theorem RegIs.drewN {w : World} {r m : Nat} {f : List (Value × Value)} (h : RegIs w r m f) (n : Nat) : RegIs (w.drewN n) r m f := ⟨h.c0, h.map, h.ne⟩
theorem netCell (W : World) (c : Array Value) (t : TypeId) (o : Nat) {b : Nat} {v : Value} {W' : World} (h : W' = W.alloc (.cells c t)) (hb : b = W.heap.size) (hc : c[o]? = some v) : W'.cell? ⟨b, o, none⟩ = some v := by
 subst h; subst hb; simpa using hc
set_option maxRecDepth 100000 in
set_option maxHeartbeats 400000 in
theorem netNew_any (w : World) :
  Calls Tryz.prog 6 #[] w fun e w' => ∃ n r m lm cm, e = .returned (.pointer (some ⟨n, 0, none⟩)) ∧ NetIs w' n r m lm cm [] [] [] ∧ Fr [] w w' ∧ w.heap.size ≤ n ∧ w.heap.size ≤ r ∧ w.heap.size ≤ m ∧ w.heap.size ≤ lm ∧ w.heap.size ≤ cm := by
 have hmm := @run_makeMap Tryz.prog
 go_enter Tryz.func6, Tryz.ntmps6
 go_wp2_with (go_at_call 33; refine (regNew_any _).mono ?_; rintro e w1 ⟨rfl, r1, f1⟩)
 go_ret
 have hlt := cell_lt r1.c0
 have f2 : Fr [] w1 (((w1.alloc (.map #[] 0)).alloc (.map #[] 0)).alloc (.cells #[.pointer (some ⟨w.heap.size + 1, 0, none⟩), .map (some w1.heap.size), .map (some (w1.heap.size + 1))] 92)) := (((Fr.refl [] w1).alloc _).alloc _).alloc _
 refine ⟨w1.heap.size + 1 + 1, w.heap.size + 1, w.heap.size, w1.heap.size, w1.heap.size + 1, rfl, ⟨netCell _ _ _ _ rfl (by simp) (by simp), netCell _ _ _ _ rfl (by simp) (by simp), netCell _ _ _ _ rfl (by simp) (by simp), r1.keep f2 (by simp) (by simp), ?_, ?_, by omega⟩, f1.step f2, by omega, by omega, by omega, by omega, by omega⟩
 ·exact (MapIs.made Tryz.prog 3 w1).keep (((Fr.refl [] _).alloc _).alloc _) (by simp)
 ·have := (MapIs.made Tryz.prog 3 (w1.alloc (.map #[] 0)))
  rw [World.size_alloc] at this
  exact this.keep ((Fr.refl [] _).alloc _) (by simp)
set_option maxRecDepth 100000 in
set_option maxHeartbeats 400000 in
theorem netNone_any {n r m lm cm : Nat} {names ls cs : List (Value × Value)} (w : World) (h : NetIs w n r m lm cm names ls cs) :
  Calls Tryz.prog 49 #[.pointer (some ⟨n, 0, none⟩)] w fun e w' => e = .returned (.bool false) ∧ w = w' := by
 have c0 := h.c0
 go_enter Tryz.func49, Tryz.ntmps49
 go_wp2
 go_ret
 exact ⟨rfl, rfl⟩
set_option maxRecDepth 100000 in
set_option maxHeartbeats 1000000 in
theorem netFind_core {n r m lm cm : Nat} {names ls cs : List (Value × Value)} (s : ByteArray) (p v c : Int) (w : World) (h : NetIs w n r m lm cm names ls cs)
  (hlk : ∀ W, RegIs W r m names → Calls Tryz.prog 89 #[.pointer (some ⟨r, 0, none⟩), .agg #[.string s, .int .i64 p]] W fun e w' => e = .returned (.tuple #[.int .i64 v, .int .i64 c]) ∧ Fr [] W w') :
  Calls Tryz.prog 99 #[.pointer (some ⟨n, 0, none⟩), .agg #[.string s, .int .i64 p]] w fun e w' => e = .returned (.tuple #[.int .i64 v, .int .i64 c]) ∧ Fr [] w w' := by
 have f0 : Fr [] w (w.alloc (.cells #[.string s, .int .i64 p] 36)) := (Fr.refl [] w).alloc _
 have h0 := h.new f0
 have c0 := h0.c0
 have HLK := Lib.hid hlk
 clear hlk
 go_enter Tryz.func99, Tryz.ntmps99
 go_wp2_with (go_at_call 49; refine (netNone_any _ h0).mono ?_; rintro e w' ⟨rfl, rfl⟩)
 go_region_with (go_at_call 89; refine (HLK.out _ (h0.reg.drewN 1)).mono ?_; rintro e w1 ⟨rfl, f1⟩)
 all_goals (go_wp2; go_ret2; refine ⟨rfl, ?_⟩)
 all_goals exact (f0.drewN 1).trans f1 (fun x hx _ => hx)
end Go.Proofs.YtgbmenfmaphciaaGreat
