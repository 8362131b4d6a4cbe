/- Contracts of registry's New, Lookup, Bind and Release over a registry's cell and its map of addresses. -/
/- Contracts of registry's Bind (a port that is not 0) and Release where they succeed. -/
/- Contracts of listener's New and Find over a net's cells, its registry and its maps. -/
import Derived.Test.YtmdhlodafjpnmaaGreatBacklog
import Derived.Test.YtmdhlodafjpnmaaGreatAddr2
import Derived.DeepKeys4
import Derived.RegionCalls
import Derived.Deep.RegionHeld3
import Derived.Deep.RegionWith
namespace Go.Proofs.YtmdhlodafjpnmaaGreat
open Go.RowKit
open Go.Maps (Keyed)
set_option linter.unusedVariables false

theorem rowAddr : (28 : TypeId) < Tryz.prog.types.size := of_decide_eq_true (by kernel_rfl)
theorem cellsAddr : Tryz.prog.cellsOf 28 = 2 := by kernel_rfl
theorem laidOutP : laidOutB Tryz.prog = true := by kernel_rfl
theorem wideAddr : (match Tryz.prog.underlying 28 with | some (.array _ _) | some (.struct _) => true | _ => false) = true := by rw [Tryz.underlying28]
set_option maxRecDepth 100000 in
theorem keyAddr : Keyed Tryz.prog 28 := Keyed.of_law (deep_law_laid laidOutP (m := 2) (by omega) rowAddr (by kernel_rfl) wideAddr)
theorem keyTypeAddr : Tryz.prog.keyType 28 = true := by kernel_rfl
def addrV (s : ByteArray) (p : Int) : Value := .agg #[.string s, .int .i64 p]
theorem size1 : ∃ n, Tryz.prog.types.size + 1 = n + 2 := ⟨Tryz.prog.types.size - 1, by have h : (1 : Nat) < Tryz.prog.types.size := Nat.lt_of_le_of_lt (by decide) rowAddr; omega⟩
theorem cellsStr : Tryz.prog.cellsOf 9 = 1 := by kernel_rfl
theorem cellsInt : Tryz.prog.cellsOf 3 = 1 := by kernel_rfl
theorem keyAddr_of (s : ByteArray) (p : Int) (hs : s.size ≤ 1000000) (h0 : -9223372036854775808 ≤ p) (h1 : p ≤ 9223372036854775807) : ∃ l, keyOf Tryz.prog 28 (addrV s p) = some l := by
  obtain ⟨n, hn⟩ := size1
  have hwf : (Lit.int .i64 p).wf = true := by simp [Lit.wf, IntKind.min, IntKind.max, IntKind.signed, IntKind.bits]; omega
  have hm : s.size ≤ maxLen := by unfold maxLen; omega
  unfold keyOf
  rw [Tryz.underlying28]
  simp only [keyTypeAddr, hn]
  simp [addrV, Value.formed, Tryz.underlying28, cellsAddr, Value.cells, Program.keyLits, Tryz.underlying9, Tryz.underlying3, cellsStr, cellsInt, hwf, hm]

theorem zeroInt (w : World) : (zeroValue 3).run Tryz.prog w = .ok (.int .i64 0) w := by kernel_rfl
/-- A registry in block r, its map in block m, which holds just the pairs f. -/
structure RegIs (w : World) (r m : Nat) (f : List (Value × Value)) : Prop where
  c0 : w.cell? ⟨r, 0, none⟩ = some (.map (some m))
  map : MapIs Tryz.prog 28 w m f
  ne : r ≠ m
theorem RegIs.keep {S : List Nat} {w w' : World} {r m : Nat} {f : List (Value × Value)} (h : RegIs w r m f) (hf : Fr S w w') (hr : r ∉ S) (hm : m ∉ S) : RegIs w' r m f :=
  ⟨hf.keep h.c0 hr, h.map.keep hf hm, h.ne⟩

set_option maxRecDepth 100000 in
set_option maxHeartbeats 400000 in
theorem regNew_any (w : World) :
    Calls Tryz.prog 44 #[] w fun e w' => e = .returned (.pointer (some ⟨w.heap.size + 1, 0, none⟩)) ∧ RegIs w' (w.heap.size + 1) w.heap.size [] ∧ Fr [] w w' := by
  have hmm := @run_makeMap Tryz.prog
  go_enter Tryz.func44, Tryz.ntmps44
  go_wp2
  go_ret
  exact ⟨rfl, ⟨by simp, (MapIs.made Tryz.prog 28 w).keep ((Fr.refl [] _).alloc _) (by simp), by omega⟩, ((Fr.refl [] w).alloc _).alloc _⟩

set_option maxRecDepth 100000 in
set_option maxHeartbeats 400000 in
theorem regNone_any (r m : Nat) (f : List (Value × Value)) (w : World) (h : RegIs w r m f) :
    Calls Tryz.prog 110 #[.pointer (some ⟨r, 0, none⟩)] w fun e w' => e = .returned (.bool false) ∧ w = w' := by
  have c0 := h.c0
  have hne : ∀ W : World, (binOp .eql 159 (.map (some m)) (.map none)).run Tryz.prog W = .ok (.bool false) W := fun W => by kernel_rfl
  go_enter Tryz.func110, Tryz.ntmps110
  go_wp2
  go_ret
  exact ⟨rfl, rfl⟩

theorem ret_ii {a b c d : Int} (h : a = c) (h' : b = d) : Ending.returned (.tuple #[.int .i64 a, .int .i64 b]) = .returned (.tuple #[.int .i64 c, .int .i64 d]) := by rw [h, h']

set_option maxRecDepth 100000 in
set_option maxHeartbeats 1000000 in
theorem regLookup_core (r m : Nat) (f : List (Value × Value)) (s : ByteArray) (p : Int) (w : World) (h : RegIs w r m f) (hs : s.size ≤ 1000000) (hv : addrB s.data.toList p = true) (v : Int) (is : Bool) (c : Int)
    (hlk : ∀ W : World, MapIs Tryz.prog 28 W m f → (Instr.lookup 159 (.map (some m)) (.agg #[.string s, .int .i64 p]) true).run Tryz.prog W = .ok (.tuple #[.int .i64 v, .bool is]) W)
    (hc : c = if is then 0 else 9) (hv0 : is = false → v = 0) :
    Calls Tryz.prog 82 #[.pointer (some ⟨r, 0, none⟩), .agg #[.string s, .int .i64 p]] w fun e w' => e = .returned (.tuple #[.int .i64 v, .int .i64 c]) ∧ Fr [] w w' := by
  have f0 : Fr [] w (w.alloc (.cells #[.string s, .int .i64 p] 28)) := (Fr.refl [] w).alloc _
  have h0 := h.keep f0 (by simp) (by simp)
  have HV := Lib.hid hv
  have HLK := Lib.hid hlk
  have HC := Lib.hid hc
  have HZ := Lib.hid hv0
  clear hv hlk hc hv0
  go_enter Tryz.func82, Tryz.ntmps82
  go_wp2_with (go_at_call 110; refine (regNone_any r m f _ h0).mono ?_; rintro e w' ⟨rfl, rfl⟩)
  refine (valid_any s p hs _).mono ?_
  rintro e w1 ⟨rfl, f1⟩
  rw [HV.out]
  have k0 : w1.cell? ⟨w.heap.size, 0, none⟩ = some (.string s) := f1.keep (by simp) (by simp)
  have k1 : w1.cell? ⟨w.heap.size, 1, none⟩ = some (.int .i64 p) := f1.keep (by simp) (by simp)
  have h1 := h0.keep f1 (by simp) (by simp)
  have c1 := h1.c0
  have hl : ∀ n, (Instr.lookup 159 (.map (some m)) (.agg #[.string s, .int .i64 p]) true).run Tryz.prog (w1.drewN n) = .ok (.tuple #[.int .i64 v, .bool is]) (w1.drewN n) := fun n => HLK.out _ (h1.map.drewN n)
  go_wp2
  go_quiet (fail)
  cases is with
  | true =>
    go_wp2
    go_ret2
    exact ⟨ret_ii rfl HC.out.symm, (f0.step f1).drewN _⟩
  | false =>
    go_wp2
    go_ret2
    exact ⟨ret_ii (HZ.out trivial).symm HC.out.symm, (f0.step f1).drewN _⟩

theorem regLookup_hit (r m : Nat) (f : List (Value × Value)) (s : ByteArray) (p : Int) (w : World) (h : RegIs w r m f) (hs : s.size ≤ 1000000) (hv : addrB s.data.toList p = true) (v : Int) (hx : (addrV s p, .int .i64 v) ∈ f) :
    Calls Tryz.prog 82 #[.pointer (some ⟨r, 0, none⟩), .agg #[.string s, .int .i64 p]] w fun e w' => e = .returned (.tuple #[.int .i64 v, .int .i64 0]) ∧ Fr [] w w' :=
  regLookup_core r m f s p w h hs hv v true 0 (fun W hW => hW.hit keyAddr Tryz.underlying159 hx true) rfl (fun h => by cases h)
theorem addrB_port {l : List UInt8} {p : Int} (h : addrB l p = true) : 0 ≤ p ∧ p ≤ 65535 := by
  unfold addrB at h
  simp at h
  omega
theorem regLookup_miss (r m : Nat) (f : List (Value × Value)) (s : ByteArray) (p : Int) (w : World) (h : RegIs w r m f) (hs : s.size ≤ 1000000) (hv : addrB s.data.toList p = true) (hx : ∀ x ∈ f, x.1 ≠ addrV s p) :
    Calls Tryz.prog 82 #[.pointer (some ⟨r, 0, none⟩), .agg #[.string s, .int .i64 p]] w fun e w' => e = .returned (.tuple #[.int .i64 0, .int .i64 9]) ∧ Fr [] w w' := by
  obtain ⟨b1, b2⟩ := addrB_port hv
  obtain ⟨l, hl⟩ := keyAddr_of s p hs (by omega) (by omega)
  exact regLookup_core r m f s p w h hs hv 0 false 9 (fun W hW => hW.miss keyAddr Tryz.underlying159 hl hx (zeroInt W) true) rfl (fun _ => rfl)

set_option maxRecDepth 100000 in
set_option maxHeartbeats 1000000 in
theorem regLookup_bad (r m : Nat) (f : List (Value × Value)) (s : ByteArray) (p : Int) (w : World) (h : RegIs w r m f) (hs : s.size ≤ 1000000) (hv : addrB s.data.toList p = false) :
    Calls Tryz.prog 82 #[.pointer (some ⟨r, 0, none⟩), .agg #[.string s, .int .i64 p]] w fun e w' => e = .returned (.tuple #[.int .i64 0, .int .i64 2]) ∧ Fr [] w w' := by
  have f0 : Fr [] w (w.alloc (.cells #[.string s, .int .i64 p] 28)) := (Fr.refl [] w).alloc _
  have h0 := h.keep f0 (by simp) (by simp)
  have HV := Lib.hid hv
  clear hv
  go_enter Tryz.func82, Tryz.ntmps82
  go_wp2_with (go_at_call 110; refine (regNone_any r m f _ h0).mono ?_; rintro e w' ⟨rfl, rfl⟩)
  refine (valid_any s p hs _).mono ?_
  rintro e w1 ⟨rfl, f1⟩
  rw [HV.out]
  go_wp2
  go_ret2
  exact ⟨rfl, f0.step f1⟩
end Go.Proofs.YtmdhlodafjpnmaaGreat
namespace Go.Proofs.YtmdhlodafjpnmaaGreat
open Go.RowKit
open Go.Maps (Keyed)
set_option linter.unusedVariables false

set_option maxRecDepth 100000 in
set_option maxHeartbeats 2000000 in
theorem regBind_ok (r m : Nat) (f : List (Value × Value)) (s : ByteArray) (p v : Int) (w : World) (h : RegIs w r m f) (hs : s.size ≤ 1000000) (hv : addrB s.data.toList p = true) (hp : (p == 0) = false) (hv0 : 0 ≤ v)
    (hx : ∀ x ∈ f, x.1 ≠ addrV s p) (hn : ¬ (128 ≤ (f.length : Int))) :
    Calls Tryz.prog 75 #[.pointer (some ⟨r, 0, none⟩), .agg #[.string s, .int .i64 p], .int .i64 v] w fun e w' => e = .returned (.tuple #[.agg #[.string s, .int .i64 p], .int .i64 0]) ∧ RegIs w' r m (f ++ [(addrV s p, .int .i64 v)]) ∧ Fr [m] w w' := by
  obtain ⟨b1, b2⟩ := addrB_port hv
  obtain ⟨lk, hlk⟩ := keyAddr_of s p hs (by omega) (by omega)
  have f0 : Fr [] w ((w.alloc (.cells #[.string s, .int .i64 p] 28)).alloc (.cells #[.string ⟨#[]⟩, .int .i64 0] 28)) := ((Fr.refl [] w).alloc _).alloc _
  have h0 := h.keep f0 (by simp) (by simp)
  have HV := Lib.hid hv
  have HX := Lib.hid hx
  have HK := Lib.hid hlk
  have hne := h.ne
  have hrlt := cell_lt h.c0
  have hmlt := h.map.lt
  clear hv hx hlk
  go_enter Tryz.func75, Tryz.ntmps75
  go_wp2_with (go_at_call 110; refine (regNone_any r m f _ h0).mono ?_; rintro e w' ⟨rfl, rfl⟩)
  refine (valid_any s p hs _).mono ?_
  rintro e w1 ⟨rfl, f1⟩
  rw [HV.out]
  have k0 : w1.cell? ⟨w.heap.size, 0, none⟩ = some (.string s) := f1.keep (by simp) (by simp)
  have k1 : w1.cell? ⟨w.heap.size, 1, none⟩ = some (.int .i64 p) := f1.keep (by simp) (by simp)
  have j0 : w1.cell? ⟨w.heap.size + 1, 0, none⟩ = some (.string ⟨#[]⟩) := f1.keep (by simp) (by simp)
  have j1 : w1.cell? ⟨w.heap.size + 1, 1, none⟩ = some (.int .i64 0) := f1.keep (by simp) (by simp)
  have jf : ∀ o, w1.frozen? ⟨w.heap.size + 1, o, none⟩ = false := fun o => by rw [f1.frozen (by simp) (by simp)]; simp
  have h1 := h0.keep f1 (by simp) (by simp)
  have c1 := h1.c0
  have hl : ∀ n, (Instr.lookup 159 (.map (some m)) (.agg #[.string s, .int .i64 p]) true).run Tryz.prog (w1.drewN n) = .ok (.tuple #[.int .i64 0, .bool false]) (w1.drewN n) := fun n =>
    (h1.map.drewN n).miss keyAddr Tryz.underlying159 HK.out HX.out (zeroInt _) true
  go_wp2
  go_quiet (fail)
  have hlen := (h1.map.drewN nq).len (t := 159) (e := 3) Tryz.underlying159
  obtain ⟨w2, hrun, hm2, f2⟩ := (h1.map.drewN (nq + 1)).put keyAddr Tryz.underlying159 HK.out HX.out (.int .i64 v)
  unfold addrV at hrun
  have g1 : w.heap.size + 1 < w1.heap.size := by have := f1.size; simp at this; omega
  have e0 : w2.cell? ⟨w.heap.size, 0, none⟩ = some (.string s) := f2.keep k0 (by simp; omega)
  have e1 : w2.cell? ⟨w.heap.size, 1, none⟩ = some (.int .i64 p) := f2.keep k1 (by simp; omega)
  have i0 : w2.cell? ⟨w.heap.size + 1, 0, none⟩ = some (.string ⟨#[]⟩) := f2.keep j0 (by simp; omega)
  have i1 : w2.cell? ⟨w.heap.size + 1, 1, none⟩ = some (.int .i64 0) := f2.keep j1 (by simp; omega)
  have jf2 : ∀ o, w2.frozen? ⟨w.heap.size + 1, o, none⟩ = false := fun o => by rw [f2.frozen (by exact g1) (by simp; omega)]; exact jf o
  go_wp2
  go_region
  go_wp2
  have f3 : Fr [] w w1 := f0.step f1
  have f4 : Fr [m] w w2 := ((f3.drewN (nq + 1)).mono (T := [m]) (fun x hx => by cases hx)).trans f2 (fun x hx _ => hx)
  refine bodyPost_ret (v := .tuple #[.agg #[.string s, .int .i64 p], .int .i64 0]) (by simp [results, Tryz.results75, go_sem, i0, i1]) rfl ⟨rfl, ⟨?_, ?_, hne⟩, ?_⟩
  · exact ((f4.setCell (p := ⟨w.heap.size + 1, 0, none⟩) (fun h => by simp at h; omega) _).setCell (p := ⟨w.heap.size + 1, 1, none⟩) (fun h => by simp at h; omega) _).keep h.c0 (by simp; omega)
  · exact hm2.keep (S := [w.heap.size + 1]) (((Fr.refl _ _).setCell (fun _ => by simp) _).setCell (fun _ => by simp) _) (by simp; omega)
  · exact (f4.setCell (p := ⟨w.heap.size + 1, 0, none⟩) (fun h => by simp at h; omega) _).setCell (p := ⟨w.heap.size + 1, 1, none⟩) (fun h => by simp at h; omega) _

set_option maxRecDepth 100000 in
set_option maxHeartbeats 2000000 in
theorem regRelease_hit (r m : Nat) (f1 f2 : List (Value × Value)) (s : ByteArray) (p v : Int) (w : World) (h : RegIs w r m (f1 ++ (addrV s p, .int .i64 v) :: f2)) (hs : s.size ≤ 1000000) (hv : addrB s.data.toList p = true) :
    Calls Tryz.prog 79 #[.pointer (some ⟨r, 0, none⟩), .agg #[.string s, .int .i64 p]] w fun e w' => e = .returned (.tuple #[.int .i64 v, .int .i64 0]) ∧ RegIs w' r m (f1 ++ f2) ∧ Fr [m] w w' := by
  have f0 : Fr [] w (w.alloc (.cells #[.string s, .int .i64 p] 28)) := (Fr.refl [] w).alloc _
  have h0 := h.keep f0 (by simp) (by simp)
  have hne := h.ne
  have hmlt := h.map.lt
  go_enter Tryz.func79, Tryz.ntmps79
  go_wp2_with fail
  refine (regLookup_hit r m _ s p _ h0 hs hv v (by simp)).mono ?_
  rintro e w1 ⟨rfl, g1⟩
  have h1 := h0.keep g1 (by simp) (by simp)
  have c1 := h1.c0
  have k0 : w1.cell? ⟨w.heap.size, 0, none⟩ = some (.string s) := g1.keep (by simp) (by simp)
  have k1 : w1.cell? ⟨w.heap.size, 1, none⟩ = some (.int .i64 p) := g1.keep (by simp) (by simp)
  obtain ⟨w2, hrun, hm2, g2⟩ := (show MapIs Tryz.prog 28 w1.drew m _ from h1.map).del (T := 0) keyAddr Tryz.underlying159
  unfold addrV at hrun
  go_wp2
  go_region
  go_wp2
  go_ret2
  have g3 : Fr [m] w w2 := (((f0.step g1).drew).mono (T := [m]) (fun x hx => by cases hx)).trans g2 (fun x hx _ => hx)
  exact ⟨rfl, ⟨g3.keep h.c0 (by simp; omega), hm2, hne⟩, g3⟩
end Go.Proofs.YtmdhlodafjpnmaaGreat
namespace Go.Proofs.YtmdhlodafjpnmaaGreat
open Go.RowKit
open Go.Maps (Keyed)
set_option linter.unusedVariables false

/-- A net in block n: its registry in r with the map m, its listeners in the map lm, its connections in the map cm. -/
structure NetIs (w : World) (n r m lm cm : Nat) (names ls cs : List (Value × Value)) : Prop where
  c0 : w.cell? ⟨n, 0, none⟩ = some (.pointer (some ⟨r, 0, none⟩))
  c1 : w.cell? ⟨n, 1, none⟩ = some (.map (some lm))
  c2 : w.cell? ⟨n, 2, none⟩ = some (.map (some cm))
  reg : RegIs w r m names
  ls : MapIs Tryz.prog 3 w lm ls
  cs : MapIs Tryz.prog 3 w cm cs
  ne : n ≠ r ∧ n ≠ m ∧ n ≠ lm ∧ n ≠ cm ∧ r ≠ lm ∧ r ≠ cm ∧ m ≠ lm ∧ m ≠ cm ∧ lm ≠ cm
theorem NetIs.keep {S : List Nat} {w w' : World} {n r m lm cm : Nat} {names ls cs : List (Value × Value)} (h : NetIs w n r m lm cm names ls cs) (hf : Fr S w w') (h1 : n ∉ S) (h2 : r ∉ S) (h3 : m ∉ S) (h4 : lm ∉ S) (h5 : cm ∉ S) : NetIs w' n r m lm cm names ls cs :=
  ⟨hf.keep h.c0 h1, hf.keep h.c1 h1, hf.keep h.c2 h1, h.reg.keep hf h2 h3, h.ls.keep hf h4, h.cs.keep hf h5, h.ne⟩
theorem NetIs.new {w w' : World} {n r m lm cm : Nat} {names ls cs : List (Value × Value)} (h : NetIs w n r m lm cm names ls cs) (hf : Fr [] w w') : NetIs w' n r m lm cm names ls cs :=
  h.keep hf (by simp) (by simp) (by simp) (by simp) (by simp)
theorem RegIs.drewN {w : World} {r m : Nat} {f : List (Value × Value)} (h : RegIs w r m f) (n : Nat) : RegIs (w.drewN n) r m f := ⟨h.c0, h.map, h.ne⟩

theorem netCell (W : World) (c : Array Value) (t : TypeId) (o : Nat) {b : Nat} {v : Value} {W' : World} (h : W' = W.alloc (.cells c t)) (hb : b = W.heap.size) (hc : c[o]? = some v) : W'.cell? ⟨b, o, none⟩ = some v := by
  subst h; subst hb; simpa using hc

set_option maxRecDepth 100000 in
set_option maxHeartbeats 400000 in
theorem netNew_any (w : World) :
    Calls Tryz.prog 9 #[] w fun e w' => ∃ n r m lm cm, e = .returned (.pointer (some ⟨n, 0, none⟩)) ∧ NetIs w' n r m lm cm [] [] [] ∧ Fr [] w w' ∧ w.heap.size ≤ n ∧ w.heap.size ≤ r ∧ w.heap.size ≤ m ∧ w.heap.size ≤ lm ∧ w.heap.size ≤ cm := by
  have hmm := @run_makeMap Tryz.prog
  go_enter Tryz.func9, Tryz.ntmps9
  go_wp2_with (go_at_call 44; refine (regNew_any _).mono ?_; rintro e w1 ⟨rfl, r1, f1⟩)
  go_ret
  have hlt := cell_lt r1.c0
  have f2 : Fr [] w1 (((w1.alloc (.map #[] 0)).alloc (.map #[] 0)).alloc (.cells #[.pointer (some ⟨w.heap.size + 1, 0, none⟩), .map (some w1.heap.size), .map (some (w1.heap.size + 1))] 53)) := (((Fr.refl [] w1).alloc _).alloc _).alloc _
  refine ⟨w1.heap.size + 1 + 1, w.heap.size + 1, w.heap.size, w1.heap.size, w1.heap.size + 1, rfl, ⟨netCell _ _ _ _ rfl (by simp) (by simp), netCell _ _ _ _ rfl (by simp) (by simp), netCell _ _ _ _ rfl (by simp) (by simp), r1.keep f2 (by simp) (by simp), ?_, ?_, by omega⟩, f1.step f2, by omega, by omega, by omega, by omega, by omega⟩
  · exact (MapIs.made Tryz.prog 3 w1).keep (((Fr.refl [] _).alloc _).alloc _) (by simp)
  · have := (MapIs.made Tryz.prog 3 (w1.alloc (.map #[] 0)))
    rw [World.size_alloc] at this
    exact this.keep ((Fr.refl [] _).alloc _) (by simp)

set_option maxRecDepth 100000 in
set_option maxHeartbeats 400000 in
theorem netNone_any {n r m lm cm : Nat} {names ls cs : List (Value × Value)} (w : World) (h : NetIs w n r m lm cm names ls cs) :
    Calls Tryz.prog 55 #[.pointer (some ⟨n, 0, none⟩)] w fun e w' => e = .returned (.bool false) ∧ w = w' := by
  have c0 := h.c0
  go_enter Tryz.func55, Tryz.ntmps55
  go_wp2
  go_ret
  exact ⟨rfl, rfl⟩

set_option maxRecDepth 100000 in
set_option maxHeartbeats 1000000 in
theorem netFind_core {n r m lm cm : Nat} {names ls cs : List (Value × Value)} (s : ByteArray) (p v c : Int) (w : World) (h : NetIs w n r m lm cm names ls cs)
    (hlk : ∀ W, RegIs W r m names → Calls Tryz.prog 82 #[.pointer (some ⟨r, 0, none⟩), .agg #[.string s, .int .i64 p]] W fun e w' => e = .returned (.tuple #[.int .i64 v, .int .i64 c]) ∧ Fr [] W w') :
    Calls Tryz.prog 32 #[.pointer (some ⟨n, 0, none⟩), .agg #[.string s, .int .i64 p]] w fun e w' => e = .returned (.tuple #[.int .i64 v, .int .i64 c]) ∧ Fr [] w w' := by
  have f0 : Fr [] w (w.alloc (.cells #[.string s, .int .i64 p] 28)) := (Fr.refl [] w).alloc _
  have h0 := h.new f0
  have c0 := h0.c0
  have HLK := Lib.hid hlk
  clear hlk
  go_enter Tryz.func32, Tryz.ntmps32
  go_wp2_with (go_at_call 55; refine (netNone_any _ h0).mono ?_; rintro e w' ⟨rfl, rfl⟩)
  go_region_with (go_at_call 82; refine (HLK.out _ (h0.reg.drewN 1)).mono ?_; rintro e w1 ⟨rfl, f1⟩)
  all_goals (go_wp2; go_ret2; refine ⟨rfl, ?_⟩)
  all_goals exact (f0.drewN 1).trans f1 (fun x hx _ => hx)
end Go.Proofs.YtmdhlodafjpnmaaGreat
