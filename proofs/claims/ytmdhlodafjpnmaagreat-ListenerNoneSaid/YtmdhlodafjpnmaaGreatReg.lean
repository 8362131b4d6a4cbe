/- Contracts of registry's New, Lookup, Bind and Release over a registry's cell and its map of addresses. -/
import Derived.Test.YtmdhlodafjpnmaaGreatBacklog
import Derived.Test.YtmdhlodafjpnmaaGreatAddr2
import Derived.DeepKeys4
namespace Go.Proofs.YtmdhlodafjpnmaaGreat
open Go.RowKit
open Go.Maps (Keyed)
set_option linter.unusedVariables false

theorem rowAddr : (28 : TypeId) < Tryz.prog.types.size := of_decide_eq_true (by kernel_rfl)
theorem cellsAddr : Tryz.prog.cellsOf 28 = 2 := by kernel_rfl
theorem laidOutP : laidOutB Tryz.prog = true := by kernel_rfl
theorem wideAddr : (match Tryz.prog.underlying 28 with | some (.array _ _) | some (.struct _) => true | _ => false) = true := by rw [Tryz.underlying28]
set_option maxRecDepth 100000 in
theorem keyAddr : Keyed Tryz.prog 28 := Keyed.of_law (deep_law_laid laidOutP (m := 2) (by omega) rowAddr (by kernel_rfl) wideAddr)
theorem keyTypeAddr : Tryz.prog.keyType 28 = true := by kernel_rfl
def addrV (s : ByteArray) (p : Int) : Value := .agg #[.string s, .int .i64 p]
theorem size1 : ∃ n, Tryz.prog.types.size + 1 = n + 2 := ⟨Tryz.prog.types.size - 1, by have h : (1 : Nat) < Tryz.prog.types.size := Nat.lt_of_le_of_lt (by decide) rowAddr; omega⟩
theorem cellsStr : Tryz.prog.cellsOf 9 = 1 := by kernel_rfl
theorem cellsInt : Tryz.prog.cellsOf 3 = 1 := by kernel_rfl
theorem keyAddr_of (s : ByteArray) (p : Int) (hs : s.size ≤ 1000000) (h0 : -9223372036854775808 ≤ p) (h1 : p ≤ 9223372036854775807) : ∃ l, keyOf Tryz.prog 28 (addrV s p) = some l := by
  obtain ⟨n, hn⟩ := size1
  have hwf : (Lit.int .i64 p).wf = true := by simp [Lit.wf, IntKind.min, IntKind.max, IntKind.signed, IntKind.bits]; omega
  have hm : s.size ≤ maxLen := by unfold maxLen; omega
  unfold keyOf
  rw [Tryz.underlying28]
  simp only [keyTypeAddr, hn]
  simp [addrV, Value.formed, Tryz.underlying28, cellsAddr, Value.cells, Program.keyLits, Tryz.underlying9, Tryz.underlying3, cellsStr, cellsInt, hwf, hm]

theorem zeroInt (w : World) : (zeroValue 3).run Tryz.prog w = .ok (.int .i64 0) w := by kernel_rfl
/-- A registry in block r, its map in block m, which holds just the pairs f. -/
structure RegIs (w : World) (r m : Nat) (f : List (Value × Value)) : Prop where
  c0 : w.cell? ⟨r, 0, none⟩ = some (.map (some m))
  map : MapIs Tryz.prog 28 w m f
  ne : r ≠ m
theorem RegIs.keep {S : List Nat} {w w' : World} {r m : Nat} {f : List (Value × Value)} (h : RegIs w r m f) (hf : Fr S w w') (hr : r ∉ S) (hm : m ∉ S) : RegIs w' r m f :=
  ⟨hf.keep h.c0 hr, h.map.keep hf hm, h.ne⟩

set_option maxRecDepth 100000 in
set_option maxHeartbeats 400000 in
theorem regNew_any (w : World) :
    Calls Tryz.prog 44 #[] w fun e w' => e = .returned (.pointer (some ⟨w.heap.size + 1, 0, none⟩)) ∧ RegIs w' (w.heap.size + 1) w.heap.size [] ∧ Fr [] w w' := by
  have hmm := @run_makeMap Tryz.prog
  go_enter Tryz.func44, Tryz.ntmps44
  go_wp2
  go_ret
  exact ⟨rfl, ⟨by simp, (MapIs.made Tryz.prog 28 w).keep ((Fr.refl [] _).alloc _) (by simp), by omega⟩, ((Fr.refl [] w).alloc _).alloc _⟩

set_option maxRecDepth 100000 in
set_option maxHeartbeats 400000 in
theorem regNone_any (r m : Nat) (f : List (Value × Value)) (w : World) (h : RegIs w r m f) :
    Calls Tryz.prog 110 #[.pointer (some ⟨r, 0, none⟩)] w fun e w' => e = .returned (.bool false) ∧ w = w' := by
  have c0 := h.c0
  have hne : ∀ W : World, (binOp .eql 159 (.map (some m)) (.map none)).run Tryz.prog W = .ok (.bool false) W := fun W => by kernel_rfl
  go_enter Tryz.func110, Tryz.ntmps110
  go_wp2
  go_ret
  exact ⟨rfl, rfl⟩

theorem ret_ii {a b c d : Int} (h : a = c) (h' : b = d) : Ending.returned (.tuple #[.int .i64 a, .int .i64 b]) = .returned (.tuple #[.int .i64 c, .int .i64 d]) := by rw [h, h']

set_option maxRecDepth 100000 in
set_option maxHeartbeats 1000000 in
theorem regLookup_core (r m : Nat) (f : List (Value × Value)) (s : ByteArray) (p : Int) (w : World) (h : RegIs w r m f) (hs : s.size ≤ 1000000) (hv : addrB s.data.toList p = true) (v : Int) (is : Bool) (c : Int)
    (hlk : ∀ W : World, MapIs Tryz.prog 28 W m f → (Instr.lookup 159 (.map (some m)) (.agg #[.string s, .int .i64 p]) true).run Tryz.prog W = .ok (.tuple #[.int .i64 v, .bool is]) W)
    (hc : c = if is then 0 else 9) (hv0 : is = false → v = 0) :
    Calls Tryz.prog 82 #[.pointer (some ⟨r, 0, none⟩), .agg #[.string s, .int .i64 p]] w fun e w' => e = .returned (.tuple #[.int .i64 v, .int .i64 c]) ∧ Fr [] w w' := by
  have f0 : Fr [] w (w.alloc (.cells #[.string s, .int .i64 p] 28)) := (Fr.refl [] w).alloc _
  have h0 := h.keep f0 (by simp) (by simp)
  have HV := Lib.hid hv
  have HLK := Lib.hid hlk
  have HC := Lib.hid hc
  have HZ := Lib.hid hv0
  clear hv hlk hc hv0
  go_enter Tryz.func82, Tryz.ntmps82
  go_wp2_with (go_at_call 110; refine (regNone_any r m f _ h0).mono ?_; rintro e w' ⟨rfl, rfl⟩)
  refine (valid_any s p hs _).mono ?_
  rintro e w1 ⟨rfl, f1⟩
  rw [HV.out]
  have k0 : w1.cell? ⟨w.heap.size, 0, none⟩ = some (.string s) := f1.keep (by simp) (by simp)
  have k1 : w1.cell? ⟨w.heap.size, 1, none⟩ = some (.int .i64 p) := f1.keep (by simp) (by simp)
  have h1 := h0.keep f1 (by simp) (by simp)
  have c1 := h1.c0
  have hl : ∀ n, (Instr.lookup 159 (.map (some m)) (.agg #[.string s, .int .i64 p]) true).run Tryz.prog (w1.drewN n) = .ok (.tuple #[.int .i64 v, .bool is]) (w1.drewN n) := fun n => HLK.out _ (h1.map.drewN n)
  go_wp2
  go_quiet (fail)
  cases is with
  | true =>
    go_wp2
    go_ret2
    exact ⟨ret_ii rfl HC.out.symm, (f0.step f1).drewN _⟩
  | false =>
    go_wp2
    go_ret2
    exact ⟨ret_ii (HZ.out trivial).symm HC.out.symm, (f0.step f1).drewN _⟩

theorem regLookup_hit (r m : Nat) (f : List (Value × Value)) (s : ByteArray) (p : Int) (w : World) (h : RegIs w r m f) (hs : s.size ≤ 1000000) (hv : addrB s.data.toList p = true) (v : Int) (hx : (addrV s p, .int .i64 v) ∈ f) :
    Calls Tryz.prog 82 #[.pointer (some ⟨r, 0, none⟩), .agg #[.string s, .int .i64 p]] w fun e w' => e = .returned (.tuple #[.int .i64 v, .int .i64 0]) ∧ Fr [] w w' :=
  regLookup_core r m f s p w h hs hv v true 0 (fun W hW => hW.hit keyAddr Tryz.underlying159 hx true) rfl (fun h => by cases h)
theorem addrB_port {l : List UInt8} {p : Int} (h : addrB l p = true) : 0 ≤ p ∧ p ≤ 65535 := by
  unfold addrB at h
  simp at h
  omega
theorem regLookup_miss (r m : Nat) (f : List (Value × Value)) (s : ByteArray) (p : Int) (w : World) (h : RegIs w r m f) (hs : s.size ≤ 1000000) (hv : addrB s.data.toList p = true) (hx : ∀ x ∈ f, x.1 ≠ addrV s p) :
    Calls Tryz.prog 82 #[.pointer (some ⟨r, 0, none⟩), .agg #[.string s, .int .i64 p]] w fun e w' => e = .returned (.tuple #[.int .i64 0, .int .i64 9]) ∧ Fr [] w w' := by
  obtain ⟨b1, b2⟩ := addrB_port hv
  obtain ⟨l, hl⟩ := keyAddr_of s p hs (by omega) (by omega)
  exact regLookup_core r m f s p w h hs hv 0 false 9 (fun W hW => hW.miss keyAddr Tryz.underlying159 hl hx (zeroInt W) true) rfl (fun _ => rfl)

set_option maxRecDepth 100000 in
set_option maxHeartbeats 1000000 in
theorem regLookup_bad (r m : Nat) (f : List (Value × Value)) (s : ByteArray) (p : Int) (w : World) (h : RegIs w r m f) (hs : s.size ≤ 1000000) (hv : addrB s.data.toList p = false) :
    Calls Tryz.prog 82 #[.pointer (some ⟨r, 0, none⟩), .agg #[.string s, .int .i64 p]] w fun e w' => e = .returned (.tuple #[.int .i64 0, .int .i64 2]) ∧ Fr [] w w' := by
  have f0 : Fr [] w (w.alloc (.cells #[.string s, .int .i64 p] 28)) := (Fr.refl [] w).alloc _
  have h0 := h.keep f0 (by simp) (by simp)
  have HV := Lib.hid hv
  clear hv
  go_enter Tryz.func82, Tryz.ntmps82
  go_wp2_with (go_at_call 110; refine (regNone_any r m f _ h0).mono ?_; rintro e w' ⟨rfl, rfl⟩)
  refine (valid_any s p hs _).mono ?_
  rintro e w1 ⟨rfl, f1⟩
  rw [HV.out]
  go_wp2
  go_ret2
  exact ⟨rfl, f0.step f1⟩
end Go.Proofs.YtmdhlodafjpnmaaGreat
