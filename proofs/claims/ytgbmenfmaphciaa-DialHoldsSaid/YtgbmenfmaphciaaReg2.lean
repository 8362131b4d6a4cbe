/- Contracts of registry's New, Lookup, Bind and Release over a registry's cell and its map of addresses. -/
/- Contracts of registry's Bind (a port that is not 0) and Release where they succeed. -/
import Derived.Test.YtgbmenfmaphciaaBacklog
import Derived.Test.YtgbmenfmaphciaaAddr2
import Derived.DeepKeys4
namespace Go.Proofs.Ytgbmenfmaphciaa
open Go.RowKit
open Go.Maps (Keyed)
set_option linter.unusedVariables false

theorem rowAddr : (23 : TypeId) < Try.prog.types.size := of_decide_eq_true (by kernel_rfl)
theorem cellsAddr : Try.prog.cellsOf 23 = 2 := by kernel_rfl
theorem laidOutP : laidOutB Try.prog = true := by kernel_rfl
theorem wideAddr : (match Try.prog.underlying 23 with | some (.array _ _) | some (.struct _) => true | _ => false) = true := by rw [Try.underlying23]
set_option maxRecDepth 100000 in
theorem keyAddr : Keyed Try.prog 23 := Keyed.of_law (deep_law_laid laidOutP (m := 2) (by omega) rowAddr (by kernel_rfl) wideAddr)
theorem keyTypeAddr : Try.prog.keyType 23 = true := by kernel_rfl
def addrV (s : ByteArray) (p : Int) : Value := .agg #[.string s, .int .i64 p]
theorem size1 : ∃ n, Try.prog.types.size + 1 = n + 2 := ⟨Try.prog.types.size - 1, by have h : (1 : Nat) < Try.prog.types.size := Nat.lt_of_le_of_lt (by decide) rowAddr; omega⟩
theorem cellsStr : Try.prog.cellsOf 9 = 1 := by kernel_rfl
theorem cellsInt : Try.prog.cellsOf 3 = 1 := by kernel_rfl
theorem keyAddr_of (s : ByteArray) (p : Int) (hs : s.size ≤ 1000000) (h0 : -9223372036854775808 ≤ p) (h1 : p ≤ 9223372036854775807) : ∃ l, keyOf Try.prog 23 (addrV s p) = some l := by
  obtain ⟨n, hn⟩ := size1
  have hwf : (Lit.int .i64 p).wf = true := by simp [Lit.wf, IntKind.min, IntKind.max, IntKind.signed, IntKind.bits]; omega
  have hm : s.size ≤ maxLen := by unfold maxLen; omega
  unfold keyOf
  rw [Try.underlying23]
  simp only [keyTypeAddr, hn]
  simp [addrV, Value.formed, Try.underlying23, cellsAddr, Value.cells, Program.keyLits, Try.underlying9, Try.underlying3, cellsStr, cellsInt, hwf, hm]

theorem zeroInt (w : World) : (zeroValue 3).run Try.prog w = .ok (.int .i64 0) w := by kernel_rfl
/-- A registry in block r, its map in block m, which holds just the pairs f. -/
structure RegIs (w : World) (r m : Nat) (f : List (Value × Value)) : Prop where
  c0 : w.cell? ⟨r, 0, none⟩ = some (.map (some m))
  map : MapIs Try.prog 23 w m f
  ne : r ≠ m
theorem RegIs.keep {S : List Nat} {w w' : World} {r m : Nat} {f : List (Value × Value)} (h : RegIs w r m f) (hf : Fr S w w') (hr : r ∉ S) (hm : m ∉ S) : RegIs w' r m f :=
  ⟨hf.keep h.c0 hr, h.map.keep hf hm, h.ne⟩

set_option maxRecDepth 100000 in
set_option maxHeartbeats 400000 in
theorem regNew_any (w : World) :
    Calls Try.prog 34 #[] w fun e w' => e = .returned (.pointer (some ⟨w.heap.size + 1, 0, none⟩)) ∧ RegIs w' (w.heap.size + 1) w.heap.size [] ∧ Fr [] w w' := by
  have hmm := @run_makeMap Try.prog
  go_enter Try.func34, Try.ntmps34
  go_wp2
  go_ret
  exact ⟨rfl, ⟨by simp, (MapIs.made Try.prog 23 w).keep ((Fr.refl [] _).alloc _) (by simp), by omega⟩, ((Fr.refl [] w).alloc _).alloc _⟩

set_option maxRecDepth 100000 in
set_option maxHeartbeats 400000 in
theorem regNone_any (r m : Nat) (f : List (Value × Value)) (w : World) (h : RegIs w r m f) :
    Calls Try.prog 58 #[.pointer (some ⟨r, 0, none⟩)] w fun e w' => e = .returned (.bool false) ∧ w = w' := by
  have c0 := h.c0
  have hne : ∀ W : World, (binOp .eql 123 (.map (some m)) (.map none)).run Try.prog W = .ok (.bool false) W := fun W => by kernel_rfl
  go_enter Try.func58, Try.ntmps58
  go_wp2
  go_ret
  exact ⟨rfl, rfl⟩

theorem ret_ii {a b c d : Int} (h : a = c) (h' : b = d) : Ending.returned (.tuple #[.int .i64 a, .int .i64 b]) = .returned (.tuple #[.int .i64 c, .int .i64 d]) := by rw [h, h']

set_option maxRecDepth 100000 in
set_option maxHeartbeats 1000000 in
theorem regLookup_core (r m : Nat) (f : List (Value × Value)) (s : ByteArray) (p : Int) (w : World) (h : RegIs w r m f) (hs : s.size ≤ 1000000) (hv : addrB s.data.toList p = true) (v : Int) (is : Bool) (c : Int)
    (hlk : ∀ W : World, MapIs Try.prog 23 W m f → (Instr.lookup 123 (.map (some m)) (.agg #[.string s, .int .i64 p]) true).run Try.prog W = .ok (.tuple #[.int .i64 v, .bool is]) W)
    (hc : c = if is then 0 else 9) (hv0 : is = false → v = 0) :
    Calls Try.prog 49 #[.pointer (some ⟨r, 0, none⟩), .agg #[.string s, .int .i64 p]] w fun e w' => e = .returned (.tuple #[.int .i64 v, .int .i64 c]) ∧ Fr [] w w' := by
  have f0 : Fr [] w (w.alloc (.cells #[.string s, .int .i64 p] 23)) := (Fr.refl [] w).alloc _
  have h0 := h.keep f0 (by simp) (by simp)
  have HV := Lib.hid hv
  have HLK := Lib.hid hlk
  have HC := Lib.hid hc
  have HZ := Lib.hid hv0
  clear hv hlk hc hv0
  go_enter Try.func49, Try.ntmps49
  go_wp2_with (go_at_call 58; refine (regNone_any r m f _ h0).mono ?_; rintro e w' ⟨rfl, rfl⟩)
  refine (valid_any s p hs _).mono ?_
  rintro e w1 ⟨rfl, f1⟩
  rw [HV.out]
  have k0 : w1.cell? ⟨w.heap.size, 0, none⟩ = some (.string s) := f1.keep (by simp) (by simp)
  have k1 : w1.cell? ⟨w.heap.size, 1, none⟩ = some (.int .i64 p) := f1.keep (by simp) (by simp)
  have h1 := h0.keep f1 (by simp) (by simp)
  have c1 := h1.c0
  have hl : ∀ n, (Instr.lookup 123 (.map (some m)) (.agg #[.string s, .int .i64 p]) true).run Try.prog (w1.drewN n) = .ok (.tuple #[.int .i64 v, .bool is]) (w1.drewN n) := fun n => HLK.out _ (h1.map.drewN n)
  go_wp2
  go_quiet (fail)
  cases is with
  | true =>
    go_wp2
    go_ret2
    exact ⟨ret_ii rfl HC.out.symm, (f0.step f1).drewN _⟩
  | false =>
    go_wp2
    go_ret2
    exact ⟨ret_ii (HZ.out trivial).symm HC.out.symm, (f0.step f1).drewN _⟩

theorem regLookup_hit (r m : Nat) (f : List (Value × Value)) (s : ByteArray) (p : Int) (w : World) (h : RegIs w r m f) (hs : s.size ≤ 1000000) (hv : addrB s.data.toList p = true) (v : Int) (hx : (addrV s p, .int .i64 v) ∈ f) :
    Calls Try.prog 49 #[.pointer (some ⟨r, 0, none⟩), .agg #[.string s, .int .i64 p]] w fun e w' => e = .returned (.tuple #[.int .i64 v, .int .i64 0]) ∧ Fr [] w w' :=
  regLookup_core r m f s p w h hs hv v true 0 (fun W hW => hW.hit keyAddr Try.underlying123 hx true) rfl (fun h => by cases h)
theorem addrB_port {l : List UInt8} {p : Int} (h : addrB l p = true) : 0 ≤ p ∧ p ≤ 65535 := by
  unfold addrB at h
  simp at h
  omega
theorem regLookup_miss (r m : Nat) (f : List (Value × Value)) (s : ByteArray) (p : Int) (w : World) (h : RegIs w r m f) (hs : s.size ≤ 1000000) (hv : addrB s.data.toList p = true) (hx : ∀ x ∈ f, x.1 ≠ addrV s p) :
    Calls Try.prog 49 #[.pointer (some ⟨r, 0, none⟩), .agg #[.string s, .int .i64 p]] w fun e w' => e = .returned (.tuple #[.int .i64 0, .int .i64 9]) ∧ Fr [] w w' := by
  obtain ⟨b1, b2⟩ := addrB_port hv
  obtain ⟨l, hl⟩ := keyAddr_of s p hs (by omega) (by omega)
  exact regLookup_core r m f s p w h hs hv 0 false 9 (fun W hW => hW.miss keyAddr Try.underlying123 hl hx (zeroInt W) true) rfl (fun _ => rfl)

set_option maxRecDepth 100000 in
set_option maxHeartbeats 1000000 in
theorem regLookup_bad (r m : Nat) (f : List (Value × Value)) (s : ByteArray) (p : Int) (w : World) (h : RegIs w r m f) (hs : s.size ≤ 1000000) (hv : addrB s.data.toList p = false) :
    Calls Try.prog 49 #[.pointer (some ⟨r, 0, none⟩), .agg #[.string s, .int .i64 p]] w fun e w' => e = .returned (.tuple #[.int .i64 0, .int .i64 2]) ∧ Fr [] w w' := by
  have f0 : Fr [] w (w.alloc (.cells #[.string s, .int .i64 p] 23)) := (Fr.refl [] w).alloc _
  have h0 := h.keep f0 (by simp) (by simp)
  have HV := Lib.hid hv
  clear hv
  go_enter Try.func49, Try.ntmps49
  go_wp2_with (go_at_call 58; refine (regNone_any r m f _ h0).mono ?_; rintro e w' ⟨rfl, rfl⟩)
  refine (valid_any s p hs _).mono ?_
  rintro e w1 ⟨rfl, f1⟩
  rw [HV.out]
  go_wp2
  go_ret2
  exact ⟨rfl, f0.step f1⟩
end Go.Proofs.Ytgbmenfmaphciaa
namespace Go.Proofs.Ytgbmenfmaphciaa
open Go.RowKit
open Go.Maps (Keyed)
set_option linter.unusedVariables false

set_option maxRecDepth 100000 in
set_option maxHeartbeats 2000000 in
theorem regBind_ok (r m : Nat) (f : List (Value × Value)) (s : ByteArray) (p v : Int) (w : World) (h : RegIs w r m f) (hs : s.size ≤ 1000000) (hv : addrB s.data.toList p = true) (hp : (p == 0) = false) (hv0 : 0 ≤ v)
    (hx : ∀ x ∈ f, x.1 ≠ addrV s p) (hn : ¬ (128 ≤ (f.length : Int))) :
    Calls Try.prog 43 #[.pointer (some ⟨r, 0, none⟩), .agg #[.string s, .int .i64 p], .int .i64 v] w fun e w' => e = .returned (.tuple #[.agg #[.string s, .int .i64 p], .int .i64 0]) ∧ RegIs w' r m (f ++ [(addrV s p, .int .i64 v)]) ∧ Fr [m] w w' := by
  obtain ⟨b1, b2⟩ := addrB_port hv
  obtain ⟨lk, hlk⟩ := keyAddr_of s p hs (by omega) (by omega)
  have f0 : Fr [] w ((w.alloc (.cells #[.string s, .int .i64 p] 23)).alloc (.cells #[.string ⟨#[]⟩, .int .i64 0] 23)) := ((Fr.refl [] w).alloc _).alloc _
  have h0 := h.keep f0 (by simp) (by simp)
  have HV := Lib.hid hv
  have HX := Lib.hid hx
  have HK := Lib.hid hlk
  have hne := h.ne
  have hrlt := cell_lt h.c0
  have hmlt := h.map.lt
  clear hv hx hlk
  go_enter Try.func43, Try.ntmps43
  go_wp2_with (go_at_call 58; refine (regNone_any r m f _ h0).mono ?_; rintro e w' ⟨rfl, rfl⟩)
  refine (valid_any s p hs _).mono ?_
  rintro e w1 ⟨rfl, f1⟩
  rw [HV.out]
  have k0 : w1.cell? ⟨w.heap.size, 0, none⟩ = some (.string s) := f1.keep (by simp) (by simp)
  have k1 : w1.cell? ⟨w.heap.size, 1, none⟩ = some (.int .i64 p) := f1.keep (by simp) (by simp)
  have j0 : w1.cell? ⟨w.heap.size + 1, 0, none⟩ = some (.string ⟨#[]⟩) := f1.keep (by simp) (by simp)
  have j1 : w1.cell? ⟨w.heap.size + 1, 1, none⟩ = some (.int .i64 0) := f1.keep (by simp) (by simp)
  have jf : ∀ o, w1.frozen? ⟨w.heap.size + 1, o, none⟩ = false := fun o => by rw [f1.frozen (by simp) (by simp)]; simp
  have h1 := h0.keep f1 (by simp) (by simp)
  have c1 := h1.c0
  have hl : ∀ n, (Instr.lookup 123 (.map (some m)) (.agg #[.string s, .int .i64 p]) true).run Try.prog (w1.drewN n) = .ok (.tuple #[.int .i64 0, .bool false]) (w1.drewN n) := fun n =>
    (h1.map.drewN n).miss keyAddr Try.underlying123 HK.out HX.out (zeroInt _) true
  go_wp2
  go_quiet (fail)
  have hlen := (h1.map.drewN nq).len (t := 123) (e := 3) Try.underlying123
  obtain ⟨w2, hrun, hm2, f2⟩ := (h1.map.drewN (nq + 1)).put keyAddr Try.underlying123 HK.out HX.out (.int .i64 v)
  unfold addrV at hrun
  have g1 : w.heap.size + 1 < w1.heap.size := by have := f1.size; simp at this; omega
  have e0 : w2.cell? ⟨w.heap.size, 0, none⟩ = some (.string s) := f2.keep k0 (by simp; omega)
  have e1 : w2.cell? ⟨w.heap.size, 1, none⟩ = some (.int .i64 p) := f2.keep k1 (by simp; omega)
  have i0 : w2.cell? ⟨w.heap.size + 1, 0, none⟩ = some (.string ⟨#[]⟩) := f2.keep j0 (by simp; omega)
  have i1 : w2.cell? ⟨w.heap.size + 1, 1, none⟩ = some (.int .i64 0) := f2.keep j1 (by simp; omega)
  have jf2 : ∀ o, w2.frozen? ⟨w.heap.size + 1, o, none⟩ = false := fun o => by rw [f2.frozen (by exact g1) (by simp; omega)]; exact jf o
  go_wp2
  go_region
  go_wp2
  have f3 : Fr [] w w1 := f0.step f1
  have f4 : Fr [m] w w2 := ((f3.drewN (nq + 1)).mono (T := [m]) (fun x hx => by cases hx)).trans f2 (fun x hx _ => hx)
  refine bodyPost_ret (v := .tuple #[.agg #[.string s, .int .i64 p], .int .i64 0]) (by simp [results, Try.results43, go_sem, i0, i1]) rfl ⟨rfl, ⟨?_, ?_, hne⟩, ?_⟩
  · exact ((f4.setCell (p := ⟨w.heap.size + 1, 0, none⟩) (fun h => by simp at h; omega) _).setCell (p := ⟨w.heap.size + 1, 1, none⟩) (fun h => by simp at h; omega) _).keep h.c0 (by simp; omega)
  · exact hm2.keep (S := [w.heap.size + 1]) (((Fr.refl _ _).setCell (fun _ => by simp) _).setCell (fun _ => by simp) _) (by simp; omega)
  · exact (f4.setCell (p := ⟨w.heap.size + 1, 0, none⟩) (fun h => by simp at h; omega) _).setCell (p := ⟨w.heap.size + 1, 1, none⟩) (fun h => by simp at h; omega) _

set_option maxRecDepth 100000 in
set_option maxHeartbeats 2000000 in
theorem regRelease_hit (r m : Nat) (f1 f2 : List (Value × Value)) (s : ByteArray) (p v : Int) (w : World) (h : RegIs w r m (f1 ++ (addrV s p, .int .i64 v) :: f2)) (hs : s.size ≤ 1000000) (hv : addrB s.data.toList p = true) :
    Calls Try.prog 45 #[.pointer (some ⟨r, 0, none⟩), .agg #[.string s, .int .i64 p]] w fun e w' => e = .returned (.tuple #[.int .i64 v, .int .i64 0]) ∧ RegIs w' r m (f1 ++ f2) ∧ Fr [m] w w' := by
  have f0 : Fr [] w (w.alloc (.cells #[.string s, .int .i64 p] 23)) := (Fr.refl [] w).alloc _
  have h0 := h.keep f0 (by simp) (by simp)
  have hne := h.ne
  have hmlt := h.map.lt
  go_enter Try.func45, Try.ntmps45
  go_wp2_with fail
  refine (regLookup_hit r m _ s p _ h0 hs hv v (by simp)).mono ?_
  rintro e w1 ⟨rfl, g1⟩
  have h1 := h0.keep g1 (by simp) (by simp)
  have c1 := h1.c0
  have k0 : w1.cell? ⟨w.heap.size, 0, none⟩ = some (.string s) := g1.keep (by simp) (by simp)
  have k1 : w1.cell? ⟨w.heap.size, 1, none⟩ = some (.int .i64 p) := g1.keep (by simp) (by simp)
  obtain ⟨w2, hrun, hm2, g2⟩ := (show MapIs Try.prog 23 w1.drew m _ from h1.map).del (T := 0) keyAddr Try.underlying123
  unfold addrV at hrun
  go_wp2
  go_region
  go_wp2
  go_ret2
  have g3 : Fr [m] w w2 := (((f0.step g1).drew).mono (T := [m]) (fun x hx => by cases hx)).trans g2 (fun x hx _ => hx)
  exact ⟨rfl, ⟨g3.keep h.c0 (by simp; omega), hm2, hne⟩, g3⟩
end Go.Proofs.Ytgbmenfmaphciaa
