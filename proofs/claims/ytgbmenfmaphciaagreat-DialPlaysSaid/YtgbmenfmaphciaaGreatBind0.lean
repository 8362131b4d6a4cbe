/- Contracts of registry's New, Lookup, Bind and Release over a registry's cell and its map of addresses. -/
/- Contracts of registry's Bind (a port that is not 0) and Release where they succeed. -/
/- Contracts of registry's free, and of Bind in general. -/
/- Contracts of registry's Bind at the port 0. -/
import Derived.Test.YtgbmenfmaphciaaGreatBacklog
import Derived.Test.YtgbmenfmaphciaaGreatAddr2
import Derived.DeepKeys4
import Derived.Test.YtgbmenfmaphciaaGreatPD
namespace Go.Proofs.YtgbmenfmaphciaaGreat
open Go.RowKit
open Go.Maps (Keyed)
set_option linter.unusedVariables false
theorem rowAddr : (36 : TypeId) < Tryz.prog.types.size := of_decide_eq_true (by kernel_rfl)
theorem cellsAddr : Tryz.prog.cellsOf 36 = 2 := by kernel_rfl
theorem laidOutP : laidOutB Tryz.prog = true := by kernel_rfl
theorem wideAddr : (match Tryz.prog.underlying 36 with | some (.array _ _) | some (.struct _) => true | _ => false) = true := by rw [Tryz.underlying36]
set_option maxRecDepth 100000 in
theorem keyAddr : Keyed Tryz.prog 36 := Keyed.of_law (deep_law_laid laidOutP (m := 2) (by omega) rowAddr (by kernel_rfl) wideAddr)
theorem keyTypeAddr : Tryz.prog.keyType 36 = true := by kernel_rfl
def addrV (s : ByteArray) (p : Int) : Value := .agg #[.string s, .int .i64 p]
theorem size1 : ∃ n, Tryz.prog.types.size + 1 = n + 2 := ⟨Tryz.prog.types.size - 1, by have h : (1 : Nat) < Tryz.prog.types.size := Nat.lt_of_le_of_lt (by decide) rowAddr; omega⟩
theorem cellsStr : Tryz.prog.cellsOf 9 = 1 := by kernel_rfl
theorem cellsInt : Tryz.prog.cellsOf 3 = 1 := by kernel_rfl
theorem keyAddr_of (s : ByteArray) (p : Int) (hs : s.size ≤ 1000000) (h0 : -9223372036854775808 ≤ p) (h1 : p ≤ 9223372036854775807) : ∃ l, keyOf Tryz.prog 36 (addrV s p) = some l := by
 obtain ⟨n, hn⟩ := size1
 have hwf : (Lit.int .i64 p).wf = true := by simp [Lit.wf, IntKind.min, IntKind.max, IntKind.signed, IntKind.bits]; omega
 have hm : s.size ≤ maxLen := by unfold maxLen; omega
 unfold keyOf
 rw [Tryz.underlying36]
 simp only [keyTypeAddr, hn]
 simp [addrV, Value.formed, Tryz.underlying36, cellsAddr, Value.cells, Program.keyLits, Tryz.underlying9, Tryz.underlying3, cellsStr, cellsInt, hwf, hm]
theorem zeroInt (w : World) : (zeroValue 3).run Tryz.prog w = .ok (.int .i64 0) w := by kernel_rfl
structure RegIs (w : World) (r m : Nat) (f : List (Value × Value)) : Prop where
 c0 : w.cell? ⟨r, 0, none⟩ = some (.map (some m))
 map : MapIs Tryz.prog 36 w m f
 ne : r ≠ m
theorem RegIs.keep {S : List Nat} {w w' : World} {r m : Nat} {f : List (Value × Value)} (h : RegIs w r m f) (hf : Fr S w w') (hr : r ∉ S) (hm : m ∉ S) : RegIs w' r m f :=
 ⟨hf.keep h.c0 hr, h.map.keep hf hm, h.ne⟩
set_option maxRecDepth 100000 in
set_option maxHeartbeats 400000 in
theorem regNew_any (w : World) :
  Calls Tryz.prog 33 #[] w fun e w' => e = .returned (.pointer (some ⟨w.heap.size + 1, 0, none⟩)) ∧ RegIs w' (w.heap.size + 1) w.heap.size [] ∧ Fr [] w w' := by
 have hmm := @run_makeMap Tryz.prog
 go_enter Tryz.func33, Tryz.ntmps33
 go_wp2
 go_ret
 exact ⟨rfl, ⟨by simp, (MapIs.made Tryz.prog 36 w).keep ((Fr.refl [] _).alloc _) (by simp), by omega⟩, ((Fr.refl [] w).alloc _).alloc _⟩
set_option maxRecDepth 100000 in
set_option maxHeartbeats 400000 in
theorem regNone_any (r m : Nat) (f : List (Value × Value)) (w : World) (h : RegIs w r m f) :
  Calls Tryz.prog 87 #[.pointer (some ⟨r, 0, none⟩)] w fun e w' => e = .returned (.bool false) ∧ w = w' := by
 have c0 := h.c0
 have hne : ∀ W : World, (binOp .eql 152 (.map (some m)) (.map none)).run Tryz.prog W = .ok (.bool false) W := fun W => by kernel_rfl
 go_enter Tryz.func87, Tryz.ntmps87
 go_wp2
 go_ret
 exact ⟨rfl, rfl⟩
theorem ret_ii {a b c d : Int} (h : a = c) (h' : b = d) : Ending.returned (.tuple #[.int .i64 a, .int .i64 b]) = .returned (.tuple #[.int .i64 c, .int .i64 d]) := by rw [h, h']
set_option maxRecDepth 100000 in
set_option maxHeartbeats 1000000 in
theorem regLookup_core (r m : Nat) (f : List (Value × Value)) (s : ByteArray) (p : Int) (w : World) (h : RegIs w r m f) (hs : s.size ≤ 1000000) (hv : addrB s.data.toList p = true) (v : Int) (is : Bool) (c : Int)
  (hlk : ∀ W : World, MapIs Tryz.prog 36 W m f → (Instr.lookup 152 (.map (some m)) (.agg #[.string s, .int .i64 p]) true).run Tryz.prog W = .ok (.tuple #[.int .i64 v, .bool is]) W)
  (hc : c = if is then 0 else 9) (hv0 : is = false → v = 0) :
  Calls Tryz.prog 89 #[.pointer (some ⟨r, 0, none⟩), .agg #[.string s, .int .i64 p]] w fun e w' => e = .returned (.tuple #[.int .i64 v, .int .i64 c]) ∧ Fr [] w w' := by
 have f0 : Fr [] w (w.alloc (.cells #[.string s, .int .i64 p] 36)) := (Fr.refl [] w).alloc _
 have h0 := h.keep f0 (by simp) (by simp)
 have HV := Lib.hid hv
 have HLK := Lib.hid hlk
 have HC := Lib.hid hc
 have HZ := Lib.hid hv0
 clear hv hlk hc hv0
 go_enter Tryz.func89, Tryz.ntmps89
 go_wp2_with (go_at_call 87; refine (regNone_any r m f _ h0).mono ?_; rintro e w' ⟨rfl, rfl⟩)
 refine (valid_any s p hs _).mono ?_
 rintro e w1 ⟨rfl, f1⟩
 rw [HV.out]
 have k0 : w1.cell? ⟨w.heap.size, 0, none⟩ = some (.string s) := f1.keep (by simp) (by simp)
 have k1 : w1.cell? ⟨w.heap.size, 1, none⟩ = some (.int .i64 p) := f1.keep (by simp) (by simp)
 have h1 := h0.keep f1 (by simp) (by simp)
 have c1 := h1.c0
 have hl : ∀ n, (Instr.lookup 152 (.map (some m)) (.agg #[.string s, .int .i64 p]) true).run Tryz.prog (w1.drewN n) = .ok (.tuple #[.int .i64 v, .bool is]) (w1.drewN n) := fun n => HLK.out _ (h1.map.drewN n)
 go_wp2
 go_quiet (fail)
 cases is with
 | true =>
  go_wp2
  go_ret2
  exact ⟨ret_ii rfl HC.out.symm, (f0.step f1).drewN _⟩
 | false =>
  go_wp2
  go_ret2
  exact ⟨ret_ii (HZ.out trivial).symm HC.out.symm, (f0.step f1).drewN _⟩
theorem regLookup_hit (r m : Nat) (f : List (Value × Value)) (s : ByteArray) (p : Int) (w : World) (h : RegIs w r m f) (hs : s.size ≤ 1000000) (hv : addrB s.data.toList p = true) (v : Int) (hx : (addrV s p, .int .i64 v) ∈ f) :
  Calls Tryz.prog 89 #[.pointer (some ⟨r, 0, none⟩), .agg #[.string s, .int .i64 p]] w fun e w' => e = .returned (.tuple #[.int .i64 v, .int .i64 0]) ∧ Fr [] w w' :=
 regLookup_core r m f s p w h hs hv v true 0 (fun W hW => hW.hit keyAddr Tryz.underlying152 hx true) rfl (fun h => by cases h)
theorem addrB_port {l : List UInt8} {p : Int} (h : addrB l p = true) : 0 ≤ p ∧ p ≤ 65535 := by
 unfold addrB at h
 simp at h
 omega
theorem regLookup_miss (r m : Nat) (f : List (Value × Value)) (s : ByteArray) (p : Int) (w : World) (h : RegIs w r m f) (hs : s.size ≤ 1000000) (hv : addrB s.data.toList p = true) (hx : ∀ x ∈ f, x.1 ≠ addrV s p) :
  Calls Tryz.prog 89 #[.pointer (some ⟨r, 0, none⟩), .agg #[.string s, .int .i64 p]] w fun e w' => e = .returned (.tuple #[.int .i64 0, .int .i64 9]) ∧ Fr [] w w' := by
 obtain ⟨b1, b2⟩ := addrB_port hv
 obtain ⟨l, hl⟩ := keyAddr_of s p hs (by omega) (by omega)
 exact regLookup_core r m f s p w h hs hv 0 false 9 (fun W hW => hW.miss keyAddr Tryz.underlying152 hl hx (zeroInt W) true) rfl (fun _ => rfl)
set_option maxRecDepth 100000 in
set_option maxHeartbeats 1000000 in
theorem regLookup_bad (r m : Nat) (f : List (Value × Value)) (s : ByteArray) (p : Int) (w : World) (h : RegIs w r m f) (hs : s.size ≤ 1000000) (hv : addrB s.data.toList p = false) :
  Calls Tryz.prog 89 #[.pointer (some ⟨r, 0, none⟩), .agg #[.string s, .int .i64 p]] w fun e w' => e = .returned (.tuple #[.int .i64 0, .int .i64 2]) ∧ Fr [] w w' := by
 have f0 : Fr [] w (w.alloc (.cells #[.string s, .int .i64 p] 36)) := (Fr.refl [] w).alloc _
 have h0 := h.keep f0 (by simp) (by simp)
 have HV := Lib.hid hv
 clear hv
 go_enter Tryz.func89, Tryz.ntmps89
 go_wp2_with (go_at_call 87; refine (regNone_any r m f _ h0).mono ?_; rintro e w' ⟨rfl, rfl⟩)
 refine (valid_any s p hs _).mono ?_
 rintro e w1 ⟨rfl, f1⟩
 rw [HV.out]
 go_wp2
 go_ret2
 exact ⟨rfl, f0.step f1⟩
set_option maxRecDepth 100000 in
set_option maxHeartbeats 2000000 in
theorem regBind_ok (r m : Nat) (f : List (Value × Value)) (s : ByteArray) (p v : Int) (w : World) (h : RegIs w r m f) (hs : s.size ≤ 1000000) (hv : addrB s.data.toList p = true) (hp : (p == 0) = false) (hv0 : 0 ≤ v)
  (hx : ∀ x ∈ f, x.1 ≠ addrV s p) (hn : ¬ (128 ≤ (f.length : Int))) :
  Calls Tryz.prog 51 #[.pointer (some ⟨r, 0, none⟩), .agg #[.string s, .int .i64 p], .int .i64 v] w fun e w' => e = .returned (.tuple #[.agg #[.string s, .int .i64 p], .int .i64 0]) ∧ RegIs w' r m (f ++ [(addrV s p, .int .i64 v)]) ∧ Fr [m] w w' := by
 obtain ⟨b1, b2⟩ := addrB_port hv
 obtain ⟨lk, hlk⟩ := keyAddr_of s p hs (by omega) (by omega)
 have f0 : Fr [] w ((w.alloc (.cells #[.string s, .int .i64 p] 36)).alloc (.cells #[.string ⟨#[]⟩, .int .i64 0] 36)) := ((Fr.refl [] w).alloc _).alloc _
 have h0 := h.keep f0 (by simp) (by simp)
 have HV := Lib.hid hv
 have HX := Lib.hid hx
 have HK := Lib.hid hlk
 have hne := h.ne
 have hrlt := cell_lt h.c0
 have hmlt := h.map.lt
 clear hv hx hlk
 go_enter Tryz.func51, Tryz.ntmps51
 go_wp2_with (go_at_call 87; refine (regNone_any r m f _ h0).mono ?_; rintro e w' ⟨rfl, rfl⟩)
 refine (valid_any s p hs _).mono ?_
 rintro e w1 ⟨rfl, f1⟩
 rw [HV.out]
 have k0 : w1.cell? ⟨w.heap.size, 0, none⟩ = some (.string s) := f1.keep (by simp) (by simp)
 have k1 : w1.cell? ⟨w.heap.size, 1, none⟩ = some (.int .i64 p) := f1.keep (by simp) (by simp)
 have j0 : w1.cell? ⟨w.heap.size + 1, 0, none⟩ = some (.string ⟨#[]⟩) := f1.keep (by simp) (by simp)
 have j1 : w1.cell? ⟨w.heap.size + 1, 1, none⟩ = some (.int .i64 0) := f1.keep (by simp) (by simp)
 have jf : ∀ o, w1.frozen? ⟨w.heap.size + 1, o, none⟩ = false := fun o => by rw [f1.frozen (by simp) (by simp)]; simp
 have h1 := h0.keep f1 (by simp) (by simp)
 have c1 := h1.c0
 have hl : ∀ n, (Instr.lookup 152 (.map (some m)) (.agg #[.string s, .int .i64 p]) true).run Tryz.prog (w1.drewN n) = .ok (.tuple #[.int .i64 0, .bool false]) (w1.drewN n) := fun n =>
  (h1.map.drewN n).miss keyAddr Tryz.underlying152 HK.out HX.out (zeroInt _) true
 go_wp2
 go_quiet (fail)
 have hlen := (h1.map.drewN nq).len (t := 152) (e := 3) Tryz.underlying152
 obtain ⟨w2, hrun, hm2, f2⟩ := (h1.map.drewN (nq + 1)).put keyAddr Tryz.underlying152 HK.out HX.out (.int .i64 v)
 unfold addrV at hrun
 have g1 : w.heap.size + 1 < w1.heap.size := by have := f1.size; simp at this; omega
 have e0 : w2.cell? ⟨w.heap.size, 0, none⟩ = some (.string s) := f2.keep k0 (by simp; omega)
 have e1 : w2.cell? ⟨w.heap.size, 1, none⟩ = some (.int .i64 p) := f2.keep k1 (by simp; omega)
 have i0 : w2.cell? ⟨w.heap.size + 1, 0, none⟩ = some (.string ⟨#[]⟩) := f2.keep j0 (by simp; omega)
 have i1 : w2.cell? ⟨w.heap.size + 1, 1, none⟩ = some (.int .i64 0) := f2.keep j1 (by simp; omega)
 have jf2 : ∀ o, w2.frozen? ⟨w.heap.size + 1, o, none⟩ = false := fun o => by rw [f2.frozen (by exact g1) (by simp; omega)]; exact jf o
 go_wp2
 go_region
 go_wp2
 have f3 : Fr [] w w1 := f0.step f1
 have f4 : Fr [m] w w2 := ((f3.drewN (nq + 1)).mono (T := [m]) (fun x hx => by cases hx)).trans f2 (fun x hx _ => hx)
 refine bodyPost_ret (v := .tuple #[.agg #[.string s, .int .i64 p], .int .i64 0]) (by simp [results, Tryz.results51, go_sem, i0, i1]) rfl ⟨rfl, ⟨?_, ?_, hne⟩, ?_⟩
 ·exact ((f4.setCell (p := ⟨w.heap.size + 1, 0, none⟩) (fun h => by simp at h; omega) _).setCell (p := ⟨w.heap.size + 1, 1, none⟩) (fun h => by simp at h; omega) _).keep h.c0 (by simp; omega)
 ·exact hm2.keep (S := [w.heap.size + 1]) (((Fr.refl _ _).setCell (fun _ => by simp) _).setCell (fun _ => by simp) _) (by simp; omega)
 ·exact (f4.setCell (p := ⟨w.heap.size + 1, 0, none⟩) (fun h => by simp at h; omega) _).setCell (p := ⟨w.heap.size + 1, 1, none⟩) (fun h => by simp at h; omega) _
set_option maxRecDepth 100000 in
set_option maxHeartbeats 2000000 in
theorem regRelease_hit (r m : Nat) (f1 f2 : List (Value × Value)) (s : ByteArray) (p v : Int) (w : World) (h : RegIs w r m (f1 ++ (addrV s p, .int .i64 v) :: f2)) (hs : s.size ≤ 1000000) (hv : addrB s.data.toList p = true) :
  Calls Tryz.prog 53 #[.pointer (some ⟨r, 0, none⟩), .agg #[.string s, .int .i64 p]] w fun e w' => e = .returned (.tuple #[.int .i64 v, .int .i64 0]) ∧ RegIs w' r m (f1 ++ f2) ∧ Fr [m] w w' := by
 have f0 : Fr [] w (w.alloc (.cells #[.string s, .int .i64 p] 36)) := (Fr.refl [] w).alloc _
 have h0 := h.keep f0 (by simp) (by simp)
 have hne := h.ne
 have hmlt := h.map.lt
 go_enter Tryz.func53, Tryz.ntmps53
 go_wp2_with fail
 refine (regLookup_hit r m _ s p _ h0 hs hv v (by simp)).mono ?_
 rintro e w1 ⟨rfl, g1⟩
 have h1 := h0.keep g1 (by simp) (by simp)
 have c1 := h1.c0
 have k0 : w1.cell? ⟨w.heap.size, 0, none⟩ = some (.string s) := g1.keep (by simp) (by simp)
 have k1 : w1.cell? ⟨w.heap.size, 1, none⟩ = some (.int .i64 p) := g1.keep (by simp) (by simp)
 obtain ⟨w2, hrun, hm2, g2⟩ := (show MapIs Tryz.prog 36 w1.drew m _ from h1.map).del (T := 0) keyAddr Tryz.underlying152
 unfold addrV at hrun
 go_wp2
 go_region
 go_wp2
 go_ret2
 have g3 : Fr [m] w w2 := (((f0.step g1).drew).mono (T := [m]) (fun x hx => by cases hx)).trans g2 (fun x hx _ => hx)
 exact ⟨rfl, ⟨g3.keep h.c0 (by simp; omega), hm2, hne⟩, g3⟩
set_option maxRecDepth 100000
set_option maxHeartbeats 4000000
theorem regFree_any (r m k : Nat) (f : List (Value × Value)) (s : ByteArray) (w : World) (h : RegIs w r m f) (hs : s.size ≤ 1000000) (hk : k ≤ 128) (hlow : ∀ j, j < k → ∃ v, (addrV s (49152 + (j : Int)), .int .i64 v) ∈ f) (hat : ∀ x ∈ f, x.1 ≠ addrV s (49152 + (k : Int))) :
  Calls Tryz.prog 88 #[.pointer (some ⟨r, 0, none⟩), .string s] w fun e w' => e = .returned (.int .i64 (49152 + (k : Int))) ∧ w = w' := by
 have c0 := h.c0
 have HM := Lib.hid h.map
 have HL := Lib.hid hlow
 have HA := Lib.hid hat
 clear h hlow hat
 go_enter Tryz.func88, Tryz.ntmps88
 go_wp2
 go_step3
 go_wp2
 go_step3
 go_wp2
 go_outline
 go_loop [8, 4] (fun i p => ∃ j : Nat, i = .int .i64 j ∧ j ≤ k) (fun i _ => k - (intOf i).toNat)
 case atStart => exact ⟨0, rfl, by omega⟩
 case round =>
  obtain ⟨j, rfl, hj⟩ := hrel
  by_cases hlt : j < k
  ·obtain ⟨v, hv⟩ := HL.out j hlt
   have hl := HM.out.hit keyAddr (t := 152) (e := 3) Tryz.underlying152 hv true
   simp only [if_true, addrV] at hl
   clear hv
   go_wp2
   go_round
   case rel => exact ⟨j + 1, by go_num, by omega⟩
   case measure => simp [intOf]; omega
  ·obtain rfl : j = k := by omega
   obtain ⟨lk, hlk⟩ := keyAddr_of s (49152 + (j : Int)) hs (by omega) (by omega)
   have hl := HM.out.miss keyAddr (t := 152) (e := 3) Tryz.underlying152 hlk HA.out (zeroInt _) true
   simp only [if_true, addrV] at hl
   clear hlk
   go_wp2
   go_ret
   exact ⟨rfl, rfl⟩
theorem regBind_busy (r m : Nat) (f : List (Value × Value)) (s : ByteArray) (p v : Int) (w : World) (h : RegIs w r m f) (hs : s.size ≤ 1000000) (hv : addrB s.data.toList p = true) (hp : (p == 0) = false) (hv0 : 0 ≤ v) (u : Int)
  (hx : (addrV s p, .int .i64 u) ∈ f) :
  Calls Tryz.prog 51 #[.pointer (some ⟨r, 0, none⟩), .agg #[.string s, .int .i64 p], .int .i64 v] w fun e w' => e = .returned (.tuple #[.agg #[.string ⟨#[]⟩, .int .i64 0], .int .i64 11]) ∧ Fr [] w w' := by
 obtain ⟨b1, b2⟩ := addrB_port hv
 obtain ⟨lk, hlk⟩ := keyAddr_of s p hs (by omega) (by omega)
 have f0 : Fr [] w ((w.alloc (.cells #[.string s, .int .i64 p] 36)).alloc (.cells #[.string ⟨#[]⟩, .int .i64 0] 36)) := ((Fr.refl [] w).alloc _).alloc _
 have h0 := h.keep f0 (by simp) (by simp)
 have HV := Lib.hid hv
 have HX := Lib.hid hx
 have HK := Lib.hid hlk
 have hne := h.ne
 have hrlt := cell_lt h.c0
 have hmlt := h.map.lt
 clear hv hx hlk
 go_enter Tryz.func51, Tryz.ntmps51
 go_wp2_with (go_at_call 87; refine (regNone_any r m f _ h0).mono ?_; rintro e w' ⟨rfl, rfl⟩)
 refine (valid_any s p hs _).mono ?_
 rintro e w1 ⟨rfl, f1⟩
 rw [HV.out]
 have k0 : w1.cell? ⟨w.heap.size, 0, none⟩ = some (.string s) := f1.keep (by simp) (by simp)
 have k1 : w1.cell? ⟨w.heap.size, 1, none⟩ = some (.int .i64 p) := f1.keep (by simp) (by simp)
 have j0 : w1.cell? ⟨w.heap.size + 1, 0, none⟩ = some (.string ⟨#[]⟩) := f1.keep (by simp) (by simp)
 have j1 : w1.cell? ⟨w.heap.size + 1, 1, none⟩ = some (.int .i64 0) := f1.keep (by simp) (by simp)
 have jf : ∀ o, w1.frozen? ⟨w.heap.size + 1, o, none⟩ = false := fun o => by rw [f1.frozen (by simp) (by simp)]; simp
 have h1 := h0.keep f1 (by simp) (by simp)
 have c1 := h1.c0
 have hl : ∀ n, (Instr.lookup 152 (.map (some m)) (.agg #[.string s, .int .i64 p]) true).run Tryz.prog (w1.drewN n) = .ok (.tuple #[.int .i64 u, .bool true]) (w1.drewN n) := fun n =>
  (h1.map.drewN n).hit keyAddr Tryz.underlying152 HX.out true
 go_wp2
 go_quiet (fail)
 go_wp2
 have f3 : Fr [] w w1 := f0.step f1
 refine bodyPost_ret (v := .tuple #[.agg #[.string ⟨#[]⟩, .int .i64 0], .int .i64 11]) (by simp [results, Tryz.results51, go_sem, j0, j1]) rfl ⟨rfl, ?_⟩
 exact ((f3.drewN nq).setCell (p := ⟨w.heap.size + 1, 0, none⟩) (fun h => by simp only at h; omega) _).setCell (p := ⟨w.heap.size + 1, 1, none⟩) (fun h => by simp only at h; omega) _
theorem regBind_full (r m : Nat) (f : List (Value × Value)) (s : ByteArray) (p v : Int) (w : World) (h : RegIs w r m f) (hs : s.size ≤ 1000000) (hv : addrB s.data.toList p = true) (hp : (p == 0) = false) (hv0 : 0 ≤ v)
  (hx : ∀ x ∈ f, x.1 ≠ addrV s p) (hn : 128 ≤ (f.length : Int)) :
  Calls Tryz.prog 51 #[.pointer (some ⟨r, 0, none⟩), .agg #[.string s, .int .i64 p], .int .i64 v] w fun e w' => e = .returned (.tuple #[.agg #[.string ⟨#[]⟩, .int .i64 0], .int .i64 7]) ∧ Fr [] w w' := by
 obtain ⟨b1, b2⟩ := addrB_port hv
 obtain ⟨lk, hlk⟩ := keyAddr_of s p hs (by omega) (by omega)
 have f0 : Fr [] w ((w.alloc (.cells #[.string s, .int .i64 p] 36)).alloc (.cells #[.string ⟨#[]⟩, .int .i64 0] 36)) := ((Fr.refl [] w).alloc _).alloc _
 have h0 := h.keep f0 (by simp) (by simp)
 have HV := Lib.hid hv
 have HX := Lib.hid hx
 have HK := Lib.hid hlk
 have hne := h.ne
 have hrlt := cell_lt h.c0
 have hmlt := h.map.lt
 clear hv hx hlk
 go_enter Tryz.func51, Tryz.ntmps51
 go_wp2_with (go_at_call 87; refine (regNone_any r m f _ h0).mono ?_; rintro e w' ⟨rfl, rfl⟩)
 refine (valid_any s p hs _).mono ?_
 rintro e w1 ⟨rfl, f1⟩
 rw [HV.out]
 have k0 : w1.cell? ⟨w.heap.size, 0, none⟩ = some (.string s) := f1.keep (by simp) (by simp)
 have k1 : w1.cell? ⟨w.heap.size, 1, none⟩ = some (.int .i64 p) := f1.keep (by simp) (by simp)
 have j0 : w1.cell? ⟨w.heap.size + 1, 0, none⟩ = some (.string ⟨#[]⟩) := f1.keep (by simp) (by simp)
 have j1 : w1.cell? ⟨w.heap.size + 1, 1, none⟩ = some (.int .i64 0) := f1.keep (by simp) (by simp)
 have jf : ∀ o, w1.frozen? ⟨w.heap.size + 1, o, none⟩ = false := fun o => by rw [f1.frozen (by simp) (by simp)]; simp
 have h1 := h0.keep f1 (by simp) (by simp)
 have c1 := h1.c0
 have hl : ∀ n, (Instr.lookup 152 (.map (some m)) (.agg #[.string s, .int .i64 p]) true).run Tryz.prog (w1.drewN n) = .ok (.tuple #[.int .i64 0, .bool false]) (w1.drewN n) := fun n =>
  (h1.map.drewN n).miss keyAddr Tryz.underlying152 HK.out HX.out (zeroInt _) true
 go_wp2
 go_quiet (fail)
 have hlen := (h1.map.drewN nq).len (t := 152) (e := 3) Tryz.underlying152
 go_wp2
 have f3 : Fr [] w w1 := f0.step f1
 refine bodyPost_ret (v := .tuple #[.agg #[.string ⟨#[]⟩, .int .i64 0], .int .i64 7]) (by simp [results, Tryz.results51, go_sem, j0, j1]) rfl ⟨rfl, ?_⟩
 exact ((f3.drewN nq).setCell (p := ⟨w.heap.size + 1, 0, none⟩) (fun h => by simp only at h; omega) _).setCell (p := ⟨w.heap.size + 1, 1, none⟩) (fun h => by simp only at h; omega) _
theorem regBind0_ok (r m : Nat) (f : List (Value × Value)) (s : ByteArray) (p v : Int) (w : World) (h : RegIs w r m f) (hs : s.size ≤ 1000000) (hv : addrB s.data.toList 0 = true) (hpb : 0 ≤ p ∧ p ≤ 65535) (hv0 : 0 ≤ v)
  (hfr : ∀ W, RegIs W r m f → Calls Tryz.prog 88 #[.pointer (some ⟨r, 0, none⟩), .string s] W fun e w' => e = .returned (.int .i64 p) ∧ W = w')
  (hx : ∀ x ∈ f, x.1 ≠ addrV s p) (hn : ¬ (128 ≤ (f.length : Int))) :
  Calls Tryz.prog 51 #[.pointer (some ⟨r, 0, none⟩), .agg #[.string s, .int .i64 0], .int .i64 v] w fun e w' => e = .returned (.tuple #[.agg #[.string s, .int .i64 p], .int .i64 0]) ∧ RegIs w' r m (f ++ [(addrV s p, .int .i64 v)]) ∧ Fr [m] w w' := by
 obtain ⟨b1, b2⟩ := hpb
 obtain ⟨lk, hlk⟩ := keyAddr_of s p hs (by omega) (by omega)
 have f0 : Fr [] w ((w.alloc (.cells #[.string s, .int .i64 0] 36)).alloc (.cells #[.string ⟨#[]⟩, .int .i64 0] 36)) := ((Fr.refl [] w).alloc _).alloc _
 have h0 := h.keep f0 (by simp) (by simp)
 have HV := Lib.hid hv
 have HX := Lib.hid hx
 have HK := Lib.hid hlk
 have HF := Lib.hid hfr
 have hne := h.ne
 have hrlt := cell_lt h.c0
 have hmlt := h.map.lt
 clear hv hx hlk hfr
 go_enter Tryz.func51, Tryz.ntmps51
 go_wp2_with (go_at_call 87; refine (regNone_any r m f _ h0).mono ?_; rintro e w' ⟨rfl, rfl⟩)
 refine (valid_any s 0 hs _).mono ?_
 rintro e wv ⟨rfl, fv⟩
 rw [HV.out]
 have gv0 : wv.cell? ⟨w.heap.size, 0, none⟩ = some (.string s) := fv.keep (by simp) (by simp)
 have gv1 : wv.cell? ⟨w.heap.size, 1, none⟩ = some (.int .i64 0) := fv.keep (by simp) (by simp)
 have gvf : ∀ o, wv.frozen? ⟨w.heap.size, o, none⟩ = false := fun o => by rw [fv.frozen (by simp; try omega) (by simp)]; simp
 have hv1 := h0.keep fv (by simp) (by simp)
 have szv : w.heap.size + 2 ≤ wv.heap.size := by simpa using fv.size
 go_wp2_with (go_at_call 88; refine (HF.out _ hv1).mono ?_; rintro e w' ⟨rfl, rfl⟩)
 have f1 : Fr [w.heap.size] wv (wv.setCell ⟨w.heap.size, 1, none⟩ (.int .i64 p)) := (Fr.refl _ _).setCell (fun _ => by simp) _
 have k1 : (wv.setCell ⟨w.heap.size, 1, none⟩ (.int .i64 p)).cell? ⟨w.heap.size, 1, none⟩ = some (.int .i64 p) := World.cell?_setCell_same _ _ _ gv1
 have k0 : (wv.setCell ⟨w.heap.size, 1, none⟩ (.int .i64 p)).cell? ⟨w.heap.size, 0, none⟩ = some (.string s) := (World.cell?_setCell_other _ _ _ _ (by simp)).trans gv0
 have j0 : (wv.setCell ⟨w.heap.size, 1, none⟩ (.int .i64 p)).cell? ⟨w.heap.size + 1, 0, none⟩ = some (.string ⟨#[]⟩) := (World.cell?_setCell_other _ _ _ _ (by simp)).trans (fv.keep (by simp) (by simp))
 have j1 : (wv.setCell ⟨w.heap.size, 1, none⟩ (.int .i64 p)).cell? ⟨w.heap.size + 1, 1, none⟩ = some (.int .i64 0) := (World.cell?_setCell_other _ _ _ _ (by simp)).trans (fv.keep (by simp) (by simp))
 have jf : ∀ o, (wv.setCell ⟨w.heap.size, 1, none⟩ (.int .i64 p)).frozen? ⟨w.heap.size + 1, o, none⟩ = false := fun o => by rw [World.frozen?_setCell, fv.frozen (by simp; try omega) (by simp)]; simp
 have h1 := hv1.keep f1 (by simp; omega) (by simp; omega)
 have f3v : Fr [] w (wv.setCell ⟨w.heap.size, 1, none⟩ (.int .i64 p)) := ((f0.step fv).mono (T := []) (fun x hx => by cases hx)).trans f1 (fun x hx hl => by simp at hx; omega)
 have sz1 : w.heap.size + 2 ≤ (wv.setCell ⟨w.heap.size, 1, none⟩ (.int .i64 p)).heap.size := Nat.le_trans szv f1.size
 obtain ⟨w1, hw1⟩ : ∃ w1, wv.setCell ⟨w.heap.size, 1, none⟩ (.int .i64 p) = w1 := ⟨_, rfl⟩
 rw [hw1] at k0 k1 j0 j1 jf h1 f3v sz1 ⊢
 clear hw1 f1 gv0 gv1 gvf hv1 fv h0
 have c1 := h1.c0
 have hl : ∀ n, (Instr.lookup 152 (.map (some m)) (.agg #[.string s, .int .i64 p]) true).run Tryz.prog (w1.drewN n) = .ok (.tuple #[.int .i64 0, .bool false]) (w1.drewN n) := fun n =>
  (h1.map.drewN n).miss keyAddr Tryz.underlying152 HK.out HX.out (zeroInt _) true
 go_wp2
 go_quiet (fail)
 have hlen := (h1.map.drewN nq).len (t := 152) (e := 3) Tryz.underlying152
 obtain ⟨w2, hrun, hm2, f2⟩ := (h1.map.drewN (nq + 1)).put keyAddr Tryz.underlying152 HK.out HX.out (.int .i64 v)
 unfold addrV at hrun
 have g1 : w.heap.size + 1 < w1.heap.size := by omega
 have e0 : w2.cell? ⟨w.heap.size, 0, none⟩ = some (.string s) := f2.keep k0 (by simp; omega)
 have e1 : w2.cell? ⟨w.heap.size, 1, none⟩ = some (.int .i64 p) := f2.keep k1 (by simp; omega)
 have i0 : w2.cell? ⟨w.heap.size + 1, 0, none⟩ = some (.string ⟨#[]⟩) := f2.keep j0 (by simp; omega)
 have i1 : w2.cell? ⟨w.heap.size + 1, 1, none⟩ = some (.int .i64 0) := f2.keep j1 (by simp; omega)
 have jf2 : ∀ o, w2.frozen? ⟨w.heap.size + 1, o, none⟩ = false := fun o => by rw [f2.frozen (by exact g1) (by simp; omega)]; exact jf o
 go_wp2
 go_region
 go_wp2
 have f3 : Fr [] w w1 := f3v
 have f4 : Fr [m] w w2 := ((f3.drewN (nq + 1)).mono (T := [m]) (fun x hx => by cases hx)).trans f2 (fun x hx _ => hx)
 refine bodyPost_ret (v := .tuple #[.agg #[.string s, .int .i64 p], .int .i64 0]) (by simp [results, Tryz.results51, go_sem, i0, i1]) rfl ⟨rfl, ⟨?_, ?_, hne⟩, ?_⟩
 ·exact ((f4.setCell (p := ⟨w.heap.size + 1, 0, none⟩) (fun h => by simp at h; omega) _).setCell (p := ⟨w.heap.size + 1, 1, none⟩) (fun h => by simp at h; omega) _).keep h.c0 (by simp; omega)
 ·exact hm2.keep (S := [w.heap.size + 1]) (((Fr.refl _ _).setCell (fun _ => by simp) _).setCell (fun _ => by simp) _) (by simp; omega)
 ·exact (f4.setCell (p := ⟨w.heap.size + 1, 0, none⟩) (fun h => by simp at h; omega) _).setCell (p := ⟨w.heap.size + 1, 1, none⟩) (fun h => by simp at h; omega) _
theorem regBind0_full (r m : Nat) (f : List (Value × Value)) (s : ByteArray) (p v : Int) (w : World) (h : RegIs w r m f) (hs : s.size ≤ 1000000) (hv : addrB s.data.toList 0 = true) (hpb : 0 ≤ p ∧ p ≤ 65535) (hv0 : 0 ≤ v)
  (hfr : ∀ W, RegIs W r m f → Calls Tryz.prog 88 #[.pointer (some ⟨r, 0, none⟩), .string s] W fun e w' => e = .returned (.int .i64 p) ∧ W = w')
  (hx : ∀ x ∈ f, x.1 ≠ addrV s p) (hn : 128 ≤ (f.length : Int)) :
  Calls Tryz.prog 51 #[.pointer (some ⟨r, 0, none⟩), .agg #[.string s, .int .i64 0], .int .i64 v] w fun e w' => e = .returned (.tuple #[.agg #[.string ⟨#[]⟩, .int .i64 0], .int .i64 7]) ∧ Fr [] w w' := by
 obtain ⟨b1, b2⟩ := hpb
 obtain ⟨lk, hlk⟩ := keyAddr_of s p hs (by omega) (by omega)
 have f0 : Fr [] w ((w.alloc (.cells #[.string s, .int .i64 0] 36)).alloc (.cells #[.string ⟨#[]⟩, .int .i64 0] 36)) := ((Fr.refl [] w).alloc _).alloc _
 have h0 := h.keep f0 (by simp) (by simp)
 have HV := Lib.hid hv
 have HX := Lib.hid hx
 have HK := Lib.hid hlk
 have HF := Lib.hid hfr
 have hne := h.ne
 have hrlt := cell_lt h.c0
 have hmlt := h.map.lt
 clear hv hx hlk hfr
 go_enter Tryz.func51, Tryz.ntmps51
 go_wp2_with (go_at_call 87; refine (regNone_any r m f _ h0).mono ?_; rintro e w' ⟨rfl, rfl⟩)
 refine (valid_any s 0 hs _).mono ?_
 rintro e wv ⟨rfl, fv⟩
 rw [HV.out]
 have gv0 : wv.cell? ⟨w.heap.size, 0, none⟩ = some (.string s) := fv.keep (by simp) (by simp)
 have gv1 : wv.cell? ⟨w.heap.size, 1, none⟩ = some (.int .i64 0) := fv.keep (by simp) (by simp)
 have gvf : ∀ o, wv.frozen? ⟨w.heap.size, o, none⟩ = false := fun o => by rw [fv.frozen (by simp; try omega) (by simp)]; simp
 have hv1 := h0.keep fv (by simp) (by simp)
 have szv : w.heap.size + 2 ≤ wv.heap.size := by simpa using fv.size
 go_wp2_with (go_at_call 88; refine (HF.out _ hv1).mono ?_; rintro e w' ⟨rfl, rfl⟩)
 have f1 : Fr [w.heap.size] wv (wv.setCell ⟨w.heap.size, 1, none⟩ (.int .i64 p)) := (Fr.refl _ _).setCell (fun _ => by simp) _
 have k1 : (wv.setCell ⟨w.heap.size, 1, none⟩ (.int .i64 p)).cell? ⟨w.heap.size, 1, none⟩ = some (.int .i64 p) := World.cell?_setCell_same _ _ _ gv1
 have k0 : (wv.setCell ⟨w.heap.size, 1, none⟩ (.int .i64 p)).cell? ⟨w.heap.size, 0, none⟩ = some (.string s) := (World.cell?_setCell_other _ _ _ _ (by simp)).trans gv0
 have j0 : (wv.setCell ⟨w.heap.size, 1, none⟩ (.int .i64 p)).cell? ⟨w.heap.size + 1, 0, none⟩ = some (.string ⟨#[]⟩) := (World.cell?_setCell_other _ _ _ _ (by simp)).trans (fv.keep (by simp) (by simp))
 have j1 : (wv.setCell ⟨w.heap.size, 1, none⟩ (.int .i64 p)).cell? ⟨w.heap.size + 1, 1, none⟩ = some (.int .i64 0) := (World.cell?_setCell_other _ _ _ _ (by simp)).trans (fv.keep (by simp) (by simp))
 have jf : ∀ o, (wv.setCell ⟨w.heap.size, 1, none⟩ (.int .i64 p)).frozen? ⟨w.heap.size + 1, o, none⟩ = false := fun o => by rw [World.frozen?_setCell, fv.frozen (by simp; try omega) (by simp)]; simp
 have h1 := hv1.keep f1 (by simp; omega) (by simp; omega)
 have f3v : Fr [] w (wv.setCell ⟨w.heap.size, 1, none⟩ (.int .i64 p)) := ((f0.step fv).mono (T := []) (fun x hx => by cases hx)).trans f1 (fun x hx hl => by simp at hx; omega)
 have sz1 : w.heap.size + 2 ≤ (wv.setCell ⟨w.heap.size, 1, none⟩ (.int .i64 p)).heap.size := Nat.le_trans szv f1.size
 obtain ⟨w1, hw1⟩ : ∃ w1, wv.setCell ⟨w.heap.size, 1, none⟩ (.int .i64 p) = w1 := ⟨_, rfl⟩
 rw [hw1] at k0 k1 j0 j1 jf h1 f3v sz1 ⊢
 clear hw1 f1 gv0 gv1 gvf hv1 fv h0
 have c1 := h1.c0
 have hl : ∀ n, (Instr.lookup 152 (.map (some m)) (.agg #[.string s, .int .i64 p]) true).run Tryz.prog (w1.drewN n) = .ok (.tuple #[.int .i64 0, .bool false]) (w1.drewN n) := fun n =>
  (h1.map.drewN n).miss keyAddr Tryz.underlying152 HK.out HX.out (zeroInt _) true
 go_wp2
 go_quiet (fail)
 have hlen := (h1.map.drewN nq).len (t := 152) (e := 3) Tryz.underlying152
 go_wp2
 have f3 : Fr [] w w1 := f3v
 refine bodyPost_ret (v := .tuple #[.agg #[.string ⟨#[]⟩, .int .i64 0], .int .i64 7]) (by simp [results, Tryz.results51, go_sem, j0, j1]) rfl ⟨rfl, ?_⟩
 exact ((f3.drewN nq).setCell (p := ⟨w.heap.size + 1, 0, none⟩) (fun h => by simp only at h; omega) _).setCell (p := ⟨w.heap.size + 1, 1, none⟩) (fun h => by simp only at h; omega) _
end Go.Proofs.YtgbmenfmaphciaaGreat
