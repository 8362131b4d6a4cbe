/- Contracts of registry's Bind (a port that is not 0) and Release where they succeed. -/
import Derived.Test.YtmdhlodafjpnmaaGreatReg
namespace Go.Proofs.YtmdhlodafjpnmaaGreat
open Go.RowKit
open Go.Maps (Keyed)
set_option linter.unusedVariables false

set_option maxRecDepth 100000 in
set_option maxHeartbeats 2000000 in
theorem regBind_ok (r m : Nat) (f : List (Value × Value)) (s : ByteArray) (p v : Int) (w : World) (h : RegIs w r m f) (hs : s.size ≤ 1000000) (hv : addrB s.data.toList p = true) (hp : (p == 0) = false) (hv0 : 0 ≤ v)
    (hx : ∀ x ∈ f, x.1 ≠ addrV s p) (hn : ¬ (128 ≤ (f.length : Int))) :
    Calls Tryz.prog 75 #[.pointer (some ⟨r, 0, none⟩), .agg #[.string s, .int .i64 p], .int .i64 v] w fun e w' => e = .returned (.tuple #[.agg #[.string s, .int .i64 p], .int .i64 0]) ∧ RegIs w' r m (f ++ [(addrV s p, .int .i64 v)]) ∧ Fr [m] w w' := by
  obtain ⟨b1, b2⟩ := addrB_port hv
  obtain ⟨lk, hlk⟩ := keyAddr_of s p hs (by omega) (by omega)
  have f0 : Fr [] w ((w.alloc (.cells #[.string s, .int .i64 p] 28)).alloc (.cells #[.string ⟨#[]⟩, .int .i64 0] 28)) := ((Fr.refl [] w).alloc _).alloc _
  have h0 := h.keep f0 (by simp) (by simp)
  have HV := Lib.hid hv
  have HX := Lib.hid hx
  have HK := Lib.hid hlk
  have hne := h.ne
  have hrlt := cell_lt h.c0
  have hmlt := h.map.lt
  clear hv hx hlk
  go_enter Tryz.func75, Tryz.ntmps75
  go_wp2_with (go_at_call 110; refine (regNone_any r m f _ h0).mono ?_; rintro e w' ⟨rfl, rfl⟩)
  refine (valid_any s p hs _).mono ?_
  rintro e w1 ⟨rfl, f1⟩
  rw [HV.out]
  have k0 : w1.cell? ⟨w.heap.size, 0, none⟩ = some (.string s) := f1.keep (by simp) (by simp)
  have k1 : w1.cell? ⟨w.heap.size, 1, none⟩ = some (.int .i64 p) := f1.keep (by simp) (by simp)
  have j0 : w1.cell? ⟨w.heap.size + 1, 0, none⟩ = some (.string ⟨#[]⟩) := f1.keep (by simp) (by simp)
  have j1 : w1.cell? ⟨w.heap.size + 1, 1, none⟩ = some (.int .i64 0) := f1.keep (by simp) (by simp)
  have jf : ∀ o, w1.frozen? ⟨w.heap.size + 1, o, none⟩ = false := fun o => by rw [f1.frozen (by simp) (by simp)]; simp
  have h1 := h0.keep f1 (by simp) (by simp)
  have c1 := h1.c0
  have hl : ∀ n, (Instr.lookup 159 (.map (some m)) (.agg #[.string s, .int .i64 p]) true).run Tryz.prog (w1.drewN n) = .ok (.tuple #[.int .i64 0, .bool false]) (w1.drewN n) := fun n =>
    (h1.map.drewN n).miss keyAddr Tryz.underlying159 HK.out HX.out (zeroInt _) true
  go_wp2
  go_quiet (fail)
  have hlen := (h1.map.drewN nq).len (t := 159) (e := 3) Tryz.underlying159
  obtain ⟨w2, hrun, hm2, f2⟩ := (h1.map.drewN (nq + 1)).put keyAddr Tryz.underlying159 HK.out HX.out (.int .i64 v)
  unfold addrV at hrun
  have g1 : w.heap.size + 1 < w1.heap.size := by have := f1.size; simp at this; omega
  have e0 : w2.cell? ⟨w.heap.size, 0, none⟩ = some (.string s) := f2.keep k0 (by simp; omega)
  have e1 : w2.cell? ⟨w.heap.size, 1, none⟩ = some (.int .i64 p) := f2.keep k1 (by simp; omega)
  have i0 : w2.cell? ⟨w.heap.size + 1, 0, none⟩ = some (.string ⟨#[]⟩) := f2.keep j0 (by simp; omega)
  have i1 : w2.cell? ⟨w.heap.size + 1, 1, none⟩ = some (.int .i64 0) := f2.keep j1 (by simp; omega)
  have jf2 : ∀ o, w2.frozen? ⟨w.heap.size + 1, o, none⟩ = false := fun o => by rw [f2.frozen (by exact g1) (by simp; omega)]; exact jf o
  go_wp2
  go_region
  go_wp2
  have f3 : Fr [] w w1 := f0.step f1
  have f4 : Fr [m] w w2 := ((f3.drewN (nq + 1)).mono (T := [m]) (fun x hx => by cases hx)).trans f2 (fun x hx _ => hx)
  refine bodyPost_ret (v := .tuple #[.agg #[.string s, .int .i64 p], .int .i64 0]) (by simp [results, Tryz.results75, go_sem, i0, i1]) rfl ⟨rfl, ⟨?_, ?_, hne⟩, ?_⟩
  · exact ((f4.setCell (p := ⟨w.heap.size + 1, 0, none⟩) (fun h => by simp at h; omega) _).setCell (p := ⟨w.heap.size + 1, 1, none⟩) (fun h => by simp at h; omega) _).keep h.c0 (by simp; omega)
  · exact hm2.keep (S := [w.heap.size + 1]) (((Fr.refl _ _).setCell (fun _ => by simp) _).setCell (fun _ => by simp) _) (by simp; omega)
  · exact (f4.setCell (p := ⟨w.heap.size + 1, 0, none⟩) (fun h => by simp at h; omega) _).setCell (p := ⟨w.heap.size + 1, 1, none⟩) (fun h => by simp at h; omega) _

set_option maxRecDepth 100000 in
set_option maxHeartbeats 2000000 in
theorem regRelease_hit (r m : Nat) (f1 f2 : List (Value × Value)) (s : ByteArray) (p v : Int) (w : World) (h : RegIs w r m (f1 ++ (addrV s p, .int .i64 v) :: f2)) (hs : s.size ≤ 1000000) (hv : addrB s.data.toList p = true) :
    Calls Tryz.prog 79 #[.pointer (some ⟨r, 0, none⟩), .agg #[.string s, .int .i64 p]] w fun e w' => e = .returned (.tuple #[.int .i64 v, .int .i64 0]) ∧ RegIs w' r m (f1 ++ f2) ∧ Fr [m] w w' := by
  have f0 : Fr [] w (w.alloc (.cells #[.string s, .int .i64 p] 28)) := (Fr.refl [] w).alloc _
  have h0 := h.keep f0 (by simp) (by simp)
  have hne := h.ne
  have hmlt := h.map.lt
  go_enter Tryz.func79, Tryz.ntmps79
  go_wp2_with fail
  refine (regLookup_hit r m _ s p _ h0 hs hv v (by simp)).mono ?_
  rintro e w1 ⟨rfl, g1⟩
  have h1 := h0.keep g1 (by simp) (by simp)
  have c1 := h1.c0
  have k0 : w1.cell? ⟨w.heap.size, 0, none⟩ = some (.string s) := g1.keep (by simp) (by simp)
  have k1 : w1.cell? ⟨w.heap.size, 1, none⟩ = some (.int .i64 p) := g1.keep (by simp) (by simp)
  obtain ⟨w2, hrun, hm2, g2⟩ := (show MapIs Tryz.prog 28 w1.drew m _ from h1.map).del (T := 0) keyAddr Tryz.underlying159
  unfold addrV at hrun
  go_wp2
  go_region
  go_wp2
  go_ret2
  have g3 : Fr [m] w w2 := (((f0.step g1).drew).mono (T := [m]) (fun x hx => by cases hx)).trans g2 (fun x hx _ => hx)
  exact ⟨rfl, ⟨g3.keep h.c0 (by simp; omega), hm2, hne⟩, g3⟩
end Go.Proofs.YtmdhlodafjpnmaaGreat
