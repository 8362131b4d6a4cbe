/- Contracts of registry's free, and of Bind in general. -/
import Derived.Test.YtmdhlodafjpnmaaGreatReg2
import Derived.Test.YtmdhlodafjpnmaaGreatPN
namespace Go.Proofs.YtmdhlodafjpnmaaGreat
open Go.RowKit
open Go.Maps (Keyed)
set_option linter.unusedVariables false
set_option maxRecDepth 100000
set_option maxHeartbeats 4000000

theorem regFree_any (r m k : Nat) (f : List (Value × Value)) (s : ByteArray) (w : World) (h : RegIs w r m f) (hs : s.size ≤ 1000000) (hk : k ≤ 128) (hlow : ∀ j, j < k → ∃ v, (addrV s (49152 + (j : Int)), .int .i64 v) ∈ f) (hat : ∀ x ∈ f, x.1 ≠ addrV s (49152 + (k : Int))) :
    Calls Tryz.prog 122 #[.pointer (some ⟨r, 0, none⟩), .string s] w fun e w' => e = .returned (.int .i64 (49152 + (k : Int))) ∧ w = w' := by
  have c0 := h.c0
  have HM := Lib.hid h.map
  have HL := Lib.hid hlow
  have HA := Lib.hid hat
  clear h hlow hat
  go_enter Tryz.func122, Tryz.ntmps122
  go_wp2
  go_step3
  go_wp2
  go_step3
  go_wp2
  go_outline
  go_loop [8, 4] (fun i p => ∃ j : Nat, i = .int .i64 j ∧ j ≤ k) (fun i _ => k - (intOf i).toNat)
  case atStart => exact ⟨0, rfl, by omega⟩
  case round =>
    obtain ⟨j, rfl, hj⟩ := hrel
    by_cases hlt : j < k
    · obtain ⟨v, hv⟩ := HL.out j hlt
      have hl := HM.out.hit keyAddr (t := 159) (e := 3) Tryz.underlying159 hv true
      simp only [if_true, addrV] at hl
      clear hv
      go_wp2
      go_round
      case rel => exact ⟨j + 1, by go_num, by omega⟩
      case measure => simp [intOf]; omega
    · obtain rfl : j = k := by omega
      obtain ⟨lk, hlk⟩ := keyAddr_of s (49152 + (j : Int)) hs (by omega) (by omega)
      have hl := HM.out.miss keyAddr (t := 159) (e := 3) Tryz.underlying159 hlk HA.out (zeroInt _) true
      simp only [if_true, addrV] at hl
      clear hlk
      go_wp2
      go_ret
      exact ⟨rfl, rfl⟩

theorem regBind_bad (r m : Nat) (f : List (Value × Value)) (s : ByteArray) (p v : Int) (w : World) (h : RegIs w r m f) (hs : s.size ≤ 1000000) (hv : addrB s.data.toList p = false) :
    Calls Tryz.prog 75 #[.pointer (some ⟨r, 0, none⟩), .agg #[.string s, .int .i64 p], .int .i64 v] w fun e w' => e = .returned (.tuple #[.agg #[.string ⟨#[]⟩, .int .i64 0], .int .i64 2]) ∧ Fr [] w w' := by
  have f0 : Fr [] w ((w.alloc (.cells #[.string s, .int .i64 p] 28)).alloc (.cells #[.string ⟨#[]⟩, .int .i64 0] 28)) := ((Fr.refl [] w).alloc _).alloc _
  have h0 := h.keep f0 (by simp) (by simp)
  have HV := Lib.hid hv
  clear hv
  go_enter Tryz.func75, Tryz.ntmps75
  go_wp2_with (go_at_call 110; refine (regNone_any r m f _ h0).mono ?_; rintro e w' ⟨rfl, rfl⟩)
  refine (valid_any s p hs _).mono ?_
  rintro e w1 ⟨rfl, f1⟩
  rw [HV.out]
  have j0 : w1.cell? ⟨w.heap.size + 1, 0, none⟩ = some (.string ⟨#[]⟩) := f1.keep (by simp) (by simp)
  have j1 : w1.cell? ⟨w.heap.size + 1, 1, none⟩ = some (.int .i64 0) := f1.keep (by simp) (by simp)
  have jf : ∀ o, w1.frozen? ⟨w.heap.size + 1, o, none⟩ = false := fun o => by rw [f1.frozen (by simp) (by simp)]; simp
  go_wp2
  have f3 : Fr [] w w1 := f0.step f1
  refine bodyPost_ret (v := .tuple #[.agg #[.string ⟨#[]⟩, .int .i64 0], .int .i64 2]) (by simp [results, Tryz.results75, go_sem, j0, j1]) rfl ⟨rfl, ?_⟩
  exact (f3.setCell (p := ⟨w.heap.size + 1, 0, none⟩) (fun h => by simp only at h; omega) _).setCell (p := ⟨w.heap.size + 1, 1, none⟩) (fun h => by simp only at h; omega) _

theorem regBind_busy (r m : Nat) (f : List (Value × Value)) (s : ByteArray) (p v : Int) (w : World) (h : RegIs w r m f) (hs : s.size ≤ 1000000) (hv : addrB s.data.toList p = true) (hp : (p == 0) = false) (hv0 : 0 ≤ v) (u : Int)
    (hx : (addrV s p, .int .i64 u) ∈ f) :
    Calls Tryz.prog 75 #[.pointer (some ⟨r, 0, none⟩), .agg #[.string s, .int .i64 p], .int .i64 v] w fun e w' => e = .returned (.tuple #[.agg #[.string ⟨#[]⟩, .int .i64 0], .int .i64 11]) ∧ Fr [] w w' := by
  obtain ⟨b1, b2⟩ := addrB_port hv
  obtain ⟨lk, hlk⟩ := keyAddr_of s p hs (by omega) (by omega)
  have f0 : Fr [] w ((w.alloc (.cells #[.string s, .int .i64 p] 28)).alloc (.cells #[.string ⟨#[]⟩, .int .i64 0] 28)) := ((Fr.refl [] w).alloc _).alloc _
  have h0 := h.keep f0 (by simp) (by simp)
  have HV := Lib.hid hv
  have HX := Lib.hid hx
  have HK := Lib.hid hlk
  have hne := h.ne
  have hrlt := cell_lt h.c0
  have hmlt := h.map.lt
  clear hv hx hlk
  go_enter Tryz.func75, Tryz.ntmps75
  go_wp2_with (go_at_call 110; refine (regNone_any r m f _ h0).mono ?_; rintro e w' ⟨rfl, rfl⟩)
  refine (valid_any s p hs _).mono ?_
  rintro e w1 ⟨rfl, f1⟩
  rw [HV.out]
  have k0 : w1.cell? ⟨w.heap.size, 0, none⟩ = some (.string s) := f1.keep (by simp) (by simp)
  have k1 : w1.cell? ⟨w.heap.size, 1, none⟩ = some (.int .i64 p) := f1.keep (by simp) (by simp)
  have j0 : w1.cell? ⟨w.heap.size + 1, 0, none⟩ = some (.string ⟨#[]⟩) := f1.keep (by simp) (by simp)
  have j1 : w1.cell? ⟨w.heap.size + 1, 1, none⟩ = some (.int .i64 0) := f1.keep (by simp) (by simp)
  have jf : ∀ o, w1.frozen? ⟨w.heap.size + 1, o, none⟩ = false := fun o => by rw [f1.frozen (by simp) (by simp)]; simp
  have h1 := h0.keep f1 (by simp) (by simp)
  have c1 := h1.c0
  have hl : ∀ n, (Instr.lookup 159 (.map (some m)) (.agg #[.string s, .int .i64 p]) true).run Tryz.prog (w1.drewN n) = .ok (.tuple #[.int .i64 u, .bool true]) (w1.drewN n) := fun n =>
    (h1.map.drewN n).hit keyAddr Tryz.underlying159 HX.out true
  go_wp2
  go_quiet (fail)
  go_wp2
  have f3 : Fr [] w w1 := f0.step f1
  refine bodyPost_ret (v := .tuple #[.agg #[.string ⟨#[]⟩, .int .i64 0], .int .i64 11]) (by simp [results, Tryz.results75, go_sem, j0, j1]) rfl ⟨rfl, ?_⟩
  exact ((f3.drewN nq).setCell (p := ⟨w.heap.size + 1, 0, none⟩) (fun h => by simp only at h; omega) _).setCell (p := ⟨w.heap.size + 1, 1, none⟩) (fun h => by simp only at h; omega) _

theorem regBind_full (r m : Nat) (f : List (Value × Value)) (s : ByteArray) (p v : Int) (w : World) (h : RegIs w r m f) (hs : s.size ≤ 1000000) (hv : addrB s.data.toList p = true) (hp : (p == 0) = false) (hv0 : 0 ≤ v)
    (hx : ∀ x ∈ f, x.1 ≠ addrV s p) (hn : 128 ≤ (f.length : Int)) :
    Calls Tryz.prog 75 #[.pointer (some ⟨r, 0, none⟩), .agg #[.string s, .int .i64 p], .int .i64 v] w fun e w' => e = .returned (.tuple #[.agg #[.string ⟨#[]⟩, .int .i64 0], .int .i64 7]) ∧ Fr [] w w' := by
  obtain ⟨b1, b2⟩ := addrB_port hv
  obtain ⟨lk, hlk⟩ := keyAddr_of s p hs (by omega) (by omega)
  have f0 : Fr [] w ((w.alloc (.cells #[.string s, .int .i64 p] 28)).alloc (.cells #[.string ⟨#[]⟩, .int .i64 0] 28)) := ((Fr.refl [] w).alloc _).alloc _
  have h0 := h.keep f0 (by simp) (by simp)
  have HV := Lib.hid hv
  have HX := Lib.hid hx
  have HK := Lib.hid hlk
  have hne := h.ne
  have hrlt := cell_lt h.c0
  have hmlt := h.map.lt
  clear hv hx hlk
  go_enter Tryz.func75, Tryz.ntmps75
  go_wp2_with (go_at_call 110; refine (regNone_any r m f _ h0).mono ?_; rintro e w' ⟨rfl, rfl⟩)
  refine (valid_any s p hs _).mono ?_
  rintro e w1 ⟨rfl, f1⟩
  rw [HV.out]
  have k0 : w1.cell? ⟨w.heap.size, 0, none⟩ = some (.string s) := f1.keep (by simp) (by simp)
  have k1 : w1.cell? ⟨w.heap.size, 1, none⟩ = some (.int .i64 p) := f1.keep (by simp) (by simp)
  have j0 : w1.cell? ⟨w.heap.size + 1, 0, none⟩ = some (.string ⟨#[]⟩) := f1.keep (by simp) (by simp)
  have j1 : w1.cell? ⟨w.heap.size + 1, 1, none⟩ = some (.int .i64 0) := f1.keep (by simp) (by simp)
  have jf : ∀ o, w1.frozen? ⟨w.heap.size + 1, o, none⟩ = false := fun o => by rw [f1.frozen (by simp) (by simp)]; simp
  have h1 := h0.keep f1 (by simp) (by simp)
  have c1 := h1.c0
  have hl : ∀ n, (Instr.lookup 159 (.map (some m)) (.agg #[.string s, .int .i64 p]) true).run Tryz.prog (w1.drewN n) = .ok (.tuple #[.int .i64 0, .bool false]) (w1.drewN n) := fun n =>
    (h1.map.drewN n).miss keyAddr Tryz.underlying159 HK.out HX.out (zeroInt _) true
  go_wp2
  go_quiet (fail)
  have hlen := (h1.map.drewN nq).len (t := 159) (e := 3) Tryz.underlying159
  go_wp2
  have f3 : Fr [] w w1 := f0.step f1
  refine bodyPost_ret (v := .tuple #[.agg #[.string ⟨#[]⟩, .int .i64 0], .int .i64 7]) (by simp [results, Tryz.results75, go_sem, j0, j1]) rfl ⟨rfl, ?_⟩
  exact ((f3.drewN nq).setCell (p := ⟨w.heap.size + 1, 0, none⟩) (fun h => by simp only at h; omega) _).setCell (p := ⟨w.heap.size + 1, 1, none⟩) (fun h => by simp only at h; omega) _
end Go.Proofs.YtmdhlodafjpnmaaGreat
