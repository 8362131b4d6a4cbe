/- Contracts of listener's methods on a nil net and on a zero net. -/
import Derived.Test.YtmdhlodafjpnmaaGreatNet
import Derived.Deep.RegionWith
namespace Go.Proofs.YtmdhlodafjpnmaaGreat
open Go.RowKit
open Go.Maps (Keyed)
set_option linter.unusedVariables false
set_option maxRecDepth 100000
set_option maxHeartbeats 4000000

/-- No net: nil, or zero. -/
def NoN (w : World) (v : Value) : Prop := v = .pointer none ∨ ∃ n, v = .pointer (some ⟨n, 0, none⟩) ∧ w.cell? ⟨n, 0, none⟩ = some (.pointer none)
theorem NoN.new {w w' : World} {v : Value} (h : NoN w v) (hf : Fr [] w w') : NoN w' v := by
  rcases h with h | ⟨n, h, h1⟩
  · exact .inl h
  · exact .inr ⟨n, h, hf.keep h1 (by simp)⟩
theorem nonNone {v : Value} (w : World) (h : NoN w v) :
    Calls Tryz.prog 55 #[v] w fun e w' => e = .returned (.bool true) ∧ w = w' := by
  rcases h with rfl | ⟨n, rfl, h⟩
  · go_enter Tryz.func55, Tryz.ntmps55
    go_wp2
    go_ret
    exact ⟨rfl, rfl⟩
  · go_enter Tryz.func55, Tryz.ntmps55
    go_wp2
    go_ret
    exact ⟨rfl, rfl⟩

section
variable {v : Value} (w : World)
theorem nonFind (s : ByteArray) (p : Int) (h : NoN w v) :
    Calls Tryz.prog 32 #[v, .agg #[.string s, .int .i64 p]] w fun e w' => e = .returned (.tuple #[.int .i64 0, .int .i64 1]) ∧ Fr [] w w' := by
  have f0 : Fr [] w (w.alloc (.cells #[.string s, .int .i64 p] 28)) := (Fr.refl [] w).alloc _
  have h0 := h.new f0
  go_enter Tryz.func32, Tryz.ntmps32
  go_wp2_with (go_at_call 55; refine (nonNone _ h0).mono ?_; rintro e w' ⟨rfl, rfl⟩)
  go_ret2
  exact ⟨rfl, f0⟩
theorem nonListen (s : ByteArray) (p most : Int) (h : NoN w v) :
    Calls Tryz.prog 30 #[v, .agg #[.string s, .int .i64 p], .int .i64 most] w fun e w' => e = .returned (.tuple #[.int .i64 0, .agg #[.string ⟨#[]⟩, .int .i64 0], .int .i64 1]) ∧ Fr [] w w' := by
  have f0 : Fr [] w ((w.alloc (.cells #[.string s, .int .i64 p] 28)).alloc (.cells #[.string ⟨#[]⟩, .int .i64 0] 28)) := ((Fr.refl [] w).alloc _).alloc _
  have h0 := h.new f0
  go_enter Tryz.func30, Tryz.ntmps30
  go_wp2_with (first
    | (go_at_call 55; refine (nonNone _ h0).mono ?_; rintro e w' ⟨rfl, rfl⟩)
    | (go_at_call 55; refine (nonNone _ h).mono ?_; rintro e w' ⟨rfl, rfl⟩))
  refine bodyPost_ret (v := .tuple #[.int .i64 0, .agg #[.string ⟨#[]⟩, .int .i64 0], .int .i64 1]) (by simp [results, Tryz.results30, go_sem]) rfl ⟨rfl, f0⟩
theorem nonPair (c : Int) (h : NoN w v) :
    Calls Tryz.prog 33 #[v, .int .i64 c] w fun e w' => e = .returned (.tuple #[.int .i64 0, .int .i64 1]) ∧ Fr [] w w' := by
  go_enter Tryz.func33, Tryz.ntmps33
  go_wp2_with (go_at_call 55; refine (nonNone _ h).mono ?_; rintro e w' ⟨rfl, rfl⟩)
  go_ret2
  exact ⟨rfl, Fr.refl _ _⟩
theorem nonAccept (r : Int) (h : NoN w v) :
    Calls Tryz.prog 34 #[v, .int .i64 r] w fun e w' => e = .returned (.tuple #[.int .i64 0, .int .i64 1]) ∧ Fr [] w w' := by
  go_enter Tryz.func34, Tryz.ntmps34
  go_wp2_with (go_at_call 55; refine (nonNone _ h).mono ?_; rintro e w' ⟨rfl, rfl⟩)
  go_ret2
  exact ⟨rfl, Fr.refl _ _⟩
theorem nonClose (r : Int) (h : NoN w v) :
    Calls Tryz.prog 35 #[v, .int .i64 r] w fun e w' => e = .returned (.tuple #[.slice none 0 0, .int .i64 1]) ∧ Fr [] w w' := by
  go_enter Tryz.func35, Tryz.ntmps35
  go_wp2_with (go_at_call 55; refine (nonNone _ h).mono ?_; rintro e w' ⟨rfl, rfl⟩)
  go_ret2
  exact ⟨rfl, Fr.refl _ _⟩
theorem nonHang (r m : Int) (h : NoN w v) :
    Calls Tryz.prog 18 #[v, .int .i64 r, .int .i64 m] w fun e w' => e = .returned (.int .i64 1) ∧ Fr [] w w' := by
  go_enter Tryz.func18, Tryz.ntmps18
  go_wp2_with (go_at_call 55; refine (nonNone _ h).mono ?_; rintro e w' ⟨rfl, rfl⟩)
  go_ret
  exact ⟨rfl, Fr.refl _ _⟩
theorem nonConn (r : Int) (h : NoN w v) :
    Calls Tryz.prog 20 #[v, .int .i64 r] w fun e w' => e = .returned (.tuple #[.pointer none, .int .i64 1]) ∧ Fr [] w w' := by
  go_enter Tryz.func20, Tryz.ntmps20
  go_wp2_with (go_at_call 55; refine (nonNone _ h).mono ?_; rintro e w' ⟨rfl, rfl⟩)
  go_ret2
  exact ⟨rfl, Fr.refl _ _⟩
theorem nonListeners (h : NoN w v) :
    Calls Tryz.prog 24 #[v] w fun e w' => e = .returned (.slice none 0 0) ∧ Fr [] w w' := by
  go_enter Tryz.func24, Tryz.ntmps24
  go_wp2_with (go_at_call 55; refine (nonNone _ h).mono ?_; rintro e w' ⟨rfl, rfl⟩)
  go_ret
  exact ⟨rfl, Fr.refl _ _⟩
theorem nonConns (h : NoN w v) :
    Calls Tryz.prog 25 #[v] w fun e w' => e = .returned (.slice none 0 0) ∧ Fr [] w w' := by
  go_enter Tryz.func25, Tryz.ntmps25
  go_wp2_with (go_at_call 55; refine (nonNone _ h).mono ?_; rintro e w' ⟨rfl, rfl⟩)
  go_ret
  exact ⟨rfl, Fr.refl _ _⟩
theorem nonCopy (h : NoN w v) :
    Calls Tryz.prog 26 #[v] w fun e w' => e = .returned (.pointer none) ∧ Fr [] w w' := by
  go_enter Tryz.func26, Tryz.ntmps26
  go_wp2_with (go_at_call 55; refine (nonNone _ h).mono ?_; rintro e w' ⟨rfl, rfl⟩)
  go_ret
  exact ⟨rfl, Fr.refl _ _⟩
end
end Go.Proofs.YtmdhlodafjpnmaaGreat
