/- Contracts of ring.New, stream.of, stream.New, duplex.both and duplex.New. -/
/- Contracts of numbered's add, over listeners and over connections. -/
/- Streams that hold nothing, with the codes of their ends: what closing an end makes of them. -/
/- Contracts of stream's shut at the reading end, CloseWrite and CloseRead, over a stream that holds nothing. -/
/- Connections whose streams hold nothing, with the codes of their ends; check, Closed, CloseWrite and CloseRead. -/
/- Contract of duplex's Close over a connection whose streams hold nothing. -/
/- Contract of listener's hang: an end of a connection is closed, and the connection is forgotten if both are. -/
import Derived.Test.YtmdhlodafjpnmaaGreatNet
import Derived.Deep.OwnRows
import Derived.Deep.RegionWith
import Derived.Defers
import Derived.BigRegion
namespace Go.Proofs.YtmdhlodafjpnmaaGreat
open Go.RowKit
open Go.Maps (Keyed)
set_option linter.unusedVariables false

theorem cell_new (w : World) (c : Array Value) (t : TypeId) (o : Nat) : (w.alloc (.cells c t)).cell? ⟨w.heap.size, o, none⟩ = c[o]? := by
  simp
/-- A stream in block s that is new, with a capacity. -/
structure Str0 (w : World) (lo : Nat) (s : Nat) (c : Nat) : Prop where
  le : lo ≤ s
  store : (c = 0 ∧ w.cell? ⟨s, 0, none⟩ = some (.iface 246 (.agg #[]))) ∨
    ∃ r b, lo ≤ r ∧ lo ≤ b ∧ 1 ≤ c ∧ c ≤ 4096 ∧ r < s ∧ b < s ∧ b ≠ r ∧ w.cell? ⟨s, 0, none⟩ = some (.iface 251 (.agg #[.pointer (some ⟨r, 0, none⟩)])) ∧
      w.cell? ⟨r, 0, none⟩ = some (.slice (some ⟨b, 0, none⟩) c c) ∧ w.cell? ⟨r, 1, none⟩ = some (.int .i64 0) ∧ w.cell? ⟨r, 2, none⟩ = some (.int .i64 0)
  busy : w.cell? ⟨s, 1, none⟩ = some (.bool false)
  rest0 : w.cell? ⟨s, 2, none⟩ = some (.slice none 0 0)
  rest1 : w.cell? ⟨s, 3, none⟩ = some (.int .i64 0)
  acc : w.cell? ⟨s, 4, none⟩ = some (.int .i64 0)
  cl0 : w.cell? ⟨s, 5, none⟩ = some (.int .i64 0)
  cl1 : w.cell? ⟨s, 6, none⟩ = some (.int .i64 0)
  fz : ∀ o, w.frozen? ⟨s, o, none⟩ = false
theorem Str0.keep {S : List Nat} {w w' : World} {lo s c : Nat} (h : Str0 w lo s c) (hf : Fr S w w') (hS : ∀ x ∈ S, x < lo) : Str0 w' lo s c :=
  have n : ∀ x, lo ≤ x → x ∉ S := fun x hx hm => by have := hS x hm; omega
  have ns := n s h.le
  ⟨h.le, by
    rcases h.store with ⟨h0, h1⟩ | ⟨r, b, l1, l2, h1, h2, h3, h4, h5, h6, h7, h8, h9⟩
    · exact .inl ⟨h0, hf.keep h1 ns⟩
    · exact .inr ⟨r, b, l1, l2, h1, h2, h3, h4, h5, hf.keep h6 ns, hf.keep h7 (n r l1), hf.keep h8 (n r l1), hf.keep h9 (n r l1)⟩,
   hf.keep h.busy ns, hf.keep h.rest0 ns, hf.keep h.rest1 ns, hf.keep h.acc ns, hf.keep h.cl0 ns, hf.keep h.cl1 ns, fun o => by rw [hf.frozen (cell_lt h.busy) ns]; exact h.fz o⟩
theorem Str0.new {w w' : World} {lo s c : Nat} (h : Str0 w lo s c) (hf : Fr [] w w') : Str0 w' lo s c := h.keep hf (by simp)
theorem Str0.less {w : World} {lo lo' s c : Nat} (h : Str0 w lo s c) (hl : lo' ≤ lo) : Str0 w lo' s c :=
  ⟨Nat.le_trans hl h.le, by
    rcases h.store with h0 | ⟨r, b, l1, l2, h1⟩
    · exact .inl h0
    · exact .inr ⟨r, b, Nat.le_trans hl l1, Nat.le_trans hl l2, h1⟩, h.busy, h.rest0, h.rest1, h.acc, h.cl0, h.cl1, h.fz⟩

theorem mkBytes (n : Nat) (h : n ≤ 4096) (w : World) : (Instr.makeSlice 22 (.int .i64 (n : Int)) (.int .i64 (n : Int))).run Tryz.prog w = .ok (.slice (some ⟨w.heap.size, 0, none⟩) n n) (w.alloc (.cells (madeCells #[.int .u8 0] n) 5)) :=
  run_make_row' 22 5 (.int .u8 0) 1 Tryz.underlying22 (by kernel_rfl) rfl _ _ n (by omega) (by omega) w

set_option maxRecDepth 100000 in
set_option maxHeartbeats 400000 in
theorem ringNew_ok (n : Nat) (h1 : ¬ ((n : Int) < 1)) (h2 : ¬ (4096 < (n : Int))) (w : World) :
    Calls Tryz.prog 168 #[.int .i64 n] w fun e w' => e = .returned (.tuple #[.pointer (some ⟨w.heap.size + 1, 0, none⟩), .int .i64 0]) ∧ w' = (w.alloc (.cells (madeCells #[.int .u8 0] n) 5)).alloc (.cells #[.slice (some ⟨w.heap.size, 0, none⟩) n n, .int .i64 0, .int .i64 0] 267) := by
  have hmk := mkBytes n (by omega) w
  go_enter Tryz.func168, Tryz.ntmps168
  go_wp2
  go_ret2
  exact ⟨rfl, rfl⟩

def ringW (w : World) (n : Nat) : World := (w.alloc (.cells (madeCells #[.int .u8 0] n) 5)).alloc (.cells #[.slice (some ⟨w.heap.size, 0, none⟩) n n, .int .i64 0, .int .i64 0] 267)

set_option maxRecDepth 100000 in
set_option maxHeartbeats 400000 in
theorem streamOf_ring (n : Nat) (h1 : ¬ ((n : Int) < 1)) (h2 : ¬ (4096 < (n : Int))) (w : World) :
    Calls Tryz.prog 156 #[.int .i64 n] w fun e w' => e = .returned (.iface 251 (.agg #[.pointer (some ⟨w.heap.size + 1, 0, none⟩)])) ∧ w' = ringW w n := by
  have h0 : ((n : Int) == 0) = false := by simp; omega
  go_enter Tryz.func156, Tryz.ntmps156
  go_wp2_with (go_at_call 168; refine (ringNew_ok n h1 h2 _).mono ?_; rintro e w' ⟨rfl, rfl⟩)
  go_ret
  exact ⟨rfl, rfl⟩

set_option maxRecDepth 100000 in
set_option maxHeartbeats 400000 in
theorem streamOf_direct (w : World) :
    Calls Tryz.prog 156 #[.int .i64 0] w fun e w' => e = .returned (.iface 246 (.agg #[])) ∧ w' = w := by
  go_enter Tryz.func156, Tryz.ntmps156
  go_wp2
  go_ret
  exact ⟨rfl, rfl⟩

set_option maxRecDepth 100000 in
set_option maxHeartbeats 400000 in
theorem streamNew_ring (n : Nat) (h1 : ¬ ((n : Int) < 1)) (h2 : ¬ (4096 < (n : Int))) (w : World) :
    Calls Tryz.prog 127 #[.int .i64 n] w fun e w' => e = .returned (.tuple #[.pointer (some ⟨w.heap.size + 2, 0, none⟩), .int .i64 0]) ∧ w' = (ringW w n).alloc (.cells #[.iface 251 (.agg #[.pointer (some ⟨w.heap.size + 1, 0, none⟩)]), .bool false, .slice none 0 0, .int .i64 0, .int .i64 0, .int .i64 0, .int .i64 0] 209) := by
  have h0 : ¬ ((n : Int) < 0) := by omega
  have hs : (ringW w n).heap.size = w.heap.size + 2 := by simp [ringW]
  go_enter Tryz.func127, Tryz.ntmps127
  go_wp2_with (go_at_call 156; refine (streamOf_ring n h1 h2 _).mono ?_; rintro e w' ⟨rfl, rfl⟩)
  go_ret2
  exact ⟨rfl, rfl⟩

set_option maxRecDepth 100000 in
set_option maxHeartbeats 400000 in
theorem streamNew_direct (w : World) :
    Calls Tryz.prog 127 #[.int .i64 0] w fun e w' => e = .returned (.tuple #[.pointer (some ⟨w.heap.size, 0, none⟩), .int .i64 0]) ∧ w' = w.alloc (.cells #[.iface 246 (.agg #[]), .bool false, .slice none 0 0, .int .i64 0, .int .i64 0, .int .i64 0, .int .i64 0] 209) := by
  go_enter Tryz.func127, Tryz.ntmps127
  go_wp2_with (go_at_call 156; refine (streamOf_direct _).mono ?_; rintro e w' ⟨rfl, rfl⟩)
  go_ret2
  exact ⟨rfl, rfl⟩

set_option maxRecDepth 100000 in
set_option maxHeartbeats 400000 in
theorem streamNew_bad (n : Int) (h : n < 0 ∨ 4096 < n) (w : World) :
    Calls Tryz.prog 127 #[.int .i64 n] w fun e w' => e = .returned (.tuple #[.pointer none, .int .i64 2]) ∧ w' = w := by
  go_enter Tryz.func127, Tryz.ntmps127
  go_wp2 <;> first | (go_ret2; exact ⟨rfl, rfl⟩) | (exfalso; simp only [Bool.not_eq_false', decide_eq_true_eq, decide_eq_false_iff_not] at *; omega)

theorem streamNew_ok (c : Nat) (h : c ≤ 4096) (w : World) :
    Calls Tryz.prog 127 #[.int .i64 c] w fun e w' => ∃ s, e = .returned (.tuple #[.pointer (some ⟨s, 0, none⟩), .int .i64 0]) ∧ Str0 w' w.heap.size s c ∧ Fr [] w w' := by
  by_cases h0 : c = 0
  · subst h0
    refine (streamNew_direct w).mono ?_
    rintro e w' ⟨rfl, rfl⟩
    exact ⟨_, rfl, ⟨Nat.le_refl _, .inl ⟨rfl, by simp⟩, by simp, by simp, by simp, by simp, by simp, by simp, fun o => by simp⟩, (Fr.refl [] w).alloc _⟩
  · refine (streamNew_ring c (by omega) (by omega) w).mono ?_
    rintro e w' ⟨rfl, rfl⟩
    have hs : (ringW w c).heap.size = w.heap.size + 2 := by simp [ringW]
    have f0 : Fr [] w (ringW w c) := ((Fr.refl [] w).alloc _).alloc _
    have hr : ∀ o v, (#[Value.slice (some ⟨w.heap.size, 0, none⟩) c c, .int .i64 0, .int .i64 0] : Array Value)[o]? = some v → (ringW w c).cell? ⟨w.heap.size + 1, o, none⟩ = some v := fun o v hv => netCell _ _ _ o rfl (by simp) hv
    have fr : ∀ (t : Nat) (ob : Obj), Fr [] (ringW w c) ((ringW w c).alloc ob) := fun _ ob => (Fr.refl [] _).alloc _
    rw [← hs]
    refine ⟨_, rfl, ⟨by omega, .inr ⟨w.heap.size + 1, w.heap.size, by omega, by omega, by omega, h, by omega, by omega, by omega, by rw [cell_new]; rfl, (fr 0 _).keep (hr 0 _ rfl) (by simp), (fr 0 _).keep (hr 1 _ rfl) (by simp), (fr 0 _).keep (hr 2 _ rfl) (by simp)⟩, ?_, ?_, ?_, ?_, ?_, ?_, fun o => by simp⟩, f0.alloc _⟩ <;> (rw [cell_new]; rfl)

set_option maxRecDepth 100000 in
set_option maxHeartbeats 2000000 in
theorem both_ok (c : Nat) (h : c ≤ 4096) (w : World) :
    Calls Tryz.prog 126 #[.agg #[.int .i64 c, .int .i64 c], .func (.func 127) #[] #[]] w fun e w' => ∃ s0 s1, e = .returned (.tuple #[.agg #[.pointer (some ⟨s0, 0, none⟩), .pointer (some ⟨s1, 0, none⟩)], .int .i64 0]) ∧ Str0 w' w.heap.size s0 c ∧ Str0 w' (s0 + 1) s1 c ∧ Fr [] w w' := by
  go_enter Tryz.func126, Tryz.ntmps126
  go_wp2
  go_loopw [9, 5] (fun i e wr => ∃ (k : Int) (s0 s1 : Nat) (v0 v1 : Value), i = .int .i64 k ∧ 0 ≤ k ∧ k ≤ 2 ∧ e = .int .i64 0 ∧ wr.cell? ⟨w.heap.size + 1, 0, none⟩ = some v0 ∧ wr.cell? ⟨w.heap.size + 1, 1, none⟩ = some v1 ∧ (∀ o, wr.frozen? ⟨w.heap.size + 1, o, none⟩ = false) ∧ Fr [] w wr ∧ w.heap.size + 2 ≤ wr.heap.size ∧
    (1 ≤ k → v0 = .pointer (some ⟨s0, 0, none⟩) ∧ Str0 wr (w.heap.size + 2) s0 c ∧ s0 < wr.heap.size) ∧ (2 ≤ k → v1 = .pointer (some ⟨s1, 0, none⟩) ∧ Str0 wr (s0 + 1) s1 c)) (fun i _ _ => 2 - (intOf i).toNat)
  case atStart =>
    exact ⟨0, 0, 0, .pointer none, .pointer none, rfl, by omega, by omega, rfl, by simp, by simp, by simp, ((Fr.refl [] w).alloc _).alloc _, by simp, by omega, by omega⟩
  case round =>
    obtain ⟨k, s0, s1, v0, v1, rfl, hk', hk, rfl, k0, k1, hfz, fr, hsz, p0, p1⟩ := hrel
    have P0 := Lib.hid p0
    have P1 := Lib.hid p1
    clear p0 p1
    have hk3 : k = 0 ∨ k = 1 ∨ k = 2 := by omega
    have hbl := cell_lt k0
    have hix : ∀ W : World, (Instr.index 201 (.agg #[.int .i64 c, .int .i64 c]) (.int .i64 0)).run Tryz.prog W = .ok (.int .i64 c) W := fun W => by kernel_rfl
    have hix1 : ∀ W : World, (Instr.index 201 (.agg #[.int .i64 c, .int .i64 c]) (.int .i64 1)).run Tryz.prog W = .ok (.int .i64 c) W := fun W => by kernel_rfl
    rcases hk3 with rfl | rfl | rfl
    · go_wp2_with (go_at_call 127; refine (streamNew_ok c h _).mono ?_; rintro e w1 ⟨s, rfl, hs, f1⟩; have j0 := f1.keep k0 (by simp); have j1 := f1.keep k1 (by simp); have jf : ∀ o, w1.frozen? ⟨w.heap.size + 1, o, none⟩ = false := (fun o => by rw [f1.frozen hbl (by simp)]; exact hfz o))
      have fs : Fr [w.heap.size + 1] w1 (w1.setCell ⟨w.heap.size + 1, 0, none⟩ (.pointer (some ⟨s, 0, none⟩))) := (Fr.refl _ _).setCell (fun _ => by simp) _
      have gs : Fr [] w (w1.setCell ⟨w.heap.size + 1, 0, none⟩ (.pointer (some ⟨s, 0, none⟩))) := (fr.step f1).trans fs (fun x hx hl => by simp at hx; omega)
      have z1 := f1.size
      have z2 := fs.size
      have z3 := cell_lt hs.busy
      have z4 : w.heap.size + 2 ≤ s := Nat.le_trans hsz hs.le
      have hs' := (hs.less hsz).keep fs (fun x hx => by simp at hx; omega)
      go_roundw
      case rel => exact ⟨1, s, 0, .pointer (some ⟨s, 0, none⟩), v1, rfl, by omega, by omega, rfl, by simp [World.cell?_setCell_same _ _ _ j0], (World.cell?_setCell_other _ _ _ _ (by simp)).trans j1, fun o => by simpa using jf o, gs, by omega, fun _ => ⟨rfl, hs', by omega⟩, by omega⟩
      case measure => simp [intOf]
    · go_wp2_with (go_at_call 127; refine (streamNew_ok c h _).mono ?_; rintro e w1 ⟨s, rfl, hs, f1⟩; have j0 := f1.keep k0 (by simp); have j1 := f1.keep k1 (by simp); have jf : ∀ o, w1.frozen? ⟨w.heap.size + 1, o, none⟩ = false := (fun o => by rw [f1.frozen hbl (by simp)]; exact hfz o))
      have fs : Fr [w.heap.size + 1] w1 (w1.setCell ⟨w.heap.size + 1, 1, none⟩ (.pointer (some ⟨s, 0, none⟩))) := (Fr.refl _ _).setCell (fun _ => by simp) _
      have gs : Fr [] w (w1.setCell ⟨w.heap.size + 1, 1, none⟩ (.pointer (some ⟨s, 0, none⟩))) := (fr.step f1).trans fs (fun x hx hl => by simp at hx; omega)
      have z1 := f1.size
      have z2 := fs.size
      have z3 := cell_lt hs.busy
      have z4 : w.heap.size + 2 ≤ s := Nat.le_trans hsz hs.le
      have hs' := (hs.less hsz).keep fs (fun x hx => by simp at hx; omega)
      go_roundw
      case rel => 
        obtain ⟨rfl, q0, q1⟩ := P0.out (by omega)
        refine ⟨2, s0, s, .pointer (some ⟨s0, 0, none⟩), .pointer (some ⟨s, 0, none⟩), rfl, by omega, by omega, rfl, (World.cell?_setCell_other _ _ _ _ (by simp)).trans j0, by simp [World.cell?_setCell_same _ _ _ j1], fun o => by simpa using jf o, gs, by omega, fun _ => ⟨rfl, (q0.new f1).keep fs (fun x hx => by simp at hx; omega), by omega⟩, fun _ => ⟨rfl, ?_⟩⟩
        exact (hs.less (by omega)).keep fs (fun x hx => by simp at hx; have := q0.le; omega)
      case measure => simp [intOf]
    · obtain ⟨rfl, q0, q1⟩ := P0.out (by omega)
      obtain ⟨rfl, q2⟩ := P1.out (by omega)
      go_wp2
      have fs : Fr [w.heap.size + 1] wr ((wr.setCell ⟨w.heap.size + 1, 0, none⟩ (.pointer (some ⟨s0, 0, none⟩))).setCell ⟨w.heap.size + 1, 1, none⟩ (.pointer (some ⟨s1, 0, none⟩))) := ((Fr.refl _ _).setCell (fun _ => by simp) _).setCell (fun _ => by simp) _
      refine bodyPost_ret (v := .tuple #[.agg #[.pointer (some ⟨s0, 0, none⟩), .pointer (some ⟨s1, 0, none⟩)], .int .i64 0]) (by simp [results, Tryz.results126, go_sem, k0, k1]) rfl ⟨s0, s1, rfl, ?_, ?_, ?_⟩
      · exact (q0.keep fs (fun x hx => by simp at hx; omega)).less (by omega)
      · exact q2.keep fs (fun x hx => by simp at hx; have := q0.le; omega)
      · exact fr.trans fs (fun x hx hl => by simp at hx; omega)

set_option maxRecDepth 100000 in
set_option maxHeartbeats 2000000 in
theorem both_bad (c : Int) (h : c < 0 ∨ 4096 < c) (w : World) :
    Calls Tryz.prog 126 #[.agg #[.int .i64 c, .int .i64 c], .func (.func 127) #[] #[]] w fun e w' => e = .returned (.tuple #[.agg #[.pointer none, .pointer none], .int .i64 2]) ∧ Fr [] w w' := by
  have hix : ∀ W : World, (Instr.index 201 (.agg #[.int .i64 c, .int .i64 c]) (.int .i64 0)).run Tryz.prog W = .ok (.int .i64 c) W := fun W => by kernel_rfl
  go_enter Tryz.func126, Tryz.ntmps126
  go_wp2
  go_loopw [9, 5] (fun i e wr => i = .int .i64 0 ∧ wr.cell? ⟨w.heap.size + 1, 0, none⟩ = some (.pointer none) ∧ wr.cell? ⟨w.heap.size + 1, 1, none⟩ = some (.pointer none) ∧ (∀ o, wr.frozen? ⟨w.heap.size + 1, o, none⟩ = false) ∧ Fr [] w wr) (fun i _ _ => 0)
  case atStart => exact ⟨rfl, by simp, by simp, by simp, ((Fr.refl [] w).alloc _).alloc _⟩
  case round =>
    obtain ⟨rfl, k0, k1, hfz, fr⟩ := hrel
    go_wp2_with (go_at_call 127; refine (streamNew_bad c h _).mono ?_; rintro e w1 ⟨rfl, rfl⟩)
    refine bodyPost_ret (v := .tuple #[.agg #[.pointer none, .pointer none], .int .i64 2]) (by simp [results, Tryz.results126, go_sem, k0, k1]) rfl ⟨rfl, ?_⟩
    exact ((fr.setCell (by simp) _).setCell (by simp) _).setCell (by simp) _

/-- A connection in block d that is new, with a capacity: all its blocks are from lo on. -/
structure Dup0 (w : World) (lo d c : Nat) : Prop where
  st : ∃ s0 s1, lo ≤ d ∧ w.cell? ⟨d, 0, none⟩ = some (.pointer (some ⟨s0, 0, none⟩)) ∧ w.cell? ⟨d, 1, none⟩ = some (.pointer (some ⟨s1, 0, none⟩)) ∧ Str0 w lo s0 c ∧ Str0 w (s0 + 1) s1 c ∧ s1 < d
  cl0 : w.cell? ⟨d, 2, none⟩ = some (.bool false)
  cl1 : w.cell? ⟨d, 3, none⟩ = some (.bool false)
  fz : ∀ o, w.frozen? ⟨d, o, none⟩ = false
theorem Dup0.keep {S : List Nat} {w w' : World} {lo d c : Nat} (h : Dup0 w lo d c) (hf : Fr S w w') (hS : ∀ x ∈ S, x < lo) : Dup0 w' lo d c := by
  obtain ⟨⟨s0, s1, h1, h2, h3, h4, h5, h6⟩, h7, h8, h9⟩ := h
  have nd : d ∉ S := fun hm => by have := hS d hm; omega
  have := h4.le
  exact ⟨⟨s0, s1, h1, hf.keep h2 nd, hf.keep h3 nd, h4.keep hf hS, h5.keep hf (fun x hx => by have := hS x hx; omega), h6⟩, hf.keep h7 nd, hf.keep h8 nd, fun o => by rw [hf.frozen (cell_lt h2) nd]; exact h9 o⟩
theorem Dup0.less {w : World} {lo lo' d c : Nat} (h : Dup0 w lo d c) (hl : lo' ≤ lo) : Dup0 w lo' d c := by
  obtain ⟨⟨s0, s1, h1, h2, h3, h4, h5, h6⟩, h7, h8, h9⟩ := h
  exact ⟨⟨s0, s1, by omega, h2, h3, h4.less hl, h5, h6⟩, h7, h8, h9⟩

set_option maxRecDepth 100000 in
set_option maxHeartbeats 2000000 in
theorem dupNew_ok (c : Nat) (h : c ≤ 4096) (w : World) :
    Calls Tryz.prog 80 #[.int .i64 c, .int .i64 c] w fun e w' => ∃ d, e = .returned (.tuple #[.pointer (some ⟨d, 0, none⟩), .int .i64 0]) ∧ Dup0 w' w.heap.size d c ∧ Fr [] w w' := by
  go_enter Tryz.func80, Tryz.ntmps80
  go_wp2_with (go_at_call 126; refine (both_ok c h _).mono ?_; rintro e w1 ⟨s0, s1, rfl, h0, h1, f1⟩)
  have f2 : Fr [] w1 ((w1.alloc (.cells #[.pointer (some ⟨s0, 0, none⟩), .pointer (some ⟨s1, 0, none⟩)] 150)).alloc (.cells #[.pointer (some ⟨s0, 0, none⟩), .pointer (some ⟨s1, 0, none⟩), .bool false, .bool false] 152)) := ((Fr.refl _ _).alloc _).alloc _
  have z0 := cell_lt h0.busy
  have z1 := cell_lt h1.busy
  have z2 := f1.size
  go_ret2
  refine ⟨w1.heap.size + 1, rfl, ⟨⟨s0, s1, by omega, by simp, by simp, h0.new f2, h1.new f2, by omega⟩, by simp, by simp, fun o => by simp⟩, f1.step f2⟩

set_option maxRecDepth 100000 in
set_option maxHeartbeats 2000000 in
theorem dupNew_bad (c : Int) (h : c < 0 ∨ 4096 < c) (w : World) :
    Calls Tryz.prog 80 #[.int .i64 c, .int .i64 c] w fun e w' => e = .returned (.tuple #[.pointer none, .int .i64 2]) ∧ Fr [] w w' := by
  go_enter Tryz.func80, Tryz.ntmps80
  go_wp2_with (go_at_call 126; refine (both_bad c h _).mono ?_; rintro e w1 ⟨rfl, f1⟩)
  go_ret2
  exact ⟨rfl, f1.alloc _⟩
end Go.Proofs.YtmdhlodafjpnmaaGreat
namespace Go.Proofs.YtmdhlodafjpnmaaGreat
open Go.RowKit
open Go.Maps (Keyed)
set_option linter.unusedVariables false

def qV (b : Nat) (s : ByteArray) (p : Int) : Value := .agg #[.pointer (some ⟨b, 0, none⟩), .string s, .int .i64 p]
theorem zeroQ (w : World) : (zeroValue 120).run Tryz.prog w = .ok (.agg #[.pointer none, .string ⟨#[]⟩, .int .i64 0]) w := by kernel_rfl
theorem zeroD (w : World) : (zeroValue 55).run Tryz.prog w = .ok (.pointer none) w := by kernel_rfl

set_option maxRecDepth 100000 in
set_option maxHeartbeats 2000000 in
theorem addD (m : Nat) (f : List (Value × Value)) (k d : Nat) (w : World) (h : MapIs Tryz.prog 3 w m f) (hk : ∀ j : Nat, j < k → ∃ d', (.int .i64 j, .pointer (some ⟨d', 0, none⟩)) ∈ f) (hx : ∀ p ∈ f, p.1 ≠ .int .i64 k) (hk' : k ≤ 100000) :
    Calls Tryz.prog 83 #[.map (some m), .pointer (some ⟨d, 0, none⟩)] w fun e w' => e = .returned (.int .i64 k) ∧ MapIs Tryz.prog 3 w' m (f ++ [(.int .i64 k, .pointer (some ⟨d, 0, none⟩))]) ∧ Fr [m] w w' := by
  have HK := Lib.hid hk
  have HX := Lib.hid hx
  clear hk hx
  go_enter Tryz.func83, Tryz.ntmps83
  go_wp2
  go_loopw [5] (fun i wr => ∃ j : Nat, i = .int .i64 j ∧ j ≤ k ∧ MapIs Tryz.prog 3 wr m f ∧ Fr [] w wr) (fun i _ => k - (intOf i).toNat)
  case atStart => exact ⟨0, rfl, by omega, h, Fr.refl _ _⟩
  case round =>
    obtain ⟨j, rfl, hj, hm, fr⟩ := hrel
    by_cases hlt : j < k
    · obtain ⟨d', hd⟩ := HK.out j hlt
      have hl : (Instr.lookup 51 (.map (some m)) (.int .i64 j) true).run Tryz.prog wr = .ok (.tuple #[.pointer (some ⟨d', 0, none⟩), .bool true]) wr := hm.hit keyInt (t := 51) (e := 55) Tryz.underlying51 hd true
      clear hd
      go_wp2
      go_roundw
      case rel => exact ⟨j + 1, by go_num, by omega, hm, fr⟩
      case measure => simp [intOf]; omega
    · obtain rfl : j = k := by omega
      have hl : (Instr.lookup 51 (.map (some m)) (.int .i64 j) true).run Tryz.prog wr = .ok (.tuple #[.pointer none, .bool false]) wr := hm.miss keyInt (t := 51) (e := 55) Tryz.underlying51 (keyInt_of j (by omega) (by omega)) HX.out (zeroD _) true
      obtain ⟨w2, hrun, hm2, f2⟩ := hm.put keyInt (t := 51) (e := 55) Tryz.underlying51 (keyInt_of j (by omega) (by omega)) HX.out (.pointer (some ⟨d, 0, none⟩))
      go_wp2
      go_ret
      exact ⟨rfl, hm2, (fr.mono (fun x hx => by cases hx)).trans f2 (fun x hx _ => hx)⟩

set_option maxRecDepth 100000 in
set_option maxHeartbeats 2000000 in
theorem addQ (m : Nat) (f : List (Value × Value)) (k b : Nat) (s : ByteArray) (p : Int) (w : World) (h : MapIs Tryz.prog 3 w m f) (hk : ∀ j : Nat, j < k → ∃ b' s' p', (.int .i64 j, qV b' s' p') ∈ f) (hx : ∀ p ∈ f, p.1 ≠ .int .i64 k) (hk' : k ≤ 100000) :
    Calls Tryz.prog 78 #[.map (some m), qV b s p] w fun e w' => e = .returned (.int .i64 k) ∧ MapIs Tryz.prog 3 w' m (f ++ [(.int .i64 k, qV b s p)]) ∧ Fr [m] w w' := by
  have HK := Lib.hid hk
  have HX := Lib.hid hx
  have hmlt := h.lt
  clear hk hx
  unfold qV
  go_enter Tryz.func78, Tryz.ntmps78
  go_wp2
  go_loopw [5] (fun i wr => ∃ j : Nat, i = .int .i64 j ∧ j ≤ k ∧ MapIs Tryz.prog 3 wr m f ∧ Fr [] w wr ∧ wr.cell? ⟨w.heap.size, 0, none⟩ = some (.pointer (some ⟨b, 0, none⟩)) ∧ wr.cell? ⟨w.heap.size, 1, none⟩ = some (.string s) ∧ wr.cell? ⟨w.heap.size, 2, none⟩ = some (.int .i64 p)) (fun i _ => k - (intOf i).toNat)
  case atStart => exact ⟨0, rfl, by omega, h.keep ((Fr.refl [] _).alloc _) (by simp), (Fr.refl [] _).alloc _, by simp, by simp, by simp⟩
  case round =>
    obtain ⟨j, rfl, hj, hm, fr, k0, k1, k2⟩ := hrel
    by_cases hlt : j < k
    · obtain ⟨b', s', p', hd⟩ := HK.out j hlt
      have hl : (Instr.lookup 49 (.map (some m)) (.int .i64 j) true).run Tryz.prog wr = .ok (.tuple #[.agg #[.pointer (some ⟨b', 0, none⟩), .string s', .int .i64 p'], .bool true]) wr := hm.hit keyInt (t := 49) (e := 120) Tryz.underlying49 hd true
      clear hd
      have f1 : Fr [] wr (wr.alloc (.cells #[.pointer (some ⟨b', 0, none⟩), .string s', .int .i64 p'] 120)) := (Fr.refl [] _).alloc _
      go_wp2
      go_roundw
      case rel => exact ⟨j + 1, by go_num, by omega, hm.keep f1 (by simp), fr.step f1, f1.keep k0 (by simp), f1.keep k1 (by simp), f1.keep k2 (by simp)⟩
      case measure => simp [intOf]; omega
    · obtain rfl : j = k := by omega
      have hl : (Instr.lookup 49 (.map (some m)) (.int .i64 j) true).run Tryz.prog wr = .ok (.tuple #[.agg #[.pointer none, .string ⟨#[]⟩, .int .i64 0], .bool false]) wr := hm.miss keyInt (t := 49) (e := 120) Tryz.underlying49 (keyInt_of j (by omega) (by omega)) HX.out (zeroQ _) true
      have f1 : Fr [] wr (wr.alloc (.cells #[.pointer none, .string ⟨#[]⟩, .int .i64 0] 120)) := (Fr.refl [] _).alloc _
      have j0 := f1.keep k0 (by simp)
      have j1 := f1.keep k1 (by simp)
      have j2 := f1.keep k2 (by simp)
      obtain ⟨w2, hrun, hm2, f2⟩ := (hm.keep f1 (by simp)).put keyInt (t := 49) (e := 120) Tryz.underlying49 (keyInt_of j (by omega) (by omega)) HX.out (.agg #[.pointer (some ⟨b, 0, none⟩), .string s, .int .i64 p])
      go_wp2
      go_ret
      exact ⟨rfl, hm2, ((fr.step f1).mono (fun x hx => by cases hx)).trans f2 (fun x hx _ => hx)⟩
end Go.Proofs.YtmdhlodafjpnmaaGreat
namespace Go.Proofs.YtmdhlodafjpnmaaGreat
open Go.RowKit
open Go.Maps (Keyed)
set_option linter.unusedVariables false
set_option maxRecDepth 100000
set_option maxHeartbeats 4000000

/-- A stream in block s that holds nothing, its capacity and the codes of its ends; P: its blocks. -/
structure StrS (w : World) (P : Nat → Prop) (s c : Nat) (wr rd : Int) : Prop where
  hs : P s
  store : (c = 0 ∧ w.cell? ⟨s, 0, none⟩ = some (.iface 246 (.agg #[]))) ∨
    ∃ r b, P r ∧ (P b ∧ b < w.heap.size) ∧ 1 ≤ c ∧ c ≤ 4096 ∧ r ≠ s ∧ b ≠ s ∧ b ≠ r ∧ w.cell? ⟨s, 0, none⟩ = some (.iface 251 (.agg #[.pointer (some ⟨r, 0, none⟩)])) ∧
      w.cell? ⟨r, 0, none⟩ = some (.slice (some ⟨b, 0, none⟩) c c) ∧ w.cell? ⟨r, 1, none⟩ = some (.int .i64 0) ∧ w.cell? ⟨r, 2, none⟩ = some (.int .i64 0)
  busy : w.cell? ⟨s, 1, none⟩ = some (.bool false)
  rest0 : w.cell? ⟨s, 2, none⟩ = some (.slice none 0 0)
  rest1 : w.cell? ⟨s, 3, none⟩ = some (.int .i64 0)
  acc : w.cell? ⟨s, 4, none⟩ = some (.int .i64 0)
  cl0 : w.cell? ⟨s, 5, none⟩ = some (.int .i64 wr)
  cl1 : w.cell? ⟨s, 6, none⟩ = some (.int .i64 rd)
  fz : ∀ o, w.frozen? ⟨s, o, none⟩ = false
theorem StrS.keep {S : List Nat} {w w' : World} {P : Nat → Prop} {s c : Nat} {wr rd : Int} (h : StrS w P s c wr rd) (hf : Fr S w w') (hS : ∀ x ∈ S, ¬ P x) : StrS w' P s c wr rd :=
  have n : ∀ x, P x → x ∉ S := fun x hx hm => hS x hm hx
  have ns := n s h.hs
  ⟨h.hs, by
    rcases h.store with ⟨h0, h1⟩ | ⟨r, b, l1, l2, h1, h2, h3, h4, h5, h6, h7, h8, h9⟩
    · exact .inl ⟨h0, hf.keep h1 ns⟩
    · exact .inr ⟨r, b, l1, ⟨l2.1, Nat.lt_of_lt_of_le l2.2 hf.size⟩, h1, h2, h3, h4, h5, hf.keep h6 ns, hf.keep h7 (n r l1), hf.keep h8 (n r l1), hf.keep h9 (n r l1)⟩,
   hf.keep h.busy ns, hf.keep h.rest0 ns, hf.keep h.rest1 ns, hf.keep h.acc ns, hf.keep h.cl0 ns, hf.keep h.cl1 ns, fun o => by rw [hf.frozen (cell_lt h.busy) ns]; exact h.fz o⟩
theorem StrS.new {w w' : World} {P : Nat → Prop} {s c : Nat} {wr rd : Int} (h : StrS w P s c wr rd) (hf : Fr [] w w') : StrS w' P s c wr rd := h.keep hf (by simp)
/-- .. where the blocks that were there are the same ones. -/
theorem StrS.ext {w : World} {P Q : Nat → Prop} {s c : Nat} {wr rd : Int} (h : StrS w P s c wr rd) (hq : ∀ x, x < w.heap.size → P x → Q x) : StrS w Q s c wr rd :=
  ⟨hq _ (cell_lt h.busy) h.hs, by
    rcases h.store with h0 | ⟨r, b, l1, l2, h1, h2, h3, h4, h5, h6, h7, h8⟩
    · exact .inl h0
    · exact .inr ⟨r, b, hq _ (cell_lt h7) l1, ⟨hq _ l2.2 l2.1, l2.2⟩, h1, h2, h3, h4, h5, h6, h7, h8⟩, h.busy, h.rest0, h.rest1, h.acc, h.cl0, h.cl1, h.fz⟩
theorem StrS.wide {w : World} {P Q : Nat → Prop} {s c : Nat} {wr rd : Int} (h : StrS w P s c wr rd) (hq : ∀ x, P x → Q x) : StrS w Q s c wr rd :=
  ⟨hq _ h.hs, by
    rcases h.store with h0 | ⟨r, b, l1, l2, h1⟩
    · exact .inl h0
    · exact .inr ⟨r, b, hq _ l1, ⟨hq _ l2.1, l2.2⟩, h1⟩, h.busy, h.rest0, h.rest1, h.acc, h.cl0, h.cl1, h.fz⟩
theorem keyEnd : Keyed Tryz.prog 211 := Maps.int_keyed Tryz.underlying211
theorem keyEnd_of (x : Int) (h0 : 0 ≤ x) (h1 : x ≤ 9) : keyOf Tryz.prog 211 (.int .i64 x) = some (.int .i64 x) :=
  Maps.keyOf_int_mk Tryz.underlying211 (by simp [Lit.wf, IntKind.min, IntKind.max, IntKind.signed, IntKind.bits]; omega)
theorem zeroFn (w : World) : (zeroValue 1).run Tryz.prog w = .ok .nilFunc w := by kernel_rfl

theorem room_zero (w : World) :
    Calls Tryz.prog 210 #[.agg #[]] w fun e w' => e = .returned (.int .i64 0) ∧ Fr [] w w' := by
  go_enter Tryz.func210, Tryz.ntmps210
  go_wp2
  go_ret
  exact ⟨rfl, (Fr.refl [] w).alloc _⟩
end Go.Proofs.YtmdhlodafjpnmaaGreat
namespace Go.Proofs.YtmdhlodafjpnmaaGreat
open Go.RowKit
open Go.Maps (Keyed)
set_option linter.unusedVariables false
set_option maxRecDepth 100000
set_option maxHeartbeats 4000000

end Go.Proofs.YtmdhlodafjpnmaaGreat
namespace Go.Proofs.YtmdhlodafjpnmaaGreat
open Go.RowKit
open Go.Maps (Keyed)
set_option linter.unusedVariables false
set_option maxRecDepth 100000
set_option maxHeartbeats 4000000

def wrOf (a : Bool) : Int := if a then 13 else 0
def rdOf (a : Bool) : Int := if a then 14 else 0
/-- A connection in block d: its capacity, the codes of its streams' ends, which ends are closed; P: its blocks. -/
structure DupT (w : World) (P : Nat → Prop) (d c : Nat) (wr0 rd0 wr1 rd1 : Int) (a0 a1 : Bool) : Prop where
  hd : P d
  st : ∃ s0 s1, w.cell? ⟨d, 0, none⟩ = some (.pointer (some ⟨s0, 0, none⟩)) ∧ w.cell? ⟨d, 1, none⟩ = some (.pointer (some ⟨s1, 0, none⟩)) ∧
    StrS w (fun x => P x ∧ x ≠ d ∧ x ≠ s1) s0 c wr0 rd0 ∧ StrS w (fun x => P x ∧ x ≠ d ∧ x ≠ s0) s1 c wr1 rd1
  cl0 : w.cell? ⟨d, 2, none⟩ = some (.bool a0)
  cl1 : w.cell? ⟨d, 3, none⟩ = some (.bool a1)
  fz : ∀ o, w.frozen? ⟨d, o, none⟩ = false
abbrev DupS (w : World) (P : Nat → Prop) (d c : Nat) (a0 a1 : Bool) : Prop := DupT w P d c (wrOf a0) (rdOf a1) (wrOf a1) (rdOf a0) a0 a1
section
variable {w w' : World} {P Q : Nat → Prop} {d c : Nat} {wr0 rd0 wr1 rd1 : Int} {a0 a1 : Bool}
theorem DupT.keep {S : List Nat} (h : DupT w P d c wr0 rd0 wr1 rd1 a0 a1) (hf : Fr S w w') (hS : ∀ x ∈ S, ¬ P x) : DupT w' P d c wr0 rd0 wr1 rd1 a0 a1 := by
  obtain ⟨s0, s1, h1, h2, h3, h4⟩ := h.st
  have nd : d ∉ S := fun hm => hS d hm h.hd
  exact ⟨h.hd, ⟨s0, s1, hf.keep h1 nd, hf.keep h2 nd, h3.keep hf (fun x hx hp => hS x hx hp.1), h4.keep hf (fun x hx hp => hS x hx hp.1)⟩, hf.keep h.cl0 nd, hf.keep h.cl1 nd, fun o => by rw [hf.frozen (cell_lt h1) nd]; exact h.fz o⟩
theorem DupT.new (h : DupT w P d c wr0 rd0 wr1 rd1 a0 a1) (hf : Fr [] w w') : DupT w' P d c wr0 rd0 wr1 rd1 a0 a1 := h.keep hf (fun x hx => by cases hx)
theorem DupT.ext (h : DupT w P d c wr0 rd0 wr1 rd1 a0 a1) (hq : ∀ x, x < w.heap.size → P x → Q x) : DupT w Q d c wr0 rd0 wr1 rd1 a0 a1 := by
  obtain ⟨s0, s1, h1, h2, h3, h4⟩ := h.st
  exact ⟨hq _ (cell_lt h1) h.hd, ⟨s0, s1, h1, h2, h3.ext (fun x hx hp => ⟨hq x hx hp.1, hp.2⟩), h4.ext (fun x hx hp => ⟨hq x hx hp.1, hp.2⟩)⟩, h.cl0, h.cl1, h.fz⟩
theorem DupT.wide (h : DupT w P d c wr0 rd0 wr1 rd1 a0 a1) (hq : ∀ x, P x → Q x) : DupT w Q d c wr0 rd0 wr1 rd1 a0 a1 := h.ext (fun x _ hp => hq x hp)
end
theorem Fr.undrew {S : List Nat} {a b : World} {n : Nat} (h : Fr S (a.drewN n) b) : Fr S a b := ⟨h.os, h.tape, h.output, h.size, h.block⟩
theorem out_any (e : Int) (w : World) : Calls Tryz.prog 115 #[.int .i64 e] w fun r w' => r = .returned (.int .i64 e) ∧ ∃ n, w' = w.drewN n := by
  go_enter Tryz.func115, Tryz.ntmps115
  go_wp2
  go_ret
  exact ⟨rfl, 0, rfl⟩
theorem in_any (e : Int) (he : 0 ≤ e) (he' : e ≤ 1) (w : World) : Calls Tryz.prog 88 #[.int .i64 e] w fun r w' => r = .returned (.int .i64 (1 - e)) ∧ ∃ n, w' = w.drewN n := by
  go_enter Tryz.func88, Tryz.ntmps88
  go_wp2
  go_ret
  exact ⟨rfl, 0, rfl⟩

section
variable {P : Nat → Prop} {d c : Nat} {wr0 rd0 wr1 rd1 : Int} {a0 a1 : Bool} (w : World)

end
end Go.Proofs.YtmdhlodafjpnmaaGreat
namespace Go.Proofs.YtmdhlodafjpnmaaGreat
open Go.RowKit
open Go.Maps (Keyed)
set_option linter.unusedVariables false
set_option maxRecDepth 100000
set_option maxHeartbeats 4000000

section
variable {P : Nat → Prop} {d c : Nat} {a0 a1 : Bool} (w : World)

end
end Go.Proofs.YtmdhlodafjpnmaaGreat
namespace Go.Proofs.YtmdhlodafjpnmaaGreat
open Go.RowKit
open Go.Maps (Keyed)
set_option linter.unusedVariables false
set_option maxRecDepth 100000
set_option maxHeartbeats 4000000

section
variable {P : Nat → Prop} {n cm d c D N K : Nat} {conn : Int} {f1 f2 : List (Value × Value)} (w : World)

end
end Go.Proofs.YtmdhlodafjpnmaaGreat
