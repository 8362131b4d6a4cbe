/- Contracts of ring.New, stream.of, stream.New, duplex.both and duplex.New. -/
/- Contracts of numbered's add, over listeners and over connections. -/
/- Streams that hold nothing, with the codes of their ends: what closing an end makes of them. -/
/- Contracts of stream's shut at the reading end, CloseWrite and CloseRead, over a stream that holds nothing. -/
/- Connections whose streams hold nothing, with the codes of their ends; check, Closed, CloseWrite and CloseRead. -/
/- Contract of duplex's Close over a connection whose streams hold nothing. -/
/- Contract of listener's hang: an end of a connection is closed, and the connection is forgotten if both are. -/
import Derived.Test.YtgbmenfmaphciaaGreatNet
import Derived.Deep.OwnRows
import Derived.Deep.RegionWith
import Derived.Defers
import Derived.BigRegion
namespace Go.Proofs.YtgbmenfmaphciaaGreat
open Go.RowKit
open Go.Maps (Keyed)
set_option linter.unusedVariables false
theorem cell_new (w : World) (c : Array Value) (t : TypeId) (o : Nat) : (w.alloc (.cells c t)).cell? ⟨w.heap.size, o, none⟩ = c[o]? := by
 simp
structure Str0 (w : World) (lo : Nat) (s : Nat) (c : Nat) : Prop where
 le : lo ≤ s
 store : (c = 0 ∧ w.cell? ⟨s, 0, none⟩ = some (.iface 226 (.agg #[]))) ∨
  ∃ r b, lo ≤ r ∧ lo ≤ b ∧ 1 ≤ c ∧ c ≤ 4096 ∧ r < s ∧ b < s ∧ b ≠ r ∧ w.cell? ⟨s, 0, none⟩ = some (.iface 231 (.agg #[.pointer (some ⟨r, 0, none⟩)])) ∧
   w.cell? ⟨r, 0, none⟩ = some (.slice (some ⟨b, 0, none⟩) c c) ∧ w.cell? ⟨r, 1, none⟩ = some (.int .i64 0) ∧ w.cell? ⟨r, 2, none⟩ = some (.int .i64 0)
 busy : w.cell? ⟨s, 1, none⟩ = some (.bool false)
 rest0 : w.cell? ⟨s, 2, none⟩ = some (.slice none 0 0)
 rest1 : w.cell? ⟨s, 3, none⟩ = some (.int .i64 0)
 acc : w.cell? ⟨s, 4, none⟩ = some (.int .i64 0)
 cl0 : w.cell? ⟨s, 5, none⟩ = some (.int .i64 0)
 cl1 : w.cell? ⟨s, 6, none⟩ = some (.int .i64 0)
 fz : ∀ o, w.frozen? ⟨s, o, none⟩ = false
theorem Str0.keep {S : List Nat} {w w' : World} {lo s c : Nat} (h : Str0 w lo s c) (hf : Fr S w w') (hS : ∀ x ∈ S, x < lo) : Str0 w' lo s c :=
 have n : ∀ x, lo ≤ x → x ∉ S := fun x hx hm => by have := hS x hm; omega
 have ns := n s h.le
 ⟨h.le, by
  rcases h.store with ⟨h0, h1⟩ | ⟨r, b, l1, l2, h1, h2, h3, h4, h5, h6, h7, h8, h9⟩
  ·exact .inl ⟨h0, hf.keep h1 ns⟩
  ·exact .inr ⟨r, b, l1, l2, h1, h2, h3, h4, h5, hf.keep h6 ns, hf.keep h7 (n r l1), hf.keep h8 (n r l1), hf.keep h9 (n r l1)⟩,
   hf.keep h.busy ns, hf.keep h.rest0 ns, hf.keep h.rest1 ns, hf.keep h.acc ns, hf.keep h.cl0 ns, hf.keep h.cl1 ns, fun o => by rw [hf.frozen (cell_lt h.busy) ns]; exact h.fz o⟩
theorem Str0.new {w w' : World} {lo s c : Nat} (h : Str0 w lo s c) (hf : Fr [] w w') : Str0 w' lo s c := h.keep hf (by simp)
theorem Str0.less {w : World} {lo lo' s c : Nat} (h : Str0 w lo s c) (hl : lo' ≤ lo) : Str0 w lo' s c :=
 ⟨Nat.le_trans hl h.le, by
  rcases h.store with h0 | ⟨r, b, l1, l2, h1⟩
  ·exact .inl h0
  ·exact .inr ⟨r, b, Nat.le_trans hl l1, Nat.le_trans hl l2, h1⟩, h.busy, h.rest0, h.rest1, h.acc, h.cl0, h.cl1, h.fz⟩
theorem mkBytes (n : Nat) (h : n ≤ 4096) (w : World) : (Instr.makeSlice 93 (.int .i64 (n : Int)) (.int .i64 (n : Int))).run Tryz.prog w = .ok (.slice (some ⟨w.heap.size, 0, none⟩) n n) (w.alloc (.cells (madeCells #[.int .u8 0] n) 5)) :=
 run_make_row' 93 5 (.int .u8 0) 1 Tryz.underlying93 (by kernel_rfl) rfl _ _ n (by omega) (by omega) w
set_option maxRecDepth 100000 in
set_option maxHeartbeats 400000 in
theorem ringNew_ok (n : Nat) (h1 : ¬ ((n : Int) < 1)) (h2 : ¬ (4096 < (n : Int))) (w : World) :
  Calls Tryz.prog 131 #[.int .i64 n] w fun e w' => e = .returned (.tuple #[.pointer (some ⟨w.heap.size + 1, 0, none⟩), .int .i64 0]) ∧ w' = (w.alloc (.cells (madeCells #[.int .u8 0] n) 5)).alloc (.cells #[.slice (some ⟨w.heap.size, 0, none⟩) n n, .int .i64 0, .int .i64 0] 245) := by
 have hmk := mkBytes n (by omega) w
 go_enter Tryz.func131, Tryz.ntmps131
 go_wp2
 go_ret2
 exact ⟨rfl, rfl⟩
def ringW (w : World) (n : Nat) : World := (w.alloc (.cells (madeCells #[.int .u8 0] n) 5)).alloc (.cells #[.slice (some ⟨w.heap.size, 0, none⟩) n n, .int .i64 0, .int .i64 0] 245)
set_option maxRecDepth 100000 in
set_option maxHeartbeats 400000 in
theorem streamOf_ring (n : Nat) (h1 : ¬ ((n : Int) < 1)) (h2 : ¬ (4096 < (n : Int))) (w : World) :
  Calls Tryz.prog 110 #[.int .i64 n] w fun e w' => e = .returned (.iface 231 (.agg #[.pointer (some ⟨w.heap.size + 1, 0, none⟩)])) ∧ w' = ringW w n := by
 have h0 : ((n : Int) == 0) = false := by simp; omega
 go_enter Tryz.func110, Tryz.ntmps110
 go_wp2_with (go_at_call 131; refine (ringNew_ok n h1 h2 _).mono ?_; rintro e w' ⟨rfl, rfl⟩)
 go_ret
 exact ⟨rfl, rfl⟩
set_option maxRecDepth 100000 in
set_option maxHeartbeats 400000 in
theorem streamOf_direct (w : World) :
  Calls Tryz.prog 110 #[.int .i64 0] w fun e w' => e = .returned (.iface 226 (.agg #[])) ∧ w' = w := by
 go_enter Tryz.func110, Tryz.ntmps110
 go_wp2
 go_ret
 exact ⟨rfl, rfl⟩
set_option maxRecDepth 100000 in
set_option maxHeartbeats 400000 in
theorem streamNew_ring (n : Nat) (h1 : ¬ ((n : Int) < 1)) (h2 : ¬ (4096 < (n : Int))) (w : World) :
  Calls Tryz.prog 77 #[.int .i64 n] w fun e w' => e = .returned (.tuple #[.pointer (some ⟨w.heap.size + 2, 0, none⟩), .int .i64 0]) ∧ w' = (ringW w n).alloc (.cells #[.iface 231 (.agg #[.pointer (some ⟨w.heap.size + 1, 0, none⟩)]), .bool false, .slice none 0 0, .int .i64 0, .int .i64 0, .int .i64 0, .int .i64 0] 208) := by
 have h0 : ¬ ((n : Int) < 0) := by omega
 have hs : (ringW w n).heap.size = w.heap.size + 2 := by simp [ringW]
 go_enter Tryz.func77, Tryz.ntmps77
 go_wp2_with (go_at_call 110; refine (streamOf_ring n h1 h2 _).mono ?_; rintro e w' ⟨rfl, rfl⟩)
 go_ret2
 exact ⟨rfl, rfl⟩
set_option maxRecDepth 100000 in
set_option maxHeartbeats 400000 in
theorem streamNew_direct (w : World) :
  Calls Tryz.prog 77 #[.int .i64 0] w fun e w' => e = .returned (.tuple #[.pointer (some ⟨w.heap.size, 0, none⟩), .int .i64 0]) ∧ w' = w.alloc (.cells #[.iface 226 (.agg #[]), .bool false, .slice none 0 0, .int .i64 0, .int .i64 0, .int .i64 0, .int .i64 0] 208) := by
 go_enter Tryz.func77, Tryz.ntmps77
 go_wp2_with (go_at_call 110; refine (streamOf_direct _).mono ?_; rintro e w' ⟨rfl, rfl⟩)
 go_ret2
 exact ⟨rfl, rfl⟩
set_option maxRecDepth 100000 in
set_option maxHeartbeats 400000 in
theorem streamNew_bad (n : Int) (h : n < 0 ∨ 4096 < n) (w : World) :
  Calls Tryz.prog 77 #[.int .i64 n] w fun e w' => e = .returned (.tuple #[.pointer none, .int .i64 2]) ∧ w' = w := by
 go_enter Tryz.func77, Tryz.ntmps77
 go_wp2 <;> first | (go_ret2; exact ⟨rfl, rfl⟩) | (exfalso; simp only [Bool.not_eq_false', decide_eq_true_eq, decide_eq_false_iff_not] at *; omega)
theorem streamNew_ok (c : Nat) (h : c ≤ 4096) (w : World) :
  Calls Tryz.prog 77 #[.int .i64 c] w fun e w' => ∃ s, e = .returned (.tuple #[.pointer (some ⟨s, 0, none⟩), .int .i64 0]) ∧ Str0 w' w.heap.size s c ∧ Fr [] w w' := by
 by_cases h0 : c = 0
 ·subst h0
  refine (streamNew_direct w).mono ?_
  rintro e w' ⟨rfl, rfl⟩
  exact ⟨_, rfl, ⟨Nat.le_refl _, .inl ⟨rfl, by simp⟩, by simp, by simp, by simp, by simp, by simp, by simp, fun o => by simp⟩, (Fr.refl [] w).alloc _⟩
 ·refine (streamNew_ring c (by omega) (by omega) w).mono ?_
  rintro e w' ⟨rfl, rfl⟩
  have hs : (ringW w c).heap.size = w.heap.size + 2 := by simp [ringW]
  have f0 : Fr [] w (ringW w c) := ((Fr.refl [] w).alloc _).alloc _
  have hr : ∀ o v, (#[Value.slice (some ⟨w.heap.size, 0, none⟩) c c, .int .i64 0, .int .i64 0] : Array Value)[o]? = some v → (ringW w c).cell? ⟨w.heap.size + 1, o, none⟩ = some v := fun o v hv => netCell _ _ _ o rfl (by simp) hv
  have fr : ∀ (t : Nat) (ob : Obj), Fr [] (ringW w c) ((ringW w c).alloc ob) := fun _ ob => (Fr.refl [] _).alloc _
  rw [← hs]
  refine ⟨_, rfl, ⟨by omega, .inr ⟨w.heap.size + 1, w.heap.size, by omega, by omega, by omega, h, by omega, by omega, by omega, by rw [cell_new]; rfl, (fr 0 _).keep (hr 0 _ rfl) (by simp), (fr 0 _).keep (hr 1 _ rfl) (by simp), (fr 0 _).keep (hr 2 _ rfl) (by simp)⟩, ?_, ?_, ?_, ?_, ?_, ?_, fun o => by simp⟩, f0.alloc _⟩ <;> (rw [cell_new]; rfl)
set_option maxRecDepth 100000 in
set_option maxHeartbeats 2000000 in
theorem both_ok (c : Nat) (h : c ≤ 4096) (w : World) :
  Calls Tryz.prog 76 #[.agg #[.int .i64 c, .int .i64 c], .func (.func 77) #[] #[]] w fun e w' => ∃ s0 s1, e = .returned (.tuple #[.agg #[.pointer (some ⟨s0, 0, none⟩), .pointer (some ⟨s1, 0, none⟩)], .int .i64 0]) ∧ Str0 w' w.heap.size s0 c ∧ Str0 w' (s0 + 1) s1 c ∧ Fr [] w w' := by
 go_enter Tryz.func76, Tryz.ntmps76
 go_wp2
 go_loopw [9, 5] (fun i e wr => ∃ (k : Int) (s0 s1 : Nat) (v0 v1 : Value), i = .int .i64 k ∧ 0 ≤ k ∧ k ≤ 2 ∧ e = .int .i64 0 ∧ wr.cell? ⟨w.heap.size + 1, 0, none⟩ = some v0 ∧ wr.cell? ⟨w.heap.size + 1, 1, none⟩ = some v1 ∧ (∀ o, wr.frozen? ⟨w.heap.size + 1, o, none⟩ = false) ∧ Fr [] w wr ∧ w.heap.size + 2 ≤ wr.heap.size ∧
  (1 ≤ k → v0 = .pointer (some ⟨s0, 0, none⟩) ∧ Str0 wr (w.heap.size + 2) s0 c ∧ s0 < wr.heap.size) ∧ (2 ≤ k → v1 = .pointer (some ⟨s1, 0, none⟩) ∧ Str0 wr (s0 + 1) s1 c)) (fun i _ _ => 2 - (intOf i).toNat)
 case atStart =>
  exact ⟨0, 0, 0, .pointer none, .pointer none, rfl, by omega, by omega, rfl, by simp, by simp, by simp, ((Fr.refl [] w).alloc _).alloc _, by simp, by omega, by omega⟩
 case round =>
  obtain ⟨k, s0, s1, v0, v1, rfl, hk', hk, rfl, k0, k1, hfz, fr, hsz, p0, p1⟩ := hrel
  have P0 := Lib.hid p0
  have P1 := Lib.hid p1
  clear p0 p1
  have hk3 : k = 0 ∨ k = 1 ∨ k = 2 := by omega
  have hbl := cell_lt k0
  have hix : ∀ W : World, (Instr.index 162 (.agg #[.int .i64 c, .int .i64 c]) (.int .i64 0)).run Tryz.prog W = .ok (.int .i64 c) W := fun W => by kernel_rfl
  have hix1 : ∀ W : World, (Instr.index 162 (.agg #[.int .i64 c, .int .i64 c]) (.int .i64 1)).run Tryz.prog W = .ok (.int .i64 c) W := fun W => by kernel_rfl
  rcases hk3 with rfl | rfl | rfl
  ·go_wp2_with (go_at_call 77; refine (streamNew_ok c h _).mono ?_; rintro e w1 ⟨s, rfl, hs, f1⟩; have j0 := f1.keep k0 (by simp); have j1 := f1.keep k1 (by simp); have jf : ∀ o, w1.frozen? ⟨w.heap.size + 1, o, none⟩ = false := (fun o => by rw [f1.frozen hbl (by simp)]; exact hfz o))
   have fs : Fr [w.heap.size + 1] w1 (w1.setCell ⟨w.heap.size + 1, 0, none⟩ (.pointer (some ⟨s, 0, none⟩))) := (Fr.refl _ _).setCell (fun _ => by simp) _
   have gs : Fr [] w (w1.setCell ⟨w.heap.size + 1, 0, none⟩ (.pointer (some ⟨s, 0, none⟩))) := (fr.step f1).trans fs (fun x hx hl => by simp at hx; omega)
   have z1 := f1.size
   have z2 := fs.size
   have z3 := cell_lt hs.busy
   have z4 : w.heap.size + 2 ≤ s := Nat.le_trans hsz hs.le
   have hs' := (hs.less hsz).keep fs (fun x hx => by simp at hx; omega)
   go_roundw
   case rel => exact ⟨1, s, 0, .pointer (some ⟨s, 0, none⟩), v1, rfl, by omega, by omega, rfl, by simp [World.cell?_setCell_same _ _ _ j0], (World.cell?_setCell_other _ _ _ _ (by simp)).trans j1, fun o => by simpa using jf o, gs, by omega, fun _ => ⟨rfl, hs', by omega⟩, by omega⟩
   case measure => simp [intOf]
  ·go_wp2_with (go_at_call 77; refine (streamNew_ok c h _).mono ?_; rintro e w1 ⟨s, rfl, hs, f1⟩; have j0 := f1.keep k0 (by simp); have j1 := f1.keep k1 (by simp); have jf : ∀ o, w1.frozen? ⟨w.heap.size + 1, o, none⟩ = false := (fun o => by rw [f1.frozen hbl (by simp)]; exact hfz o))
   have fs : Fr [w.heap.size + 1] w1 (w1.setCell ⟨w.heap.size + 1, 1, none⟩ (.pointer (some ⟨s, 0, none⟩))) := (Fr.refl _ _).setCell (fun _ => by simp) _
   have gs : Fr [] w (w1.setCell ⟨w.heap.size + 1, 1, none⟩ (.pointer (some ⟨s, 0, none⟩))) := (fr.step f1).trans fs (fun x hx hl => by simp at hx; omega)
   have z1 := f1.size
   have z2 := fs.size
   have z3 := cell_lt hs.busy
   have z4 : w.heap.size + 2 ≤ s := Nat.le_trans hsz hs.le
   have hs' := (hs.less hsz).keep fs (fun x hx => by simp at hx; omega)
   go_roundw
   case rel => 
    obtain ⟨rfl, q0, q1⟩ := P0.out (by omega)
    refine ⟨2, s0, s, .pointer (some ⟨s0, 0, none⟩), .pointer (some ⟨s, 0, none⟩), rfl, by omega, by omega, rfl, (World.cell?_setCell_other _ _ _ _ (by simp)).trans j0, by simp [World.cell?_setCell_same _ _ _ j1], fun o => by simpa using jf o, gs, by omega, fun _ => ⟨rfl, (q0.new f1).keep fs (fun x hx => by simp at hx; omega), by omega⟩, fun _ => ⟨rfl, ?_⟩⟩
    exact (hs.less (by omega)).keep fs (fun x hx => by simp at hx; have := q0.le; omega)
   case measure => simp [intOf]
  ·obtain ⟨rfl, q0, q1⟩ := P0.out (by omega)
   obtain ⟨rfl, q2⟩ := P1.out (by omega)
   go_wp2
   have fs : Fr [w.heap.size + 1] wr ((wr.setCell ⟨w.heap.size + 1, 0, none⟩ (.pointer (some ⟨s0, 0, none⟩))).setCell ⟨w.heap.size + 1, 1, none⟩ (.pointer (some ⟨s1, 0, none⟩))) := ((Fr.refl _ _).setCell (fun _ => by simp) _).setCell (fun _ => by simp) _
   refine bodyPost_ret (v := .tuple #[.agg #[.pointer (some ⟨s0, 0, none⟩), .pointer (some ⟨s1, 0, none⟩)], .int .i64 0]) (by simp [results, Tryz.results76, go_sem, k0, k1]) rfl ⟨s0, s1, rfl, ?_, ?_, ?_⟩
   ·exact (q0.keep fs (fun x hx => by simp at hx; omega)).less (by omega)
   ·exact q2.keep fs (fun x hx => by simp at hx; have := q0.le; omega)
   ·exact fr.trans fs (fun x hx hl => by simp at hx; omega)
set_option maxRecDepth 100000 in
set_option maxHeartbeats 2000000 in
theorem both_bad (c : Int) (h : c < 0 ∨ 4096 < c) (w : World) :
  Calls Tryz.prog 76 #[.agg #[.int .i64 c, .int .i64 c], .func (.func 77) #[] #[]] w fun e w' => e = .returned (.tuple #[.agg #[.pointer none, .pointer none], .int .i64 2]) ∧ Fr [] w w' := by
 have hix : ∀ W : World, (Instr.index 162 (.agg #[.int .i64 c, .int .i64 c]) (.int .i64 0)).run Tryz.prog W = .ok (.int .i64 c) W := fun W => by kernel_rfl
 go_enter Tryz.func76, Tryz.ntmps76
 go_wp2
 go_loopw [9, 5] (fun i e wr => i = .int .i64 0 ∧ wr.cell? ⟨w.heap.size + 1, 0, none⟩ = some (.pointer none) ∧ wr.cell? ⟨w.heap.size + 1, 1, none⟩ = some (.pointer none) ∧ (∀ o, wr.frozen? ⟨w.heap.size + 1, o, none⟩ = false) ∧ Fr [] w wr) (fun i _ _ => 0)
 case atStart => exact ⟨rfl, by simp, by simp, by simp, ((Fr.refl [] w).alloc _).alloc _⟩
 case round =>
  obtain ⟨rfl, k0, k1, hfz, fr⟩ := hrel
  go_wp2_with (go_at_call 77; refine (streamNew_bad c h _).mono ?_; rintro e w1 ⟨rfl, rfl⟩)
  refine bodyPost_ret (v := .tuple #[.agg #[.pointer none, .pointer none], .int .i64 2]) (by simp [results, Tryz.results76, go_sem, k0, k1]) rfl ⟨rfl, ?_⟩
  exact ((fr.setCell (by simp) _).setCell (by simp) _).setCell (by simp) _
structure Dup0 (w : World) (lo d c : Nat) : Prop where
 st : ∃ s0 s1, lo ≤ d ∧ w.cell? ⟨d, 0, none⟩ = some (.pointer (some ⟨s0, 0, none⟩)) ∧ w.cell? ⟨d, 1, none⟩ = some (.pointer (some ⟨s1, 0, none⟩)) ∧ Str0 w lo s0 c ∧ Str0 w (s0 + 1) s1 c ∧ s1 < d
 cl0 : w.cell? ⟨d, 2, none⟩ = some (.bool false)
 cl1 : w.cell? ⟨d, 3, none⟩ = some (.bool false)
 fz : ∀ o, w.frozen? ⟨d, o, none⟩ = false
theorem Dup0.keep {S : List Nat} {w w' : World} {lo d c : Nat} (h : Dup0 w lo d c) (hf : Fr S w w') (hS : ∀ x ∈ S, x < lo) : Dup0 w' lo d c := by
 obtain ⟨⟨s0, s1, h1, h2, h3, h4, h5, h6⟩, h7, h8, h9⟩ := h
 have nd : d ∉ S := fun hm => by have := hS d hm; omega
 have := h4.le
 exact ⟨⟨s0, s1, h1, hf.keep h2 nd, hf.keep h3 nd, h4.keep hf hS, h5.keep hf (fun x hx => by have := hS x hx; omega), h6⟩, hf.keep h7 nd, hf.keep h8 nd, fun o => by rw [hf.frozen (cell_lt h2) nd]; exact h9 o⟩
theorem Dup0.less {w : World} {lo lo' d c : Nat} (h : Dup0 w lo d c) (hl : lo' ≤ lo) : Dup0 w lo' d c := by
 obtain ⟨⟨s0, s1, h1, h2, h3, h4, h5, h6⟩, h7, h8, h9⟩ := h
 exact ⟨⟨s0, s1, by omega, h2, h3, h4.less hl, h5, h6⟩, h7, h8, h9⟩
set_option maxRecDepth 100000 in
set_option maxHeartbeats 2000000 in
theorem dupNew_ok (c : Nat) (h : c ≤ 4096) (w : World) :
  Calls Tryz.prog 36 #[.int .i64 c, .int .i64 c] w fun e w' => ∃ d, e = .returned (.tuple #[.pointer (some ⟨d, 0, none⟩), .int .i64 0]) ∧ Dup0 w' w.heap.size d c ∧ Fr [] w w' := by
 go_enter Tryz.func36, Tryz.ntmps36
 go_wp2_with (go_at_call 76; refine (both_ok c h _).mono ?_; rintro e w1 ⟨s0, s1, rfl, h0, h1, f1⟩)
 have f2 : Fr [] w1 ((w1.alloc (.cells #[.pointer (some ⟨s0, 0, none⟩), .pointer (some ⟨s1, 0, none⟩)] 159)).alloc (.cells #[.pointer (some ⟨s0, 0, none⟩), .pointer (some ⟨s1, 0, none⟩), .bool false, .bool false] 165)) := ((Fr.refl _ _).alloc _).alloc _
 have z0 := cell_lt h0.busy
 have z1 := cell_lt h1.busy
 have z2 := f1.size
 go_ret2
 refine ⟨w1.heap.size + 1, rfl, ⟨⟨s0, s1, by omega, by simp, by simp, h0.new f2, h1.new f2, by omega⟩, by simp, by simp, fun o => by simp⟩, f1.step f2⟩
set_option maxRecDepth 100000 in
set_option maxHeartbeats 2000000 in
theorem dupNew_bad (c : Int) (h : c < 0 ∨ 4096 < c) (w : World) :
  Calls Tryz.prog 36 #[.int .i64 c, .int .i64 c] w fun e w' => e = .returned (.tuple #[.pointer none, .int .i64 2]) ∧ Fr [] w w' := by
 go_enter Tryz.func36, Tryz.ntmps36
 go_wp2_with (go_at_call 76; refine (both_bad c h _).mono ?_; rintro e w1 ⟨rfl, f1⟩)
 go_ret2
 exact ⟨rfl, f1.alloc _⟩
def qV (b : Nat) (s : ByteArray) (p : Int) : Value := .agg #[.pointer (some ⟨b, 0, none⟩), .string s, .int .i64 p]
theorem zeroQ (w : World) : (zeroValue 130).run Tryz.prog w = .ok (.agg #[.pointer none, .string ⟨#[]⟩, .int .i64 0]) w := by kernel_rfl
theorem zeroD (w : World) : (zeroValue 103).run Tryz.prog w = .ok (.pointer none) w := by kernel_rfl
set_option maxRecDepth 100000 in
set_option maxHeartbeats 2000000 in
theorem addD (m : Nat) (f : List (Value × Value)) (k d : Nat) (w : World) (h : MapIs Tryz.prog 3 w m f) (hk : ∀ j : Nat, j < k → ∃ d', (.int .i64 j, .pointer (some ⟨d', 0, none⟩)) ∈ f) (hx : ∀ p ∈ f, p.1 ≠ .int .i64 k) (hk' : k ≤ 100000) :
  Calls Tryz.prog 133 #[.map (some m), .pointer (some ⟨d, 0, none⟩)] w fun e w' => e = .returned (.int .i64 k) ∧ MapIs Tryz.prog 3 w' m (f ++ [(.int .i64 k, .pointer (some ⟨d, 0, none⟩))]) ∧ Fr [m] w w' := by
 have HK := Lib.hid hk
 have HX := Lib.hid hx
 clear hk hx
 go_enter Tryz.func133, Tryz.ntmps133
 go_wp2
 go_loopw [5] (fun i wr => ∃ j : Nat, i = .int .i64 j ∧ j ≤ k ∧ MapIs Tryz.prog 3 wr m f ∧ Fr [] w wr) (fun i _ => k - (intOf i).toNat)
 case atStart => exact ⟨0, rfl, by omega, h, Fr.refl _ _⟩
 case round =>
  obtain ⟨j, rfl, hj, hm, fr⟩ := hrel
  by_cases hlt : j < k
  ·obtain ⟨d', hd⟩ := HK.out j hlt
   have hl : (Instr.lookup 90 (.map (some m)) (.int .i64 j) true).run Tryz.prog wr = .ok (.tuple #[.pointer (some ⟨d', 0, none⟩), .bool true]) wr := hm.hit keyInt (t := 90) (e := 103) Tryz.underlying90 hd true
   clear hd
   go_wp2
   go_roundw
   case rel => exact ⟨j + 1, by go_num, by omega, hm, fr⟩
   case measure => simp [intOf]; omega
  ·obtain rfl : j = k := by omega
   have hl : (Instr.lookup 90 (.map (some m)) (.int .i64 j) true).run Tryz.prog wr = .ok (.tuple #[.pointer none, .bool false]) wr := hm.miss keyInt (t := 90) (e := 103) Tryz.underlying90 (keyInt_of j (by omega) (by omega)) HX.out (zeroD _) true
   obtain ⟨w2, hrun, hm2, f2⟩ := hm.put keyInt (t := 90) (e := 103) Tryz.underlying90 (keyInt_of j (by omega) (by omega)) HX.out (.pointer (some ⟨d, 0, none⟩))
   go_wp2
   go_ret
   exact ⟨rfl, hm2, (fr.mono (fun x hx => by cases hx)).trans f2 (fun x hx _ => hx)⟩
set_option maxRecDepth 100000 in
set_option maxHeartbeats 2000000 in
theorem addQ (m : Nat) (f : List (Value × Value)) (k b : Nat) (s : ByteArray) (p : Int) (w : World) (h : MapIs Tryz.prog 3 w m f) (hk : ∀ j : Nat, j < k → ∃ b' s' p', (.int .i64 j, qV b' s' p') ∈ f) (hx : ∀ p ∈ f, p.1 ≠ .int .i64 k) (hk' : k ≤ 100000) :
  Calls Tryz.prog 52 #[.map (some m), qV b s p] w fun e w' => e = .returned (.int .i64 k) ∧ MapIs Tryz.prog 3 w' m (f ++ [(.int .i64 k, qV b s p)]) ∧ Fr [m] w w' := by
 have HK := Lib.hid hk
 have HX := Lib.hid hx
 have hmlt := h.lt
 clear hk hx
 unfold qV
 go_enter Tryz.func52, Tryz.ntmps52
 go_wp2
 go_loopw [5] (fun i wr => ∃ j : Nat, i = .int .i64 j ∧ j ≤ k ∧ MapIs Tryz.prog 3 wr m f ∧ Fr [] w wr ∧ wr.cell? ⟨w.heap.size, 0, none⟩ = some (.pointer (some ⟨b, 0, none⟩)) ∧ wr.cell? ⟨w.heap.size, 1, none⟩ = some (.string s) ∧ wr.cell? ⟨w.heap.size, 2, none⟩ = some (.int .i64 p)) (fun i _ => k - (intOf i).toNat)
 case atStart => exact ⟨0, rfl, by omega, h.keep ((Fr.refl [] _).alloc _) (by simp), (Fr.refl [] _).alloc _, by simp, by simp, by simp⟩
 case round =>
  obtain ⟨j, rfl, hj, hm, fr, k0, k1, k2⟩ := hrel
  by_cases hlt : j < k
  ·obtain ⟨b', s', p', hd⟩ := HK.out j hlt
   have hl : (Instr.lookup 88 (.map (some m)) (.int .i64 j) true).run Tryz.prog wr = .ok (.tuple #[.agg #[.pointer (some ⟨b', 0, none⟩), .string s', .int .i64 p'], .bool true]) wr := hm.hit keyInt (t := 88) (e := 130) Tryz.underlying88 hd true
   clear hd
   have f1 : Fr [] wr (wr.alloc (.cells #[.pointer (some ⟨b', 0, none⟩), .string s', .int .i64 p'] 130)) := (Fr.refl [] _).alloc _
   go_wp2
   go_roundw
   case rel => exact ⟨j + 1, by go_num, by omega, hm.keep f1 (by simp), fr.step f1, f1.keep k0 (by simp), f1.keep k1 (by simp), f1.keep k2 (by simp)⟩
   case measure => simp [intOf]; omega
  ·obtain rfl : j = k := by omega
   have hl : (Instr.lookup 88 (.map (some m)) (.int .i64 j) true).run Tryz.prog wr = .ok (.tuple #[.agg #[.pointer none, .string ⟨#[]⟩, .int .i64 0], .bool false]) wr := hm.miss keyInt (t := 88) (e := 130) Tryz.underlying88 (keyInt_of j (by omega) (by omega)) HX.out (zeroQ _) true
   have f1 : Fr [] wr (wr.alloc (.cells #[.pointer none, .string ⟨#[]⟩, .int .i64 0] 130)) := (Fr.refl [] _).alloc _
   have j0 := f1.keep k0 (by simp)
   have j1 := f1.keep k1 (by simp)
   have j2 := f1.keep k2 (by simp)
   obtain ⟨w2, hrun, hm2, f2⟩ := (hm.keep f1 (by simp)).put keyInt (t := 88) (e := 130) Tryz.underlying88 (keyInt_of j (by omega) (by omega)) HX.out (.agg #[.pointer (some ⟨b, 0, none⟩), .string s, .int .i64 p])
   go_wp2
   go_ret
   exact ⟨rfl, hm2, ((fr.step f1).mono (fun x hx => by cases hx)).trans f2 (fun x hx _ => hx)⟩
set_option maxRecDepth 100000
set_option maxHeartbeats 4000000
structure StrS (w : World) (P : Nat → Prop) (s c : Nat) (wr rd : Int) : Prop where
 hs : P s
 store : (c = 0 ∧ w.cell? ⟨s, 0, none⟩ = some (.iface 226 (.agg #[]))) ∨
  ∃ r b, P r ∧ (P b ∧ b < w.heap.size) ∧ 1 ≤ c ∧ c ≤ 4096 ∧ r ≠ s ∧ b ≠ s ∧ b ≠ r ∧ w.cell? ⟨s, 0, none⟩ = some (.iface 231 (.agg #[.pointer (some ⟨r, 0, none⟩)])) ∧
   w.cell? ⟨r, 0, none⟩ = some (.slice (some ⟨b, 0, none⟩) c c) ∧ w.cell? ⟨r, 1, none⟩ = some (.int .i64 0) ∧ w.cell? ⟨r, 2, none⟩ = some (.int .i64 0)
 busy : w.cell? ⟨s, 1, none⟩ = some (.bool false)
 rest0 : w.cell? ⟨s, 2, none⟩ = some (.slice none 0 0)
 rest1 : w.cell? ⟨s, 3, none⟩ = some (.int .i64 0)
 acc : w.cell? ⟨s, 4, none⟩ = some (.int .i64 0)
 cl0 : w.cell? ⟨s, 5, none⟩ = some (.int .i64 wr)
 cl1 : w.cell? ⟨s, 6, none⟩ = some (.int .i64 rd)
 fz : ∀ o, w.frozen? ⟨s, o, none⟩ = false
theorem StrS.keep {S : List Nat} {w w' : World} {P : Nat → Prop} {s c : Nat} {wr rd : Int} (h : StrS w P s c wr rd) (hf : Fr S w w') (hS : ∀ x ∈ S, ¬ P x) : StrS w' P s c wr rd :=
 have n : ∀ x, P x → x ∉ S := fun x hx hm => hS x hm hx
 have ns := n s h.hs
 ⟨h.hs, by
  rcases h.store with ⟨h0, h1⟩ | ⟨r, b, l1, l2, h1, h2, h3, h4, h5, h6, h7, h8, h9⟩
  ·exact .inl ⟨h0, hf.keep h1 ns⟩
  ·exact .inr ⟨r, b, l1, ⟨l2.1, Nat.lt_of_lt_of_le l2.2 hf.size⟩, h1, h2, h3, h4, h5, hf.keep h6 ns, hf.keep h7 (n r l1), hf.keep h8 (n r l1), hf.keep h9 (n r l1)⟩,
   hf.keep h.busy ns, hf.keep h.rest0 ns, hf.keep h.rest1 ns, hf.keep h.acc ns, hf.keep h.cl0 ns, hf.keep h.cl1 ns, fun o => by rw [hf.frozen (cell_lt h.busy) ns]; exact h.fz o⟩
theorem StrS.new {w w' : World} {P : Nat → Prop} {s c : Nat} {wr rd : Int} (h : StrS w P s c wr rd) (hf : Fr [] w w') : StrS w' P s c wr rd := h.keep hf (by simp)
theorem StrS.ext {w : World} {P Q : Nat → Prop} {s c : Nat} {wr rd : Int} (h : StrS w P s c wr rd) (hq : ∀ x, x < w.heap.size → P x → Q x) : StrS w Q s c wr rd :=
 ⟨hq _ (cell_lt h.busy) h.hs, by
  rcases h.store with h0 | ⟨r, b, l1, l2, h1, h2, h3, h4, h5, h6, h7, h8⟩
  ·exact .inl h0
  ·exact .inr ⟨r, b, hq _ (cell_lt h7) l1, ⟨hq _ l2.2 l2.1, l2.2⟩, h1, h2, h3, h4, h5, h6, h7, h8⟩, h.busy, h.rest0, h.rest1, h.acc, h.cl0, h.cl1, h.fz⟩
theorem StrS.wide {w : World} {P Q : Nat → Prop} {s c : Nat} {wr rd : Int} (h : StrS w P s c wr rd) (hq : ∀ x, P x → Q x) : StrS w Q s c wr rd :=
 ⟨hq _ h.hs, by
  rcases h.store with h0 | ⟨r, b, l1, l2, h1⟩
  ·exact .inl h0
  ·exact .inr ⟨r, b, hq _ l1, ⟨hq _ l2.1, l2.2⟩, h1⟩, h.busy, h.rest0, h.rest1, h.acc, h.cl0, h.cl1, h.fz⟩
theorem StrS.of0 {w : World} {lo s c : Nat} (h : Str0 w lo s c) : StrS w (fun x => lo ≤ x ∧ x ≤ s) s c 0 0 :=
 ⟨⟨h.le, Nat.le_refl _⟩, by
  rcases h.store with h0 | ⟨r, b, l1, l2, h1, h2, h3, h4, h5, h6⟩
  ·exact .inl h0
  ·exact .inr ⟨r, b, ⟨l1, Nat.le_of_lt h3⟩, ⟨⟨l2, Nat.le_of_lt h4⟩, Nat.lt_trans h4 (cell_lt h.busy)⟩, h1, h2, Nat.ne_of_lt h3, Nat.ne_of_lt h4, h5, h6⟩, h.busy, h.rest0, h.rest1, h.acc, h.cl0, h.cl1, h.fz⟩
theorem streamNone_any {P : Nat → Prop} {s c : Nat} {wr rd : Int} (w : World) (h : StrS w P s c wr rd) :
  Calls Tryz.prog 129 #[.pointer (some ⟨s, 0, none⟩)] w fun e w' => e = .returned (.bool false) ∧ w = w' := by
 rcases h.store with ⟨_, h1⟩ | ⟨r, b, _, _, _, _, _, _, _, h1, _⟩
 ·go_enter Tryz.func129, Tryz.ntmps129
  go_wp2
  go_ret
  exact ⟨rfl, rfl⟩
 ·go_enter Tryz.func129, Tryz.ntmps129
  go_wp2
  go_ret
  exact ⟨rfl, rfl⟩
theorem keyEnd : Keyed Tryz.prog 224 := Maps.int_keyed Tryz.underlying224
theorem keyEnd_of (x : Int) (h0 : 0 ≤ x) (h1 : x ≤ 9) : keyOf Tryz.prog 224 (.int .i64 x) = some (.int .i64 x) :=
 Maps.keyOf_int_mk Tryz.underlying224 (by simp [Lit.wf, IntKind.min, IntKind.max, IntKind.signed, IntKind.bits]; omega)
theorem zeroFn (w : World) : (zeroValue 1).run Tryz.prog w = .ok .nilFunc w := by kernel_rfl
theorem shut_write {P : Nat → Prop} {s c : Nat} {rd : Int} (w : World) (h : StrS w P s c 0 rd) :
  Calls Tryz.prog 146 #[.pointer (some ⟨s, 0, none⟩), .int .i64 0, .int .i64 13] w fun e w' => e = .returned (.int .i64 0) ∧ StrS w' P s c 13 rd ∧ Fr [s] w w' := by
 have hmm := @run_makeMap Tryz.prog
 have c5 := h.cl0
 have z5 := h.fz 5
 have HN := Lib.hid (streamNone_any w h)
 have zs := cell_lt c5
 have fs : Fr [s] w (w.setCell ⟨s, 5, none⟩ (.int .i64 13)) := (Fr.refl _ _).setCell (fun _ => by simp) _
 have hsz : (w.setCell ⟨s, 5, none⟩ (.int .i64 13)).heap.size = w.heap.size := by simp
 obtain ⟨w2, hrun, hm2, f2⟩ := (MapIs.made Tryz.prog 224 (w.setCell ⟨s, 5, none⟩ (.int .i64 13))).put keyEnd (t := 260) (e := 1) Tryz.underlying260 (x := .int .i64 1) (keyEnd_of 1 (by omega) (by omega)) (by simp) (.func (.func 160) #[.pointer (some ⟨s, 0, none⟩)] #[])
 have hlk := hm2.miss keyEnd (t := 260) (e := 1) Tryz.underlying260 (x := .int .i64 0) (keyEnd_of 0 (by omega) (by omega)) (by simp) (zeroFn w2) false
 simp only [Bool.false_eq_true, if_false] at hlk
 rw [hsz] at hrun hlk f2
 have fm : Fr [] (w.setCell ⟨s, 5, none⟩ (.int .i64 13)) w2 := Fr.trans (S := []) (T := [w.heap.size]) ((Fr.refl [] _).alloc _) f2 (fun x hx hlt => by simp at hx hlt; omega)
 have HB := Lib.hid h
 have hnf : ∀ W : World, (binOp .neq 1 .nilFunc .nilFunc).run Tryz.prog W = .ok (.bool false) W := fun W => by kernel_rfl
 clear h hm2
 go_enter Tryz.func146, Tryz.ntmps146
 go_wp2_with (go_at_call 129; refine HN.out.mono ?_; rintro e w' ⟨rfl, rfl⟩)
 go_ret
 have h := HB.out
 have o0 : ∀ (b o : Nat) (v : Value), w.cell? ⟨b, o, none⟩ = some v → (b ≠ s ∨ o ≠ 5) → w2.cell? ⟨b, o, none⟩ = some v := fun b o v hv hne => fm.keep (by rw [World.cell?_setCell_other _ _ _ _ (by simp; omega)]; exact hv) (by simp)
 refine ⟨rfl, ⟨h.hs, ?_, o0 _ _ _ h.busy (.inr (by decide)), o0 _ _ _ h.rest0 (.inr (by decide)), o0 _ _ _ h.rest1 (.inr (by decide)), o0 _ _ _ h.acc (.inr (by decide)), fm.keep (World.cell?_setCell_same _ _ _ c5) (by simp), o0 _ _ _ h.cl1 (.inr (by decide)), fun o => by rw [fm.frozen (by simpa using zs) (by simp)]; simp [h.fz o]⟩, fs.step fm⟩
 rcases h.store with ⟨h0, h1⟩ | ⟨r, b, l1, l2, h1, h2, h3, h4, h5, h6, h7, h8, h9⟩
 ·exact .inl ⟨h0, o0 _ _ _ h1 (.inr (by decide))⟩
 ·exact .inr ⟨r, b, l1, ⟨l2.1, Nat.lt_of_lt_of_le l2.2 (fs.step fm).size⟩, h1, h2, h3, h4, h5, o0 _ _ _ h6 (.inr (by decide)), o0 _ _ _ h7 (.inl h3), o0 _ _ _ h8 (.inl h3), o0 _ _ _ h9 (.inl h3)⟩
theorem neB (W : World) (b c : Nat) : (binOp .eql 93 (.slice (some ⟨b, 0, none⟩) c c) (.slice none 0 0)).run Tryz.prog W = .ok (.bool false) W :=
 Lib.run_eql_slice_nil W _ _ (some ⟨b, 0, none⟩) c c 0 0 Tryz.underlying93
theorem ringCap_any (r b c : Nat) (w : World) (h : w.cell? ⟨r, 0, none⟩ = some (.slice (some ⟨b, 0, none⟩) c c)) :
  Calls Tryz.prog 190 #[.pointer (some ⟨r, 0, none⟩)] w fun e w' => e = .returned (.int .i64 c) ∧ w = w' := by
 have hnb := fun W => neB W b c
 go_enter Tryz.func190, Tryz.ntmps190
 go_wp2
 go_ret
 exact ⟨rfl, rfl⟩
theorem room_direct (n : Nat) (W : World) : (method (n + 1) 226 (.agg #[]) "aqueduct/stream.room").run Tryz.prog W = .ok (188, .agg #[]) W := by kernel_rfl
theorem room_buffered (n r : Nat) (W : World) : (method (n + 1) 231 (.agg #[.pointer (some ⟨r, 0, none⟩)]) "aqueduct/stream.room").run Tryz.prog W = .ok (194, .agg #[.pointer (some ⟨r, 0, none⟩)]) W := by kernel_rfl
theorem room_zero (w : World) :
  Calls Tryz.prog 188 #[.agg #[]] w fun e w' => e = .returned (.int .i64 0) ∧ Fr [] w w' := by
 go_enter Tryz.func188, Tryz.ntmps188
 go_wp2
 go_ret
 exact ⟨rfl, (Fr.refl [] w).alloc _⟩
theorem room_ring (r b c : Nat) (w : World) (h : w.cell? ⟨r, 0, none⟩ = some (.slice (some ⟨b, 0, none⟩) c c)) :
  Calls Tryz.prog 194 #[.agg #[.pointer (some ⟨r, 0, none⟩)]] w fun e w' => e = .returned (.int .i64 c) ∧ Fr [] w w' := by
 have hrl := cell_lt h
 have h1 : (w.alloc (.cells #[.pointer (some ⟨r, 0, none⟩)] 231)).cell? ⟨r, 0, none⟩ = some (.slice (some ⟨b, 0, none⟩) c c) := ((Fr.refl [] w).alloc _).keep h (by simp)
 have HH := Lib.hid (ringCap_any r b c _ h1)
 clear h h1
 go_enter Tryz.func194, Tryz.ntmps194
 go_wp2_with (go_at_call 190; refine HH.out.mono ?_; rintro e w' ⟨rfl, rfl⟩)
 go_ret
 exact ⟨rfl, (Fr.refl [] w).alloc _⟩
theorem drop_any {P : Nat → Prop} {s c : Nat} {wr rd : Int} (w : World) (h : StrS w P s c wr rd) :
  Calls Tryz.prog 160 #[.pointer (some ⟨s, 0, none⟩)] w fun e w' => e = .returned (.tuple #[]) ∧ StrS w' (fun x => P x ∨ w.heap.size ≤ x) s c wr rd ∧ Fr [s] w w' := by
 have z0 := h.fz 0
 have HB := Lib.hid h
 have zs := cell_lt h.busy
 rcases h.store with ⟨rfl, h1⟩ | ⟨r, b, l1, l2, hc1, hc2, h3, h4, h5, h6, h7, _⟩
 ·clear h
  have hm := room_direct
  go_enter Tryz.func160, Tryz.ntmps160
  go_wp2_with (first
   | (go_at_call 188; refine (room_zero w).mono ?_; rintro e w1 ⟨rfl, f1⟩)
   | (go_at_call 110; refine (streamOf_direct _).mono ?_; rintro e w2 ⟨rfl, rfl⟩; have k0 := f1.keep h1 (by simp); have y0 : w2.frozen? ⟨s, 0, none⟩ = false := (by rw [f1.frozen zs (by simp)]; exact z0)))
  go_end0
  have h := HB.out.new f1
  have o : ∀ (x o : Nat) (v : Value), w2.cell? ⟨x, o, none⟩ = some v → (x ≠ s ∨ o ≠ 0) → (w2.setCell ⟨s, 0, none⟩ (.iface 226 (.agg #[]))).cell? ⟨x, o, none⟩ = some v := fun x o v hv hne => (World.cell?_setCell_other _ _ _ _ (by simp; omega)).trans hv
  refine ⟨rfl, ⟨.inl h.hs, .inl ⟨rfl, World.cell?_setCell_same _ _ _ k0⟩, o _ _ _ h.busy (.inr (by decide)), o _ _ _ h.rest0 (.inr (by decide)), o _ _ _ h.rest1 (.inr (by decide)), o _ _ _ h.acc (.inr (by decide)), o _ _ _ h.cl0 (.inr (by decide)), o _ _ _ h.cl1 (.inr (by decide)), fun o => by simp [h.fz o]⟩, (f1.mono (fun x hx => by cases hx)).trans ((Fr.refl [s] w2).setCell (fun _ => by simp) _) (fun x hx _ => hx)⟩
 ·clear h
  have hm := fun n W => room_buffered n r W
  have HR := Lib.hid (room_ring r b c w h7)
  clear h7
  go_enter Tryz.func160, Tryz.ntmps160
  go_wp2_with (go_at_call 194; refine HR.out.mono ?_; rintro e w1 ⟨rfl, f1⟩)
  refine (streamOf_ring c (by omega) (by omega) _).mono ?_
  rintro e w' ⟨rfl, rfl⟩
  have g1 : Fr [] w (ringW w1 c) := (f1.alloc _).alloc _
  have k0 := g1.keep h6 (by simp)
  have y0 : (ringW w1 c).frozen? ⟨s, 0, none⟩ = false := by rw [g1.frozen zs (by simp)]; exact z0
  go_wp2
  go_end0
  have h := HB.out
  have fs : Fr [s] (ringW w1 c) ((ringW w1 c).setCell ⟨s, 0, none⟩ (.iface 231 (.agg #[.pointer (some ⟨w1.heap.size + 1, 0, none⟩)]))) := (Fr.refl _ _).setCell (fun _ => by simp) _
  have o : ∀ (x o : Nat) (v : Value), (ringW w1 c).cell? ⟨x, o, none⟩ = some v → (x ≠ s ∨ o ≠ 0) → ((ringW w1 c).setCell ⟨s, 0, none⟩ (.iface 231 (.agg #[.pointer (some ⟨w1.heap.size + 1, 0, none⟩)]))).cell? ⟨x, o, none⟩ = some v := fun x o v hv hne => (World.cell?_setCell_other _ _ _ _ (by simp; omega)).trans hv
  have o1 : ∀ (x o : Nat) (v : Value), w.cell? ⟨x, o, none⟩ = some v → (x ≠ s ∨ o ≠ 0) → _ := fun x o' v hv hne => o x o' v (g1.keep hv (by simp)) hne
  have hr : ∀ o v, (#[Value.slice (some ⟨w1.heap.size, 0, none⟩) c c, .int .i64 0, .int .i64 0] : Array Value)[o]? = some v → (ringW w1 c).cell? ⟨w1.heap.size + 1, o, none⟩ = some v := fun o v hv => netCell _ _ _ o rfl (by simp) hv
  have z1 := f1.size
  have z2 : (ringW w1 c).heap.size = w1.heap.size + 2 := by simp [ringW]
  refine ⟨rfl, ⟨.inl h.hs, .inr ⟨w1.heap.size + 1, w1.heap.size, .inr (by omega), ⟨.inr (by omega), by have := fs.size; omega⟩, hc1, hc2, by omega, by omega, by omega, World.cell?_setCell_same _ _ _ k0, o _ _ _ (hr 0 _ rfl) (.inl (by omega)), o _ _ _ (hr 1 _ rfl) (.inl (by omega)), o _ _ _ (hr 2 _ rfl) (.inl (by omega))⟩, o1 _ _ _ h.busy (.inr (by decide)), o1 _ _ _ h.rest0 (.inr (by decide)), o1 _ _ _ h.rest1 (.inr (by decide)), o1 _ _ _ h.acc (.inr (by decide)), o1 _ _ _ h.cl0 (.inr (by decide)), o1 _ _ _ h.cl1 (.inr (by decide)), fun o => by rw [World.frozen?_setCell, g1.frozen zs (by simp)]; exact h.fz o⟩, (g1.mono (fun x hx => by cases hx)).trans fs (fun x hx _ => hx)⟩
theorem shut_read {P : Nat → Prop} {s c : Nat} {wr : Int} (w : World) (h : StrS w P s c wr 0) :
  Calls Tryz.prog 146 #[.pointer (some ⟨s, 0, none⟩), .int .i64 1, .int .i64 14] w fun e w' => e = .returned (.int .i64 0) ∧ StrS w' (fun x => P x ∨ w.heap.size ≤ x) s c wr 14 ∧ Fr [s] w w' := by
 have hmm := @run_makeMap Tryz.prog
 have c6 := h.cl1
 have z6 := h.fz 6
 have HN := Lib.hid (streamNone_any w h)
 have zs := cell_lt c6
 have fs : Fr [s] w (w.setCell ⟨s, 6, none⟩ (.int .i64 14)) := (Fr.refl _ _).setCell (fun _ => by simp) _
 have hsz : (w.setCell ⟨s, 6, none⟩ (.int .i64 14)).heap.size = w.heap.size := by simp
 obtain ⟨w2, hrun, hm2, f2⟩ := (MapIs.made Tryz.prog 224 (w.setCell ⟨s, 6, none⟩ (.int .i64 14))).put keyEnd (t := 260) (e := 1) Tryz.underlying260 (x := .int .i64 1) (keyEnd_of 1 (by omega) (by omega)) (by simp) (.func (.func 160) #[.pointer (some ⟨s, 0, none⟩)] #[])
 have hlk := hm2.hit keyEnd (t := 260) (e := 1) Tryz.underlying260 (x := .int .i64 1) (v := .func (.func 160) #[.pointer (some ⟨s, 0, none⟩)] #[]) (by simp) false
 simp only [Bool.false_eq_true, if_false] at hlk
 rw [hsz] at hrun hlk f2
 have fm : Fr [] (w.setCell ⟨s, 6, none⟩ (.int .i64 14)) w2 := Fr.trans (S := []) (T := [w.heap.size]) ((Fr.refl [] _).alloc _) f2 (fun x hx hlt => by simp at hx hlt; omega)
 have hnf : ∀ W : World, (binOp .neq 1 (.func (.func 160) #[.pointer (some ⟨s, 0, none⟩)] #[]) .nilFunc).run Tryz.prog W = .ok (.bool true) W := fun W => by kernel_rfl
 have o0 : ∀ (b o : Nat) (v : Value), w.cell? ⟨b, o, none⟩ = some v → (b ≠ s ∨ o ≠ 6) → w2.cell? ⟨b, o, none⟩ = some v := fun b o v hv hne => fm.keep (by rw [World.cell?_setCell_other _ _ _ _ (by simp; omega)]; exact hv) (by simp)
 have h2 : StrS w2 P s c wr 14 := by
  refine ⟨h.hs, ?_, o0 _ _ _ h.busy (.inr (by decide)), o0 _ _ _ h.rest0 (.inr (by decide)), o0 _ _ _ h.rest1 (.inr (by decide)), o0 _ _ _ h.acc (.inr (by decide)), o0 _ _ _ h.cl0 (.inr (by decide)), fm.keep (World.cell?_setCell_same _ _ _ c6) (by simp), fun o => by rw [fm.frozen (by simpa using zs) (by simp)]; simp [h.fz o]⟩
  rcases h.store with ⟨h0, h1⟩ | ⟨r, b, l1, l2, h1, h2, h3, h4, h5, h6, h7, h8, h9⟩
  ·exact .inl ⟨h0, o0 _ _ _ h1 (.inr (by decide))⟩
  ·exact .inr ⟨r, b, l1, ⟨l2.1, Nat.lt_of_lt_of_le l2.2 (fs.step fm).size⟩, h1, h2, h3, h4, h5, o0 _ _ _ h6 (.inr (by decide)), o0 _ _ _ h7 (.inl h3), o0 _ _ _ h8 (.inl h3), o0 _ _ _ h9 (.inl h3)⟩
 have HD := Lib.hid (drop_any w2 h2)
 have f3 : Fr [s] w w2 := fs.step fm
 clear h hm2 h2 o0
 go_enter Tryz.func146, Tryz.ntmps146
 go_wp2_with (first
  | (go_at_call 129; refine HN.out.mono ?_; rintro e w' ⟨rfl, rfl⟩)
  | (go_at_call 160; refine HD.out.mono ?_; rintro e w3 ⟨rfl, h3, f4⟩))
 go_ret
 exact ⟨rfl, h3.wide (fun x hx => hx.imp id (fun h => Nat.le_trans f3.size h)), f3.trans f4 (fun x hx _ => hx)⟩
theorem streamCloseWrite_open {P : Nat → Prop} {s c : Nat} {rd : Int} (w : World) (h : StrS w P s c 0 rd) :
  Calls Tryz.prog 137 #[.pointer (some ⟨s, 0, none⟩), .int .i64 13] w fun e w' => e = .returned (.int .i64 0) ∧ StrS w' P s c 13 rd ∧ Fr [s] w w' := by
 have H := Lib.hid (shut_write w h)
 clear h
 go_enter Tryz.func137, Tryz.ntmps137
 go_wp2_with (go_at_call 146; refine H.out.mono ?_; rintro e w1 ⟨rfl, h1, f1⟩)
 go_ret
 exact ⟨rfl, h1, f1⟩
theorem streamCloseRead_open {P : Nat → Prop} {s c : Nat} {wr : Int} (w : World) (h : StrS w P s c wr 0) :
  Calls Tryz.prog 139 #[.pointer (some ⟨s, 0, none⟩), .int .i64 14] w fun e w' => e = .returned (.int .i64 0) ∧ StrS w' (fun x => P x ∨ w.heap.size ≤ x) s c wr 14 ∧ Fr [s] w w' := by
 have H := Lib.hid (shut_read w h)
 clear h
 go_enter Tryz.func139, Tryz.ntmps139
 go_wp2_with (go_at_call 146; refine H.out.mono ?_; rintro e w1 ⟨rfl, h1, f1⟩)
 go_ret
 exact ⟨rfl, h1, f1⟩
def wrOf (a : Bool) : Int := if a then 13 else 0
def rdOf (a : Bool) : Int := if a then 14 else 0
structure DupT (w : World) (P : Nat → Prop) (d c : Nat) (wr0 rd0 wr1 rd1 : Int) (a0 a1 : Bool) : Prop where
 hd : P d
 st : ∃ s0 s1, w.cell? ⟨d, 0, none⟩ = some (.pointer (some ⟨s0, 0, none⟩)) ∧ w.cell? ⟨d, 1, none⟩ = some (.pointer (some ⟨s1, 0, none⟩)) ∧
  StrS w (fun x => P x ∧ x ≠ d ∧ x ≠ s1) s0 c wr0 rd0 ∧ StrS w (fun x => P x ∧ x ≠ d ∧ x ≠ s0) s1 c wr1 rd1
 cl0 : w.cell? ⟨d, 2, none⟩ = some (.bool a0)
 cl1 : w.cell? ⟨d, 3, none⟩ = some (.bool a1)
 fz : ∀ o, w.frozen? ⟨d, o, none⟩ = false
abbrev DupS (w : World) (P : Nat → Prop) (d c : Nat) (a0 a1 : Bool) : Prop := DupT w P d c (wrOf a0) (rdOf a1) (wrOf a1) (rdOf a0) a0 a1
section
variable {w w' : World} {P Q : Nat → Prop} {d c : Nat} {wr0 rd0 wr1 rd1 : Int} {a0 a1 : Bool}
theorem DupT.keep {S : List Nat} (h : DupT w P d c wr0 rd0 wr1 rd1 a0 a1) (hf : Fr S w w') (hS : ∀ x ∈ S, ¬ P x) : DupT w' P d c wr0 rd0 wr1 rd1 a0 a1 := by
 obtain ⟨s0, s1, h1, h2, h3, h4⟩ := h.st
 have nd : d ∉ S := fun hm => hS d hm h.hd
 exact ⟨h.hd, ⟨s0, s1, hf.keep h1 nd, hf.keep h2 nd, h3.keep hf (fun x hx hp => hS x hx hp.1), h4.keep hf (fun x hx hp => hS x hx hp.1)⟩, hf.keep h.cl0 nd, hf.keep h.cl1 nd, fun o => by rw [hf.frozen (cell_lt h1) nd]; exact h.fz o⟩
theorem DupT.new (h : DupT w P d c wr0 rd0 wr1 rd1 a0 a1) (hf : Fr [] w w') : DupT w' P d c wr0 rd0 wr1 rd1 a0 a1 := h.keep hf (fun x hx => by cases hx)
theorem DupT.ext (h : DupT w P d c wr0 rd0 wr1 rd1 a0 a1) (hq : ∀ x, x < w.heap.size → P x → Q x) : DupT w Q d c wr0 rd0 wr1 rd1 a0 a1 := by
 obtain ⟨s0, s1, h1, h2, h3, h4⟩ := h.st
 exact ⟨hq _ (cell_lt h1) h.hd, ⟨s0, s1, h1, h2, h3.ext (fun x hx hp => ⟨hq x hx hp.1, hp.2⟩), h4.ext (fun x hx hp => ⟨hq x hx hp.1, hp.2⟩)⟩, h.cl0, h.cl1, h.fz⟩
theorem DupT.wide (h : DupT w P d c wr0 rd0 wr1 rd1 a0 a1) (hq : ∀ x, P x → Q x) : DupT w Q d c wr0 rd0 wr1 rd1 a0 a1 := h.ext (fun x _ hp => hq x hp)
end
theorem DupS.of0 {w : World} {lo d c : Nat} (h : Dup0 w lo d c) : DupS w (fun x => lo ≤ x) d c false false := by
 obtain ⟨⟨s0, s1, h1, h2, h3, h4, h5, h6⟩, h7, h8, h9⟩ := h
 have := h5.le
 have := h4.le
 exact ⟨h1, ⟨s0, s1, h2, h3, (StrS.of0 h4).wide (fun x hx => ⟨hx.1, by omega, by omega⟩), (StrS.of0 h5).wide (fun x hx => ⟨by omega, by omega, by omega⟩)⟩, h7, h8, h9⟩
theorem Fr.undrew {S : List Nat} {a b : World} {n : Nat} (h : Fr S (a.drewN n) b) : Fr S a b := ⟨h.os, h.tape, h.output, h.size, h.block⟩
theorem out_any (e : Int) (w : World) : Calls Tryz.prog 136 #[.int .i64 e] w fun r w' => r = .returned (.int .i64 e) ∧ ∃ n, w' = w.drewN n := by
 go_enter Tryz.func136, Tryz.ntmps136
 go_wp2
 go_ret
 exact ⟨rfl, 0, rfl⟩
theorem in_any (e : Int) (he : 0 ≤ e) (he' : e ≤ 1) (w : World) : Calls Tryz.prog 138 #[.int .i64 e] w fun r w' => r = .returned (.int .i64 (1 - e)) ∧ ∃ n, w' = w.drewN n := by
 go_enter Tryz.func138, Tryz.ntmps138
 go_wp2
 go_ret
 exact ⟨rfl, 0, rfl⟩
section
variable {P : Nat → Prop} {d c : Nat} {wr0 rd0 wr1 rd1 : Int} {a0 a1 : Bool} (w : World)
theorem dupCheck_any (e : Int) (he : e = 0 ∨ e = 1) (h : DupT w P d c wr0 rd0 wr1 rd1 a0 a1) :
  Calls Tryz.prog 106 #[.pointer (some ⟨d, 0, none⟩), .int .i64 e] w fun e w' => e = .returned (.int .i64 0) ∧ w = w' := by
 obtain ⟨s0, s1, h1, h2, _, _⟩ := h.st
 have hne : ∀ W : World, (binOp .eql 159 (.agg #[.pointer (some ⟨s0, 0, none⟩), .pointer (some ⟨s1, 0, none⟩)]) (.agg #[.pointer none, .pointer none])).run Tryz.prog W = .ok (.bool false) W := fun W => by kernel_rfl
 clear h
 rcases he with rfl | rfl
 ·go_enter Tryz.func106, Tryz.ntmps106
  go_wp2
  go_ret
  exact ⟨rfl, rfl⟩
 ·go_enter Tryz.func106, Tryz.ntmps106
  go_wp2
  go_ret
  exact ⟨rfl, rfl⟩
theorem dupClosed_0 (h : DupT w P d c wr0 rd0 wr1 rd1 a0 a1) :
  Calls Tryz.prog 93 #[.pointer (some ⟨d, 0, none⟩), .int .i64 0] w fun e w' => e = .returned (.bool a0) ∧ w = w' := by
 have HC := Lib.hid (dupCheck_any w 0 (.inl rfl) h)
 have c2 := h.cl0
 clear h
 go_enter Tryz.func93, Tryz.ntmps93
 go_wp2_with (go_at_call 106; refine HC.out.mono ?_; rintro e w' ⟨rfl, rfl⟩)
 go_ret
 exact ⟨rfl, rfl⟩
theorem dupClosed_1 (h : DupT w P d c wr0 rd0 wr1 rd1 a0 a1) :
  Calls Tryz.prog 93 #[.pointer (some ⟨d, 0, none⟩), .int .i64 1] w fun e w' => e = .returned (.bool a1) ∧ w = w' := by
 have HC := Lib.hid (dupCheck_any w 1 (.inr rfl) h)
 have c2 := h.cl1
 clear h
 go_enter Tryz.func93, Tryz.ntmps93
 go_wp2_with (go_at_call 106; refine HC.out.mono ?_; rintro e w' ⟨rfl, rfl⟩)
 go_ret
 exact ⟨rfl, rfl⟩
theorem dupCloseWrite_0 (h : DupT w P d c 0 rd0 wr1 rd1 a0 a1) :
  Calls Tryz.prog 117 #[.pointer (some ⟨d, 0, none⟩), .int .i64 0] w fun e w' => e = .returned (.int .i64 0) ∧ DupT w' P d c 13 rd0 wr1 rd1 a0 a1 ∧ ∃ S, Fr S w w' ∧ ∀ x ∈ S, P x ∧ x ≠ d := by
 have HC := Lib.hid (dupCheck_any w 0 (.inl rfl) h)
 obtain ⟨s0, s1, h1, h2, h3, h4⟩ := h.st
 have k2 := h.cl0
 have k3 := h.cl1
 have kf := h.fz
 have kd := h.hd
 have H3 := Lib.hid (fun n => streamCloseWrite_open (w.drewN n) (h3.new ((Fr.refl [] w).drewN n)))
 have HS3 := Lib.hid h3
 have HS4 := Lib.hid h4
 clear h h3 h4
 go_enter Tryz.func117, Tryz.ntmps117
 go_wp2_with (go_at_call 106; refine HC.out.mono ?_; rintro e w' ⟨rfl, rfl⟩)
 go_region_with (first
  | (go_at_call 136; refine (out_any 0 _).mono ?_; rintro e w' ⟨rfl, nn, rfl⟩)
  | (go_at_call 137; refine (H3.out _).mono ?_; rintro e w1 ⟨rfl, g3, f1⟩))
 all_goals go_wp2
 all_goals go_ret
 all_goals (
  have g := f1.undrew
  have hp : P s0 ∧ s0 ≠ d ∧ s0 ≠ s1 := HS3.out.hs
  have hd0 : d ∉ [s0] := by simpa using Ne.symm hp.2.1
  refine ⟨rfl, ⟨kd, ⟨s0, s1, g.keep h1 hd0, g.keep h2 hd0, g3, HS4.out.keep g (fun x hx hq => by simp at hx; exact hq.2.2 hx)⟩, g.keep k2 hd0, g.keep k3 hd0, fun o => by rw [g.frozen (cell_lt h1) hd0]; exact kf o⟩, [s0], g, fun x hx => by simp at hx; subst hx; exact ⟨hp.1, hp.2.1⟩⟩)
theorem dupCloseWrite_1 (h : DupT w P d c wr0 rd0 0 rd1 a0 a1) :
  Calls Tryz.prog 117 #[.pointer (some ⟨d, 0, none⟩), .int .i64 1] w fun e w' => e = .returned (.int .i64 0) ∧ DupT w' P d c wr0 rd0 13 rd1 a0 a1 ∧ ∃ S, Fr S w w' ∧ ∀ x ∈ S, P x ∧ x ≠ d := by
 have HC := Lib.hid (dupCheck_any w 1 (.inr rfl) h)
 obtain ⟨s0, s1, h1, h2, h3, h4⟩ := h.st
 have k2 := h.cl0
 have k3 := h.cl1
 have kf := h.fz
 have kd := h.hd
 have H3 := Lib.hid (fun n => streamCloseWrite_open (w.drewN n) (h4.new ((Fr.refl [] w).drewN n)))
 have HS3 := Lib.hid h3
 have HS4 := Lib.hid h4
 clear h h3 h4
 go_enter Tryz.func117, Tryz.ntmps117
 go_wp2_with (go_at_call 106; refine HC.out.mono ?_; rintro e w' ⟨rfl, rfl⟩)
 go_region_with (first
  | (go_at_call 136; refine (out_any 1 _).mono ?_; rintro e w' ⟨rfl, nn, rfl⟩)
  | (go_at_call 137; refine (H3.out _).mono ?_; rintro e w1 ⟨rfl, g3, f1⟩))
 all_goals go_wp2
 all_goals go_ret
 all_goals (
  have g := f1.undrew
  have hp : P s1 ∧ s1 ≠ d ∧ s1 ≠ s0 := HS4.out.hs
  have hd0 : d ∉ [s1] := by simpa using Ne.symm hp.2.1
  refine ⟨rfl, ⟨kd, ⟨s0, s1, g.keep h1 hd0, g.keep h2 hd0, HS3.out.keep g (fun x hx hq => by simp at hx; exact hq.2.2 hx), g3⟩, g.keep k2 hd0, g.keep k3 hd0, fun o => by rw [g.frozen (cell_lt h1) hd0]; exact kf o⟩, [s1], g, fun x hx => by simp at hx; subst hx; exact ⟨hp.1, hp.2.1⟩⟩)
theorem dupCloseRead_0 (h : DupT w P d c wr0 rd0 wr1 0 a0 a1) :
  Calls Tryz.prog 118 #[.pointer (some ⟨d, 0, none⟩), .int .i64 0] w fun e w' => e = .returned (.int .i64 0) ∧ DupT w' (fun x => P x ∨ w.heap.size ≤ x) d c wr0 rd0 wr1 14 a0 a1 ∧ ∃ S, Fr S w w' ∧ ∀ x ∈ S, P x ∧ x ≠ d := by
 have HC := Lib.hid (dupCheck_any w 0 (.inl rfl) h)
 obtain ⟨s0, s1, h1, h2, h3, h4⟩ := h.st
 have k2 := h.cl0
 have k3 := h.cl1
 have kf := h.fz
 have kd := h.hd
 have H3 := Lib.hid (fun n => streamCloseRead_open (w.drewN n) (h4.new ((Fr.refl [] w).drewN n)))
 have HS3 := Lib.hid h3
 have HS4 := Lib.hid h4
 clear h h3 h4
 go_enter Tryz.func118, Tryz.ntmps118
 go_wp2_with (go_at_call 106; refine HC.out.mono ?_; rintro e w' ⟨rfl, rfl⟩)
 go_region_with (first
  | (go_at_call 138; refine (in_any 0 (by omega) (by omega) _).mono ?_; rintro e w' ⟨rfl, nn, rfl⟩)
  | (go_at_call 139; refine (H3.out _).mono ?_; rintro e w1 ⟨rfl, g3, f1⟩))
 all_goals go_wp2
 all_goals go_ret
 all_goals (
  have g := f1.undrew
  have hp : P s1 ∧ s1 ≠ d ∧ s1 ≠ s0 := HS4.out.hs
  have hd0 : d ∉ [s1] := by simpa using Ne.symm hp.2.1
  refine ⟨rfl, ⟨.inl kd, ⟨s0, s1, g.keep h1 hd0, g.keep h2 hd0, (HS3.out.keep g (fun x hx hq => by simp at hx; exact hq.2.2 hx)).wide (fun x hx => ⟨.inl hx.1, hx.2⟩), g3.wide (fun x hx => by
   rcases hx with hx | hx
   ·exact ⟨.inl hx.1, hx.2⟩
   ·exact ⟨.inr (by simpa using hx), (fun he => by have := cell_lt h1; simp at hx; omega), (fun he => by have := cell_lt HS3.out.busy; simp at hx; omega)⟩)⟩, g.keep k2 hd0, g.keep k3 hd0, fun o => by rw [g.frozen (cell_lt h1) hd0]; exact kf o⟩, [s1], g, fun x hx => by simp at hx; subst hx; exact ⟨hp.1, hp.2.1⟩⟩)
theorem dupCloseRead_1 (h : DupT w P d c wr0 0 wr1 rd1 a0 a1) :
  Calls Tryz.prog 118 #[.pointer (some ⟨d, 0, none⟩), .int .i64 1] w fun e w' => e = .returned (.int .i64 0) ∧ DupT w' (fun x => P x ∨ w.heap.size ≤ x) d c wr0 14 wr1 rd1 a0 a1 ∧ ∃ S, Fr S w w' ∧ ∀ x ∈ S, P x ∧ x ≠ d := by
 have HC := Lib.hid (dupCheck_any w 1 (.inr rfl) h)
 obtain ⟨s0, s1, h1, h2, h3, h4⟩ := h.st
 have k2 := h.cl0
 have k3 := h.cl1
 have kf := h.fz
 have kd := h.hd
 have H3 := Lib.hid (fun n => streamCloseRead_open (w.drewN n) (h3.new ((Fr.refl [] w).drewN n)))
 have HS3 := Lib.hid h3
 have HS4 := Lib.hid h4
 clear h h3 h4
 go_enter Tryz.func118, Tryz.ntmps118
 go_wp2_with (go_at_call 106; refine HC.out.mono ?_; rintro e w' ⟨rfl, rfl⟩)
 go_region_with (first
  | (go_at_call 138; refine (in_any 1 (by omega) (by omega) _).mono ?_; rintro e w' ⟨rfl, nn, rfl⟩)
  | (go_at_call 139; refine (H3.out _).mono ?_; rintro e w1 ⟨rfl, g3, f1⟩))
 all_goals go_wp2
 all_goals go_ret
 all_goals (
  have g := f1.undrew
  have hp : P s0 ∧ s0 ≠ d ∧ s0 ≠ s1 := HS3.out.hs
  have hd0 : d ∉ [s0] := by simpa using Ne.symm hp.2.1
  refine ⟨rfl, ⟨.inl kd, ⟨s0, s1, g.keep h1 hd0, g.keep h2 hd0, g3.wide (fun x hx => by
   rcases hx with hx | hx
   ·exact ⟨.inl hx.1, hx.2⟩
   ·exact ⟨.inr (by simpa using hx), (fun he => by have := cell_lt h1; simp at hx; omega), (fun he => by have := cell_lt HS4.out.busy; simp at hx; omega)⟩), (HS4.out.keep g (fun x hx hq => by simp at hx; exact hq.2.2 hx)).wide (fun x hx => ⟨.inl hx.1, hx.2⟩)⟩, g.keep k2 hd0, g.keep k3 hd0, fun o => by rw [g.frozen (cell_lt h1) hd0]; exact kf o⟩, [s0], g, fun x hx => by simp at hx; subst hx; exact ⟨hp.1, hp.2.1⟩⟩)
end
theorem setOneD {a : Nat} {o o1 : Nat} {v v1 : Value} {w : World} (h : w.cell? ⟨a, o, none⟩ = some v) (h1 : o1 ≠ o := by decide) : (w.setCell ⟨a, o1, none⟩ v1).cell? ⟨a, o, none⟩ = some v :=
 (World.cell?_setCell_other _ _ _ _ (fun e => h1 (by injection e))).trans h
section
variable {P : Nat → Prop} {d c : Nat} {a0 a1 : Bool} (w : World)
theorem dupClose_0 (h : DupS w P d c false a1) :
  Calls Tryz.prog 94 #[.pointer (some ⟨d, 0, none⟩), .int .i64 0] w fun e w' => e = .returned (.int .i64 0) ∧ DupS w' (fun x => P x ∨ w.heap.size ≤ x) d c true a1 ∧ ∃ S, Fr S w w' ∧ ∀ x ∈ S, P x := by
 have HC := Lib.hid (dupCheck_any w 0 (.inl rfl) h)
 have c2 := h.cl0
 have z2 := h.fz 2
 obtain ⟨s0, s1, h1, h2, h3, h4⟩ := h.st
 have hd := h.hd
 have fs : Fr [d] w (w.setCell ⟨d, 2, none⟩ (.bool true)) := (Fr.refl _ _).setCell (fun _ => by simp) _
 have hT : DupT (w.setCell ⟨d, 2, none⟩ (.bool true)) P d c 0 (rdOf a1) (wrOf a1) 0 true a1 :=
  ⟨h.hd, ⟨s0, s1, setOneD h1, setOneD h2, h3.keep fs (fun x hx hp => by simp at hx; exact hp.2.1 hx), h4.keep fs (fun x hx hp => by simp at hx; exact hp.2.1 hx)⟩, World.cell?_setCell_same _ _ _ c2, setOneD h.cl1, fun o => by simp [h.fz o]⟩
 have HT := Lib.hid hT
 have ix0 : ∀ W : World, (Instr.index 216 (.agg #[.func (.func 117) #[.pointer (some ⟨d, 0, none⟩)] #[], .func (.func 118) #[.pointer (some ⟨d, 0, none⟩)] #[]]) (.int .i64 0)).run Tryz.prog W = .ok (.func (.func 117) #[.pointer (some ⟨d, 0, none⟩)] #[]) W := fun W => by kernel_rfl
 have ix1 : ∀ W : World, (Instr.index 216 (.agg #[.func (.func 117) #[.pointer (some ⟨d, 0, none⟩)] #[], .func (.func 118) #[.pointer (some ⟨d, 0, none⟩)] #[]]) (.int .i64 1)).run Tryz.prog W = .ok (.func (.func 118) #[.pointer (some ⟨d, 0, none⟩)] #[]) W := fun W => by kernel_rfl
 have hsz : (w.setCell ⟨d, 2, none⟩ (.bool true)).heap.size = w.heap.size := by simp
 clear h hT h3 h4
 go_enter Tryz.func94, Tryz.ntmps94
 go_wp2_with (go_at_call 106; refine HC.out.mono ?_; rintro e w' ⟨rfl, rfl⟩)
 obtain ⟨w0, hw0⟩ : ∃ w0, w.setCell ⟨d, 2, none⟩ (.bool true) = w0 := ⟨_, rfl⟩
 rw [hw0] at fs HT hsz ⊢
 clear hw0
 go_loopw [32] (fun i wr => ∃ k : Int, i = .int .i64 k ∧ (k = 0 ∧ wr = w0 ∨ k = 1 ∧ DupT wr P d c 13 (rdOf a1) (wrOf a1) 0 true a1 ∧ (∃ S, Fr S w0 wr ∧ ∀ x ∈ S, P x) ∨ k = 2 ∧ DupT wr (fun x => P x ∨ w.heap.size ≤ x) d c 13 (rdOf a1) (wrOf a1) 14 true a1 ∧ (∃ S, Fr S w0 wr ∧ ∀ x ∈ S, P x))) (fun i _ => 2 - (intOf i).toNat)
 case atStart => exact ⟨0, rfl, .inl ⟨rfl, rfl⟩⟩
 case round =>
  obtain ⟨k, rfl, ⟨rfl, rfl⟩ | ⟨rfl, t1, S1, f1, p1⟩ | ⟨rfl, t2, S2, f2, p2⟩⟩ := hrel
  ·have HW := Lib.hid (dupCloseWrite_0 wr HT.out)
   go_wp2_with (go_at_call 117; refine HW.out.mono ?_; rintro e w1 ⟨rfl, t1, S, f1, p1⟩)
   go_roundw
   case rel => exact ⟨1, rfl, .inr (.inl ⟨rfl, t1, S, f1, fun x hx => (p1 x hx).1⟩)⟩
   case measure => simp [intOf]
  ·have HR := Lib.hid (dupCloseRead_0 wr t1)
   have hsz1 := f1.size
   clear t1
   go_wp2_with (go_at_call 118; refine HR.out.mono ?_; rintro e w1 ⟨rfl, t2, S, f2, p2⟩)
   go_roundw
   case rel => exact ⟨2, rfl, .inr (.inr ⟨rfl, t2.wide (fun x hx => hx.imp id (fun h => by omega)), S1 ++ S, (f1.mono (fun x hx _ => List.mem_append_left _ hx)).trans f2 (fun x hx _ => List.mem_append_right _ hx), fun x hx => (List.mem_append.1 hx).elim (p1 x) (fun h => (p2 x h).1)⟩)⟩
   case measure => simp [intOf]
  ·have H2 := Lib.hid t2
   clear t2
   go_wp2
   go_ret
   exact ⟨rfl, H2.out, d :: S2, (fs.mono (fun x hx _ => by simp at hx; simp [hx])).trans f2 (fun x hx _ => List.mem_cons_of_mem _ hx), fun x hx => by
    rcases List.mem_cons.1 hx with rfl | hx
    ·exact hd
    ·exact p2 x hx⟩
theorem dupClose_shut0 (h : DupS w P d c true a1) :
  Calls Tryz.prog 94 #[.pointer (some ⟨d, 0, none⟩), .int .i64 0] w fun e w' => e = .returned (.int .i64 14) ∧ w = w' := by
 have HC := Lib.hid (dupCheck_any w 0 (.inl rfl) h)
 have c2 := h.cl0
 clear h
 go_enter Tryz.func94, Tryz.ntmps94
 go_wp2_with (go_at_call 106; refine HC.out.mono ?_; rintro e w' ⟨rfl, rfl⟩)
 go_ret
 exact ⟨rfl, rfl⟩
theorem dupClose_1 (h : DupS w P d c a0 false) :
  Calls Tryz.prog 94 #[.pointer (some ⟨d, 0, none⟩), .int .i64 1] w fun e w' => e = .returned (.int .i64 0) ∧ DupS w' (fun x => P x ∨ w.heap.size ≤ x) d c a0 true ∧ ∃ S, Fr S w w' ∧ ∀ x ∈ S, P x := by
 have HC := Lib.hid (dupCheck_any w 1 (.inr rfl) h)
 have c2 := h.cl1
 have z2 := h.fz 3
 obtain ⟨s0, s1, h1, h2, h3, h4⟩ := h.st
 have hd := h.hd
 have fs : Fr [d] w (w.setCell ⟨d, 3, none⟩ (.bool true)) := (Fr.refl _ _).setCell (fun _ => by simp) _
 have hT : DupT (w.setCell ⟨d, 3, none⟩ (.bool true)) P d c (wrOf a0) 0 0 (rdOf a0) a0 true :=
  ⟨h.hd, ⟨s0, s1, setOneD h1, setOneD h2, h3.keep fs (fun x hx hp => by simp at hx; exact hp.2.1 hx), h4.keep fs (fun x hx hp => by simp at hx; exact hp.2.1 hx)⟩, setOneD h.cl0, World.cell?_setCell_same _ _ _ c2, fun o => by simp [h.fz o]⟩
 have HT := Lib.hid hT
 have ix0 : ∀ W : World, (Instr.index 216 (.agg #[.func (.func 117) #[.pointer (some ⟨d, 0, none⟩)] #[], .func (.func 118) #[.pointer (some ⟨d, 0, none⟩)] #[]]) (.int .i64 0)).run Tryz.prog W = .ok (.func (.func 117) #[.pointer (some ⟨d, 0, none⟩)] #[]) W := fun W => by kernel_rfl
 have ix1 : ∀ W : World, (Instr.index 216 (.agg #[.func (.func 117) #[.pointer (some ⟨d, 0, none⟩)] #[], .func (.func 118) #[.pointer (some ⟨d, 0, none⟩)] #[]]) (.int .i64 1)).run Tryz.prog W = .ok (.func (.func 118) #[.pointer (some ⟨d, 0, none⟩)] #[]) W := fun W => by kernel_rfl
 have hsz : (w.setCell ⟨d, 3, none⟩ (.bool true)).heap.size = w.heap.size := by simp
 clear h hT h3 h4
 go_enter Tryz.func94, Tryz.ntmps94
 go_wp2_with (go_at_call 106; refine HC.out.mono ?_; rintro e w' ⟨rfl, rfl⟩)
 obtain ⟨w0, hw0⟩ : ∃ w0, w.setCell ⟨d, 3, none⟩ (.bool true) = w0 := ⟨_, rfl⟩
 rw [hw0] at fs HT hsz ⊢
 clear hw0
 go_loopw [32] (fun i wr => ∃ k : Int, i = .int .i64 k ∧ (k = 0 ∧ wr = w0 ∨ k = 1 ∧ DupT wr P d c (wrOf a0) 0 13 (rdOf a0) a0 true ∧ (∃ S, Fr S w0 wr ∧ ∀ x ∈ S, P x) ∨ k = 2 ∧ DupT wr (fun x => P x ∨ w.heap.size ≤ x) d c (wrOf a0) 14 13 (rdOf a0) a0 true ∧ (∃ S, Fr S w0 wr ∧ ∀ x ∈ S, P x))) (fun i _ => 2 - (intOf i).toNat)
 case atStart => exact ⟨0, rfl, .inl ⟨rfl, rfl⟩⟩
 case round =>
  obtain ⟨k, rfl, ⟨rfl, rfl⟩ | ⟨rfl, t1, S1, f1, p1⟩ | ⟨rfl, t2, S2, f2, p2⟩⟩ := hrel
  ·have HW := Lib.hid (dupCloseWrite_1 wr HT.out)
   go_wp2_with (go_at_call 117; refine HW.out.mono ?_; rintro e w1 ⟨rfl, t1, S, f1, p1⟩)
   go_roundw
   case rel => exact ⟨1, rfl, .inr (.inl ⟨rfl, t1, S, f1, fun x hx => (p1 x hx).1⟩)⟩
   case measure => simp [intOf]
  ·have HR := Lib.hid (dupCloseRead_1 wr t1)
   have hsz1 := f1.size
   clear t1
   go_wp2_with (go_at_call 118; refine HR.out.mono ?_; rintro e w1 ⟨rfl, t2, S, f2, p2⟩)
   go_roundw
   case rel => exact ⟨2, rfl, .inr (.inr ⟨rfl, t2.wide (fun x hx => hx.imp id (fun h => by omega)), S1 ++ S, (f1.mono (fun x hx _ => List.mem_append_left _ hx)).trans f2 (fun x hx _ => List.mem_append_right _ hx), fun x hx => (List.mem_append.1 hx).elim (p1 x) (fun h => (p2 x h).1)⟩)⟩
   case measure => simp [intOf]
  ·have H2 := Lib.hid t2
   clear t2
   go_wp2
   go_ret
   exact ⟨rfl, H2.out, d :: S2, (fs.mono (fun x hx _ => by simp at hx; simp [hx])).trans f2 (fun x hx _ => List.mem_cons_of_mem _ hx), fun x hx => by
    rcases List.mem_cons.1 hx with rfl | hx
    ·exact hd
    ·exact p2 x hx⟩
theorem dupClose_shut1 (h : DupS w P d c a0 true) :
  Calls Tryz.prog 94 #[.pointer (some ⟨d, 0, none⟩), .int .i64 1] w fun e w' => e = .returned (.int .i64 14) ∧ w = w' := by
 have HC := Lib.hid (dupCheck_any w 1 (.inr rfl) h)
 have c2 := h.cl1
 clear h
 go_enter Tryz.func94, Tryz.ntmps94
 go_wp2_with (go_at_call 106; refine HC.out.mono ?_; rintro e w' ⟨rfl, rfl⟩)
 go_ret
 exact ⟨rfl, rfl⟩
end
section
variable {P : Nat → Prop} {n cm d c D N K : Nat} {conn : Int} {f1 f2 : List (Value × Value)} (w : World)
theorem hangEnd_no {a0 a1 : Bool} (u : FrameMode) (h : DupS w P d c a0 a1) (ha : (a0 && a1) = false) (hD : w.cell? ⟨D, 0, none⟩ = some (.pointer (some ⟨d, 0, none⟩))) :
  CallsD Tryz.prog 92 #[.pointer (some ⟨D, 0, none⟩), .pointer (some ⟨N, 0, none⟩), .pointer (some ⟨K, 0, none⟩)] u w fun e u' w' => u' = u ∧ (e = .returned (.tuple #[]) ∧ w = w') := by
 have H0 := Lib.hid (dupClosed_0 w h)
 have H1 := Lib.hid (dupClosed_1 w h)
 clear h
 cases a0
 ·go_enter_d Tryz.func92, Tryz.ntmps92
  go_wp2_with (first
   | (refine H0.out.mono ?_; rintro e w' ⟨rfl, rfl⟩)
   | (refine H1.out.mono ?_; rintro e w' ⟨rfl, rfl⟩))
  go_end0
  exact ⟨rfl, rfl⟩
 ·cases a1
  ·go_enter_d Tryz.func92, Tryz.ntmps92
   go_wp2_with fail
   refine H0.out.mono ?_
   rintro e w' ⟨rfl, rfl⟩
   go_wp2_with fail
   refine H1.out.mono ?_
   rintro e w' ⟨rfl, rfl⟩
   go_wp2
   go_end0
   exact ⟨rfl, rfl⟩
  ·cases ha
theorem hangEnd_yes (u : FrameMode) (h : DupS w P d c true true) (hD : w.cell? ⟨D, 0, none⟩ = some (.pointer (some ⟨d, 0, none⟩))) (hN : w.cell? ⟨N, 0, none⟩ = some (.pointer (some ⟨n, 0, none⟩))) (hK : w.cell? ⟨K, 0, none⟩ = some (.int .i64 conn))
  (hn : w.cell? ⟨n, 2, none⟩ = some (.map (some cm))) (hm : MapIs Tryz.prog 3 w cm (f1 ++ (.int .i64 conn, .pointer (some ⟨d, 0, none⟩)) :: f2)) :
  CallsD Tryz.prog 92 #[.pointer (some ⟨D, 0, none⟩), .pointer (some ⟨N, 0, none⟩), .pointer (some ⟨K, 0, none⟩)] u w fun e u' w' => u' = u ∧ (e = .returned (.tuple #[]) ∧ MapIs Tryz.prog 3 w' cm (f1 ++ f2) ∧ Fr [cm] w w') := by
 have H0 := Lib.hid (dupClosed_0 w h)
 have H1 := Lib.hid (dupClosed_1 w h)
 clear h
 obtain ⟨w2, hrun, hm2, g2⟩ := (show MapIs Tryz.prog 3 w.drew cm _ from hm).del (T := 0) keyInt (t := 90) (e := 103) Tryz.underlying90
 clear hm
 go_enter_d Tryz.func92, Tryz.ntmps92
 go_wp2_with fail
 refine H0.out.mono ?_
 rintro e w' ⟨rfl, rfl⟩
 go_wp2_with fail
 refine H1.out.mono ?_
 rintro e w' ⟨rfl, rfl⟩
 go_wp2
 go_region
 go_wp2
 go_end0
 exact ⟨rfl, hm2, (((Fr.refl [] w).drew).mono (fun x hx => by cases hx)).trans g2 (fun x hx _ => hx)⟩
end
end Go.Proofs.YtgbmenfmaphciaaGreat
