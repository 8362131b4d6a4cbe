/- A ring with its bytes: zero, Len, Cap, Free, pieces. -/
import Derived.Test.YtmdhlodafjpnmaaGreatG6
namespace Go.Proofs.YtmdhlodafjpnmaaGreat
open List renaming getElem_toArray → qj1, getElem_cons_succ → qj2, getElem_cons_zero → qj3, setIfInBounds_toArray → qj4, set_cons_zero → qj5, set_cons_succ → qj6
open Go.RowKit
set_option linter.unusedVariables false
set_option linter.unusedSimpArgs false
set_option maxRecDepth 100000
set_option maxHeartbeats 4000000

/-- A block that begins with some bytes. -/
def Row8 (w : World) (g : Nat) (l : List UInt8) : Prop := ∃ ex : List UInt8, Blk w g 5 (bsV (l ++ ex))
theorem Row8.of {w : World} {g : Nat} {l : List UInt8} (h : Blk w g 5 (bsV l)) : Row8 w g l := ⟨[], by rwa [List.append_nil]⟩
theorem Row8.keep {S : List Nat} {w w' : World} {g : Nat} {l : List UInt8} (h : Row8 w g l) (k : Fr S w w') (hg : g ∉ S) : Row8 w' g l := by
  obtain ⟨ex, h1⟩ := h
  exact ⟨ex, h1.keep k hg⟩
theorem Row8.lt {w : World} {g : Nat} {l : List UInt8} (h : Row8 w g l) : g < w.heap.size := by
  obtain ⟨ex, h1⟩ := h
  exact h1.lt
/-- A ring in memory: its block r, the block g of its bytes l, their slice's capacity, where its content begins and how much it is. -/
structure RgAt (w : World) (r g : Nat) (l : List UInt8) (cp f n : Nat) : Prop where
  blk : Blk w r 267 [.slice (some ⟨g, 0, none⟩) l.length cp, .int .i64 f, .int .i64 n]
  row : Row8 w g l
  hf : f < l.length
  hn : n ≤ l.length
  hl : l.length ≤ 65536
  cap : l.length ≤ cp
theorem nilB (W : World) (a : Addr) (n c : Nat) : (binOp .eql 22 (.slice (some a) n c) (.slice none 0 0)).run Tryz.prog W = .ok (.bool false) W :=
  Lib.run_eql_slice_nil W _ _ (some a) n c 0 0 Tryz.underlying22
section
variable {w w' : World} {r g : Nat} {l : List UInt8} {cp f n : Nat}
theorem RgAt.keep {S : List Nat} (h : RgAt w r g l cp f n) (k : Fr S w w') (h1 : r ∉ S) (h2 : g ∉ S) : RgAt w' r g l cp f n := ⟨h.blk.keep k h1, h.row.keep k h2, h.hf, h.hn, h.hl, h.cap⟩
theorem RgAt.new (h : RgAt w r g l cp f n) (k : Fr [] w w') : RgAt w' r g l cp f n := h.keep k (by simp) (by simp)
theorem RgAt.c0 (h : RgAt w r g l cp f n) : w.cell? ⟨r, 0, none⟩ = some (.slice (some ⟨g, 0, none⟩) l.length cp) := by simpa using h.blk.at 0 _ rfl
theorem RgAt.c1 (h : RgAt w r g l cp f n) : w.cell? ⟨r, 1, none⟩ = some (.int .i64 f) := by simpa using h.blk.at 1 _ rfl
theorem RgAt.c2 (h : RgAt w r g l cp f n) : w.cell? ⟨r, 2, none⟩ = some (.int .i64 n) := by simpa using h.blk.at 2 _ rfl
theorem ringZero (h : RgAt w r g l cp f n) : Calls Tryz.prog 226 #[.pointer (some ⟨r, 0, none⟩)] w fun e w' => e = .returned (.bool false) ∧ Fr [] w w' := by
  have hnb := fun W => nilB W ⟨g, 0, none⟩ l.length cp
  have hn := h.hn
  have hl := h.hl
  have c0 := h.c0
  have hw : IntKind.i64.wrap ((l.length : Int) - n) = (l.length : Int) - n := IntWalk.i64_in _ (by omega)
  go_enter Tryz.func226, Tryz.ntmps226
  go_wp2
  go_ret
  exact ⟨rfl, Fr.refl [] w⟩
theorem ringLen (h : RgAt w r g l cp f n) : Calls Tryz.prog 225 #[.pointer (some ⟨r, 0, none⟩)] w fun e w' => e = .returned (.int .i64 n) ∧ Fr [] w w' := by
  have hnb := fun W => nilB W ⟨g, 0, none⟩ l.length cp
  have hn := h.hn
  have hl := h.hl
  have c0 := h.c0
  have hw : IntKind.i64.wrap ((l.length : Int) - n) = (l.length : Int) - n := IntWalk.i64_in _ (by omega)
  have HZ := Lib.hid (ringZero h)
  go_enter Tryz.func225, Tryz.ntmps225
  go_wp2_with fail
  refine HZ.out.mono ?_
  rintro e w1 ⟨rfl, f1⟩
  have cc := (h.new f1).c2
  go_wp2
  go_ret
  exact ⟨rfl, f1⟩
theorem ringCap (h : RgAt w r g l cp f n) : Calls Tryz.prog 215 #[.pointer (some ⟨r, 0, none⟩)] w fun e w' => e = .returned (.int .i64 l.length) ∧ Fr [] w w' := by
  have hnb := fun W => nilB W ⟨g, 0, none⟩ l.length cp
  have hn := h.hn
  have hl := h.hl
  have c0 := h.c0
  have hw : IntKind.i64.wrap ((l.length : Int) - n) = (l.length : Int) - n := IntWalk.i64_in _ (by omega)
  have HZ := Lib.hid (ringZero h)
  go_enter Tryz.func215, Tryz.ntmps215
  go_wp2_with fail
  refine HZ.out.mono ?_
  rintro e w1 ⟨rfl, f1⟩
  have cc := (h.new f1).c0
  go_wp2
  go_ret
  exact ⟨rfl, f1⟩
theorem ringFree (h : RgAt w r g l cp f n) : Calls Tryz.prog 222 #[.pointer (some ⟨r, 0, none⟩)] w fun e w' => e = .returned (.int .i64 ((l.length : Int) - n)) ∧ Fr [] w w' := by
  have hnb := fun W => nilB W ⟨g, 0, none⟩ l.length cp
  have hn := h.hn
  have hl := h.hl
  have c0 := h.c0
  have hw : IntKind.i64.wrap ((l.length : Int) - n) = (l.length : Int) - n := IntWalk.i64_in _ (by omega)
  have HC := Lib.hid (ringCap h)
  go_enter Tryz.func222, Tryz.ntmps222
  go_wp2_with fail
  refine HC.out.mono ?_
  rintro e w1 ⟨rfl, f1⟩
  go_wp2_with fail
  refine (ringLen (h.new f1)).mono ?_
  rintro e w2 ⟨rfl, f2⟩
  go_wp2
  go_ret
  exact ⟨rfl, f1.step f2⟩
end
theorem agg298 : ∀ w, (isAgg 298).run Tryz.prog w = .ok true w := fun w => by kernel_rfl
theorem size298 : ∀ w, (sizeOf 298).run Tryz.prog w = .ok 2 w := fun w => by kernel_rfl
theorem bldPc (a b : Option Addr) (n c n' c' : Nat) : ∀ w, (Instr.build 298 #[(0, .slice a n c), (1, .slice b n' c')]).run Tryz.prog w = .ok (.agg #[.slice a n c, .slice b n' c']) w := fun w => by kernel_rfl
/-- The two pieces of the bytes behind an offset. -/
theorem ringPieces {w : World} {r g : Nat} {l : List UInt8} {cp f k : Nat} (h : RgAt w r g l cp f k) (o n : Nat) (ho : o ≤ 100000) (hn : n ≤ l.length) :
    Calls Tryz.prog 228 #[.pointer (some ⟨r, 0, none⟩), .int .i64 o, .int .i64 n] w fun e w' => e = .returned (.agg #[.slice (some ⟨g, if min n (l.length - (f + o) % l.length) = 0 then 0 else (f + o) % l.length, none⟩) (min n (l.length - (f + o) % l.length)) (min n (l.length - (f + o) % l.length)), .slice (some ⟨g, 0, none⟩) (n - min n (l.length - (f + o) % l.length)) (n - min n (l.length - (f + o) % l.length))]) ∧ Fr [] w w' := by
  have HR := Lib.hid h
  have hf := h.hf
  have hl := h.hl
  obtain ⟨c, hc⟩ : ∃ c, l.length = c := ⟨_, rfl⟩
  have c0 := h.c0
  have c1 := h.c1
  have hcp := h.cap
  rw [hc] at c0 hf hl hn hcp ⊢
  obtain ⟨p, hp⟩ : ∃ p, (f + o) % c = p := ⟨_, rfl⟩
  have hpc : p < c := by rw [← hp]; exact Nat.mod_lt _ (by omega)
  obtain ⟨q, hq⟩ : ∃ q, min n (c - p) = q := ⟨_, rfl⟩
  rw [hp, hq]
  have hm : ((f : Int) + o).tmod c = p := by rw [Int.tmod_eq_emod_of_nonneg (by omega), ← hp]; first | norm_cast | simp
  have hw1 : IntKind.i64.wrap ((f : Int) + o) = (f : Int) + o := IntWalk.i64_in _ (by omega)
  have hw2 : IntKind.i64.wrap ((c : Int) - p) = (c : Int) - p := IntWalk.i64_in _ (by omega)
  have hw3 : IntKind.i64.wrap ((p : Int) + q) = (p : Int) + q := IntWalk.i64_in _ (by omega)
  have hqn : q ≤ n ∧ q ≤ c - p ∧ (q = n ∨ q = c - p) := by omega
  have hw4 : IntKind.i64.wrap ((n : Int) - q) = ((n - q : Nat) : Int) := by rw [IntWalk.i64_in _ (by omega)]; omega
  have hcz : ¬ c = 0 := by omega
  have hmin : (if (c : Int) - p < n then (c : Int) - p else (n : Int)) = q := by rcases hqn with ⟨h1, h2, h3 | h3⟩ <;> split <;> omega
  have HMN := Lib.hid hmin
  obtain ⟨z, hz⟩ : ∃ z, (if q = 0 then 0 else p) = z := ⟨_, rfl⟩
  rw [hz]
  have HZ := Lib.hid hz
  clear hz
  have HPQ := Lib.hid (And.intro hp hq)
  have HCC := Lib.hid hc
  clear h hp hq hc
  obtain ⟨A, hA⟩ : ∃ A, w.heap.size = A := ⟨_, rfl⟩
  obtain ⟨wA, hwA⟩ : ∃ z, (w.alloc (.cells #[.slice none 0 0, .slice none 0 0] 298)).drew = z := ⟨_, rfl⟩
  have fA : Fr [] w wA := by rw [← hwA]; exact ((Fr.refl [] w).alloc _).drew
  have hbA : Blk wA A 298 [.slice none 0 0, .slice none 0 0] := by
    rw [← hwA, ← hA]
    exact (Blk.made w 298 [.slice none 0 0, .slice none 0 0]).keep ((Fr.refl [] _).drew) (by simp)
  have k0 := fA.keep c0 (by simp)
  have k1 := fA.keep c1 (by simp)
  have HFA := Lib.hid fA
  have HBA := Lib.hid hbA
  have HWA := Lib.hid hwA
  have HA := Lib.hid hA
  clear fA hbA hwA hA c0 c1
  go_enter Tryz.func228, Tryz.ntmps228
  go_upto_region 1 with fail
  simp only [HA.out]
  refine wp_region_held_drew (S := fun W => W.cell? ⟨r, 0, none⟩ = some (.slice (some ⟨g, 0, none⟩) c cp) ∧ W.cell? ⟨r, 1, none⟩ = some (.int .i64 f)) (by kernel_rfl) (by rw [HWA.out]; exact ⟨k0, k1⟩) (fun hHeld => ?_)
  rw [HWA.out] at hHeld ⊢
  refine wpAnyH_take (i := 0) (oi := _) (v := ?_) rfl (by kernel_rfl) (by kernel_rfl) (by kernel_rfl) (fun _ _ _ h => h) (Or.inl ⟨by rfl, ?_⟩) (by first | assumption | trivial) ?_
  rotate_left
  · intro w hSw; (try dsimp only at hSw); go_simp; try with_reducible rfl
  try simp only [Act.put, qj1, qj2, qj3, qj4, qj5, qj6]
  refine wpAnyH_take (i := 1) (oi := _) (v := ?_) rfl (by kernel_rfl) (by kernel_rfl) (by kernel_rfl) (fun _ _ _ h => h) (Or.inl ⟨by rfl, ?_⟩) (by first | assumption | trivial) ?_
  rotate_left
  · intro w hSw; (try dsimp only at hSw); go_simp; try with_reducible rfl
  try simp only [Act.put, qj1, qj2, qj3, qj4, qj5, qj6]
  refine wpAnyH_take (i := 2) (oi := _) (v := ?_) rfl (by kernel_rfl) (by kernel_rfl) (by kernel_rfl) (fun _ _ _ h => h) (Or.inl ⟨by rfl, ?_⟩) (by first | assumption | trivial) ?_
  rotate_left
  · intro w hSw; (try dsimp only at hSw); go_simp; try with_reducible rfl
  try simp only [Act.put, qj1, qj2, qj3, qj4, qj5, qj6]
  refine wpAnyH_take (i := 3) (oi := _) (v := ?_) rfl (by kernel_rfl) (by kernel_rfl) (by kernel_rfl) (fun _ _ _ h => h) (Or.inl ⟨by rfl, ?_⟩) (by first | assumption | trivial) ?_
  rotate_left
  · intro w hSw; (try dsimp only at hSw); go_simp; try with_reducible rfl
  try simp only [Act.put, qj1, qj2, qj3, qj4, qj5, qj6]
  refine wpAnyH_take (i := 4) (oi := _) (v := ?_) rfl (by kernel_rfl) (by kernel_rfl) (by kernel_rfl) (fun _ _ _ h => h) (Or.inl ⟨by rfl, ?_⟩) (by first | assumption | trivial) ?_
  rotate_left
  · intro w hSw; (try dsimp only at hSw); go_simp; try with_reducible rfl
  try simp only [Act.put, qj1, qj2, qj3, qj4, qj5, qj6]
  refine wpAnyH_take (i := 5) (oi := _) (v := ?_) rfl (by kernel_rfl) (by kernel_rfl) (by kernel_rfl) (fun _ _ _ h => h) (Or.inl ⟨by rfl, ?_⟩) (by first | assumption | trivial) ?_
  rotate_left
  · intro w hSw; (try dsimp only at hSw); go_simp; try with_reducible rfl
  try simp only [Act.put, qj1, qj2, qj3, qj4, qj5, qj6]
  refine wpAnyH_take (i := 6) (oi := _) (v := ?_) rfl (by kernel_rfl) (by kernel_rfl) (by kernel_rfl) (fun _ _ _ h => h) (Or.inl ⟨by rfl, ?_⟩) (by first | assumption | trivial) ?_
  rotate_left
  · intro w hSw; (try dsimp only at hSw); go_simp; try with_reducible rfl
  try simp only [Act.put, qj1, qj2, qj3, qj4, qj5, qj6]
  refine wpAnyH_take (i := 7) (oi := _) (v := ?_) rfl (by kernel_rfl) (by kernel_rfl) (by kernel_rfl) (fun _ _ _ h => h) (Or.inl ⟨by rfl, ?_⟩) (by first | assumption | trivial) ?_
  rotate_left
  · intro w hSw; (try dsimp only at hSw); go_simp; try with_reducible rfl
  try simp only [Act.put, qj1, qj2, qj3, qj4, qj5, qj6]
  refine wpAnyH_take (i := 8) (oi := _) (v := ?_) rfl (by kernel_rfl) (by kernel_rfl) (by kernel_rfl) (fun _ _ _ h => h) (Or.inl ⟨by rfl, ?_⟩) (by first | assumption | trivial) ?_
  rotate_left
  · intro w hSw; (try dsimp only at hSw); go_simp; try with_reducible rfl
  try simp only [Act.put, qj1, qj2, qj3, qj4, qj5, qj6]
  refine wpAnyH_take (i := 9) (oi := _) (v := ?_) rfl (by kernel_rfl) (by kernel_rfl) (by kernel_rfl) (fun _ _ _ h => h) (Or.inl ⟨by rfl, ?_⟩) (by first | assumption | trivial) ?_
  rotate_left
  · intro w hSw; (try dsimp only at hSw); go_simp; try with_reducible rfl
  try simp only [Act.put, qj1, qj2, qj3, qj4, qj5, qj6]
  refine wpAnyH_take (i := 10) (oi := _) (v := ?_) rfl (by kernel_rfl) (by kernel_rfl) (by kernel_rfl) (fun _ _ _ h => h) (Or.inl ⟨by rfl, ?_⟩) (by first | assumption | trivial) ?_
  rotate_left
  · intro w hSw; (try dsimp only at hSw); go_simp; try with_reducible rfl
  try simp only [Act.put, qj1, qj2, qj3, qj4, qj5, qj6]
  refine wpAnyH_take (i := 11) (oi := _) (v := ?_) rfl (by kernel_rfl) (by kernel_rfl) (by kernel_rfl) (fun _ _ _ h => h) (Or.inl ⟨by rfl, ?_⟩) (by first | assumption | trivial) ?_
  rotate_left
  · intro w hSw; (try dsimp only at hSw); go_simp; try with_reducible rfl
  try simp only [Act.put, qj1, qj2, qj3, qj4, qj5, qj6]
  refine wpAnyH_take (i := 12) (oi := _) (v := ?_) rfl (by kernel_rfl) (by kernel_rfl) (by kernel_rfl) (fun _ _ _ h => h) (Or.inl ⟨by rfl, ?_⟩) (by first | assumption | trivial) ?_
  rotate_left
  · intro w hSw; (try dsimp only at hSw); go_simp; try with_reducible rfl
  try simp only [Act.put, qj1, qj2, qj3, qj4, qj5, qj6]
  refine wpAnyH_done (by kernel_rfl) ?_ _
  obtain ⟨wB, hwB⟩ : ∃ z, wA.drew = z := ⟨_, rfl⟩
  have fB : Fr [] wA wB := by rw [← hwB]; exact (Fr.refl [] wA).drew
  have j0 := fB.keep k0 (by simp)
  have j1 := fB.keep k1 (by simp)
  have HFB := Lib.hid (HFA.out.step fB)
  have HBB := Lib.hid (HBA.out.keep fB (by simp))
  have HWB := Lib.hid hwB
  clear fB hwB
  go_upto_region 3 with fail
  have b0 : (0 : Int) ≤ (p : Int) := Int.natCast_nonneg _
  have b1 : (p : Int) ≤ (p : Int) + q := by omega
  have b2 : (p : Int) + q ≤ (cp : Int) := by omega
  have b3 : (0 : Int) ≤ ((n - q : Nat) : Int) := Int.natCast_nonneg _
  have b4 : ((n - q : Nat) : Int) ≤ (cp : Int) := by omega
  have b5 : (0 : Int) ≤ (p : Int) + q := by omega
  refine wp_region_held_drew (S := fun W => W.cell? ⟨r, 0, none⟩ = some (.slice (some ⟨g, 0, none⟩) c cp) ∧ W.cell? ⟨r, 1, none⟩ = some (.int .i64 f)) (by kernel_rfl) (by rw [HWB.out]; exact ⟨j0, j1⟩) (fun hHeld => ?_)
  rw [HWB.out] at hHeld ⊢
  refine wpAnyH_take (i := 0) (oi := _) (v := ?_) rfl (by kernel_rfl) (by kernel_rfl) (by kernel_rfl) (fun _ _ _ h => h) (Or.inl ⟨by rfl, ?_⟩) (by first | assumption | trivial) ?_
  rotate_left
  · intro w hSw; (try dsimp only at hSw); go_simp; try with_reducible rfl
  try simp only [Act.put, qj1, qj2, qj3, qj4, qj5, qj6]
  refine wpAnyH_take (i := 1) (oi := _) (v := ?_) rfl (by kernel_rfl) (by kernel_rfl) (by kernel_rfl) (fun _ _ _ h => h) (Or.inl ⟨by rfl, ?_⟩) (by first | assumption | trivial) ?_
  rotate_left
  · intro w hSw; (try dsimp only at hSw); go_simp; try with_reducible rfl
  try simp only [Act.put, qj1, qj2, qj3, qj4, qj5, qj6]
  refine wpAnyH_take (i := 2) (oi := _) (v := ?_) rfl (by kernel_rfl) (by kernel_rfl) (by kernel_rfl) (fun _ _ _ h => h) (Or.inl ⟨by rfl, ?_⟩) (by first | assumption | trivial) ?_
  rotate_left
  · intro w hSw; (try dsimp only at hSw); go_simp; try with_reducible rfl
  try simp only [Act.put, qj1, qj2, qj3, qj4, qj5, qj6]
  refine wpAnyH_take (i := 3) (oi := _) (v := ?_) rfl (by kernel_rfl) (by kernel_rfl) (by kernel_rfl) (fun _ _ _ h => h) (Or.inl ⟨by rfl, ?_⟩) (by first | assumption | trivial) ?_
  rotate_left
  · intro w hSw; (try dsimp only at hSw); go_simp; try with_reducible rfl
  try simp only [Act.put, qj1, qj2, qj3, qj4, qj5, qj6]
  refine wpAnyH_take (i := 4) (oi := _) (v := ?_) rfl (by kernel_rfl) (by kernel_rfl) (by kernel_rfl) (fun _ _ _ h => h) (Or.inl ⟨by rfl, ?_⟩) (by first | assumption | trivial) ?_
  rotate_left
  · intro w hSw; (try dsimp only at hSw); go_simp; try with_reducible rfl
  try simp only [Act.put, qj1, qj2, qj3, qj4, qj5, qj6]
  refine wpAnyH_take (i := 5) (oi := _) (v := ?_) rfl (by kernel_rfl) (by kernel_rfl) (by kernel_rfl) (fun _ _ _ h => h) (Or.inl ⟨by rfl, ?_⟩) (by first | assumption | trivial) ?_
  rotate_left
  · intro w hSw; (try dsimp only at hSw); go_simp; try with_reducible rfl
  try simp only [Act.put, qj1, qj2, qj3, qj4, qj5, qj6]
  refine wpAnyH_take (i := 6) (oi := _) (v := ?_) rfl (by kernel_rfl) (by kernel_rfl) (by kernel_rfl) (fun _ _ _ h => h) (Or.inl ⟨by rfl, ?_⟩) (by first | assumption | trivial) ?_
  rotate_left
  · intro w hSw; (try dsimp only at hSw); go_simp; try with_reducible rfl
  try simp only [Act.put, qj1, qj2, qj3, qj4, qj5, qj6]
  refine wpAnyH_take (i := 7) (oi := _) (v := ?_) rfl (by kernel_rfl) (by kernel_rfl) (by kernel_rfl) (fun _ _ _ h => h) (Or.inl ⟨by rfl, ?_⟩) (by first | assumption | trivial) ?_
  rotate_left
  · intro w hSw; (try dsimp only at hSw); go_simp; try with_reducible rfl
  try simp only [Act.put, qj1, qj2, qj3, qj4, qj5, qj6]
  refine wpAnyH_take (i := 8) (oi := _) (v := ?_) rfl (by kernel_rfl) (by kernel_rfl) (by kernel_rfl) (fun _ _ _ h => h) (Or.inl ⟨by rfl, ?_⟩) (by first | assumption | trivial) ?_
  rotate_left
  · intro w hSw; (try dsimp only at hSw); go_simp; try with_reducible rfl
  try simp only [Act.put, qj1, qj2, qj3, qj4, qj5, qj6]
  refine wpAnyH_take (i := 9) (oi := _) (v := ?_) rfl (by kernel_rfl) (by kernel_rfl) (by kernel_rfl) (fun _ _ _ h => h) (Or.inl ⟨by rfl, ?_⟩) (by first | assumption | trivial) ?_
  rotate_left
  · intro w hSw; (try dsimp only at hSw); go_simp; try with_reducible rfl
  try simp only [Act.put, qj1, qj2, qj3, qj4, qj5, qj6]
  refine wpAnyH_take (i := 10) (oi := _) (v := ?_) rfl (by kernel_rfl) (by kernel_rfl) (by kernel_rfl) (fun _ _ _ h => h) (Or.inl ⟨by rfl, ?_⟩) (by first | assumption | trivial) ?_
  rotate_left
  · intro w hSw; (try dsimp only at hSw); go_simp; try with_reducible rfl
  try simp only [Act.put, qj1, qj2, qj3, qj4, qj5, qj6]
  refine wpAnyH_take (i := 11) (oi := _) (v := .slice (some ⟨g, z, none⟩) q q) rfl (by kernel_rfl) (by kernel_rfl) (by kernel_rfl) (fun _ _ _ h => h) (Or.inl ⟨by rfl, ?_⟩) (by first | assumption | trivial) ?_
  · intro w hSw
    try dsimp only at hSw
    go_simp
    have ht : ((p : Int) + q).toNat = p + q := by omega
    rw [ht, ← HZ.out]
    refine ⟨?_, by omega⟩
    by_cases hq0 : q = 0
    · simp [hq0]
    · rw [if_neg (by omega), if_neg hq0]
  try simp only [Act.put, qj1, qj2, qj3, qj4, qj5, qj6]
  refine wpAnyH_take (i := 12) (oi := _) (v := ?_) rfl (by kernel_rfl) (by kernel_rfl) (by kernel_rfl) (fun _ _ _ h => h) (Or.inl ⟨by rfl, ?_⟩) (by first | assumption | trivial) ?_
  rotate_left
  · intro w hSw; (try dsimp only at hSw); go_simp; try with_reducible rfl
  try simp only [Act.put, qj1, qj2, qj3, qj4, qj5, qj6]
  refine wpAnyH_take (i := 13) (oi := _) (v := ?_) rfl (by kernel_rfl) (by kernel_rfl) (by kernel_rfl) (fun _ _ _ h => h) (Or.inl ⟨by rfl, ?_⟩) (by first | assumption | trivial) ?_
  rotate_left
  · intro w hSw; (try dsimp only at hSw); go_simp; try with_reducible rfl
  try simp only [Act.put, qj1, qj2, qj3, qj4, qj5, qj6]
  refine wpAnyH_take (i := 14) (oi := _) (v := ?_) rfl (by kernel_rfl) (by kernel_rfl) (by kernel_rfl) (fun _ _ _ h => h) (Or.inl ⟨by rfl, ?_⟩) (by first | assumption | trivial) ?_
  rotate_left
  · intro w hSw; (try dsimp only at hSw); go_simp; try with_reducible rfl
  try simp only [Act.put, qj1, qj2, qj3, qj4, qj5, qj6]
  refine wpAnyH_take (i := 15) (oi := _) (v := ?_) rfl (by kernel_rfl) (by kernel_rfl) (by kernel_rfl) (fun _ _ _ h => h) (Or.inl ⟨by rfl, ?_⟩) (by first | assumption | trivial) ?_
  rotate_left
  · intro w hSw; (try dsimp only at hSw); go_simp; try with_reducible rfl
  try simp only [Act.put, qj1, qj2, qj3, qj4, qj5, qj6]
  refine wpAnyH_take (i := 16) (oi := _) (v := ?_) rfl (by kernel_rfl) (by kernel_rfl) (by kernel_rfl) (fun _ _ _ h => h) (Or.inl ⟨by rfl, ?_⟩) (by first | assumption | trivial) ?_
  rotate_left
  · intro w hSw; (try dsimp only at hSw); go_simp; try with_reducible rfl
  try simp only [Act.put, qj1, qj2, qj3, qj4, qj5, qj6]
  refine wpAnyH_take (i := 17) (oi := _) (v := ?_) rfl (by kernel_rfl) (by kernel_rfl) (by kernel_rfl) (fun _ _ _ h => h) (Or.inl ⟨by rfl, ?_⟩) (by first | assumption | trivial) ?_
  rotate_left
  · intro w hSw; (try dsimp only at hSw); go_simp; try with_reducible rfl
  try simp only [Act.put, qj1, qj2, qj3, qj4, qj5, qj6]
  refine wpAnyH_take (i := 18) (oi := _) (v := ?_) rfl (by kernel_rfl) (by kernel_rfl) (by kernel_rfl) (fun _ _ _ h => h) (Or.inl ⟨by rfl, ?_⟩) (by first | assumption | trivial) ?_
  rotate_left
  · intro w hSw; (try dsimp only at hSw); go_simp; try with_reducible rfl
  try simp only [Act.put, qj1, qj2, qj3, qj4, qj5, qj6]
  refine wpAnyH_take (i := 19) (oi := _) (v := ?_) rfl (by kernel_rfl) (by kernel_rfl) (by kernel_rfl) (fun _ _ _ h => h) (Or.inl ⟨by rfl, ?_⟩) (by first | assumption | trivial) ?_
  rotate_left
  · intro w hSw; (try dsimp only at hSw); go_simp; try with_reducible rfl
  try simp only [Act.put, qj1, qj2, qj3, qj4, qj5, qj6]
  refine wpAnyH_take (i := 20) (oi := _) (v := ?_) rfl (by kernel_rfl) (by kernel_rfl) (by kernel_rfl) (fun _ _ _ h => h) (Or.inl ⟨by rfl, ?_⟩) (by first | assumption | trivial) ?_
  rotate_left
  · intro w hSw; (try dsimp only at hSw); go_simp; try with_reducible rfl
  try simp only [Act.put, qj1, qj2, qj3, qj4, qj5, qj6]
  refine wpAnyH_take (i := 21) (oi := _) (v := ?_) rfl (by kernel_rfl) (by kernel_rfl) (by kernel_rfl) (fun _ _ _ h => h) (Or.inl ⟨by rfl, ?_⟩) (by first | assumption | trivial) ?_
  rotate_left
  · intro w hSw; (try dsimp only at hSw); go_simp; try with_reducible rfl
  try simp only [Act.put, qj1, qj2, qj3, qj4, qj5, qj6]
  refine wpAnyH_take (i := 22) (oi := _) (v := .slice (some ⟨g, 0, none⟩) (n - q) (n - q)) rfl (by kernel_rfl) (by kernel_rfl) (by kernel_rfl) (fun _ _ _ h => h) (Or.inl ⟨by rfl, ?_⟩) (by first | assumption | trivial) ?_
  · intro w hSw
    try dsimp only at hSw
    go_simp
  try simp only [Act.put, qj1, qj2, qj3, qj4, qj5, qj6]
  refine wpAnyH_take (i := 23) (oi := _) (v := .agg #[.slice (some ⟨g, z, none⟩) q q, .slice (some ⟨g, 0, none⟩) (n - q) (n - q)]) rfl (by kernel_rfl) (by kernel_rfl) (by kernel_rfl) (fun _ _ _ h => h) (Or.inl ⟨by rfl, ?_⟩) (by first | assumption | trivial) ?_
  · intro w hSw
    try dsimp only at hSw
    exact exec_bld2 (V := .slice (some ⟨g, z, none⟩) q q) (U := .slice (some ⟨g, 0, none⟩) (n - q) (n - q)) rfl rfl rfl (bldPc _ _ _ _ _ _ w)
  try simp only [Act.put, qj1, qj2, qj3, qj4, qj5, qj6]
  refine wpAnyH_ready (rs := [24]) (by kernel_rfl) (by simp) ?_
  refine AllReadyH.cons (o := _) rfl (fun K hK => ?_) AllReadyH.nil
  obtain ⟨wC, hst, hb_, hf_⟩ := store_all (t := 298) ([.slice (some ⟨g, z, none⟩) q q, .slice (some ⟨g, 0, none⟩) (n - q) (n - q)]) size298 rfl (fun u hu => by simp only [List.mem_cons, List.not_mem_nil, or_false] at hu; rcases hu with rfl | rfl <;> rfl) HBB.out rfl
  split
  rotate_left
  · rename_i hno
    exact absurd rfl hno
  refine wp_skp (w' := wC) ?_ ?_
  · show Sem.run Tryz.prog ((Instr.storeAt 298 (.pointer (some ⟨A, 0, none⟩)) (.agg ([.slice (some ⟨g, z, none⟩) q q, .slice (some ⟨g, 0, none⟩) (n - q) (n - q)]).toArray)) >>= fun _ => pure Next.skip) _ = _
    rw [Sem.run_bind, hst]
    rfl
  clear hst
  have HFC := Lib.hid (show Fr [] w wC from HFB.out.trans hf_ (fun x hx hl => by rw [List.mem_singleton] at hx; have := HA.out; omega))
  have HBC := Lib.hid hb_
  have hne : r ≠ A ∧ True := ⟨fun h => by have := cell_lt k0; have := HR.out.blk.lt; have := HA.out; omega, trivial⟩
  refine hK.out _ _ (⟨hf_.keep hHeld.1 (by simp [hne.1]), hf_.keep hHeld.2 (by simp [hne.1])⟩) (fun hHeld => ?_)
  clear hK K
  try simp only [Act.put, qj1, qj2, qj3, qj4, qj5, qj6]
  refine wpAnyH_done (by kernel_rfl) ?_ _
  go_wp2
  have hl := load_var agg298 size298 (xs := [.slice (some ⟨g, z, none⟩) q q, .slice (some ⟨g, 0, none⟩) (n - q) (n - q)]) rfl HBC.out.at
  refine bodyPost_ret (v := .agg #[.slice (some ⟨g, z, none⟩) q q, .slice (some ⟨g, 0, none⟩) (n - q) (n - q)]) (by simp [results, Tryz.results228, as_addr, hl]) rfl ?_
  exact ⟨rfl, HFC.out⟩
end Go.Proofs.YtmdhlodafjpnmaaGreat
