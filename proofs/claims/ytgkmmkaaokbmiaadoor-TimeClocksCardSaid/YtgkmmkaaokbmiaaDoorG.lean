/- The walk of the law TimeClocks: it returns true, at any time and any calls (given as the cells that hold them). -/
import Derived.Test.YtgkmmkaaokbmiaaDoorE
import Derived.Test.YtgkmmkaaokbmiaaDoorFr
import Derived.Deep.QuietTactic
import Derived.BigQuiet
namespace Go.Proofs.YtgkmmkaaokbmiaaDoor
open Go.RowKit Go.Sort Go.Lib
set_option linter.unusedVariables false

theorem setCell_self (w : World) (a : Addr) (v : Value) (h : w.cell? a = some v) : w.setCell a v = w := by
  have e : (w.setCell a v).heap = w.heap := by
    apply Array.ext
    · simp [World.setCell]
    · intro i h1 h2
      simp only [World.setCell, Array.getElem_modify]
      split
      · rename_i hb
        subst hb
        unfold World.cell? at h
        rw [Array.getElem?_eq_getElem h2] at h
        cases ho : w.heap[a.block] with
        | cells c t fr =>
          rw [ho] at h
          simp only at h
          split at h
          · cases h
          · rename_i hs
            simp only [hs]
            congr 1
            apply Array.ext_getElem?
            intro j
            simp only [Bool.false_eq_true, if_false, Array.getElem?_setIfInBounds]
            split
            · rename_i hj
              subst hj
              have hlt : a.off < c.size := by
                rcases Nat.lt_or_ge a.off c.size with h' | h'
                · exact h'
                · rw [Array.getElem?_eq_none h'] at h
                  cases h
              rw [if_pos hlt, h]
            · rfl
        | _ => rfl
      · rfl
  show { w.setCell a v with heap := (w.setCell a v).heap } = w
  rw [e]
  rfl

theorem advance_any (b : Nat) (a x : Int) (w : World) (h0 : w.cell? ⟨b, 0, none⟩ = some (.bool true)) (h1 : w.cell? ⟨b, 1, none⟩ = some (.int .u64 a)) (hf : w.frozen? ⟨b, 1, none⟩ = false) :
    Calls Tryd.prog 22 #[.pointer (some ⟨b, 0, none⟩), .int .u64 x] w fun e w' => e = .returned (.int .i64 (advE a x)) ∧ w.setCell ⟨b, 1, none⟩ (.int .u64 (advN a x)) = w' := by
  by_cases hn : x = 18446744073709551615
  · subst hn
    exact (advance_never b w h0).mono fun e w' ⟨h2, h3⟩ => ⟨by rw [h2]; rfl, by rw [show advN a 18446744073709551615 = a from rfl, setCell_self _ _ _ h1]; exact h3⟩
  · have hx : (x == 18446744073709551615) = false := by rw [beq_eq_false_iff_ne]; exact hn
    by_cases hl : x < a
    · exact (advance_range b a x w h0 h1 hx hl).mono fun e w' ⟨h2, h3⟩ => ⟨by rw [h2]; unfold advE; rw [if_neg hn, if_pos hl], by unfold advN; rw [if_neg hn, if_pos hl, setCell_self _ _ _ h1]; exact h3⟩
    · exact (advance_ok b a x w h0 h1 hf hx (by omega)).mono fun e w' ⟨h2, h3⟩ => ⟨by rw [h2]; unfold advE; rw [if_neg hn, if_neg hl], by unfold advN; rw [if_neg hn, if_neg hl]; exact h3⟩
theorem pass_any (b : Nat) (a x : Int) (w : World) (h0 : w.cell? ⟨b, 0, none⟩ = some (.bool true)) (h1 : w.cell? ⟨b, 1, none⟩ = some (.int .u64 a)) (hf : w.frozen? ⟨b, 1, none⟩ = false)
    (ha : 0 ≤ a) (ha' : a ≤ 18446744073709551615) (hb : 0 ≤ x) (hb' : x ≤ 18446744073709551615) :
    Calls Tryd.prog 24 #[.pointer (some ⟨b, 0, none⟩), .int .u64 x] w fun e w' => e = .returned (.int .i64 (passE a x)) ∧ w.setCell ⟨b, 1, none⟩ (.int .u64 (passN a x)) = w' := by
  by_cases hn : addT a x = 18446744073709551615
  · exact (pass_full b a x w h0 h1 ha ha' hb hb' (by rw [hn]; rfl)).mono fun e w' ⟨h2, h3⟩ => ⟨by rw [h2]; unfold passE; rw [if_pos hn], by unfold passN; rw [if_pos hn, setCell_self _ _ _ h1]; exact h3⟩
  · exact (pass_ok b a x w h0 h1 hf ha ha' hb hb' (by rw [beq_eq_false_iff_ne]; exact hn)).mono fun e w' ⟨h2, h3⟩ => ⟨by rw [h2]; unfold passE; rw [if_neg hn], by unfold passN; rw [if_neg hn]; exact h3⟩

/-- A clock that was made, in block b, and shows 'now'. -/
structure Clk (w : World) (b : Nat) (now : Int) : Prop where
  c0 : w.cell? ⟨b, 0, none⟩ = some (.bool true)
  c1 : w.cell? ⟨b, 1, none⟩ = some (.int .u64 now)
  free : w.frozen? ⟨b, 1, none⟩ = false
theorem Clk.set {w : World} {b : Nat} {now : Int} (h : Clk w b now) (x : Int) : Clk (w.setCell ⟨b, 1, none⟩ (.int .u64 x)) b x :=
  ⟨by rw [World.cell?_setCell_other _ _ _ _ (by simp)]; exact h.c0, World.cell?_setCell_same _ _ _ h.c1, by rw [World.frozen?_setCell]; exact h.free⟩
theorem Clk.keep {S : List Nat} {w w' : World} {b : Nat} {now : Int} (h : Clk w b now) (hf : Fr S w w') (hn : b ∉ S) : Clk w' b now :=
  ⟨hf.keep h.c0 hn, hf.keep h.c1 hn, by rw [hf.frozen (cell_lt h.c0) hn]; exact h.free⟩
theorem Clk.drewN {w : World} {b : Nat} {now : Int} (h : Clk w b now) (n : Nat) : Clk (w.drewN n) b now := ⟨h.c0, h.c1, h.free⟩
theorem Clk.made (w : World) (a : Int) : Clk (w.alloc (.cells #[.bool true, .int .u64 a] 57)) w.heap.size a :=
  ⟨by simp, by simp, by simp⟩

theorem advance_fr (b : Nat) (a x : Int) (w : World) (h : Clk w b a) :
    Calls Tryd.prog 22 #[.pointer (some ⟨b, 0, none⟩), .int .u64 x] w fun e w' => e = .returned (.int .i64 (advE a x)) ∧ Clk w' b (advN a x) ∧ Fr [b] w w' :=
  (advance_any b a x w h.c0 h.c1 h.free).mono fun e w' ⟨h1, h2⟩ => ⟨h1, by rw [← h2]; exact h.set _, by rw [← h2]; exact (Fr.refl _ _).setCell (fun _ => by simp) _⟩
theorem pass_fr (b : Nat) (a x : Int) (w : World) (h : Clk w b a) (ha : 0 ≤ a) (ha' : a ≤ 18446744073709551615) (hb : 0 ≤ x) (hb' : x ≤ 18446744073709551615) :
    Calls Tryd.prog 24 #[.pointer (some ⟨b, 0, none⟩), .int .u64 x] w fun e w' => e = .returned (.int .i64 (passE a x)) ∧ Clk w' b (passN a x) ∧ Fr [b] w w' :=
  (pass_any b a x w h.c0 h.c1 h.free ha ha' hb hb').mono fun e w' ⟨h1, h2⟩ => ⟨h1, by rw [← h2]; exact h.set _, by rw [← h2]; exact (Fr.refl _ _).setCell (fun _ => by simp) _⟩
theorem copy_fr (b : Nat) (a : Int) (w : World) (h : Clk w b a) :
    Calls Tryd.prog 28 #[.pointer (some ⟨b, 0, none⟩)] w fun e w' => e = .returned (.pointer (some ⟨w.heap.size, 0, none⟩)) ∧ Clk w' w.heap.size a ∧ Fr [] w w' :=
  (copy_ok b a w h.c0 h.c1).mono fun e w' ⟨h1, h2⟩ => ⟨h1, by rw [← h2]; exact Clk.made _ _, by rw [← h2]; exact (Fr.refl _ _).alloc _⟩
theorem new_fr (a : Int) (w : World) (h : (a == 18446744073709551615) = false) :
    Calls Tryd.prog 21 #[.int .u64 a] w fun e w' => e = .returned (.tuple #[.pointer (some ⟨w.heap.size, 0, none⟩), .int .i64 0]) ∧ Clk w' w.heap.size a ∧ Fr [] w w' ∧ w.heap.size < w'.heap.size :=
  (new_ok a w h).mono fun e w' ⟨h1, h2⟩ => ⟨h1, by rw [← h2]; exact Clk.made _ _, by rw [← h2]; exact (Fr.refl _ _).alloc _, by rw [← h2]; simp⟩
theorem now_fr (b : Nat) (a : Int) (w : World) (h : Clk w b a) :
    Calls Tryd.prog 23 #[.pointer (some ⟨b, 0, none⟩)] w fun e w' => e = .returned (.int .u64 a) ∧ w' = w :=
  (now_any b a w h.c1).mono fun e w' ⟨h1, h2⟩ => ⟨h1, h2.symm⟩

set_option maxRecDepth 100000 in
set_option maxHeartbeats 1000000 in
theorem clocks_long (t : Int) (v : Option Addr) (len c : Nat) (w : World) (he : Env w) (h : 60 < (len : Int)) :
    Calls Tryd.prog 6 #[.int .u64 t, .slice v len c] w fun e w' => e = .returned (.bool true) ∧ Below w.heap.size w w' := by
  go_enter Tryd.func6, Tryd.ntmps6
  go_wp2_with (go_at_call 8; refine (known_any _ he).mono ?_; rintro e w1 ⟨rfl, hb⟩)
  go_ret
  exact ⟨rfl, hb⟩

set_option maxRecDepth 100000 in
set_option maxHeartbeats 1000000 in
theorem clocks_never (v : Option Addr) (len c : Nat) (w : World) (he : Env w) (h : ¬ 60 < (len : Int)) :
    Calls Tryd.prog 6 #[.int .u64 18446744073709551615, .slice v len c] w fun e w' => e = .returned (.bool true) ∧ Below w.heap.size w w' := by
  go_enter Tryd.func6, Tryd.ntmps6
  go_wp2_with (first
    | (go_at_call 21; refine (new_never _).mono ?_; rintro e w' ⟨rfl, rfl⟩)
    | (go_at_call 25; refine (refnew_any _ _).mono ?_; rintro e w1 ⟨rfl, hb1⟩; refine Hid.out ?_))
  refine Lib.hid ?_
  rw [show newN 18446744073709551615 = 0 from rfl, show newE 18446744073709551615 = 2 from rfl]
  have e1 := he.on he.big hb1
  have q1 := hb1.alloc hb1.size (.cells #[.int .u64 0] 48)
  go_wp2_with (go_at_call 8; refine (known_any _ (he.on he.big q1)).mono ?_; rintro e w2 ⟨rfl, hb2⟩)
  go_ret
  exact ⟨rfl, q1.trans (hb2.mono q1.size)⟩

/-- What a round of TimeClocks stands on. -/
def CK (bd : Nat) (w0 : World) (c : Value) (w : World) : Prop :=
  ∃ (bc : Nat) (now : Int), c = .pointer (some ⟨bc, 0, none⟩) ∧ Clk w bc now ∧ w.cell? ⟨bd, 0, none⟩ = some (.int .u64 now) ∧ w.frozen? ⟨bd, 0, none⟩ = false ∧ Fr [] w0 w ∧ w0.heap.size ≤ bc ∧ w0.heap.size ≤ bd ∧ bc ≠ bd ∧ 0 ≤ now ∧ now < 18446744073709551615

theorem advN_bd (a x : Int) (ha : 0 ≤ a) (ha' : a < 18446744073709551615) (hx : 0 ≤ x) (hx' : x ≤ 18446744073709551615) : 0 ≤ advN a x ∧ advN a x < 18446744073709551615 := by
  unfold advN
  split
  · omega
  · split <;> omega
theorem passN_bd (a x : Int) (ha : 0 ≤ a) (ha' : a < 18446744073709551615) (hx : 0 ≤ x) : 0 ≤ passN a x ∧ passN a x < 18446744073709551615 := by
  unfold passN addT
  split <;> (repeat' split at *) <;> omega

theorem addT_zero (a : Int) (h : a < 18446744073709551615) : addT a 0 = a := by
  unfold addT
  rw [if_neg (by omega)]
  omega
theorem pass0_fr (b : Nat) (a : Int) (w : World) (h : Clk w b a) (ha : 0 ≤ a) (ha' : a < 18446744073709551615) :
    Calls Tryd.prog 24 #[.pointer (some ⟨b, 0, none⟩), .int .u64 0] w fun e w' => e = .returned (.int .i64 0) ∧ Fr [b] w w' :=
  (pass_fr b a 0 w h ha (by omega) (by omega) (by omega)).mono fun e w' ⟨h1, _, h3⟩ => ⟨by rw [h1]; unfold passE; rw [addT_zero a ha', if_neg (by omega)], h3⟩
theorem pass0_ck (b : Nat) (a : Int) (w : World) (h : Clk w b a) (ha : 0 ≤ a) (ha' : a < 18446744073709551615) :
    Calls Tryd.prog 24 #[.pointer (some ⟨b, 0, none⟩), .int .u64 0] w fun e w' => e = .returned (.int .i64 0) ∧ Clk w' b a ∧ Fr [b] w w' :=
  (pass_fr b a 0 w h ha (by omega) (by omega) (by omega)).mono fun e w' ⟨h1, h2, h3⟩ => ⟨by rw [h1]; unfold passE; rw [addT_zero a ha', if_neg (by omega)], by
    have e1 : passN a 0 = a := by unfold passN; rw [addT_zero a ha', if_neg (by omega)]
    rw [e1] at h2
    exact h2, h3⟩

set_option maxRecDepth 100000 in
set_option maxHeartbeats 2000000 in
theorem clocks_none (t : Int) (v : Option Addr) (c : Nat) (w : World) (he : Env w) (ht0 : 0 ≤ t) (ht : (t == 18446744073709551615) = false) (ht1 : t < 18446744073709551615) :
    Calls Tryd.prog 6 #[.int .u64 t, .slice v 0 c] w fun e w' => e = .returned (.bool true) ∧ Below w.heap.size w w' := by
  have hnE : Hid (newE t = 0) := by show newE t = 0; unfold newE; rw [if_neg (by omega)]
  have hnN : Hid (newN t = t) := by show newN t = t; unfold newN; rw [if_neg (by omega)]
  go_enter Tryd.func6, Tryd.ntmps6
  go_wp2_with (go_at_call 21; refine (new_fr _ _ ht).mono ?_; rintro e w1 ⟨rfl, ck1, f1, z1⟩)
  refine (refnew_any _ _).mono ?_
  rintro e w2 ⟨rfl, hb2⟩
  have f2 := f1.step (Fr.of_below hb2)
  clear hb2 f1 ck1 z1
  rw [hnE.out, hnN.out]
  go_wp2
  refine wp_loop_rounds 1 ?_
  rw [rounds_succ]
  have f3 := f2.alloc (.cells #[.int .u64 t] 48)
  go_wp2_with (go_at_call 8; refine (known_any _ (he.on he.big f3.below0)).mono ?_; rintro e w3 ⟨rfl, hb3⟩)
  go_ret
  exact ⟨rfl, (f3.step (Fr.of_below hb3)).below0⟩

set_option maxRecDepth 100000 in
set_option maxHeartbeats 2000000 in
theorem clocks_any (t : Int) (b off len c : Nat) (What At Ticks : Nat → Int) (w : World) (he : Env w) (h : ¬ 60 < (len : Int)) (ht0 : 0 ≤ t) (ht : (t == 18446744073709551615) = false) (ht1 : t < 18446744073709551615) (hbs : len = 0 ∨ b < w.heap.size)
    (hc0 : ∀ i, i < len → w.cell? ⟨b, off + i * 3, none⟩ = some (.int .i64 (What i)))
    (hc1 : ∀ i, i < len → w.cell? ⟨b, off + i * 3 + 1, none⟩ = some (.int .u64 (At i)))
    (hc2 : ∀ i, i < len → w.cell? ⟨b, off + i * 3 + 2, none⟩ = some (.int .u64 (Ticks i)))
    (hk : ∀ i, i < len → 0 ≤ At i ∧ At i ≤ 18446744073709551615 ∧ 0 ≤ Ticks i ∧ Ticks i ≤ 18446744073709551615) :
    Calls Tryd.prog 6 #[.int .u64 t, .slice (some ⟨b, off, none⟩) len c] w fun e w' => e = .returned (.bool true) ∧ Below w.heap.size w w' := by
  have HC0 := Lib.hid hc0
  have HC1 := Lib.hid hc1
  have HC2 := Lib.hid hc2
  have HK := Lib.hid hk
  have HB := Lib.hid hbs
  clear hc0 hc1 hc2 hk hbs
  have hnE : Hid (newE t = 0) := by show newE t = 0; unfold newE; rw [if_neg (by omega)]
  have hnN : Hid (newN t = t) := by show newN t = t; unfold newN; rw [if_neg (by omega)]
  go_enter Tryd.func6, Tryd.ntmps6
  go_wp2_with (go_at_call 21; refine (new_fr _ _ ht).mono ?_; rintro e w1 ⟨rfl, ck1, f1, z1⟩)
  refine (refnew_any _ _).mono ?_
  rintro e w2 ⟨rfl, hb2⟩
  have f2 := f1.step (Fr.of_below hb2)
  have ck2 := ck1.keep (Fr.of_below hb2) (by simp)
  have z2 : w.heap.size < w2.heap.size := by have := hb2.size; omega
  clear hb2 f1 ck1 z1
  rw [hnE.out, hnN.out]
  go_wp2
  go_loopw [5, 41] (fun c i wr => ∃ k : Nat, k ≤ len ∧ i = .int .i64 k ∧ CK w2.heap.size w c wr) (fun _ i _ => len - (RowKit.intOf i).toNat)
  case atStart =>
    exact ⟨0, Nat.zero_le _, rfl, w.heap.size, t, rfl, ck2.keep ((Fr.refl [] _).alloc _) (by simp), by simp, by simp, f2.alloc _, Nat.le_refl _, by omega, by omega, ht0, ht1⟩
  case round =>
    obtain ⟨k, hkl, rfl, hck⟩ := hrel
    obtain ⟨bc, now, rfl, ck, d0, df, fr, hbc, hbd, hne, hn0, hn1⟩ := hck
    by_cases hlt : k < len
    · have hbw : b < w.heap.size := by have := HB.out; omega
      have k0 := fr.keep (HC0.out k hlt) (by simp)
      have k1 := fr.keep (HC1.out k hlt) (by simp)
      have k2 := fr.keep (HC2.out k hlt) (by simp)
      obtain ⟨x0, x1, y0, y1⟩ := HK.out k hlt
      have s1 := cell_lt ck.c0
      have s2 := cell_lt d0
      have ckA := ck.keep ((Fr.refl [] wr).alloc (.cells #[.int .i64 (What k), .int .u64 (At k), .int .u64 (Ticks k)] 52)) (by simp)
      obtain ⟨wA, hwA⟩ : ∃ wA, wA = wr.alloc (.cells #[.int .i64 (What k), .int .u64 (At k), .int .u64 (Ticks k)] 52) := ⟨_, rfl⟩
      have a1 : wA.cell? ⟨wr.heap.size, 1, none⟩ = some (.int .u64 (At k)) := by rw [hwA]; simp
      have a2 : wA.cell? ⟨wr.heap.size, 2, none⟩ = some (.int .u64 (Ticks k)) := by rw [hwA]; simp
      have fA : Fr [] wr wA := by rw [hwA]; exact (Fr.refl [] wr).alloc _
      have ckA := ck.keep fA (by simp)
      have dA := fA.keep d0 (by simp)
      have dfA : wA.frozen? ⟨w2.heap.size, 0, none⟩ = false := by rw [fA.frozen s2 (by simp)]; exact df
      have HA := Lib.hid hwA
      clear hwA
      by_cases hw0 : What k = 0
      · have g0 : (What k == 0) = true := by rw [beq_iff_eq]; exact hw0
        clear hw0
        go_wp2_with fail
        rw [← HA.out]
        refine (advance_fr bc now (At k) _ ckA).mono ?_
        rintro e w3 ⟨rfl, ck3, f3⟩
        have b1 := f3.keep a1 (by simp; omega)
        have b2 := f3.keep a2 (by simp; omega)
        have d3 := f3.keep dA (by simp; omega)
        have df3 : w3.frozen? ⟨w2.heap.size, 0, none⟩ = false := by rw [f3.frozen (cell_lt dA) (by simp; omega)]; exact dfA
        go_wp2_with fail
        refine (refadvance_any now (At k) _).mono ?_
        rintro e w4 ⟨rfl, hb4⟩
        have f4 := Fr.of_below hb4
        have d4 := f4.keep d3 (by simp)
        have df4 : w4.frozen? ⟨w2.heap.size, 0, none⟩ = false := by rw [f4.frozen (cell_lt d3) (by simp)]; exact df3
        have ck4 := ck3.keep f4 (by simp)
        have f5 : Fr [w2.heap.size] w4 (w4.setCell ⟨w2.heap.size, 0, none⟩ (.int .u64 (advN now (At k)))) := (Fr.refl _ _).setCell (fun _ => by simp) _
        have ck5 := ck4.keep f5 (by simp; omega)
        have bd := advN_bd now (At k) hn0 hn1 x0 x1
        go_wp2_with fail
        go_quiet ((go_at_call 23; exact Calls.quiet_of_same (now_fr _ _ _ (ck5.drewN _))))
        go_wp2_with fail
        go_roundw
        case rel => exact ⟨k + 1, by omega, by go_num, bc, advN now (At k), rfl, ck5.drewN _, by rw [World.cell?_drewN]; exact World.cell?_setCell_same _ _ _ d4, by rw [World.frozen?_drewN, World.frozen?_setCell]; exact df4,
            (((((fr.step fA).trans f3 (fun x hx hl => by simp at hx; omega)).step f4).trans f5 (fun x hx hl => by simp at hx; omega)).drewN _), hbc, hbd, hne, bd.1, bd.2⟩
        case measure => simp [RowKit.intOf]; omega
      · have g0 : (What k == 0) = false := by rw [beq_eq_false_iff_ne]; exact hw0
        clear hw0
        by_cases hw1 : What k = 1
        · have g1 : (What k == 1) = true := by rw [beq_iff_eq]; exact hw1
          clear hw1
          go_wp2_with fail
          rw [← HA.out]
          refine (pass_fr bc now (Ticks k) _ ckA hn0 (by omega) y0 y1).mono ?_
          rintro e w3 ⟨rfl, ck3, f3⟩
          have b1 := f3.keep a1 (by simp; omega)
          have b2 := f3.keep a2 (by simp; omega)
          have d3 := f3.keep dA (by simp; omega)
          have df3 : w3.frozen? ⟨w2.heap.size, 0, none⟩ = false := by rw [f3.frozen (cell_lt dA) (by simp; omega)]; exact dfA
          go_wp2_with fail
          refine (refpass_any now (Ticks k) _ hn0 (by omega) y0 y1).mono ?_
          rintro e w4 ⟨rfl, hb4⟩
          have f4 := Fr.of_below hb4
          have d4 := f4.keep d3 (by simp)
          have df4 : w4.frozen? ⟨w2.heap.size, 0, none⟩ = false := by rw [f4.frozen (cell_lt d3) (by simp)]; exact df3
          have ck4 := ck3.keep f4 (by simp)
          have f5 : Fr [w2.heap.size] w4 (w4.setCell ⟨w2.heap.size, 0, none⟩ (.int .u64 (passN now (Ticks k)))) := (Fr.refl _ _).setCell (fun _ => by simp) _
          have ck5 := ck4.keep f5 (by simp; omega)
          have bd := passN_bd now (Ticks k) hn0 hn1 y0
          go_wp2_with fail
          go_quiet ((go_at_call 23; exact Calls.quiet_of_same (now_fr _ _ _ (ck5.drewN _))))
          go_wp2_with fail
          go_roundw
          case rel => exact ⟨k + 1, by omega, by go_num, bc, passN now (Ticks k), rfl, ck5.drewN _, by rw [World.cell?_drewN]; exact World.cell?_setCell_same _ _ _ d4, by rw [World.frozen?_drewN, World.frozen?_setCell]; exact df4,
              (((((fr.step fA).trans f3 (fun x hx hl => by simp at hx; omega)).step f4).trans f5 (fun x hx hl => by simp at hx; omega)).drewN _), hbc, hbd, hne, bd.1, bd.2⟩
          case measure => simp [RowKit.intOf]; omega
        · have g1 : (What k == 1) = false := by rw [beq_eq_false_iff_ne]; exact hw1
          clear hw1
          go_wp2_with fail
          rw [← HA.out]
          refine (copy_fr bc now _ ckA).mono ?_
          rintro e w3 ⟨rfl, ck3, f3⟩
          have c3 := ckA.keep f3 (by simp)
          have d3 := f3.keep dA (by simp)
          have df3 : w3.frozen? ⟨w2.heap.size, 0, none⟩ = false := by rw [f3.frozen (cell_lt dA) (by simp)]; exact dfA
          have sA := cell_lt ckA.c0
          have sD := cell_lt dA
          go_wp2_with fail
          refine (pass0_ck bc now _ c3 hn0 hn1).mono ?_
          rintro e w4 ⟨rfl, c4, f4⟩
          have d4 := f4.keep d3 (by simp; omega)
          have df4 : w4.frozen? ⟨w2.heap.size, 0, none⟩ = false := by rw [f4.frozen (cell_lt d3) (by simp; omega)]; exact df3
          have ck4 := ck3.keep f4 (by simp; omega)
          go_wp2_with fail
          refine (pass_fr bc now 7 _ c4 hn0 (by omega) (by omega) (by omega)).mono ?_
          rintro e w5 ⟨rfl, _, f5⟩
          have d5 := f5.keep d4 (by simp; omega)
          have df5 : w5.frozen? ⟨w2.heap.size, 0, none⟩ = false := by rw [f5.frozen (cell_lt d4) (by simp; omega)]; exact df4
          have ck5 := ck4.keep f5 (by simp; omega)
          go_wp2_with fail
          go_quiet ((go_at_call 23; exact Calls.quiet_of_same (now_fr _ _ _ (ck5.drewN _))))
          go_wp2_with fail
          go_roundw
          case rel => exact ⟨k + 1, by omega, by go_num, wA.heap.size, now, rfl, ck5.drewN _, by rw [World.cell?_drewN]; exact d5, by rw [World.frozen?_drewN]; exact df5,
              (((((fr.step fA).step f3).trans f4 (fun x hx hl => by simp at hx; omega)).trans f5 (fun x hx hl => by simp at hx; omega)).drewN _), by have := (fr.step fA).size; omega, hbd, by omega, hn0, hn1⟩
          case measure => simp [RowKit.intOf]; omega
    · go_wp2_with (go_at_call 8; refine (known_any _ (he.on he.big fr.below0)).mono ?_; rintro e w3 ⟨rfl, hb3⟩)
      go_ret
      exact ⟨rfl, (fr.step (Fr.of_below hb3)).below0⟩
end Go.Proofs.YtgkmmkaaokbmiaaDoor
