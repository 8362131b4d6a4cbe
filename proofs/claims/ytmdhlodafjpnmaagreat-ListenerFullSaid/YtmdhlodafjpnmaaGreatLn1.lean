/- Contracts of the law's own to, listens, connects, pairs, accepts, closes, finds, where the net answers what is wanted. -/
import Derived.Test.YtmdhlodafjpnmaaGreatLive
import Derived.Test.YtmdhlodafjpnmaaGreatSlc
import Derived.BigQuiet
namespace Go.Proofs.YtmdhlodafjpnmaaGreat
open Go.RowKit
open Go.Maps (Keyed)
set_option linter.unusedVariables false
set_option maxRecDepth 100000
set_option maxHeartbeats 4000000

theorem to_any (s : ByteArray) (p : Int) (w : World) :
    Calls Tryz.prog 11 #[.string s, .int .i64 p] w fun e w' => e = .returned (.agg #[.string s, .int .i64 p]) ∧ Fr [] w w' := by
  go_enter Tryz.func11, Tryz.ntmps11
  go_wp2
  refine bodyPost_ret (v := .agg #[.string s, .int .i64 p]) (by simp [results, Tryz.results11, go_sem]) rfl ⟨rfl, ?_⟩
  first | exact (Fr.refl [] w).alloc _ | exact (((Fr.refl [] w).alloc _).setCell (by simp) _).setCell (by simp) _

section
variable {nv : Value} (Q : World → Prop) (w : World)
theorem listens_t (s : ByteArray) (p most r : Int) (s1 : ByteArray) (p1 e0 : Int)
    (hT : ∀ W, Fr [] w W → Calls Tryz.prog 30 #[nv, .agg #[.string s, .int .i64 p], .int .i64 most] W fun e w' => e = .returned (.tuple #[.int .i64 r, .agg #[.string s1, .int .i64 p1], .int .i64 e0]) ∧ Q w' ∧ FrK (fun z => w.heap.size ≤ z ∧ z < W.heap.size) W w')
    (hQ : ∀ W W', Q W → Fr [] W W' → Q W') :
    Calls Tryz.prog 10 #[nv, .agg #[.string s, .int .i64 p], .int .i64 most, .int .i64 r, .agg #[.string s1, .int .i64 p1], .int .i64 e0] w fun e w' => e = .returned (.bool true) ∧ Q w' := by
  have HT := Lib.hid hT
  have HQ := Lib.hid hQ
  clear hT hQ
  have f0 : Fr [] w (w.alloc (.cells #[.string s, .int .i64 p] 28)) := (Fr.refl [] w).alloc _
  have f1 := f0.alloc (.cells #[.string s1, .int .i64 p1] 28)
  have HC := Lib.hid (show ∀ w1, FrK (fun z => w.heap.size ≤ z ∧ z < ((w.alloc (.cells #[.string s, .int .i64 p] 28)).alloc (.cells #[.string s1, .int .i64 p1] 28)).heap.size) ((w.alloc (.cells #[.string s, .int .i64 p] 28)).alloc (.cells #[.string s1, .int .i64 p1] 28)) w1 → w1.cell? ⟨w.heap.size + 1, 0, none⟩ = some (.string s1) ∧ w1.cell? ⟨w.heap.size + 1, 1, none⟩ = some (.int .i64 p1) from fun w1 k1 => ⟨k1.cell (by simp) ⟨by omega, by simp⟩, k1.cell (by simp) ⟨by omega, by simp⟩⟩)
  go_enter Tryz.func10, Tryz.ntmps10
  go_wp2_with (go_at_call 30; refine (HT.out _ f1).mono ?_; rintro e w1 ⟨rfl, q1, k1⟩; obtain ⟨c0, c1⟩ := HC.out w1 k1; have d0 := ((Fr.refl [] w1).alloc (.cells #[.string s1, .int .i64 p1] 28)).keep c0 (by simp); have d1 := ((Fr.refl [] w1).alloc (.cells #[.string s1, .int .i64 p1] 28)).keep c1 (by simp))
  go_ret
  exact ⟨rfl, HQ.out _ _ q1 ((Fr.refl [] w1).alloc _)⟩
theorem connects_t (s : ByteArray) (p c r e0 : Int)
    (hT : ∀ W, Fr [] w W → Calls Tryz.prog 31 #[nv, .agg #[.string s, .int .i64 p], .int .i64 c] W fun e w' => e = .returned (.tuple #[.int .i64 r, .int .i64 e0]) ∧ Q w') :
    Calls Tryz.prog 16 #[nv, .agg #[.string s, .int .i64 p], .int .i64 c, .int .i64 r, .int .i64 e0] w fun e w' => e = .returned (.bool true) ∧ Q w' := by
  have f0 : Fr [] w (w.alloc (.cells #[.string s, .int .i64 p] 28)) := (Fr.refl [] w).alloc _
  have HT := Lib.hid hT
  clear hT
  go_enter Tryz.func16, Tryz.ntmps16
  go_wp2_with (go_at_call 31; refine (HT.out _ f0).mono ?_; rintro e w1 ⟨rfl, q1⟩)
  go_ret
  exact ⟨rfl, q1⟩
theorem pairs_t (c r e0 : Int)
    (hT : Calls Tryz.prog 33 #[nv, .int .i64 c] w fun e w' => e = .returned (.tuple #[.int .i64 r, .int .i64 e0]) ∧ Q w') :
    Calls Tryz.prog 14 #[nv, .int .i64 c, .int .i64 r, .int .i64 e0] w fun e w' => e = .returned (.bool true) ∧ Q w' := by
  have HT := Lib.hid hT
  clear hT
  go_enter Tryz.func14, Tryz.ntmps14
  go_wp2_with (go_at_call 33; refine HT.out.mono ?_; rintro e w1 ⟨rfl, q1⟩)
  go_ret
  exact ⟨rfl, q1⟩
theorem accepts_t (c r e0 : Int)
    (hT : Calls Tryz.prog 34 #[nv, .int .i64 c] w fun e w' => e = .returned (.tuple #[.int .i64 r, .int .i64 e0]) ∧ Q w') :
    Calls Tryz.prog 21 #[nv, .int .i64 c, .int .i64 r, .int .i64 e0] w fun e w' => e = .returned (.bool true) ∧ Q w' := by
  have HT := Lib.hid hT
  clear hT
  go_enter Tryz.func21, Tryz.ntmps21
  go_wp2_with (go_at_call 34; refine HT.out.mono ?_; rintro e w1 ⟨rfl, q1⟩)
  go_ret
  exact ⟨rfl, q1⟩
theorem finds_t (s : ByteArray) (p r e0 : Int)
    (hT : ∀ W, Fr [] w W → Calls Tryz.prog 32 #[nv, .agg #[.string s, .int .i64 p]] W fun e w' => e = .returned (.tuple #[.int .i64 r, .int .i64 e0]) ∧ Q w') :
    Calls Tryz.prog 23 #[nv, .agg #[.string s, .int .i64 p], .int .i64 r, .int .i64 e0] w fun e w' => e = .returned (.bool true) ∧ Q w' := by
  have f0 : Fr [] w (w.alloc (.cells #[.string s, .int .i64 p] 28)) := (Fr.refl [] w).alloc _
  have HT := Lib.hid hT
  clear hT
  go_enter Tryz.func23, Tryz.ntmps23
  go_wp2_with (go_at_call 32; refine (HT.out _ f0).mono ?_; rintro e w1 ⟨rfl, q1⟩)
  go_ret
  exact ⟨rfl, q1⟩
end

/-- Ints at two slices that read alike. -/
theorem ints_t (v v' : Value) (xs : List Int) (w : World) (h : IntRow w v xs) (h' : IntRow w v' xs) :
    Calls Tryz.prog 36 #[v, v'] w fun e w' => e = .returned (.bool true) ∧ Fr [] w w' := by
  by_cases hx : xs = []
  · subst hx
    have e : ∀ u, IntRow w u [] → ∃ a c, u = .slice a 0 c := fun u hu => by
      rcases hu with ⟨_, a, c, rfl⟩ | ⟨g, off, cap, rfl, _, _⟩
      · exact ⟨a, c, rfl⟩
      · exact ⟨_, _, rfl⟩
    obtain ⟨a, c, rfl⟩ := e v h
    obtain ⟨a', c', rfl⟩ := e v' h'
    go_enter Tryz.func36, Tryz.ntmps36
    go_wp2
    refine wp_loop_rounds 1 ?_
    rw [rounds_succ]
    go_wp2
    go_ret
    exact ⟨rfl, Fr.refl _ _⟩
  · rcases h with ⟨h0, _⟩ | ⟨g, off, cap, rfl, hm, hc⟩
    · exact absurd h0 hx
    rcases h' with ⟨h0, _⟩ | ⟨g', off', cap', rfl, hm', hc'⟩
    · exact absurd h0 hx
    obtain ⟨n, hn⟩ : ∃ n, xs.length = n := ⟨_, rfl⟩
    rw [hn] at hm hm' ⊢
    have HC := Lib.hid hc
    have HC' := Lib.hid hc'
    have HN := Lib.hid hn
    have hm2 : n ≤ 9223372036854775807 := by simp only [maxLen] at hm; omega
    clear hc hc' hx hn
    go_enter Tryz.func36, Tryz.ntmps36
    go_wp2
    go_loopw [5] (fun j w' => ∃ q : Nat, j = .int .i64 q ∧ q ≤ n ∧ Fr [] w w') (fun j _ => n - (intOf j).toNat)
    case atStart => exact ⟨0, rfl, by omega, Fr.refl _ _⟩
    case round =>
      rename_i wr
      obtain ⟨q, rfl, hq, fr⟩ := hrel
      by_cases hlt : q < n
      · have hxq := List.getElem?_eq_getElem (l := xs) (i := q) (by rw [HN.out]; exact hlt)
        have hcq := HC.out q _ hxq
        have hcq' := HC'.out q _ hxq
        generalize xs[q]'(by rw [HN.out]; exact hlt) = y at hxq hcq hcq'
        clear hxq
        have k1 := fr.keep hcq (by simp)
        have k2 := fr.keep hcq' (by simp)
        go_wp2
        go_quiet (fail)
        go_wp2
        go_roundw
        case rel => exact ⟨q + 1, by go_num, by omega, fr.drewN _⟩
        case measure => simp [intOf]; omega
      · go_wp2
        go_ret
        exact ⟨rfl, fr⟩
theorem closes_t {nv : Value} (Q : World → Prop) (w : World) (c e0 : Int) (want : Value) (xs : List Int)
    (hT : Calls Tryz.prog 35 #[nv, .int .i64 c] w fun e w' => ∃ v, e = .returned (.tuple #[v, .int .i64 e0]) ∧ IntRow w' v xs ∧ IntRow w' want xs ∧ Q w') (hQ : ∀ W W', Q W → Fr [] W W' → Q W') : Calls Tryz.prog 22 #[nv, .int .i64 c, want, .int .i64 e0] w fun e w' => e = .returned (.bool true) ∧ Q w' := by
  have HT := Lib.hid hT
  clear hT
  go_enter Tryz.func22, Tryz.ntmps22
  go_wp2_with (first
    | (go_at_call 35; refine HT.out.mono ?_; rintro e w1 ⟨v, rfl, i1, i2, q1⟩)
    | (go_at_call 36; refine (ints_t _ _ xs _ i1 i2).mono ?_; rintro e w2 ⟨rfl, f2⟩))
  go_ret
  exact ⟨rfl, hQ _ _ q1 f2⟩
end Go.Proofs.YtmdhlodafjpnmaaGreat
