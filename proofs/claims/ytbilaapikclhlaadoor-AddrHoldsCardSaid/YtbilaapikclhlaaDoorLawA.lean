/- Contracts of the law's own parses, and of the reference's Same. -/
import Derived.Test.YtbilaapikclhlaaDoorParse
namespace Go.Proofs.YtbilaapikclhlaaDoor
open Go.RowKit Go.Sort Go.Lib
set_option linter.unusedVariables false
set_option maxRecDepth 100000
set_option maxHeartbeats 4000000

theorem parses_any (s : ByteArray) (x : Ad) (c : Int) (hs : s.size ≤ 1000000) (w : World) (he : Env w) :
    Calls Tryd.prog 16 #[.string s, .agg #[.string x.1, .int .i64 x.2], .int .i64 c] w fun e w' => e = .returned (.bool (decide (parsedA s = x) && (parsedE s == c))) ∧ Fr [] w w' := by
  have f0 : Fr [] w (w.alloc (.cells #[.string x.1, .int .i64 x.2] 23)) := (Fr.refl [] w).alloc _
  have HP := Lib.hid (parse_any s hs _ (he.new f0))
  clear he
  obtain ⟨y, hy⟩ : ∃ y, parsedA s = y := ⟨_, rfl⟩
  obtain ⟨q, hq⟩ : ∃ q, parsedE s = q := ⟨_, rfl⟩
  rw [hy, hq] at HP ⊢
  clear hy hq
  by_cases hxy : y = x
  · subst hxy
    have hr : ∀ W, (Op.equalIn 10000 23 (.agg #[.string y.1, .int .i64 y.2]) (.agg #[.string y.1, .int .i64 y.2])).run Tryd.prog W = .ok true W := fun W => by rw [eqRaw]; simp
    cases hc : q == c
    · go_enter Tryd.func16, Tryd.ntmps16
      go_wp2_with fail
      refine HP.out.mono ?_
      rintro e w1 ⟨rfl, f1⟩
      have f2 : Fr [] w1 (w1.alloc (.cells #[.string y.1, .int .i64 y.2] 23)) := (Fr.refl [] w1).alloc _
      have k0 : (w1.alloc (.cells #[.string y.1, .int .i64 y.2] 23)).cell? ⟨w.heap.size, 0, none⟩ = some (.string y.1) := (f1.step f2).keep (by simp) (by simp)
      have k1 : (w1.alloc (.cells #[.string y.1, .int .i64 y.2] 23)).cell? ⟨w.heap.size, 1, none⟩ = some (.int .i64 y.2) := (f1.step f2).keep (by simp) (by simp)
      go_wp2_with fail
      go_ret
      exact ⟨by simp, (f0.step f1).step f2⟩
    · go_enter Tryd.func16, Tryd.ntmps16
      go_wp2_with fail
      refine HP.out.mono ?_
      rintro e w1 ⟨rfl, f1⟩
      have f2 : Fr [] w1 (w1.alloc (.cells #[.string y.1, .int .i64 y.2] 23)) := (Fr.refl [] w1).alloc _
      have k0 : (w1.alloc (.cells #[.string y.1, .int .i64 y.2] 23)).cell? ⟨w.heap.size, 0, none⟩ = some (.string y.1) := (f1.step f2).keep (by simp) (by simp)
      have k1 : (w1.alloc (.cells #[.string y.1, .int .i64 y.2] 23)).cell? ⟨w.heap.size, 1, none⟩ = some (.int .i64 y.2) := (f1.step f2).keep (by simp) (by simp)
      go_wp2_with fail
      go_ret
      exact ⟨by simp, (f0.step f1).step f2⟩
  · have hr : ∀ W, (Op.equalIn 10000 23 (.agg #[.string y.1, .int .i64 y.2]) (.agg #[.string x.1, .int .i64 x.2])).run Tryd.prog W = .ok false W := fun W => by rw [eqRaw]; simp [hxy]
    have HX := Lib.hid hxy
    clear hxy
    go_enter Tryd.func16, Tryd.ntmps16
    go_wp2_with fail
    refine HP.out.mono ?_
    rintro e w1 ⟨rfl, f1⟩
    have f2 : Fr [] w1 (w1.alloc (.cells #[.string y.1, .int .i64 y.2] 23)) := (Fr.refl [] w1).alloc _
    have k0 : (w1.alloc (.cells #[.string y.1, .int .i64 y.2] 23)).cell? ⟨w.heap.size, 0, none⟩ = some (.string x.1) := (f1.step f2).keep (by simp) (by simp)
    have k1 : (w1.alloc (.cells #[.string y.1, .int .i64 y.2] 23)).cell? ⟨w.heap.size, 1, none⟩ = some (.int .i64 x.2) := (f1.step f2).keep (by simp) (by simp)
    go_wp2_with fail
    go_ret
    exact ⟨by simp [HX.out], (f0.step f1).step f2⟩

/-- Two rows compared; k: the first place at which they differ. -/
theorem same_any (b1 o1 b2 o2 n m c1 c2 k : Nat) (f g : Nat → Ad) (w : World) (hk : k ≤ n) (hn : n ≤ 100000) (h1 : RowA w b1 o1 n f) (h2 : RowA w b2 o2 m g) (hlow : n = m → ∀ i, i < k → f i = g i) (hat : n = m → k < n → f k ≠ g k) :
    Calls Tryd.prog 20 #[.slice (some ⟨b1, o1, none⟩) n c1, .slice (some ⟨b2, o2, none⟩) m c2] w fun e w' => e = .returned (.bool (decide (n = m) && decide (k = n))) ∧ Fr [] w w' := by
  by_cases hnm : n = m
  · subst hnm
    have H1 := Lib.hid h1
    have H2 := Lib.hid h2
    have HL := Lib.hid (hlow rfl)
    have HA := Lib.hid (hat rfl)
    clear h1 h2 hlow hat
    go_enter Tryd.func20, Tryd.ntmps20
    go_wp2
    go_loopw [5] (fun i wr => ∃ j q : Nat, i = .int .i64 j ∧ j ≤ k ∧ wr = w.drewN q) (fun i _ => k - (intOf i).toNat)
    case atStart => exact ⟨0, 0, rfl, by omega, rfl⟩
    case round =>
      obtain ⟨j, q, rfl, hj, rfl⟩ := hrel
      by_cases hl : j < n
      · have hl' : (j : Int) < (n : Int) := by omega
        have c0 := H1.out.s j hl
        have c1 := H1.out.p j hl
        have c2 := H2.out.s j hl
        have c3 := H2.out.p j hl
        by_cases hjk : j < k
        · have e1 := HL.out j hjk
          rw [e1] at c0 c1
          generalize g j = x at c0 c1 c2 c3
          have hr : ∀ W, (Op.equalIn 10000 23 (.agg #[.string x.1, .int .i64 x.2]) (.agg #[.string x.1, .int .i64 x.2])).run Tryd.prog W = .ok true W := fun W => by rw [eqRaw]; simp
          clear e1
          go_wp2_with fail
          go_quiet (fail)
          go_wp2_with fail
          go_roundw
          case rel => exact ⟨j + 1, _, by go_num, by omega, rfl⟩
          case measure => simp [intOf]; omega
        · obtain rfl : j = k := by omega
          have e1 := HA.out hl
          generalize f j = x at c0 c1 e1
          generalize g j = y at c2 c3 e1
          have hr : ∀ W, (Op.equalIn 10000 23 (.agg #[.string x.1, .int .i64 x.2]) (.agg #[.string y.1, .int .i64 y.2])).run Tryd.prog W = .ok false W := fun W => by rw [eqRaw]; simp [e1]
          clear e1
          go_wp2_with fail
          go_quiet (fail)
          go_wp2_with fail
          go_ret
          exact ⟨by simp; omega, ((Fr.refl _ _).drewN _).drewN _⟩
      · have hl' : ¬ (j : Int) < (n : Int) := by omega
        go_wp2
        go_ret
        exact ⟨by simp; omega, (Fr.refl _ _).drewN _⟩
  · have hne : ((n : Int) != (m : Int)) = true := by simp; omega
    clear h1 h2 hlow hat
    go_enter Tryd.func20, Tryd.ntmps20
    go_wp2
    go_ret
    exact ⟨by simp [hnm], Fr.refl _ _⟩
end Go.Proofs.YtbilaapikclhlaaDoor
