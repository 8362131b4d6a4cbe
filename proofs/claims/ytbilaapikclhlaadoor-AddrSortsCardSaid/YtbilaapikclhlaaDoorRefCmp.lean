/- The contract of the reference's Compare of addresses. -/
import Derived.Test.YtbilaapikclhlaaDoorPlainB
import Derived.Test.YtbilaapikclhlaaDoorRefA
import Derived.Sort.Walk0
namespace Go.Proofs.YtbilaapikclhlaaDoor
open Go.RowKit Go.Sort
set_option linter.unusedVariables false
set_option maxRecDepth 100000
set_option maxHeartbeats 4000000

theorem bl_cb : ∀ a b : List UInt8, (Op.bytesLess a b = true → Lib.compareBytes a b = -1) ∧ (Op.bytesLess a b = false → 0 ≤ Lib.compareBytes a b ∧ Lib.compareBytes a b ≤ 1) := by
  intro a
  induction a with
  | nil => intro b; cases b <;> simp [Lib.compareBytes, Op.bytesLess]
  | cons c r ih =>
    intro b
    cases b with
    | nil => simp [Lib.compareBytes, Op.bytesLess]
    | cons d t =>
      rw [Lib.compareBytes, Op.bytesLess]
      by_cases h1 : c < d
      · simp [h1]
      · by_cases h2 : d < c
        · have h3 : ¬ c = d := fun e => by subst e; exact h1 h2
          simp [h1, h2, h3]
        · have h3 := u8_ne h1 h2
          subst h3
          simpa [h1] using ih t
theorem cmpA_ref (x y : Ad) : cmpA x y = if Op.bytesLess x.1.toList y.1.toList || (x.1.toList == y.1.toList && decide (x.2 < y.2)) then -1 else if x = y then 0 else 1 := by
  have h1 := bl_cb x.1.data.toList y.1.data.toList
  have h2 := cb_self x.1.data.toList
  have h3 := cb_eq x.1.data.toList y.1.data.toList
  have h4 := cmpA_zero x y
  have h5 := ci_val x.2 y.2
  rw [ByteArray.toList_eq, ByteArray.toList_eq]
  by_cases hxy : x = y
  · rw [h4.2 hxy]
    subst hxy
    cases hb : Op.bytesLess x.1.data.toList x.1.data.toList
    · simp
    · have := h1.1 hb
      omega
  · rw [if_neg hxy]
    have hne : cmpA x y ≠ 0 := fun h => hxy (h4.1 h)
    cases hb : Op.bytesLess x.1.data.toList y.1.data.toList
    · have hge := h1.2 hb
      by_cases he : x.1.data.toList = y.1.data.toList
      · have hz : Lib.compareBytes x.1.data.toList y.1.data.toList = 0 := by rw [he]; exact cb_self _
        have hcmp : cmpA x y = Lib.compareInt x.2 y.2 := by simp [cmpA, hz]
        rw [hcmp] at hne ⊢
        rcases Int.lt_trichotomy x.2 y.2 with q | q | q
        · simp [he, q, h5.1 q]
        · exact absurd (h5.2.2 q) hne
        · have : ¬ x.2 < y.2 := by omega
          simp [he, this, h5.2.1 q]
      · have hz : Lib.compareBytes x.1.data.toList y.1.data.toList ≠ 0 := fun h => he (h3 h)
        have hcmp : cmpA x y = Lib.compareBytes x.1.data.toList y.1.data.toList := by simp [cmpA, hz]
        rw [hcmp]
        have heb : (x.1.data.toList == y.1.data.toList) = false := by simpa using he
        rw [heb]
        have h01 : Lib.compareBytes x.1.data.toList y.1.data.toList = 1 := by omega
        rw [h01]
        rfl
    · have := h1.1 hb
      have hcmp : cmpA x y = -1 := by simp [cmpA, this]
      simp [hcmp]

theorem refCompare_any (x y : Ad) (w : World) :
    Calls Tryd.prog 18 #[.agg #[.string x.1, .int .i64 x.2], .agg #[.string y.1, .int .i64 y.2]] w fun e w' => e = .returned (.int .i64 (cmpA x y)) ∧ Gr w w' := by
  have hC := cmpA_ref x y
  have hr : ∀ W, (Op.equalIn 10000 23 (.agg #[.string x.1, .int .i64 x.2]) (.agg #[.string y.1, .int .i64 y.2])).run Tryd.prog W = .ok (decide (x = y)) W := fun W => eqRaw x y W
  have hg : Gr w ((w.alloc (.cells #[.string x.1, .int .i64 x.2] 23)).alloc (.cells #[.string y.1, .int .i64 y.2] 23)) := (Gr.alloc _ _).trans (Gr.alloc _ _)
  have k0 : ((w.alloc (.cells #[.string x.1, .int .i64 x.2] 23)).alloc (.cells #[.string y.1, .int .i64 y.2] 23)).cell? ⟨w.heap.size, 0, none⟩ = some (.string x.1) := by simp
  have k1 : ((w.alloc (.cells #[.string x.1, .int .i64 x.2] 23)).alloc (.cells #[.string y.1, .int .i64 y.2] 23)).cell? ⟨w.heap.size, 1, none⟩ = some (.int .i64 x.2) := by simp
  have k2 : ((w.alloc (.cells #[.string x.1, .int .i64 x.2] 23)).alloc (.cells #[.string y.1, .int .i64 y.2] 23)).cell? ⟨w.heap.size + 1, 0, none⟩ = some (.string y.1) := newCell (w.alloc (.cells #[.string x.1, .int .i64 x.2] 23)) #[.string y.1, .int .i64 y.2] 23 0 rfl (by simp) rfl
  have k3 : ((w.alloc (.cells #[.string x.1, .int .i64 x.2] 23)).alloc (.cells #[.string y.1, .int .i64 y.2] 23)).cell? ⟨w.heap.size + 1, 1, none⟩ = some (.int .i64 y.2) := newCell (w.alloc (.cells #[.string x.1, .int .i64 x.2] 23)) #[.string y.1, .int .i64 y.2] 23 1 rfl (by simp) rfl
  generalize hxy : decide (x = y) = E at hr
  have hC' : cmpA x y = if Op.bytesLess x.1.toList y.1.toList || (x.1.toList == y.1.toList && decide (x.2 < y.2)) then -1 else if E = true then 0 else 1 := by
    rw [hC, ← hxy]
    simp
  clear hC hxy
  generalize hc : cmpA x y = c at hC' ⊢
  clear hc
  cases hb : Op.bytesLess x.1.toList y.1.toList
  · cases he : (x.1.toList == y.1.toList)
    · simp only [hb, he, Bool.false_or, Bool.false_and, Bool.false_eq_true, if_false] at hC'
      have HC := Lib.hid hC'
      clear hC'
      cases E
      · go_enter Tryd.func18, Tryd.ntmps18
        go_wp2
        go_ret
        exact ⟨by rw [HC.out]; rfl, hg⟩
      · go_enter Tryd.func18, Tryd.ntmps18
        go_wp2
        go_ret
        exact ⟨by rw [HC.out]; rfl, hg⟩
    · by_cases hl : x.2 < y.2
      · simp only [hb, he, hl, Bool.false_or, Bool.true_and, decide_true, if_true] at hC'
        have HC := Lib.hid hC'
        clear hC'
        go_enter Tryd.func18, Tryd.ntmps18
        go_wp2
        go_ret
        exact ⟨by rw [HC.out]; rfl, hg⟩
      · simp only [hb, he, hl, Bool.false_or, Bool.true_and, decide_false, Bool.false_eq_true, if_false] at hC'
        have HC := Lib.hid hC'
        clear hC'
        cases E
        · go_enter Tryd.func18, Tryd.ntmps18
          go_wp2
          go_ret
          exact ⟨by rw [HC.out]; rfl, hg⟩
        · go_enter Tryd.func18, Tryd.ntmps18
          go_wp2
          go_ret
          exact ⟨by rw [HC.out]; rfl, hg⟩
  · simp only [hb, Bool.true_or, if_true] at hC'
    have HC := Lib.hid hC'
    clear hC'
    go_enter Tryd.func18, Tryd.ntmps18
    go_wp2
    go_ret
    exact ⟨by rw [HC.out]; rfl, hg⟩
end Go.Proofs.YtbilaapikclhlaaDoor
