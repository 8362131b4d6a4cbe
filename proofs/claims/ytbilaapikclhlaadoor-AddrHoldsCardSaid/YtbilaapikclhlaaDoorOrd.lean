/- Plain laws: addr.Compare's order on names and ports is a total order. -/
import Derived.Test.YtbilaapikclhlaaDoorCmp
import Derived.Shelf.SlSortCmp.NoneTotal
namespace Go.Proofs.YtbilaapikclhlaaDoor
open Go.RowKit Go.Sort Go.Proofs
set_option linter.unusedVariables false

theorem u8_ne {a b : UInt8} (h1 : ¬ a < b) (h2 : ¬ b < a) : a = b := by
  rw [UInt8.lt_iff_toNat_lt] at h1 h2
  exact UInt8.toNat_inj.1 (by omega)
theorem cb_self : ∀ a : List UInt8, Lib.compareBytes a a = 0
  | [] => rfl
  | x :: r => by
    have : ¬ x < x := by rw [UInt8.lt_iff_toNat_lt]; omega
    rw [Lib.compareBytes, if_neg this, if_neg this]
    exact cb_self r
theorem cb_eq : ∀ a b : List UInt8, Lib.compareBytes a b = 0 → a = b
  | [], [], _ => rfl
  | [], _ :: _, h => by cases h
  | _ :: _, [], h => by cases h
  | x :: r, y :: s, h => by
    rw [Lib.compareBytes] at h
    by_cases h1 : x < y
    · rw [if_pos h1] at h; cases h
    · by_cases h2 : y < x
      · rw [if_neg h1, if_pos h2] at h; cases h
      · rw [if_neg h1, if_neg h2] at h
        rw [u8_ne h1 h2, cb_eq r s h]
theorem cb_anti : ∀ a b : List UInt8, Lib.compareBytes b a = - Lib.compareBytes a b
  | [], [] => rfl
  | [], _ :: _ => rfl
  | _ :: _, [] => rfl
  | x :: r, y :: s => by
    rw [Lib.compareBytes, Lib.compareBytes]
    by_cases h1 : x < y
    · have h2 : ¬ y < x := by rw [UInt8.lt_iff_toNat_lt] at *; omega
      rw [if_neg h2, if_pos h1, if_pos h1]
      rfl
    · by_cases h2 : y < x
      · rw [if_pos h2, if_neg h1, if_pos h2]
      · rw [if_neg h1, if_neg h2, if_neg h1, if_neg h2]
        exact cb_anti r s
theorem cb_trans : ∀ a b c : List UInt8, Lib.compareBytes a b ≤ 0 → Lib.compareBytes b c ≤ 0 → Lib.compareBytes a c ≤ 0 ∧ (Lib.compareBytes a c = 0 → Lib.compareBytes a b = 0 ∧ Lib.compareBytes b c = 0)
  | [], [], c, h1, h2 => ⟨h2, fun h => ⟨rfl, h⟩⟩
  | [], _ :: _, [], h1, h2 => absurd h2 (by simp [Lib.compareBytes])
  | [], _ :: _, _ :: _, _, _ => ⟨by simp [Lib.compareBytes], fun h => by simp [Lib.compareBytes] at h⟩
  | _ :: _, [], _, h1, _ => absurd h1 (by simp [Lib.compareBytes])
  | _ :: _, _ :: _, [], _, h2 => absurd h2 (by simp [Lib.compareBytes])
  | x :: r, y :: s, z :: t, h1, h2 => by
    rw [Lib.compareBytes] at h1 h2 ⊢
    rw [Lib.compareBytes, Lib.compareBytes]
    by_cases a1 : x < y
    · by_cases b1 : y < z
      · have c1 : x < z := by rw [UInt8.lt_iff_toNat_lt] at *; omega
        rw [if_pos c1]
        exact ⟨by omega, fun h => by omega⟩
      · by_cases b2 : z < y
        · rw [if_neg b1, if_pos b2] at h2; omega
        · have := u8_ne b1 b2
          subst this
          rw [if_pos a1]
          exact ⟨by omega, fun h => by omega⟩
    · by_cases a2 : y < x
      · rw [if_neg a1, if_pos a2] at h1; omega
      · have := u8_ne a1 a2
        subst this
        rw [if_neg a1, if_neg a1] at h1 ⊢
        by_cases b1 : x < z
        · rw [if_pos b1]
          exact ⟨by omega, fun h => by omega⟩
        · by_cases b2 : z < x
          · rw [if_neg b1, if_pos b2] at h2; omega
          · rw [if_neg b1, if_neg b2] at h2 ⊢
            rw [if_neg b1, if_neg b2]
            exact cb_trans r s t h1 h2

theorem ci_self (a : Int) : Lib.compareInt a a = 0 := by simp [Lib.compareInt]
theorem ci_val (a b : Int) : (a < b → Lib.compareInt a b = -1) ∧ (b < a → Lib.compareInt a b = 1) ∧ (a = b → Lib.compareInt a b = 0) := by
  unfold Lib.compareInt
  refine ⟨fun h => by simp [h], fun h => ?_, fun h => by simp [h]⟩
  have : ¬ a < b := by omega
  simp [h, this]
theorem cmpA_zero (x y : Ad) : cmpA x y = 0 ↔ x = y := by
  constructor
  · intro h
    unfold cmpA at h
    by_cases h0 : Lib.compareBytes x.1.data.toList y.1.data.toList = 0
    · rw [if_neg (by simp [h0])] at h
      have e1 := cb_eq _ _ h0
      have e2 : x.2 = y.2 := by
        have := ci_val x.2 y.2
        rcases Int.lt_trichotomy x.2 y.2 with q | q | q
        · have := this.1 q; omega
        · exact q
        · have := this.2.1 q; omega
      obtain ⟨⟨⟨a⟩⟩, p⟩ := x
      obtain ⟨⟨⟨b⟩⟩, q⟩ := y
      simp only at e1 e2
      rw [e1, e2]
    · rw [if_pos (by simpa using h0)] at h
      exact absurd h h0
  · rintro rfl
    unfold cmpA
    rw [cb_self, if_neg (by simp), ci_self]
theorem cmpA_anti (x y : Ad) : cmpA y x = - cmpA x y := by
  unfold cmpA
  rw [cb_anti x.1.data.toList y.1.data.toList]
  by_cases h0 : Lib.compareBytes x.1.data.toList y.1.data.toList = 0
  · rw [h0, if_neg (by simp), if_neg (by simp)]
    have a := ci_val x.2 y.2
    have b := ci_val y.2 x.2
    rcases Int.lt_trichotomy x.2 y.2 with q | q | q
    · rw [a.1 q, b.2.1 q]; rfl
    · rw [a.2.2 q, b.2.2 q.symm]; rfl
    · rw [a.2.1 q, b.1 q]
  · rw [if_pos (by omega), if_pos h0]
theorem cmpA_trans (x y z : Ad) (h1 : cmpA x y ≤ 0) (h2 : cmpA y z ≤ 0) : cmpA x z ≤ 0 := by
  unfold cmpA at *
  have c1 : Lib.compareBytes x.1.data.toList y.1.data.toList ≤ 0 := by
    by_cases h : Lib.compareBytes x.1.data.toList y.1.data.toList = 0
    · omega
    · rw [if_pos h] at h1; exact h1
  have c2 : Lib.compareBytes y.1.data.toList z.1.data.toList ≤ 0 := by
    by_cases h : Lib.compareBytes y.1.data.toList z.1.data.toList = 0
    · omega
    · rw [if_pos h] at h2; exact h2
  obtain ⟨t1, t2⟩ := cb_trans _ _ _ c1 c2
  by_cases h : Lib.compareBytes x.1.data.toList z.1.data.toList = 0
  · obtain ⟨e1, e2⟩ := t2 h
    rw [e1, if_neg (by simp)] at h1
    rw [e2, if_neg (by simp)] at h2
    rw [h, if_neg (by simp)]
    have a := ci_val x.2 y.2
    have b := ci_val y.2 z.2
    have c := ci_val x.2 z.2
    rcases Int.lt_trichotomy x.2 z.2 with q | q | q
    · rw [c.1 q]; omega
    · rw [c.2.2 q]; omega
    · exfalso
      by_cases q1 : y.2 < x.2
      · have := a.2.1 q1; omega
      · have := b.2.1 (by omega); omega
  · rw [if_pos h]
    exact t1
theorem swoA : SWO (ltOf cmpA) where
  irrefl x := by simp [ltOf, (cmpA_zero x x).2 rfl]
  trans x y z h1 h2 := by
    simp only [ltOf, decide_eq_true_eq] at *
    have h3 := cmpA_trans x y z (by omega) (by omega)
    by_cases h : cmpA x z = 0
    · have e := (cmpA_zero x z).1 h
      subst e
      have := cmpA_anti x y
      omega
    · omega
  ntrans x y z h1 h2 := by
    simp only [ltOf, decide_eq_false_iff_not] at *
    have a := cmpA_anti x y
    have b := cmpA_anti y z
    have c := cmpA_anti x z
    have := cmpA_trans z y x (by omega) (by omega)
    omega
theorem totA (x y : Ad) (h1 : ltOf cmpA x y = false) (h2 : ltOf cmpA y x = false) : x = y := by
  simp only [ltOf, decide_eq_false_iff_not] at h1 h2
  have := cmpA_anti x y
  exact (cmpA_zero x y).1 (by omega)
end Go.Proofs.YtbilaapikclhlaaDoor
