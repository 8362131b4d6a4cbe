/- All over a net in memory. -/
import Derived.Test.YtgbmenfmaphciaaTryW
import Derived.Test.YtgbmenfmaphciaaStates
import Derived.Deep.LoopGhost
namespace Go.Proofs.Ytgbmenfmaphciaa
open Go.RowKit
open Go.Maps (Keyed)
set_option linter.unusedVariables false
set_option maxRecDepth 100000
set_option maxHeartbeats 8000000

def stA (D : List PN.PD) (i : Nat) : Int := match D[i]? with
  | some x => x.st
  | none => 0
theorem firstDiff (f g : Nat → Int) : ∀ n, ∃ k, k ≤ n ∧ (∀ i, i < k → f i = g i) ∧ (k < n → f k ≠ g k)
  | 0 => ⟨0, Nat.le_refl _, fun i hi => by omega, fun h => by omega⟩
  | n + 1 => by
    obtain ⟨k, h1, h2, h3⟩ := firstDiff f g n
    by_cases hk : k < n
    · exact ⟨k, by omega, h2, fun _ => h3 hk⟩
    · obtain rfl : k = n := by omega
      by_cases he : f k = g k
      · exact ⟨k + 1, Nat.le_refl _, fun i hi => by
          rcases Nat.lt_or_ge i k with h | h
          · exact h2 i h
          · obtain rfl : i = k := by omega
            exact he, fun h => by omega⟩
      · exact ⟨k, by omega, h2, fun _ => he⟩
theorem stA_lt {D : List PN.PD} {i : Nat} (h : i < D.length) : stA D i = (D[i]).st := by
  unfold stA
  rw [List.getElem?_eq_getElem h]
theorem sts_eq {D E : List PN.PD} (hl : D.length = E.length) : PN.sts D = PN.sts E ↔ ∀ i, i < D.length → stA D i = stA E i := by
  unfold PN.sts
  constructor
  · intro h i hi
    have h1 : (D.map (·.st))[i]? = (E.map (·.st))[i]? := by rw [h]
    rw [List.getElem?_map, List.getElem?_map, List.getElem?_eq_getElem hi, List.getElem?_eq_getElem (by omega)] at h1
    rw [stA_lt hi, stA_lt (by omega)]
    simpa using h1
  · intro h
    refine List.ext_getElem (by simp [hl]) fun i h1 h2 => ?_
    simp only [List.length_map] at h1 h2
    have := h i h1
    rw [stA_lt h1, stA_lt h2] at this
    simpa using this
theorem round_len (now : Int) : ∀ (D : List PN.PD) (N : PN.Net), (PN.roundD now D N).1.length = D.length
  | [], _ => rfl
  | d :: r, N => by simp [PN.roundD, round_len now r]

/-- The dialings in memory: ids says where each lies. -/
def DialsW (w : World) (own : Nat → Nat) (ids : Nat → Nat × Nat) (D : List PN.PD) : Prop := ∀ i x, D[i]? = some x → DialW w own i (ids i).1 (ids i).2 x
theorem DialsW.keep {S : List Nat} {w w' : World} {own : Nat → Nat} {ids : Nat → Nat × Nat} {D : List PN.PD} (h : DialsW w own ids D) (hf : Fr S w w') (hS : ∀ z ∈ S, own z % 4 ≠ 3) : DialsW w' own ids D :=
  fun i x hi => (h i x hi).keep hf (fun z hz he => hS z hz (by rw [he]; omega))
theorem DialsW.new {w w' : World} {own : Nat → Nat} {ids : Nat → Nat × Nat} {D : List PN.PD} (h : DialsW w own ids D) (hf : Fr [] w w') : DialsW w' own ids D := h.keep hf (fun z hz => by cases hz)
theorem DialsW.ext {w : World} {own own' : Nat → Nat} {ids : Nat → Nat × Nat} {D : List PN.PD} (h : DialsW w own ids D) (he : Ext w own own') : DialsW w own' ids D := fun i x hi => (h i x hi).ext he
/-- One of them has been tried. -/
theorem DialsW.set {w w' : World} {own own' : Nat → Nat} {ids : Nat → Nat × Nat} {P R : List PN.PD} {x x' : PN.PD} (h : DialsW w own ids (P ++ x :: R)) (hx : DialW w' own' P.length (ids P.length).1 (ids P.length).2 x') (he : Ext w own own') (hf : FrO own (tryO P.length) w w') : DialsW w' own' ids (P ++ x' :: R) := by
  intro i y hy
  by_cases hi : i = P.length
  · subst hi
    rw [List.getElem?_append_right (Nat.le_refl _)] at hy
    simp at hy
    subst hy
    exact hx
  · have hy' : (P ++ x :: R)[i]? = some y := by
      rcases Nat.lt_or_ge i P.length with h1 | h1
      · rw [List.getElem?_append_left h1] at hy ⊢
        exact hy
      · rw [List.getElem?_append_right h1] at hy ⊢
        obtain ⟨k, hk⟩ : ∃ k, i - P.length = k + 1 := ⟨i - P.length - 1, by omega⟩
        rw [hk] at hy ⊢
        simpa using hy
    obtain ⟨S, f1, f2⟩ := hf.list
    refine ((h i y hy').ext he).keep f1 (fun z hz hz' => ?_)
    obtain ⟨hl, h3⟩ := f2 z hz
    rw [he z hl] at hz'
    rw [hz'] at h3
    unfold tryO netO at h3
    omega
/-- The owners whose blocks All may turn. -/
def allO (c : Nat) : Prop := netO c ∨ c % 4 = 3
theorem tryO_all {i c : Nat} (h : tryO i c) : allO c := h.imp id (fun h => by rw [h]; omega)
end Go.Proofs.Ytgbmenfmaphciaa
