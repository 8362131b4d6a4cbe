/- DialHolds: the state behind the first loop; Over; All over the law's own slice. -/
import Derived.Test.YtgbmenfmaphciaaHd3
import Derived.Test.YtgbmenfmaphciaaAll2
import Derived.Test.YtgbmenfmaphciaaKnown3
import Derived.Test.YtgbmenfmaphciaaListenW
import Derived.Test.YtgbmenfmaphciaaClose3
namespace Go.Proofs.Ytgbmenfmaphciaa
open Go.RowKit
open Go.Maps (Keyed)
set_option linter.unusedVariables false
set_option maxRecDepth 100000
set_option maxHeartbeats 4000000

theorem rowCell {w : World} {base : Nat} {e : TypeId} {size : Nat} {v : Value} {n : Nat} {xs : List Value} (h : w.ownsRow base e size v n xs) (hn : n = 0 → v = .slice none 0 0) :
    ∃ g, SlOf v n g ∧ ∀ j u, xs[j]? = some u → w.cell? ⟨g, j, none⟩ = some u ∧ v.ownBlock = some g := by
  rcases h.2 with ⟨rfl, h2⟩ | ⟨g, cap, cur, rfl, h2, h3, h4, h5, h6, h7⟩
  · have h1 := h.1
    rw [h2] at h1
    have : xs = [] := List.eq_nil_of_length_eq_zero (by simpa using h1)
    subst this
    exact ⟨0, .inl ⟨rfl, h2⟩, fun j u hj => by simp at hj⟩
  · have hn0 : n ≠ 0 := fun h0 => by have := hn h0; simp at this
    refine ⟨g, .inr ⟨hn0, cap, rfl⟩, fun j u hj => ?_⟩
    have hj' : j < xs.length := (List.getElem?_eq_some_iff.1 hj).1
    rw [h.1] at hj'
    rw [← h7, List.getElem?_take_of_lt hj', Array.getElem?_toList] at hj
    exact ⟨by simp [World.cell?, h3, hj], rfl⟩
theorem flat_at : ∀ (O : List St) (i : Nat) (h : i < O.length) (c : Nat), c < 4 → (O.flatMap cellsOfSt)[i * 4 + c]? = (cellsOfSt O[i])[c]?
  | x :: O, 0, h, c, hc => by
    simp only [List.flatMap_cons, Nat.zero_mul, Nat.zero_add]
    rw [List.getElem?_append_left (by simp [cellsOfSt]; omega)]
    rfl
  | x :: O, i + 1, h, c, hc => by
    simp only [List.flatMap_cons]
    rw [List.getElem?_append_right (by simp [cellsOfSt]; omega)]
    have : (i + 1) * 4 + c - (cellsOfSt x).length = i * 4 + c := by simp [cellsOfSt]; omega
    rw [this, flat_at O i (by simpa using h) c hc]
    rfl
theorem MadeR.hold {w0 w : World} {B : NB} {k : Nat} {own : Nat → Nat} {ids : Nat → Nat × Nat} {D : List PN.PD} {O : List St} {x6 x7 : Value} (h : MadeR w0 (fun _ => 4) B w0.heap.size k w own ids D O x6 x7) :
    ∃ g6 g7, SlOf x6 O.length g6 ∧ SlOf x7 O.length g7 ∧ HoldR w0 B ids O g6 g7 w own [] [] 0 0 D := by
  have hl := h.len.2
  obtain ⟨g6, s6, c6⟩ := rowCell h.r6 (fun h0 => (h.nil h0).1)
  obtain ⟨g7, s7, c7⟩ := rowCell h.r7 (fun h0 => (h.nil h0).2)
  rw [← hl] at s6 s7
  have hp : ∀ i, i < O.length → (ptrs ids D.length)[i]? = some (.pointer (some ⟨(ids i).1, 0, none⟩)) := fun i hi => by
    rw [ptrs, List.getElem?_map, List.getElem?_range (by omega)]
    rfl
  have hq : ∀ i (hi : i < O.length) c v, c < 4 → (cellsOfSt O[i])[c]? = some v → w.cell? ⟨g7, i * 4 + c, none⟩ = some v := fun i hi c v hc hv => (c7 _ v ((flat_at O i hi c hc).trans hv)).1
  refine ⟨g6, g7, s6, s7, h.net, h.dials, hl.symm, h.same, fun i hi => (c6 i _ (hp i hi)).1, fun i hi => ⟨hq i hi 0 _ (by omega) rfl, hq i hi 1 _ (by omega) rfl, hq i hi 2 _ (by omega) rfl, hq i hi 3 _ (by omega) rfl⟩, fun hO => ?_, fun z hz => h.ext z hz, h.fr, fun x hx => ?_⟩
  · exact ⟨h.o6 g6 (c6 0 _ (hp 0 (by omega))).2, h.o7 g7 (c7 _ _ ((flat_at O 0 (by omega) 0 (by omega)).trans rfl)).2⟩
  · exact Int.le_of_eq (h.fresh x hx).2

def overB (a b : Int) : Bool := (a != 18446744073709551615) && ((b != 18446744073709551615) && decide (a ≤ b))
theorem refOver_any (a b : Int) (w : World) : Calls Try.prog 27 #[.int .u64 a, .int .u64 b] w fun e w' => e = .returned (.bool (overB a b)) ∧ ∃ n, w' = w.drewN n := by
  unfold overB
  by_cases ha : a = 18446744073709551615
  · subst ha
    go_enter Try.func27, Try.ntmps27
    go_wp2
    go_ret
    exact ⟨rfl, 0, rfl⟩
  · have h1 : (a != 18446744073709551615) = true := by simp [ha]
    by_cases hb : b = 18446744073709551615
    · subst hb
      go_enter Try.func27, Try.ntmps27
      go_wp2
      go_ret
      exact ⟨by simp [h1], 0, rfl⟩
    · have h2 : (b != 18446744073709551615) = true := by simp [hb]
      go_enter Try.func27, Try.ntmps27
      go_wp2
      go_ret
      exact ⟨by simp [h1, h2], 0, rfl⟩
theorem over_pass {a b : Int} (h : PN.pass a b = true) (hb : b ≤ 18446744073709551615) : overB a b = true := by
  unfold PN.pass at h
  simp only [Bool.and_eq_true, bne_iff_ne, ne_eq, decide_eq_true_eq] at h
  unfold overB
  simp only [Bool.and_eq_true, bne_iff_ne, ne_eq, decide_eq_true_eq]
  exact ⟨by omega, h.1, h.2⟩
end Go.Proofs.Ytgbmenfmaphciaa
