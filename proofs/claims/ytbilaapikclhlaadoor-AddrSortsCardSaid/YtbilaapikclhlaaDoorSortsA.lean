/- The law AddrSorts' walk: it returns true at every list, every two addresses and every number. -/
import Derived.Test.YtbilaapikclhlaaDoorNilSort
import Derived.Test.YtbilaapikclhlaaDoorKnownA
import Derived.Test.YtbilaapikclhlaaDoorHoldsA
namespace Go.Proofs.YtbilaapikclhlaaDoor
open Go.RowKit Go.Sort Go.Lib
set_option linter.unusedVariables false
set_option maxRecDepth 100000
set_option maxHeartbeats 16000000

theorem row_of_owns {w : World} {lo g cap len : Nat} {f : Nat → Ad} (h : w.ownsRow lo 23 2 (.slice (some ⟨g, 0, none⟩) len cap) len ((upto f len).flatMap encA)) : RowA w g 0 len f := by
  have h' : w.ownsRow lo 23 2 (.slice (some ⟨g, 0, none⟩) (upto f len).length cap) (upto f len).length ((upto f len).flatMap encA) := by
    rw [upto_length]
    exact h
  have hr := row_owned h'
  rw [upto_length] at hr
  have he : ∀ i, i < len → (upto f len)[i]! = f i := fun i hi => by
    rw [getElem!_pos _ _ (by rw [upto_length]; exact hi)]
    simp [upto]
  exact ⟨fun i hi => by have := hr.s i hi; rwa [he i hi] at this, fun i hi => by have := hr.p i hi; rwa [he i hi] at this⟩
theorem first_bad (f : Nat → Ad) : ∀ n, (upto f n).all okA = false → ∃ k, k < n ∧ okA (f k) = false ∧ ∀ i, i < k → okA (f i) = true := by
  intro n
  induction n with
  | zero => intro h; simp [upto] at h
  | succ n ih =>
    intro h
    rw [upto_succ, List.all_append] at h
    cases hn : (upto f n).all okA
    · obtain ⟨k, h1, h2, h3⟩ := ih hn
      exact ⟨k, by omega, h2, h3⟩
    · rw [hn] at h
      refine ⟨n, by omega, by simpa using h, fun i hi => ?_⟩
      exact List.all_eq_true.1 hn (f i) (by simp only [upto, List.mem_map, List.mem_range]; exact ⟨i, hi, rfl⟩)
theorem all_good {f : Nat → Ad} {n : Nat} (h : (upto f n).all okA = true) : ∀ i, i < n → okA (f i) = true := fun i hi =>
  List.all_eq_true.1 h (f i) (by simp only [upto, List.mem_map, List.mem_range]; exact ⟨i, hi, rfl⟩)
theorem csA_const (x : Ad) (n : Nat) (h : 0 < n) : csA (upto (fun _ => x) n) = [x] :=
  csA_eq (List.pairwise_singleton _ _) (fun e => by
    simp only [upto, List.mem_singleton, List.mem_map, List.mem_range]
    exact ⟨fun q => ⟨0, h, q.symm⟩, fun ⟨_, _, q⟩ => q.symm⟩)
theorem same_row {g g2 o o2 n c c2 : Nat} {f : Nat → Ad} {w : World} (hn : n ≤ 100000) (h1 : RowA w g o n f) (h2 : RowA w g2 o2 n f) :
    Calls Tryd.prog 20 #[.slice (some ⟨g, o, none⟩) n c, .slice (some ⟨g2, o2, none⟩) n c2] w fun e w' => e = .returned (.bool true) ∧ Fr [] w w' := by
  have := same_any g o g2 o2 n n c c2 n f f w (Nat.le_refl _) hn h1 h2 (fun _ _ _ => rfl) (fun _ h => absurd h (Nat.lt_irrefl _))
  simpa using this
end Go.Proofs.YtbilaapikclhlaaDoor
