/- Contract of report's Check. -/
import Derived.Test.YtllmejkcohfbiaaGreatDoorR10
namespace Go.Proofs.YtllmejkcohfbiaaGreatDoor
open Go.RowKit Go.Shelf Go.Sort Go.Lib
set_option linter.unusedVariables false
set_option linter.unusedSimpArgs false
set_option maxRecDepth 100000
set_option maxHeartbeats 4000000

theorem check_any (p f b : Int) (ip : I64 p) (ib : I64 b) (w : World) (ht : Tab w) :
    Calls Tryz.prog 16 #[ckV p f b] w fun e w' => e = .returned (.tuple #[.string (bs (checkB p f b).1), .int .i64 (checkB p f b).2]) ∧ Fr [] w w' := by
  cases hok : checkOk p f b with
  | false =>
    have hB : checkB p f b = ([], 2) := by unfold checkB; rw [hok]; rfl
    rw [hB]
    unfold checkOk at hok
    rw [decide_eq_false_iff_not] at hok
    by_cases h1 : p < -1
    · exact checkBad1 p f b h1 w
    · by_cases h2 : b < -1
      · exact checkBad2 p f b h1 h2 w
      · by_cases h3 : f < 0
        · exact checkBad3 p f b h1 h2 h3 w
        · by_cases h4 : 4 ≤ f
          · exact checkBad4 p f b h1 h2 h3 h4 w
          · by_cases h5 : f = 0
            · by_cases h6 : p = -1
              · exact absurd ⟨by omega, by omega, by omega, by omega, ⟨fun _ => h6, fun _ => h5⟩⟩ hok
              · exact checkBad5 p f b h1 h2 h3 h4 h5 h6 w
            · by_cases h6 : p = -1
              · exact checkBad6 p f b h1 h2 h3 h4 h5 h6 w
              · exact absurd ⟨by omega, by omega, by omega, by omega, ⟨fun h => absurd h h5, fun h => absurd h h6⟩⟩ hok
  | true =>
    have hB : checkB p f b = (check1 p f ++ [10] ++ check2 b ++ [10], 0) := by unfold checkB; rw [hok]; rfl
    rw [hB]
    unfold checkOk at hok
    rw [decide_eq_true_eq] at hok
    obtain ⟨h1, h2, h3, h4, h5⟩ := hok
    by_cases hp : p = -1
    · have hf := h5.2 hp
      subst hp hf
      have e1 : check1 (-1) 0 = [112, 105, 112, 101, 115, 32, 102, 105, 110, 101] := rfl
      rw [e1]
      by_cases hb : b = -1
      · subst hb
        exact checkOk1 w ht
      · have e2 : check2 b = Lib.join [[99, 111, 100, 101], Lib.itoa b] [32] := if_neg hb
        rw [e2]
        exact checkOk2 b ib (by omega) w ht
    · have hf : f ≠ 0 := fun h => hp (h5.1 h)
      obtain ⟨n, rfl⟩ : ∃ n : Nat, f = n := ⟨f.toNat, by omega⟩
      have e1 : check1 p (n : Int) = Lib.join [[112, 105, 112, 101], Lib.itoa p, flawWs.getD n []] [32] := if_neg hp
      rw [e1]
      by_cases hb : b = -1
      · subst hb
        exact checkOk3 p n ip (by omega) (by omega) (by omega) w ht
      · have e2 : check2 b = Lib.join [[99, 111, 100, 101], Lib.itoa b] [32] := if_neg hb
        rw [e2]
        exact checkOk4 p n ip (by omega) (by omega) (by omega) b ib (by omega) w ht
end Go.Proofs.YtllmejkcohfbiaaGreatDoor
