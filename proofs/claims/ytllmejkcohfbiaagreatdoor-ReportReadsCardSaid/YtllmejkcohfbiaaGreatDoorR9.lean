/- Report: Check. -/
import Derived.Test.YtllmejkcohfbiaaGreatDoorR8
namespace Go.Proofs.YtllmejkcohfbiaaGreatDoor
open Go.RowKit Go.Shelf Go.Sort Go.Lib
set_option linter.unusedVariables false
set_option linter.unusedSimpArgs false
set_option maxRecDepth 100000
set_option maxHeartbeats 8000000

def flawWs : List (List UInt8) := [[], [109, 97, 100, 101], [108, 111, 115, 116], [114, 111, 111, 109]]
def checkOk (p f b : Int) : Bool := decide (-1 ≤ p ∧ -1 ≤ b ∧ 0 ≤ f ∧ f < 4 ∧ (f = 0 ↔ p = -1))
def check1 (p f : Int) : List UInt8 := if p = -1 then [112, 105, 112, 101, 115, 32, 102, 105, 110, 101] else Lib.join [[112, 105, 112, 101], Lib.itoa p, flawWs.getD f.toNat []] [32]
def check2 (b : Int) : List UInt8 := if b = -1 then [99, 111, 100, 101, 115, 32, 102, 105, 110, 101] else Lib.join [[99, 111, 100, 101], Lib.itoa b] [32]
def checkB (p f b : Int) : List UInt8 × Int := if checkOk p f b = true then (check1 p f ++ [10] ++ check2 b ++ [10], 0) else ([], 2)
def ckV (p f b : Int) : Value := .agg #[.int .i64 p, .int .i64 f, .int .i64 b]
theorem checkBad1 (p f b : Int) (h1 : p < -1) (w : World) :
    Calls Tryz.prog 16 #[ckV p f b] w fun e w' => e = .returned (.tuple #[.string ⟨#[]⟩, .int .i64 2]) ∧ Fr [] w w' := by
  have d0 := decide_eq_true h1
  unfold ckV
  go_enter Tryz.func16, Tryz.ntmps16
  go_wp2
  go_ret2
  exact ⟨rfl, ((Fr.refl [] w).alloc _).alloc _⟩
theorem checkBad2 (p f b : Int) (h1 : ¬ p < -1) (h2 : b < -1) (w : World) :
    Calls Tryz.prog 16 #[ckV p f b] w fun e w' => e = .returned (.tuple #[.string ⟨#[]⟩, .int .i64 2]) ∧ Fr [] w w' := by
  have d0 := decide_eq_false h1
  have d1 := decide_eq_true h2
  unfold ckV
  go_enter Tryz.func16, Tryz.ntmps16
  go_wp2
  go_ret2
  exact ⟨rfl, ((Fr.refl [] w).alloc _).alloc _⟩
theorem checkBad3 (p f b : Int) (h1 : ¬ p < -1) (h2 : ¬ b < -1) (h3 : f < 0) (w : World) :
    Calls Tryz.prog 16 #[ckV p f b] w fun e w' => e = .returned (.tuple #[.string ⟨#[]⟩, .int .i64 2]) ∧ Fr [] w w' := by
  have d0 := decide_eq_false h1
  have d1 := decide_eq_false h2
  have d2 := decide_eq_true h3
  unfold ckV
  go_enter Tryz.func16, Tryz.ntmps16
  go_wp2
  go_ret2
  exact ⟨rfl, ((Fr.refl [] w).alloc _).alloc _⟩
theorem checkBad4 (p f b : Int) (h1 : ¬ p < -1) (h2 : ¬ b < -1) (h3 : ¬ f < 0) (h4 : 4 ≤ f) (w : World) :
    Calls Tryz.prog 16 #[ckV p f b] w fun e w' => e = .returned (.tuple #[.string ⟨#[]⟩, .int .i64 2]) ∧ Fr [] w w' := by
  have d0 := decide_eq_false h1
  have d1 := decide_eq_false h2
  have d2 := decide_eq_false h3
  have d3 := decide_eq_true h4
  unfold ckV
  go_enter Tryz.func16, Tryz.ntmps16
  go_wp2
  go_ret2
  exact ⟨rfl, ((Fr.refl [] w).alloc _).alloc _⟩
theorem checkBad5 (p f b : Int) (h1 : ¬ p < -1) (h2 : ¬ b < -1) (h3 : ¬ f < 0) (h4 : ¬ 4 ≤ f) (h5 : f = 0) (h6 : p ≠ -1) (w : World) :
    Calls Tryz.prog 16 #[ckV p f b] w fun e w' => e = .returned (.tuple #[.string ⟨#[]⟩, .int .i64 2]) ∧ Fr [] w w' := by
  subst h5
  have d0 := decide_eq_false h1
  have d1 := decide_eq_false h2
  have d2 := decide_eq_false h3
  have d3 := decide_eq_false h4
  have d4 := (beq_eq_false_iff_ne.2 h6 : (p == -1) = false)
  have d5 := decide_eq_false h6
  unfold ckV
  go_enter Tryz.func16, Tryz.ntmps16
  go_wp2
  go_ret2
  exact ⟨rfl, ((Fr.refl [] w).alloc _).alloc _⟩
theorem checkBad6 (p f b : Int) (h1 : ¬ p < -1) (h2 : ¬ b < -1) (h3 : ¬ f < 0) (h4 : ¬ 4 ≤ f) (h5 : f ≠ 0) (h6 : p = -1) (w : World) :
    Calls Tryz.prog 16 #[ckV p f b] w fun e w' => e = .returned (.tuple #[.string ⟨#[]⟩, .int .i64 2]) ∧ Fr [] w w' := by
  subst h6
  have d0 := decide_eq_false h1
  have d1 := decide_eq_false h2
  have d2 := decide_eq_false h3
  have d3 := decide_eq_false h4
  have d4 := (beq_eq_false_iff_ne.2 h5 : (f == 0) = false)
  have d5 := decide_eq_false h5
  unfold ckV
  go_enter Tryz.func16, Tryz.ntmps16
  go_wp2
  go_ret2
  exact ⟨rfl, ((Fr.refl [] w).alloc _).alloc _⟩
end Go.Proofs.YtllmejkcohfbiaaGreatDoor
