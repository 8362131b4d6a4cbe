/- Contracts of the law's own faults, same and calls. -/
import Derived.Test.YtededfkenlhokaaDoorCPlain2
import Derived.Test.YtededfkenlhokaaDoorC9
import Derived.Laws.StructEq
namespace Go.Proofs.YtededfkenlhokaaDoor
open Go.RowKit Go.Shelf
set_option linter.unusedVariables false
set_option maxRecDepth 100000
set_option maxHeartbeats 4000000

theorem dec_of {p : Prop} [Decidable p] (r : Bool) (h : r = true ↔ p) : r = decide p := by
  cases r
  · have : ¬ p := fun e => by have := h.2 e; cases this
    simp [this]
  · simp [h.1 rfl]
theorem eqFtRaw (x y : Ft) (w : World) : (Op.equalIn 10000 32 (.agg #[.int .i64 x.k, .int .i64 x.c, .int .i64 x.d, .int .i64 x.a, .int .i64 x.g]) (.agg #[.int .i64 y.k, .int .i64 y.c, .int .i64 y.d, .int .i64 y.a, .int .i64 y.g])).run Tryd.prog w = .ok (decide (x = y)) w := by
  have u1 := Tryd.underlying3
  have a1 := Tryd.isAgg3
  have z1 := Tryd.sizeOf3
  have u2 := Tryd.underlying30
  have a2 := Tryd.isAgg30
  have z2 := Tryd.sizeOf30
  have u3 := Tryd.underlying29
  have a3 := Tryd.isAgg29
  have z3 := Tryd.sizeOf29
  have hS : Tryd.prog.underlying 32 = some (.struct (Tryd.prog.fieldsOf 32)) := by kernel_rfl
  have hp : Tryd.prog.stoodInHeld 32 = false := by kernel_rfl
  rw [show (10000 : Nat) = 9999 + 1 from rfl, run_equalIn_agg w 9999 32 _ _ hS hp]
  simp only [Program.fieldsOf, Tryd.underlying32]
  go_simp
  obtain ⟨k, c, d, a, g⟩ := x
  obtain ⟨k', c', d', a', g'⟩ := y
  by_cases h1 : k = k' <;> by_cases h2 : c = c' <;> by_cases h3 : d = d' <;> by_cases h4 : a = a' <;> by_cases h5 : g = g' <;> simp [h1, h2, h3, h4, h5]
theorem neFt (x y : Ft) (w : World) : (binOp .neq 32 (.agg #[.int .i64 x.k, .int .i64 x.c, .int .i64 x.d, .int .i64 x.a, .int .i64 x.g]) (.agg #[.int .i64 y.k, .int .i64 y.c, .int .i64 y.d, .int .i64 y.a, .int .i64 y.g])).run Tryd.prog w = .ok (.bool (!decide (x = y))) w := by
  rw [run_neq_struct, eqFtRaw]
  rfl
abbrev Ef := Int × Int × Int
theorem eqEfRaw (x y : Ef) (w : World) : (Op.equalIn 10000 51 (.agg #[.int .i64 x.1, .int .u64 x.2.1, .int .i64 x.2.2]) (.agg #[.int .i64 y.1, .int .u64 y.2.1, .int .i64 y.2.2])).run Tryd.prog w = .ok (decide (x = y)) w := by
  have u1 := Tryd.underlying3
  have a1 := Tryd.isAgg3
  have z1 := Tryd.sizeOf3
  have u2 := Tryd.underlying49
  have a2 := Tryd.isAgg49
  have z2 := Tryd.sizeOf49
  have u3 := Tryd.underlying24
  have a3 := Tryd.isAgg24
  have z3 := Tryd.sizeOf24
  have hS : Tryd.prog.underlying 51 = some (.struct (Tryd.prog.fieldsOf 51)) := by kernel_rfl
  have hp : Tryd.prog.stoodInHeld 51 = false := by kernel_rfl
  rw [show (10000 : Nat) = 9999 + 1 from rfl, run_equalIn_agg w 9999 51 _ _ hS hp]
  simp only [Program.fieldsOf, Tryd.underlying51]
  go_simp
  obtain ⟨k, c, d⟩ := x
  obtain ⟨k', c', d'⟩ := y
  by_cases h1 : k = k' <;> by_cases h2 : c = c' <;> by_cases h3 : d = d' <;> simp [h1, h2, h3]
theorem eqEf (x y : Ef) (w : World) : (binOp .eql 51 (.agg #[.int .i64 x.1, .int .u64 x.2.1, .int .i64 x.2.2]) (.agg #[.int .i64 y.1, .int .u64 y.2.1, .int .i64 y.2.2])).run Tryd.prog w = .ok (.bool (decide (x = y))) w := by
  rw [run_eql_struct, eqEfRaw]
  rfl
theorem neEf (x y : Ef) (w : World) : (binOp .neq 51 (.agg #[.int .i64 x.1, .int .u64 x.2.1, .int .i64 x.2.2]) (.agg #[.int .i64 y.1, .int .u64 y.2.1, .int .i64 y.2.2])).run Tryd.prog w = .ok (.bool (!decide (x = y))) w := by
  rw [run_neq_struct, eqEfRaw]
  rfl

theorem faults_any (w : World) :
    Calls Tryd.prog 23 #[] w fun e w' => ∃ v, e = .returned v ∧ FtRow w' v exF ∧ Fr [] w w' := by
  go_enter Tryd.func23, Tryd.ntmps23
  go_wp2
  go_ret
  refine ⟨_, rfl, ?_, (Fr.refl [] w).alloc _⟩
  refine .inr ⟨w.heap.size, 0, 4, rfl, by simp, ?_⟩
  intro i x hx
  match i with
  | 0 => cases hx; simp
  | 1 => cases hx; simp
  | 2 => cases hx; simp
  | 3 => cases hx; simp
  | i + 4 => simp [exF] at hx
end Go.Proofs.YtededfkenlhokaaDoor
