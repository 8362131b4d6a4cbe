/- Contracts of the reference's Valid of dialings, of the law's few (one dialing) and is. -/
import Derived.Test.YtgbmenfmaphciaaKnown3
namespace Go.Proofs.Ytgbmenfmaphciaa
open Go.RowKit
open Go.Maps (Keyed)
set_option linter.unusedVariables false
set_option maxRecDepth 100000
set_option maxHeartbeats 4000000

def capB (c : Int) : Bool := decide (0 ≤ c) && decide (c ≤ 4096)
def stV (c : Int) : Value := .agg #[.int .i64 c, .slice none 0 0, .bool false, .slice none 0 0, .int .i64 0, .int .i64 0, .int .i64 0]

theorem ref14New_ok (c : Int) (w : World) (h1 : ¬ c < 0) (h2 : ¬ 4096 < c) :
    Calls Try.prog 54 #[.int .i64 c] w fun e w' => e = .returned (.tuple #[stV c, .int .i64 0]) ∧ Fr [] w w' := by
  go_enter Try.func54, Try.ntmps54
  go_wp2
  refine bodyPost_ret (v := .tuple #[stV c, .int .i64 0]) (by simp [results, Try.results54, go_sem, stV]) rfl ⟨rfl, ?_⟩
  exact (Fr.refl [] w).alloc _
theorem ref14New_bad (c : Int) (w : World) (h : c < 0 ∨ 4096 < c) :
    Calls Try.prog 54 #[.int .i64 c] w fun e w' => e = .returned (.tuple #[stV 0, .int .i64 2]) ∧ Fr [] w w' := by
  rcases h with h | h
  · go_enter Try.func54, Try.ntmps54
    go_wp2
    refine bodyPost_ret (v := .tuple #[stV 0, .int .i64 2]) (by simp [results, Try.results54, go_sem, stV]) rfl ⟨rfl, ?_⟩
    exact (Fr.refl [] w).alloc _
  · have h0 : ¬ c < 0 := by omega
    go_enter Try.func54, Try.ntmps54
    go_wp2
    refine bodyPost_ret (v := .tuple #[stV 0, .int .i64 2]) (by simp [results, Try.results54, go_sem, stV]) rfl ⟨rfl, ?_⟩
    exact (Fr.refl [] w).alloc _

def connV (c : Int) : Value := .agg #[.int .i64 c, .slice none 0 0, .bool false, .slice none 0 0, .int .i64 0, .int .i64 0, .int .i64 0, .int .i64 c, .slice none 0 0, .bool false, .slice none 0 0, .int .i64 0, .int .i64 0, .int .i64 0, .bool false, .bool false]
theorem ref15New_ok (c : Int) (w : World) (h1 : ¬ c < 0) (h2 : ¬ 4096 < c) :
    Calls Try.prog 32 #[.int .i64 c, .int .i64 c] w fun e w' => e = .returned (.tuple #[connV c, .int .i64 0]) ∧ Fr [] w w' := by
  have f0 : Fr [] w (w.alloc (.cells #[.int .i64 0, .slice none 0 0, .bool false, .slice none 0 0, .int .i64 0, .int .i64 0, .int .i64 0, .int .i64 0, .slice none 0 0, .bool false, .slice none 0 0, .int .i64 0, .int .i64 0, .int .i64 0, .bool false, .bool false] 89)) := (Fr.refl [] w).alloc _
  go_enter Try.func32, Try.ntmps32
  go_wp2_with fail
  refine (ref14New_ok c _ (by omega) (by omega)).mono ?_
  unfold stV
  rintro e w1 ⟨rfl, f1⟩
  go_wp2_with fail
  refine (ref14New_ok c _ (by omega) (by omega)).mono ?_
  unfold stV
  rintro e w2 ⟨rfl, f2⟩
  have f3 : Fr [] w2 (w2.alloc (.cells #[.int .i64 c, .slice none 0 0, .bool false, .slice none 0 0, .int .i64 0, .int .i64 0, .int .i64 0] 85)) := (Fr.refl [] w2).alloc _
  have fz : ∀ o, (w2.alloc (.cells #[.int .i64 c, .slice none 0 0, .bool false, .slice none 0 0, .int .i64 0, .int .i64 0, .int .i64 0] 85)).frozen? ⟨w.heap.size, o, none⟩ = false := fun o => by rw [((f1.alloc _).step f2 |>.step f3).frozen (by simp) (by simp)]; simp

  have a0 : (w2.alloc (.cells #[.int .i64 c, .slice none 0 0, .bool false, .slice none 0 0, .int .i64 0, .int .i64 0, .int .i64 0] 85)).cell? ⟨w1.heap.size, 0, none⟩ = some (.int .i64 c) := (f2.step f3).keep (by simp) (by simp)
  have a1 : (w2.alloc (.cells #[.int .i64 c, .slice none 0 0, .bool false, .slice none 0 0, .int .i64 0, .int .i64 0, .int .i64 0] 85)).cell? ⟨w1.heap.size, 1, none⟩ = some (.slice none 0 0) := (f2.step f3).keep (by simp) (by simp)
  have a2 : (w2.alloc (.cells #[.int .i64 c, .slice none 0 0, .bool false, .slice none 0 0, .int .i64 0, .int .i64 0, .int .i64 0] 85)).cell? ⟨w1.heap.size, 2, none⟩ = some (.bool false) := (f2.step f3).keep (by simp) (by simp)
  have a3 : (w2.alloc (.cells #[.int .i64 c, .slice none 0 0, .bool false, .slice none 0 0, .int .i64 0, .int .i64 0, .int .i64 0] 85)).cell? ⟨w1.heap.size, 3, none⟩ = some (.slice none 0 0) := (f2.step f3).keep (by simp) (by simp)
  have a4 : (w2.alloc (.cells #[.int .i64 c, .slice none 0 0, .bool false, .slice none 0 0, .int .i64 0, .int .i64 0, .int .i64 0] 85)).cell? ⟨w1.heap.size, 4, none⟩ = some (.int .i64 0) := (f2.step f3).keep (by simp) (by simp)
  have a5 : (w2.alloc (.cells #[.int .i64 c, .slice none 0 0, .bool false, .slice none 0 0, .int .i64 0, .int .i64 0, .int .i64 0] 85)).cell? ⟨w1.heap.size, 5, none⟩ = some (.int .i64 0) := (f2.step f3).keep (by simp) (by simp)
  have a6 : (w2.alloc (.cells #[.int .i64 c, .slice none 0 0, .bool false, .slice none 0 0, .int .i64 0, .int .i64 0, .int .i64 0] 85)).cell? ⟨w1.heap.size, 6, none⟩ = some (.int .i64 0) := (f2.step f3).keep (by simp) (by simp)
  have b0 : (w2.alloc (.cells #[.int .i64 c, .slice none 0 0, .bool false, .slice none 0 0, .int .i64 0, .int .i64 0, .int .i64 0] 85)).cell? ⟨w.heap.size, 0, none⟩ = some (.int .i64 0) := ((f1.alloc _).step f2 |>.step f3).keep (by simp) (by simp)
  have b1 : (w2.alloc (.cells #[.int .i64 c, .slice none 0 0, .bool false, .slice none 0 0, .int .i64 0, .int .i64 0, .int .i64 0] 85)).cell? ⟨w.heap.size, 1, none⟩ = some (.slice none 0 0) := ((f1.alloc _).step f2 |>.step f3).keep (by simp) (by simp)
  have b2 : (w2.alloc (.cells #[.int .i64 c, .slice none 0 0, .bool false, .slice none 0 0, .int .i64 0, .int .i64 0, .int .i64 0] 85)).cell? ⟨w.heap.size, 2, none⟩ = some (.bool false) := ((f1.alloc _).step f2 |>.step f3).keep (by simp) (by simp)
  have b3 : (w2.alloc (.cells #[.int .i64 c, .slice none 0 0, .bool false, .slice none 0 0, .int .i64 0, .int .i64 0, .int .i64 0] 85)).cell? ⟨w.heap.size, 3, none⟩ = some (.slice none 0 0) := ((f1.alloc _).step f2 |>.step f3).keep (by simp) (by simp)
  have b4 : (w2.alloc (.cells #[.int .i64 c, .slice none 0 0, .bool false, .slice none 0 0, .int .i64 0, .int .i64 0, .int .i64 0] 85)).cell? ⟨w.heap.size, 4, none⟩ = some (.int .i64 0) := ((f1.alloc _).step f2 |>.step f3).keep (by simp) (by simp)
  have b5 : (w2.alloc (.cells #[.int .i64 c, .slice none 0 0, .bool false, .slice none 0 0, .int .i64 0, .int .i64 0, .int .i64 0] 85)).cell? ⟨w.heap.size, 5, none⟩ = some (.int .i64 0) := ((f1.alloc _).step f2 |>.step f3).keep (by simp) (by simp)
  have b6 : (w2.alloc (.cells #[.int .i64 c, .slice none 0 0, .bool false, .slice none 0 0, .int .i64 0, .int .i64 0, .int .i64 0] 85)).cell? ⟨w.heap.size, 6, none⟩ = some (.int .i64 0) := ((f1.alloc _).step f2 |>.step f3).keep (by simp) (by simp)
  have b7 : (w2.alloc (.cells #[.int .i64 c, .slice none 0 0, .bool false, .slice none 0 0, .int .i64 0, .int .i64 0, .int .i64 0] 85)).cell? ⟨w.heap.size, 7, none⟩ = some (.int .i64 0) := ((f1.alloc _).step f2 |>.step f3).keep (by simp) (by simp)
  have b8 : (w2.alloc (.cells #[.int .i64 c, .slice none 0 0, .bool false, .slice none 0 0, .int .i64 0, .int .i64 0, .int .i64 0] 85)).cell? ⟨w.heap.size, 8, none⟩ = some (.slice none 0 0) := ((f1.alloc _).step f2 |>.step f3).keep (by simp) (by simp)
  have b9 : (w2.alloc (.cells #[.int .i64 c, .slice none 0 0, .bool false, .slice none 0 0, .int .i64 0, .int .i64 0, .int .i64 0] 85)).cell? ⟨w.heap.size, 9, none⟩ = some (.bool false) := ((f1.alloc _).step f2 |>.step f3).keep (by simp) (by simp)
  have b10 : (w2.alloc (.cells #[.int .i64 c, .slice none 0 0, .bool false, .slice none 0 0, .int .i64 0, .int .i64 0, .int .i64 0] 85)).cell? ⟨w.heap.size, 10, none⟩ = some (.slice none 0 0) := ((f1.alloc _).step f2 |>.step f3).keep (by simp) (by simp)
  have b11 : (w2.alloc (.cells #[.int .i64 c, .slice none 0 0, .bool false, .slice none 0 0, .int .i64 0, .int .i64 0, .int .i64 0] 85)).cell? ⟨w.heap.size, 11, none⟩ = some (.int .i64 0) := ((f1.alloc _).step f2 |>.step f3).keep (by simp) (by simp)
  have b12 : (w2.alloc (.cells #[.int .i64 c, .slice none 0 0, .bool false, .slice none 0 0, .int .i64 0, .int .i64 0, .int .i64 0] 85)).cell? ⟨w.heap.size, 12, none⟩ = some (.int .i64 0) := ((f1.alloc _).step f2 |>.step f3).keep (by simp) (by simp)
  have b13 : (w2.alloc (.cells #[.int .i64 c, .slice none 0 0, .bool false, .slice none 0 0, .int .i64 0, .int .i64 0, .int .i64 0] 85)).cell? ⟨w.heap.size, 13, none⟩ = some (.int .i64 0) := ((f1.alloc _).step f2 |>.step f3).keep (by simp) (by simp)
  have b14 : (w2.alloc (.cells #[.int .i64 c, .slice none 0 0, .bool false, .slice none 0 0, .int .i64 0, .int .i64 0, .int .i64 0] 85)).cell? ⟨w.heap.size, 14, none⟩ = some (.bool false) := ((f1.alloc _).step f2 |>.step f3).keep (by simp) (by simp)
  have b15 : (w2.alloc (.cells #[.int .i64 c, .slice none 0 0, .bool false, .slice none 0 0, .int .i64 0, .int .i64 0, .int .i64 0] 85)).cell? ⟨w.heap.size, 15, none⟩ = some (.bool false) := ((f1.alloc _).step f2 |>.step f3).keep (by simp) (by simp)
  go_wp2_with fail
  refine bodyPost_ret (v := .tuple #[connV c, .int .i64 0]) (by simp [results, Try.results32, go_sem, connV, b0, b1, b2, b3, b4, b5, b6, b7, b8, b9, b10, b11, b12, b13, b14, b15]) rfl ⟨rfl, ?_⟩
  have g := ((f0.step f1).alloc (.cells #[.int .i64 c, .slice none 0 0, .bool false, .slice none 0 0, .int .i64 0, .int .i64 0, .int .i64 0] 85)).step f2 |>.step f3
  iterate 16 refine Fr.setCell ?_ (by simp) _
  exact g
end Go.Proofs.Ytgbmenfmaphciaa
