/- Contracts of the reference's Valid of dialings, of the law's few (one dialing) and is. -/
/- Contract of the reference's New of connections where it fails. -/
/- Contracts of the reference's Valid of dialings, and of the law's few (one dialing) and is. -/
/- The law DialNew's walk: it returns true at every start. -/
import Derived.Test.YtgbmenfmaphciaaKnown3
namespace Go.Proofs.Ytgbmenfmaphciaa
open Go.RowKit
open Go.Maps (Keyed)
set_option linter.unusedVariables false
set_option maxRecDepth 100000
set_option maxHeartbeats 4000000

def capB (c : Int) : Bool := decide (0 ≤ c) && decide (c ≤ 4096)
def stV (c : Int) : Value := .agg #[.int .i64 c, .slice none 0 0, .bool false, .slice none 0 0, .int .i64 0, .int .i64 0, .int .i64 0]

theorem ref14New_ok (c : Int) (w : World) (h1 : ¬ c < 0) (h2 : ¬ 4096 < c) :
    Calls Try.prog 54 #[.int .i64 c] w fun e w' => e = .returned (.tuple #[stV c, .int .i64 0]) ∧ Fr [] w w' := by
  go_enter Try.func54, Try.ntmps54
  go_wp2
  refine bodyPost_ret (v := .tuple #[stV c, .int .i64 0]) (by simp [results, Try.results54, go_sem, stV]) rfl ⟨rfl, ?_⟩
  exact (Fr.refl [] w).alloc _
theorem ref14New_bad (c : Int) (w : World) (h : c < 0 ∨ 4096 < c) :
    Calls Try.prog 54 #[.int .i64 c] w fun e w' => e = .returned (.tuple #[stV 0, .int .i64 2]) ∧ Fr [] w w' := by
  rcases h with h | h
  · go_enter Try.func54, Try.ntmps54
    go_wp2
    refine bodyPost_ret (v := .tuple #[stV 0, .int .i64 2]) (by simp [results, Try.results54, go_sem, stV]) rfl ⟨rfl, ?_⟩
    exact (Fr.refl [] w).alloc _
  · have h0 : ¬ c < 0 := by omega
    go_enter Try.func54, Try.ntmps54
    go_wp2
    refine bodyPost_ret (v := .tuple #[stV 0, .int .i64 2]) (by simp [results, Try.results54, go_sem, stV]) rfl ⟨rfl, ?_⟩
    exact (Fr.refl [] w).alloc _

def connV (c : Int) : Value := .agg #[.int .i64 c, .slice none 0 0, .bool false, .slice none 0 0, .int .i64 0, .int .i64 0, .int .i64 0, .int .i64 c, .slice none 0 0, .bool false, .slice none 0 0, .int .i64 0, .int .i64 0, .int .i64 0, .bool false, .bool false]
theorem ref15New_ok (c : Int) (w : World) (h1 : ¬ c < 0) (h2 : ¬ 4096 < c) :
    Calls Try.prog 32 #[.int .i64 c, .int .i64 c] w fun e w' => e = .returned (.tuple #[connV c, .int .i64 0]) ∧ Fr [] w w' := by
  have f0 : Fr [] w (w.alloc (.cells #[.int .i64 0, .slice none 0 0, .bool false, .slice none 0 0, .int .i64 0, .int .i64 0, .int .i64 0, .int .i64 0, .slice none 0 0, .bool false, .slice none 0 0, .int .i64 0, .int .i64 0, .int .i64 0, .bool false, .bool false] 89)) := (Fr.refl [] w).alloc _
  go_enter Try.func32, Try.ntmps32
  go_wp2_with fail
  refine (ref14New_ok c _ (by omega) (by omega)).mono ?_
  unfold stV
  rintro e w1 ⟨rfl, f1⟩
  go_wp2_with fail
  refine (ref14New_ok c _ (by omega) (by omega)).mono ?_
  unfold stV
  rintro e w2 ⟨rfl, f2⟩
  have f3 : Fr [] w2 (w2.alloc (.cells #[.int .i64 c, .slice none 0 0, .bool false, .slice none 0 0, .int .i64 0, .int .i64 0, .int .i64 0] 85)) := (Fr.refl [] w2).alloc _
  have fz : ∀ o, (w2.alloc (.cells #[.int .i64 c, .slice none 0 0, .bool false, .slice none 0 0, .int .i64 0, .int .i64 0, .int .i64 0] 85)).frozen? ⟨w.heap.size, o, none⟩ = false := fun o => by rw [((f1.alloc _).step f2 |>.step f3).frozen (by simp) (by simp)]; simp

  have a0 : (w2.alloc (.cells #[.int .i64 c, .slice none 0 0, .bool false, .slice none 0 0, .int .i64 0, .int .i64 0, .int .i64 0] 85)).cell? ⟨w1.heap.size, 0, none⟩ = some (.int .i64 c) := (f2.step f3).keep (by simp) (by simp)
  have a1 : (w2.alloc (.cells #[.int .i64 c, .slice none 0 0, .bool false, .slice none 0 0, .int .i64 0, .int .i64 0, .int .i64 0] 85)).cell? ⟨w1.heap.size, 1, none⟩ = some (.slice none 0 0) := (f2.step f3).keep (by simp) (by simp)
  have a2 : (w2.alloc (.cells #[.int .i64 c, .slice none 0 0, .bool false, .slice none 0 0, .int .i64 0, .int .i64 0, .int .i64 0] 85)).cell? ⟨w1.heap.size, 2, none⟩ = some (.bool false) := (f2.step f3).keep (by simp) (by simp)
  have a3 : (w2.alloc (.cells #[.int .i64 c, .slice none 0 0, .bool false, .slice none 0 0, .int .i64 0, .int .i64 0, .int .i64 0] 85)).cell? ⟨w1.heap.size, 3, none⟩ = some (.slice none 0 0) := (f2.step f3).keep (by simp) (by simp)
  have a4 : (w2.alloc (.cells #[.int .i64 c, .slice none 0 0, .bool false, .slice none 0 0, .int .i64 0, .int .i64 0, .int .i64 0] 85)).cell? ⟨w1.heap.size, 4, none⟩ = some (.int .i64 0) := (f2.step f3).keep (by simp) (by simp)
  have a5 : (w2.alloc (.cells #[.int .i64 c, .slice none 0 0, .bool false, .slice none 0 0, .int .i64 0, .int .i64 0, .int .i64 0] 85)).cell? ⟨w1.heap.size, 5, none⟩ = some (.int .i64 0) := (f2.step f3).keep (by simp) (by simp)
  have a6 : (w2.alloc (.cells #[.int .i64 c, .slice none 0 0, .bool false, .slice none 0 0, .int .i64 0, .int .i64 0, .int .i64 0] 85)).cell? ⟨w1.heap.size, 6, none⟩ = some (.int .i64 0) := (f2.step f3).keep (by simp) (by simp)
  have b0 : (w2.alloc (.cells #[.int .i64 c, .slice none 0 0, .bool false, .slice none 0 0, .int .i64 0, .int .i64 0, .int .i64 0] 85)).cell? ⟨w.heap.size, 0, none⟩ = some (.int .i64 0) := ((f1.alloc _).step f2 |>.step f3).keep (by simp) (by simp)
  have b1 : (w2.alloc (.cells #[.int .i64 c, .slice none 0 0, .bool false, .slice none 0 0, .int .i64 0, .int .i64 0, .int .i64 0] 85)).cell? ⟨w.heap.size, 1, none⟩ = some (.slice none 0 0) := ((f1.alloc _).step f2 |>.step f3).keep (by simp) (by simp)
  have b2 : (w2.alloc (.cells #[.int .i64 c, .slice none 0 0, .bool false, .slice none 0 0, .int .i64 0, .int .i64 0, .int .i64 0] 85)).cell? ⟨w.heap.size, 2, none⟩ = some (.bool false) := ((f1.alloc _).step f2 |>.step f3).keep (by simp) (by simp)
  have b3 : (w2.alloc (.cells #[.int .i64 c, .slice none 0 0, .bool false, .slice none 0 0, .int .i64 0, .int .i64 0, .int .i64 0] 85)).cell? ⟨w.heap.size, 3, none⟩ = some (.slice none 0 0) := ((f1.alloc _).step f2 |>.step f3).keep (by simp) (by simp)
  have b4 : (w2.alloc (.cells #[.int .i64 c, .slice none 0 0, .bool false, .slice none 0 0, .int .i64 0, .int .i64 0, .int .i64 0] 85)).cell? ⟨w.heap.size, 4, none⟩ = some (.int .i64 0) := ((f1.alloc _).step f2 |>.step f3).keep (by simp) (by simp)
  have b5 : (w2.alloc (.cells #[.int .i64 c, .slice none 0 0, .bool false, .slice none 0 0, .int .i64 0, .int .i64 0, .int .i64 0] 85)).cell? ⟨w.heap.size, 5, none⟩ = some (.int .i64 0) := ((f1.alloc _).step f2 |>.step f3).keep (by simp) (by simp)
  have b6 : (w2.alloc (.cells #[.int .i64 c, .slice none 0 0, .bool false, .slice none 0 0, .int .i64 0, .int .i64 0, .int .i64 0] 85)).cell? ⟨w.heap.size, 6, none⟩ = some (.int .i64 0) := ((f1.alloc _).step f2 |>.step f3).keep (by simp) (by simp)
  have b7 : (w2.alloc (.cells #[.int .i64 c, .slice none 0 0, .bool false, .slice none 0 0, .int .i64 0, .int .i64 0, .int .i64 0] 85)).cell? ⟨w.heap.size, 7, none⟩ = some (.int .i64 0) := ((f1.alloc _).step f2 |>.step f3).keep (by simp) (by simp)
  have b8 : (w2.alloc (.cells #[.int .i64 c, .slice none 0 0, .bool false, .slice none 0 0, .int .i64 0, .int .i64 0, .int .i64 0] 85)).cell? ⟨w.heap.size, 8, none⟩ = some (.slice none 0 0) := ((f1.alloc _).step f2 |>.step f3).keep (by simp) (by simp)
  have b9 : (w2.alloc (.cells #[.int .i64 c, .slice none 0 0, .bool false, .slice none 0 0, .int .i64 0, .int .i64 0, .int .i64 0] 85)).cell? ⟨w.heap.size, 9, none⟩ = some (.bool false) := ((f1.alloc _).step f2 |>.step f3).keep (by simp) (by simp)
  have b10 : (w2.alloc (.cells #[.int .i64 c, .slice none 0 0, .bool false, .slice none 0 0, .int .i64 0, .int .i64 0, .int .i64 0] 85)).cell? ⟨w.heap.size, 10, none⟩ = some (.slice none 0 0) := ((f1.alloc _).step f2 |>.step f3).keep (by simp) (by simp)
  have b11 : (w2.alloc (.cells #[.int .i64 c, .slice none 0 0, .bool false, .slice none 0 0, .int .i64 0, .int .i64 0, .int .i64 0] 85)).cell? ⟨w.heap.size, 11, none⟩ = some (.int .i64 0) := ((f1.alloc _).step f2 |>.step f3).keep (by simp) (by simp)
  have b12 : (w2.alloc (.cells #[.int .i64 c, .slice none 0 0, .bool false, .slice none 0 0, .int .i64 0, .int .i64 0, .int .i64 0] 85)).cell? ⟨w.heap.size, 12, none⟩ = some (.int .i64 0) := ((f1.alloc _).step f2 |>.step f3).keep (by simp) (by simp)
  have b13 : (w2.alloc (.cells #[.int .i64 c, .slice none 0 0, .bool false, .slice none 0 0, .int .i64 0, .int .i64 0, .int .i64 0] 85)).cell? ⟨w.heap.size, 13, none⟩ = some (.int .i64 0) := ((f1.alloc _).step f2 |>.step f3).keep (by simp) (by simp)
  have b14 : (w2.alloc (.cells #[.int .i64 c, .slice none 0 0, .bool false, .slice none 0 0, .int .i64 0, .int .i64 0, .int .i64 0] 85)).cell? ⟨w.heap.size, 14, none⟩ = some (.bool false) := ((f1.alloc _).step f2 |>.step f3).keep (by simp) (by simp)
  have b15 : (w2.alloc (.cells #[.int .i64 c, .slice none 0 0, .bool false, .slice none 0 0, .int .i64 0, .int .i64 0, .int .i64 0] 85)).cell? ⟨w.heap.size, 15, none⟩ = some (.bool false) := ((f1.alloc _).step f2 |>.step f3).keep (by simp) (by simp)
  go_wp2_with fail
  refine bodyPost_ret (v := .tuple #[connV c, .int .i64 0]) (by simp [results, Try.results32, go_sem, connV, b0, b1, b2, b3, b4, b5, b6, b7, b8, b9, b10, b11, b12, b13, b14, b15]) rfl ⟨rfl, ?_⟩
  have g := ((f0.step f1).alloc (.cells #[.int .i64 c, .slice none 0 0, .bool false, .slice none 0 0, .int .i64 0, .int .i64 0, .int .i64 0] 85)).step f2 |>.step f3
  iterate 16 refine Fr.setCell ?_ (by simp) _
  exact g
end Go.Proofs.Ytgbmenfmaphciaa
namespace Go.Proofs.Ytgbmenfmaphciaa
open Go.RowKit
open Go.Maps (Keyed)
set_option linter.unusedVariables false
set_option maxRecDepth 100000
set_option maxHeartbeats 4000000
theorem ref15New_bad (c : Int) (w : World) (h : c < 0 ∨ 4096 < c) :
    Calls Try.prog 32 #[.int .i64 c, .int .i64 c] w fun e w' => e = .returned (.tuple #[connV 0, .int .i64 2]) ∧ Fr [] w w' := by
  have H := Lib.hid h
  clear h
  have f0 : Fr [] w (w.alloc (.cells #[.int .i64 0, .slice none 0 0, .bool false, .slice none 0 0, .int .i64 0, .int .i64 0, .int .i64 0, .int .i64 0, .slice none 0 0, .bool false, .slice none 0 0, .int .i64 0, .int .i64 0, .int .i64 0, .bool false, .bool false] 89)) := (Fr.refl [] w).alloc _
  go_enter Try.func32, Try.ntmps32
  go_wp2_with fail
  refine (ref14New_bad c _ H.out).mono ?_
  unfold stV
  rintro e w1 ⟨rfl, f1⟩
  go_wp2_with fail
  refine (ref14New_bad c _ H.out).mono ?_
  unfold stV
  rintro e w2 ⟨rfl, f2⟩
  have f3 : Fr [] w2 (w2.alloc (.cells #[.int .i64 0, .slice none 0 0, .bool false, .slice none 0 0, .int .i64 0, .int .i64 0, .int .i64 0] 85)) := (Fr.refl [] w2).alloc _
  have fz : ∀ o, (w2.alloc (.cells #[.int .i64 0, .slice none 0 0, .bool false, .slice none 0 0, .int .i64 0, .int .i64 0, .int .i64 0] 85)).frozen? ⟨w.heap.size, o, none⟩ = false := fun o => by rw [((f1.alloc _).step f2 |>.step f3).frozen (by simp) (by simp)]; simp

  have b0 : (w2.alloc (.cells #[.int .i64 0, .slice none 0 0, .bool false, .slice none 0 0, .int .i64 0, .int .i64 0, .int .i64 0] 85)).cell? ⟨w.heap.size, 0, none⟩ = some (.int .i64 0) := ((f1.alloc _).step f2 |>.step f3).keep (by simp) (by simp)
  have b1 : (w2.alloc (.cells #[.int .i64 0, .slice none 0 0, .bool false, .slice none 0 0, .int .i64 0, .int .i64 0, .int .i64 0] 85)).cell? ⟨w.heap.size, 1, none⟩ = some (.slice none 0 0) := ((f1.alloc _).step f2 |>.step f3).keep (by simp) (by simp)
  have b2 : (w2.alloc (.cells #[.int .i64 0, .slice none 0 0, .bool false, .slice none 0 0, .int .i64 0, .int .i64 0, .int .i64 0] 85)).cell? ⟨w.heap.size, 2, none⟩ = some (.bool false) := ((f1.alloc _).step f2 |>.step f3).keep (by simp) (by simp)
  have b3 : (w2.alloc (.cells #[.int .i64 0, .slice none 0 0, .bool false, .slice none 0 0, .int .i64 0, .int .i64 0, .int .i64 0] 85)).cell? ⟨w.heap.size, 3, none⟩ = some (.slice none 0 0) := ((f1.alloc _).step f2 |>.step f3).keep (by simp) (by simp)
  have b4 : (w2.alloc (.cells #[.int .i64 0, .slice none 0 0, .bool false, .slice none 0 0, .int .i64 0, .int .i64 0, .int .i64 0] 85)).cell? ⟨w.heap.size, 4, none⟩ = some (.int .i64 0) := ((f1.alloc _).step f2 |>.step f3).keep (by simp) (by simp)
  have b5 : (w2.alloc (.cells #[.int .i64 0, .slice none 0 0, .bool false, .slice none 0 0, .int .i64 0, .int .i64 0, .int .i64 0] 85)).cell? ⟨w.heap.size, 5, none⟩ = some (.int .i64 0) := ((f1.alloc _).step f2 |>.step f3).keep (by simp) (by simp)
  have b6 : (w2.alloc (.cells #[.int .i64 0, .slice none 0 0, .bool false, .slice none 0 0, .int .i64 0, .int .i64 0, .int .i64 0] 85)).cell? ⟨w.heap.size, 6, none⟩ = some (.int .i64 0) := ((f1.alloc _).step f2 |>.step f3).keep (by simp) (by simp)
  have b7 : (w2.alloc (.cells #[.int .i64 0, .slice none 0 0, .bool false, .slice none 0 0, .int .i64 0, .int .i64 0, .int .i64 0] 85)).cell? ⟨w.heap.size, 7, none⟩ = some (.int .i64 0) := ((f1.alloc _).step f2 |>.step f3).keep (by simp) (by simp)
  have b8 : (w2.alloc (.cells #[.int .i64 0, .slice none 0 0, .bool false, .slice none 0 0, .int .i64 0, .int .i64 0, .int .i64 0] 85)).cell? ⟨w.heap.size, 8, none⟩ = some (.slice none 0 0) := ((f1.alloc _).step f2 |>.step f3).keep (by simp) (by simp)
  have b9 : (w2.alloc (.cells #[.int .i64 0, .slice none 0 0, .bool false, .slice none 0 0, .int .i64 0, .int .i64 0, .int .i64 0] 85)).cell? ⟨w.heap.size, 9, none⟩ = some (.bool false) := ((f1.alloc _).step f2 |>.step f3).keep (by simp) (by simp)
  have b10 : (w2.alloc (.cells #[.int .i64 0, .slice none 0 0, .bool false, .slice none 0 0, .int .i64 0, .int .i64 0, .int .i64 0] 85)).cell? ⟨w.heap.size, 10, none⟩ = some (.slice none 0 0) := ((f1.alloc _).step f2 |>.step f3).keep (by simp) (by simp)
  have b11 : (w2.alloc (.cells #[.int .i64 0, .slice none 0 0, .bool false, .slice none 0 0, .int .i64 0, .int .i64 0, .int .i64 0] 85)).cell? ⟨w.heap.size, 11, none⟩ = some (.int .i64 0) := ((f1.alloc _).step f2 |>.step f3).keep (by simp) (by simp)
  have b12 : (w2.alloc (.cells #[.int .i64 0, .slice none 0 0, .bool false, .slice none 0 0, .int .i64 0, .int .i64 0, .int .i64 0] 85)).cell? ⟨w.heap.size, 12, none⟩ = some (.int .i64 0) := ((f1.alloc _).step f2 |>.step f3).keep (by simp) (by simp)
  have b13 : (w2.alloc (.cells #[.int .i64 0, .slice none 0 0, .bool false, .slice none 0 0, .int .i64 0, .int .i64 0, .int .i64 0] 85)).cell? ⟨w.heap.size, 13, none⟩ = some (.int .i64 0) := ((f1.alloc _).step f2 |>.step f3).keep (by simp) (by simp)
  have b14 : (w2.alloc (.cells #[.int .i64 0, .slice none 0 0, .bool false, .slice none 0 0, .int .i64 0, .int .i64 0, .int .i64 0] 85)).cell? ⟨w.heap.size, 14, none⟩ = some (.bool false) := ((f1.alloc _).step f2 |>.step f3).keep (by simp) (by simp)
  have b15 : (w2.alloc (.cells #[.int .i64 0, .slice none 0 0, .bool false, .slice none 0 0, .int .i64 0, .int .i64 0, .int .i64 0] 85)).cell? ⟨w.heap.size, 15, none⟩ = some (.bool false) := ((f1.alloc _).step f2 |>.step f3).keep (by simp) (by simp)
  go_wp2_with fail
  refine bodyPost_ret (v := .tuple #[connV 0, .int .i64 2]) (by simp [results, Try.results32, go_sem, connV, b0, b1, b2, b3, b4, b5, b6, b7, b8, b9, b10, b11, b12, b13, b14, b15]) rfl ⟨rfl, ?_⟩
  have g := ((f0.step f1).alloc (.cells #[.int .i64 0, .slice none 0 0, .bool false, .slice none 0 0, .int .i64 0, .int .i64 0, .int .i64 0] 85)).step f2 |>.step f3
  iterate 16 refine Fr.setCell ?_ (by simp) _
  exact g
end Go.Proofs.Ytgbmenfmaphciaa
namespace Go.Proofs.Ytgbmenfmaphciaa
open Go.RowKit
open Go.Maps (Keyed)
set_option linter.unusedVariables false
set_option maxRecDepth 100000
set_option maxHeartbeats 4000000

theorem ref15New_any (c : Int) (w : World) : ∃ k x : Int, (x == 0) = capB c ∧
    Calls Try.prog 32 #[.int .i64 c, .int .i64 c] w fun e w' => e = .returned (.tuple #[connV k, .int .i64 x]) ∧ Fr [] w w' := by
  by_cases h : 0 ≤ c ∧ c ≤ 4096
  · exact ⟨c, 0, by simp [capB, h.1, h.2], ref15New_ok c w (by omega) (by omega)⟩
  · refine ⟨0, 2, ?_, ref15New_bad c w (by omega)⟩
    have : capB c = false := by
      unfold capB
      by_cases h1 : 0 ≤ c
      · simp [h1]; omega
      · simp [h1]
    rw [this]
    rfl

theorem refDialValid_any (s : ByteArray) (p c : Int) (w : World) (hs : s.size ≤ 1000000) :
    Calls Try.prog 10 #[.agg #[.string s, .int .i64 p], .int .i64 c] w fun e w' => e = .returned (.bool (addrB s.data.toList p && decide (0 < p) && capB c)) ∧ Fr [] w w' := by
  have f0 : Fr [] w (w.alloc (.cells #[.string s, .int .i64 p] 23)) := (Fr.refl [] w).alloc _
  obtain ⟨k, x, hx, HN⟩ := ref15New_any c (w.alloc (.cells #[.string s, .int .i64 p] 23))
  have HN := Lib.hid HN
  have hA : ∀ W, Calls Try.prog 33 #[.agg #[.string s, .int .i64 p]] W fun e w' => e = .returned (.bool (addrB s.data.toList p)) ∧ Fr [] W w' := fun W => refValid_any s p hs W
  generalize addrB s.data.toList p = a at hA ⊢
  have HA := Lib.hid hA
  clear hA
  generalize capB c = q at hx ⊢
  go_enter Try.func10, Try.ntmps10
  go_wp2_with fail
  refine HN.out.mono ?_
  unfold connV
  rintro e w1 ⟨rfl, f1⟩
  have f2 := f0.step f1
  have f3 : Fr [] w1 (w1.alloc (.cells #[.int .i64 k, .slice none 0 0, .bool false, .slice none 0 0, .int .i64 0, .int .i64 0, .int .i64 0, .int .i64 k, .slice none 0 0, .bool false, .slice none 0 0, .int .i64 0, .int .i64 0, .int .i64 0, .bool false, .bool false] 89)) := (Fr.refl [] w1).alloc _
  have k0 : (w1.alloc (.cells #[.int .i64 k, .slice none 0 0, .bool false, .slice none 0 0, .int .i64 0, .int .i64 0, .int .i64 0, .int .i64 k, .slice none 0 0, .bool false, .slice none 0 0, .int .i64 0, .int .i64 0, .int .i64 0, .bool false, .bool false] 89)).cell? ⟨w.heap.size, 0, none⟩ = some (.string s) := (f1.step f3).keep (by simp) (by simp)
  have k1 : (w1.alloc (.cells #[.int .i64 k, .slice none 0 0, .bool false, .slice none 0 0, .int .i64 0, .int .i64 0, .int .i64 0, .int .i64 k, .slice none 0 0, .bool false, .slice none 0 0, .int .i64 0, .int .i64 0, .int .i64 0, .bool false, .bool false] 89)).cell? ⟨w.heap.size, 1, none⟩ = some (.int .i64 p) := (f1.step f3).keep (by simp) (by simp)
  go_wp2_with fail
  refine (HA.out _).mono ?_
  rintro e w2 ⟨rfl, f4⟩
  have k1' : w2.cell? ⟨w.heap.size, 1, none⟩ = some (.int .i64 p) := f4.keep k1 (by simp)
  have fE := (f2.step f3).step f4
  subst hx
  clear k0 k1 HA HN f0 f1 f2 f3 f4
  cases a
  · go_wp2_with fail
    go_ret
    exact ⟨by simp, fE⟩
  · by_cases hp : 0 < p
    · cases hq : x == 0
      · go_wp2_with fail
        go_ret
        have hq' : x ≠ 0 := by simpa using hq
        exact ⟨by simp [hq'], fE⟩
      · go_wp2_with fail
        go_ret
        have hq' : x = 0 := by simpa using hq
        exact ⟨by simp [hp, hq'], fE⟩
    · go_wp2_with fail
      go_ret
      exact ⟨by simp; omega, fE⟩

theorem dialState_quiet (d u : Nat) (s : ByteArray) (p c un st conn er tr : Int) (w : World) (h : DialIs w d u s p c un st conn er tr) :
    Calls Try.prog 25 #[.pointer (some ⟨d, 0, none⟩)] w fun e w' => e = .returned (.tuple #[.int .i64 st, .int .i64 conn, .int .i64 er]) ∧ ∃ m, w' = w.drewN m := by
  have c5 := h.c5
  have c6 := h.c6
  have c7 := h.c7
  go_enter Try.func25, Try.ntmps25
  go_wp2_with (go_at_call 35; refine (dialNone_any d u s p c un st conn er tr _ h).mono ?_; rintro e w' ⟨rfl, rfl⟩)
  go_quiet (fail)
  go_wp2
  go_ret3
  exact ⟨rfl, _, rfl⟩

theorem stands_quiet (r : Bool) (d u : Nat) (s : ByteArray) (p c un a b x tr st conn e0 : Int) (w : World) (h : DialIs w d u s p c un a b x tr) (hr : ((a == st) && (b == conn) && (x == e0)) = r) :
    Calls Try.prog 15 #[.pointer (some ⟨d, 0, none⟩), .int .i64 st, .int .i64 conn, .int .i64 e0] w fun e w' => e = .returned (.bool r) ∧ ∃ m, w' = w.drewN m := by
  rw [← hr]
  exact stands_any a b x st conn e0 (fun W => ∃ m, W = w.drewN m) w (dialState_quiet d u s p c un a b x tr w h)

theorem is_any (d u : Nat) (s s' : ByteArray) (p c un st conn er tr p' c' un' st' conn' er' tr' : Int) (w : World) (h : DialIs w d u s p c un st conn er tr) :
    Calls Try.prog 11 #[.pointer (some ⟨d, 0, none⟩), .agg #[.string s', .int .i64 p', .int .i64 c', .int .u64 un', .int .i64 st', .int .i64 conn', .int .i64 er', .int .i64 tr']] w fun e w' =>
      e = .returned (.bool (((st == st') && (conn == conn') && (er == er')) && (tr == tr') && (un == un'))) ∧ Fr [] w w' := by
  have f0 : Fr [] w (w.alloc (.cells #[.string s', .int .i64 p', .int .i64 c', .int .u64 un', .int .i64 st', .int .i64 conn', .int .i64 er', .int .i64 tr'] 38)) := (Fr.refl [] w).alloc _
  have hd := Lib.hid (h.new f0)
  obtain ⟨r, hr⟩ : ∃ r, ((st == st') && (conn == conn') && (er == er')) = r := ⟨_, rfl⟩
  rw [hr]
  have HR := Lib.hid hr
  clear hr
  cases r
  · go_enter Try.func11, Try.ntmps11
    go_wp2_with fail
    go_quiet ((go_at_call 15; exact Calls.quiet_of (stands_quiet false d u s p c un st conn er tr _ _ _ _ (hd.out.new ((Fr.refl [] _).drewN _)) HR.out)))
    go_wp2
    go_ret
    exact ⟨by simp, f0.drewN _⟩
  · cases h1 : tr == tr'
    · go_enter Try.func11, Try.ntmps11
      go_wp2_with fail
      go_quiet (first
        | (go_at_call 15; exact Calls.quiet_of (stands_quiet true d u s p c un st conn er tr _ _ _ _ (hd.out.new ((Fr.refl [] _).drewN _)) HR.out))
        | (go_at_call 16; exact Calls.quiet_of_same ((dialTries_any d u s p c un st conn er tr _ (hd.out.new ((Fr.refl [] _).drewN _))).mono (fun _ _ h => ⟨h.1, h.2.symm⟩))))
      go_wp2
      go_ret
      exact ⟨by simp, f0.drewN _⟩
    · cases h2 : un == un'
      · go_enter Try.func11, Try.ntmps11
        go_wp2_with fail
        go_quiet (first
          | (go_at_call 15; exact Calls.quiet_of (stands_quiet true d u s p c un st conn er tr _ _ _ _ (hd.out.new ((Fr.refl [] _).drewN _)) HR.out))
          | (go_at_call 16; exact Calls.quiet_of_same ((dialTries_any d u s p c un st conn er tr _ (hd.out.new ((Fr.refl [] _).drewN _))).mono (fun _ _ h => ⟨h.1, h.2.symm⟩)))
          | (go_at_call 17; exact Calls.quiet_of_same ((dialUntil_any d u s p c un st conn er tr _ (hd.out.new ((Fr.refl [] _).drewN _))).mono (fun _ _ h => ⟨h.1, h.2.symm⟩))))
        go_wp2
        go_ret
        exact ⟨by simp, f0.drewN _⟩
      · go_enter Try.func11, Try.ntmps11
        go_wp2_with fail
        go_quiet (first
          | (go_at_call 15; exact Calls.quiet_of (stands_quiet true d u s p c un st conn er tr _ _ _ _ (hd.out.new ((Fr.refl [] _).drewN _)) HR.out))
          | (go_at_call 16; exact Calls.quiet_of_same ((dialTries_any d u s p c un st conn er tr _ (hd.out.new ((Fr.refl [] _).drewN _))).mono (fun _ _ h => ⟨h.1, h.2.symm⟩)))
          | (go_at_call 17; exact Calls.quiet_of_same ((dialUntil_any d u s p c un st conn er tr _ (hd.out.new ((Fr.refl [] _).drewN _))).mono (fun _ _ h => ⟨h.1, h.2.symm⟩))))
        go_wp2
        go_ret
        exact ⟨by simp, f0.drewN _⟩
end Go.Proofs.Ytgbmenfmaphciaa
namespace Go.Proofs.Ytgbmenfmaphciaa
open Go.RowKit
open Go.Maps (Keyed)
set_option linter.unusedVariables false
set_option maxRecDepth 100000
set_option maxHeartbeats 4000000

theorem few_one (b : Nat) (s : ByteArray) (w : World) (h0 : w.cell? ⟨b, 0, none⟩ = some (.string s)) :
    Calls Try.prog 7 #[.slice (some ⟨b, 0, none⟩) 1 1, .slice none 0 0] w fun e w' => e = .returned (.bool (decide (s.size ≤ 100))) ∧ w = w' := by
  by_cases h : 100 < (s.size : Int)
  · go_enter Try.func7, Try.ntmps7
    go_wp2
    refine wp_loop_rounds 2 ?_
    rw [rounds_succ]
    go_wp2
    go_ret
    exact ⟨by simp; omega, rfl⟩
  · go_enter Try.func7, Try.ntmps7
    go_wp2
    refine wp_loop_rounds 2 ?_
    rw [rounds_succ]
    go_wp2
    rw [rounds_succ]
    go_wp2
    refine wp_loop_rounds 1 ?_
    rw [rounds_succ]
    go_wp2
    go_ret
    exact ⟨by simp; omega, rfl⟩

theorem dialNew_walk (s : ByteArray) (p c un : Int) (w : World) :
    Calls Try.prog 3 #[.agg #[.string s, .int .i64 p, .int .i64 c, .int .u64 un]] w fun e w' => e = .returned (.bool true) ∧ Fr [] w w' := by
  have f0 : Fr [] w ((w.alloc (.cells #[.string s, .int .i64 p, .int .i64 c, .int .u64 un] 27)).alloc (.cells #[.string s, .int .i64 p, .int .i64 c, .int .u64 un] 27)) := ((Fr.refl [] w).alloc _).alloc _
  by_cases hs : s.size ≤ 100
  · have hf : decide (s.size ≤ 100) = true := by simp [hs]
    go_enter Try.func3, Try.ntmps3
    go_wp2_with fail
    refine (few_one _ s _ (by simp)).mono ?_
    rintro e w' ⟨rfl, rfl⟩
    rw [hf]
    go_wp2_with fail
    by_cases hv : addrB s.data.toList p = true ∧ 0 < p ∧ 0 ≤ c ∧ c ≤ 4096
    · obtain ⟨hv, hp, hc, hc'⟩ := hv
      obtain ⟨n, rfl⟩ := Int.eq_ofNat_of_zero_le hc
      refine (dialNew_ok s p un n _ (by omega) hv (by simp; omega) (by omega)).mono ?_
      rintro e w1 ⟨d, u, rfl, hd, ld, lu, f1⟩
      have k0 : w1.cell? ⟨w.heap.size, 0, none⟩ = some (.string s) := f1.keep (by simp) (by simp)
      have k1 : w1.cell? ⟨w.heap.size, 1, none⟩ = some (.int .i64 p) := f1.keep (by simp) (by simp)
      have k2 : w1.cell? ⟨w.heap.size, 2, none⟩ = some (.int .i64 n) := f1.keep (by simp) (by simp)
      go_wp2_with fail
      refine (refDialValid_any s p n _ (by omega)).mono ?_
      rintro e w2 ⟨rfl, f2⟩
      have hb : (addrB s.data.toList p && decide (0 < p) && capB n) = true := by
        simp only [hv, capB, Bool.and_eq_true, decide_eq_true_eq, true_and]
        omega
      rw [hb]
      have k3 : w2.cell? ⟨w.heap.size, 3, none⟩ = some (.int .u64 un) := (f1.step f2).keep (by simp) (by simp)
      go_wp2_with fail
      refine (is_any d u s ⟨#[]⟩ p n un 0 0 0 0 0 0 un 0 0 0 0 _ (hd.new f2)).mono ?_
      rintro e w3 ⟨rfl, f3⟩
      have hi : (((0 : Int) == 0) && ((0 : Int) == 0) && ((0 : Int) == 0) && ((0 : Int) == 0) && (un == un)) = true := by simp
      rw [hi]
      go_wp2_with fail
      refine (known_true _).mono ?_
      rintro e w4 ⟨rfl, f4⟩
      go_wp2_with fail
      go_ret
      exact ⟨rfl, (((f0.step f1).step f2).step f3).step f4⟩
    · have hq : addrB s.data.toList p = false ∨ p = 0 ∨ c < 0 ∨ 4096 < c := by
        cases h1 : addrB s.data.toList p
        · exact .inl rfl
        · have h2 : 0 ≤ p := by
            simp only [addrB, Bool.and_eq_true, decide_eq_true_eq] at h1
            omega
          simp only [h1, true_and] at hv
          omega
      refine (dialNew_bad s p c un _ (by omega) hq).mono ?_
      rintro e w1 ⟨rfl, f1⟩
      have k0 : w1.cell? ⟨w.heap.size, 0, none⟩ = some (.string s) := f1.keep (by simp) (by simp)
      have k1 : w1.cell? ⟨w.heap.size, 1, none⟩ = some (.int .i64 p) := f1.keep (by simp) (by simp)
      have k2 : w1.cell? ⟨w.heap.size, 2, none⟩ = some (.int .i64 c) := f1.keep (by simp) (by simp)
      go_wp2_with fail
      refine (refDialValid_any s p c _ (by omega)).mono ?_
      rintro e w2 ⟨rfl, f2⟩
      have hb : (addrB s.data.toList p && decide (0 < p) && capB c) = false := by
        cases h1 : addrB s.data.toList p
        · simp
        · simp only [capB, Bool.true_and, ← Bool.decide_and, decide_eq_false_iff_not]
          simp only [h1, true_and] at hv
          omega
      rw [hb]
      go_wp2_with fail
      refine (known_true _).mono ?_
      rintro e w4 ⟨rfl, f4⟩
      go_wp2_with fail
      go_ret
      exact ⟨rfl, ((f0.step f1).step f2).step f4⟩
  · have hf : decide (s.size ≤ 100) = false := by simp; omega
    go_enter Try.func3, Try.ntmps3
    go_wp2_with fail
    refine (few_one _ s _ (by simp)).mono ?_
    rintro e w' ⟨rfl, rfl⟩
    rw [hf]
    go_wp2_with fail
    refine (known_true _).mono ?_
    rintro e w4 ⟨rfl, f4⟩
    go_wp2_with fail
    go_ret
    exact ⟨rfl, f0.step f4⟩
end Go.Proofs.Ytgbmenfmaphciaa
