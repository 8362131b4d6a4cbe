/- Contracts of dial's states, and of Try where no listener has the address. -/
import Derived.Test.YtgbmenfmaphciaaAll
import Derived.Test.YtgbmenfmaphciaaNone
namespace Go.Proofs.Ytgbmenfmaphciaa
open Go.RowKit
open Go.Maps (Keyed)
set_option linter.unusedVariables false
set_option maxRecDepth 100000
set_option maxHeartbeats 4000000

theorem mkStates (n : Nat) (h : n ≤ 100000) (w : World) : (Instr.makeSlice 78 (.int .i64 (n : Int)) (.int .i64 (n : Int))).run Try.prog w = .ok (.slice (some ⟨w.heap.size, 0, none⟩) n n) (w.alloc (.cells (madeCells #[.int .i64 0] n) 43)) :=
  run_make_row' 78 43 (.int .i64 0) 8 Try.underlying78 (by kernel_rfl) rfl _ _ n (by omega) (by omega) w
theorem made_at (z : Value) (n i : Nat) (h : i < n) : (madeCells #[z] n)[i]? = some z := by
  rw [← Array.getElem?_toList, toList_madeCells_one]
  simp [h]

theorem states_any (b off len cap : Nat) (dv : Nat → Value) (st : Nat → Int) (w : World) (hlen : len ≤ 100000)
    (hc : ∀ i, i < len → w.cell? ⟨b, off + i, none⟩ = some (dv i))
    (hst : ∀ i, i < len → ∀ W, Fr [] w W → Calls Try.prog 25 #[dv i] W fun e w' => (∃ x y, e = .returned (.tuple #[.int .i64 (st i), x, y])) ∧ Fr [] W w') :
    Calls Try.prog 39 #[.slice (some ⟨b, off, none⟩) len cap] w fun e w' => ∃ b', e = .returned (.slice (some ⟨b', 0, none⟩) len len) ∧ w.heap.size ≤ b' ∧ (∀ i, i < len → w'.cell? ⟨b', i, none⟩ = some (.int .i64 (st i))) ∧ Fr [] w w' := by
  have HC := Lib.hid hc
  have HS := Lib.hid hst
  clear hc hst
  have hmk := mkStates len hlen w
  go_enter Try.func39, Try.ntmps39
  go_wp2
  go_loopw [11] (fun i wr => ∃ j : Nat, i = .int .i64 j ∧ j ≤ len ∧ (∀ q, q < len → wr.cell? ⟨w.heap.size, q, none⟩ = some (.int .i64 (if q < j then st q else 0))) ∧ (∀ o, wr.frozen? ⟨w.heap.size, o, none⟩ = false) ∧ Fr [] w wr) (fun i _ => len - (intOf i).toNat)
  case atStart =>
    refine ⟨0, rfl, by omega, fun q hq => ?_, fun o => by simp, (Fr.refl [] w).alloc _⟩
    rw [cell_new, made_at _ _ _ hq]
    simp
  case round =>
    obtain ⟨j, rfl, hj, hz, hfz, fr⟩ := hrel
    have HZ := Lib.hid hz
    have HF := Lib.hid hfz
    clear hz hfz
    by_cases hl : j < len
    · have hl' : (j : Int) < (len : Int) := by omega
      have hcj : wr.cell? ⟨b, off + j, none⟩ = some (dv j) := fr.keep (HC.out j hl) (by simp)
      go_wp2_with fail
      refine (HS.out j hl _ fr).mono ?_
      rintro e w1 ⟨⟨x, y, rfl⟩, f1⟩
      have kj : w1.cell? ⟨w.heap.size, j, none⟩ = some (.int .i64 0) := by
        have := f1.keep (HZ.out j hl) (by simp)
        simpa using this
      have jf : ∀ o, w1.frozen? ⟨w.heap.size, o, none⟩ = false := fun o => by rw [f1.frozen (cell_lt (HZ.out j hl)) (by simp)]; exact HF.out o
      go_wp2
      go_roundw
      case rel =>
        refine ⟨j + 1, by go_num, by omega, fun q hq => ?_, fun o => by simpa using jf o, (fr.step f1).setCell (by simp) _⟩
        by_cases hqj : q = j
        · subst hqj
          rw [World.cell?_setCell_same _ _ _ kj, if_pos (by omega)]
        · rw [World.cell?_setCell_other _ _ _ _ (by first | (simp; done) | (simp; omega)), f1.keep (HZ.out q hq) (by simp)]
          by_cases h1 : q < j
          · rw [if_pos h1, if_pos (by omega)]
          · rw [if_neg h1, if_neg (by omega)]
      case measure => simp [intOf]; omega
    · have hl' : ¬ (j : Int) < (len : Int) := by omega
      go_wp2
      go_ret
      refine ⟨_, rfl, Nat.le_refl _, fun q hq => ?_, fr⟩
      have := HZ.out q hq
      rw [if_pos (by omega)] at this
      exact this

theorem states_nil (w : World) :
    Calls Try.prog 39 #[.slice none 0 0] w fun e w' => ∃ b', e = .returned (.slice (some ⟨b', 0, none⟩) 0 0) ∧ Fr [] w w' := by
  have hmk : (Instr.makeSlice 78 (.int .i64 0) (.int .i64 0)).run Try.prog w = .ok (.slice (some ⟨w.heap.size, 0, none⟩) 0 0) (w.alloc (.cells (madeCells #[.int .i64 0] 0) 43)) := mkStates 0 (by omega) w
  go_enter Try.func39, Try.ntmps39
  go_wp2
  refine wp_loop_rounds 1 ?_
  rw [rounds_succ]
  go_wp2
  go_ret
  exact ⟨_, rfl, (Fr.refl [] w).alloc _⟩

theorem try_refused (d u n r m lm cm : Nat) (w : World) (h : DialIs w d u aName 1 (1 : Nat) 5 0 0 0 0) (hn : NetIs w n r m lm cm [] [] []) (hdn : d ∉ [n, r, m, lm, cm]) :
    Calls Try.prog 26 #[.pointer (some ⟨d, 0, none⟩), .pointer (some ⟨n, 0, none⟩), .int .u64 0] w fun e w' => e = .returned (.tuple #[.int .i64 0, .int .i64 15]) ∧ DialIs w' d u aName 1 (1 : Nat) 5 2 0 15 1 ∧ Fr [d] w w' := by
  refine (dialTry_go (names := []) (ls := []) (cs := []) d u aName 1 5 0 0 0 1 0 0 15 [] (fun _ => True) (fun _ _ _ _ => trivial) w h hn (by decide) (by omega) (by omega) hdn (by simp) (by simp) ?_).mono ?_
  · intro W hW
    simp only [List.mem_cons, List.not_mem_nil, or_false, not_or] at hdn
    have hE := hn.keep hW (by simp; omega) (by simp; omega) (by simp; omega) (by simp; omega) (by simp; omega)
    refine (netConnect_refused n r m lm cm _ _ _ aName 1 1 W hE (by decide) a1 (by simp) (by omega)).mono ?_
    rintro e w' ⟨rfl, hf⟩
    exact ⟨rfl, trivial, hf⟩
  · rintro e w' ⟨rfl, hD, _, hf⟩
    exact ⟨by simp, by simpa using hD, hf⟩
end Go.Proofs.Ytgbmenfmaphciaa
