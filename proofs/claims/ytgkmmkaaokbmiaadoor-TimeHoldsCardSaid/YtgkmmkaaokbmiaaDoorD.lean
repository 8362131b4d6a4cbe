/- Contracts of vtime's and the reference's Min and of slices.Min, for slices of at most a million times. -/
import Derived.Test.YtgkmmkaaokbmiaaDoorC
namespace Go.Proofs.YtgkmmkaaokbmiaaDoor
open Go.RowKit Go.Sort Go.Lib
set_option linter.unusedVariables false

def minS (m x : Int) : Int := if x < m then x else m
def minT (zs : List Int) : Int := zs.foldl minS 18446744073709551615

theorem getD_mem (l : List Int) (i : Nat) (h : i < l.length) : l.getD i 0 ∈ l := by
  simp only [List.getD, List.getElem?_eq_getElem h, Option.getD_some]
  exact List.getElem_mem h
theorem minT_snoc (zs : List Int) (k : Nat) (h : k < zs.length) : minT (zs.take (k + 1)) = minS (minT (zs.take k)) (zs.getD k 0) := by
  unfold minT
  rw [List.take_succ_eq_append_getElem h, List.foldl_append]
  simp [List.getD, h]
theorem minT_bd (zs : List Int) (hz : ∀ z ∈ zs, 0 ≤ z ∧ z ≤ 18446744073709551615) : 0 ≤ minT zs ∧ minT zs ≤ 18446744073709551615 := by
  unfold minT
  have : ∀ (l : List Int) (m : Int), 0 ≤ m ∧ m ≤ 18446744073709551615 → (∀ z ∈ l, 0 ≤ z ∧ z ≤ 18446744073709551615) → 0 ≤ l.foldl minS m ∧ l.foldl minS m ≤ 18446744073709551615 := by
    intro l
    induction l with
    | nil => intro m hm _; exact hm
    | cons x r ih =>
      intro m hm h
      refine ih _ ?_ (fun z hz => h z (List.mem_cons_of_mem _ hz))
      have := h x List.mem_cons_self
      unfold minS; split <;> omega
  exact this zs _ (by omega) hz

set_option maxHeartbeats 400000 in
theorem refmin_empty (a : Option Addr) (c : Nat) (w : World) :
    Calls Tryd.prog 14 #[.slice a 0 c] w fun e w' => e = .returned (.int .u64 18446744073709551615) ∧ w = w' := by
  go_enter Tryd.func14, Tryd.ntmps14
  go_wp2
  go_loop [3, 4] (fun m i => i = .int .i64 0 ∧ m = .int .u64 18446744073709551615) (fun _ i => 0)
  case atStart => exact ⟨rfl, rfl⟩
  case round =>
    obtain ⟨rfl, rfl⟩ := hrel
    go_wp2
    go_ret
    exact ⟨rfl, rfl⟩

set_option maxHeartbeats 400000 in
theorem refmin_any (b off len c : Nat) (zs : List Int) (w : World) (hl : zs.length = len) (hlen : len ≤ 1000000)
    (hz : ∀ z ∈ zs, 0 ≤ z ∧ z ≤ 18446744073709551615)
    (hc : ∀ i, i < len → w.cell? ⟨b, off + i, none⟩ = some (.int .u64 (zs.getD i 0))) :
    Calls Tryd.prog 14 #[.slice (some ⟨b, off, none⟩) len c] w fun e w' => e = .returned (.int .u64 (minT zs)) ∧ w = w' := by
  have HL := Lib.hid hl
  have HC := Lib.hid hc
  clear hl hc
  go_enter Tryd.func14, Tryd.ntmps14
  go_wp2
  go_loop [3, 4] (fun m i => ∃ k : Nat, k ≤ len ∧ i = .int .i64 k ∧ m = .int .u64 (minT (zs.take k))) (fun _ i => len - (RowKit.intOf i).toNat)
  case atStart => exact ⟨0, Nat.zero_le _, rfl, rfl⟩
  case round =>
    obtain ⟨k, hk, rfl, rfl⟩ := hrel
    by_cases hlt : k < len
    · have hcell := HC.out k hlt
      have hs := Lib.hid (minT_snoc zs k (by rw [HL.out]; exact hlt))
      rw [List.getD_eq_getElem?_getD] at hs
      go_wp2
      all_goals
        go_round
        case rel => exact ⟨k + 1, by omega, by go_num, by rw [hs.out]; unfold minS; first | rw [if_pos (by assumption)] | rw [if_neg (by omega)]⟩
        case measure => simp [RowKit.intOf]; omega
    · go_wp2
      go_ret
      exact ⟨ret_int (by rw [List.take_of_length_le (by rw [HL.out]; omega)]), rfl⟩

set_option maxHeartbeats 400000 in
theorem smin_any (b off len c : Nat) (zs : List Int) (w : World) (h0 : 0 < len) (hl : zs.length = len) (hlen : len ≤ 1000000)
    (hz : ∀ z ∈ zs, 0 ≤ z ∧ z ≤ 18446744073709551615)
    (hc : ∀ i, i < len → w.cell? ⟨b, off + i, none⟩ = some (.int .u64 (zs.getD i 0))) :
    Calls Tryd.prog 30 #[.slice (some ⟨b, off, none⟩) len c] w fun e w' => e = .returned (.int .u64 (minT zs)) ∧ w = w' := by
  have h1 := Lib.hid (minT_snoc zs 0 (by omega))
  have hz0 := hz (zs.getD 0 0) (getD_mem zs 0 (by omega))
  have hc0 := hc 0 h0
  rw [Nat.add_zero] at hc0
  rw [List.getD_eq_getElem?_getD] at hc0 hz0
  have HL := Lib.hid hl
  have HC := Lib.hid hc
  have HZ := Lib.hid hz
  clear hl hc hz
  have hge : ¬ (len : Int) < 1 := by omega
  go_enter Tryd.func30, Tryd.ntmps30
  go_wp2
  go_loop [3, 4] (fun m i => ∃ k : Nat, 1 ≤ k ∧ k ≤ len ∧ i = .int .i64 k ∧ m = .int .u64 (minT (zs.take k))) (fun _ i => len - (RowKit.intOf i).toNat)
  case atStart =>
    refine ⟨1, by omega, by omega, rfl, ?_⟩
    have e := h1.out
    rw [List.take_zero, show minT [] = 18446744073709551615 from rfl] at e
    rw [e]
    unfold minS
    rw [List.getD_eq_getElem?_getD]
    split
    · rfl
    · rw [show (zs[0]?.getD 0) = 18446744073709551615 by omega]
  case round =>
    obtain ⟨k, hk1, hk, rfl, rfl⟩ := hrel
    by_cases hlt : k < len
    · have hcell := HC.out k hlt
      have hs := Lib.hid (minT_snoc zs k (by rw [HL.out]; exact hlt))
      rw [List.getD_eq_getElem?_getD] at hs
      go_wp2
      go_round
      case rel => exact ⟨k + 1, by omega, by omega, by go_num, by rw [hs.out]; unfold minS; split <;> go_num⟩
      case measure => simp [RowKit.intOf]; omega
    · go_wp2
      go_ret
      exact ⟨ret_int (by rw [List.take_of_length_le (by rw [HL.out]; omega)]), rfl⟩

set_option maxHeartbeats 400000 in
theorem min_empty (a : Option Addr) (c : Nat) (w : World) :
    Calls Tryd.prog 13 #[.slice a 0 c] w fun e w' => e = .returned (.int .u64 18446744073709551615) ∧ w = w' := by
  go_enter Tryd.func13, Tryd.ntmps13
  go_wp2
  go_ret
  exact ⟨rfl, rfl⟩
set_option maxHeartbeats 400000 in
theorem min_any (b off len c : Nat) (zs : List Int) (w : World) (h0 : 0 < len) (hl : zs.length = len) (hlen : len ≤ 1000000)
    (hz : ∀ z ∈ zs, 0 ≤ z ∧ z ≤ 18446744073709551615)
    (hc : ∀ i, i < len → w.cell? ⟨b, off + i, none⟩ = some (.int .u64 (zs.getD i 0))) :
    Calls Tryd.prog 13 #[.slice (some ⟨b, off, none⟩) len c] w fun e w' => e = .returned (.int .u64 (minT zs)) ∧ w = w' := by
  have hq : ((len : Int) == 0) = false := by rw [beq_eq_false_iff_ne]; omega
  have HL := Lib.hid hl
  have HC := Lib.hid hc
  have HZ := Lib.hid hz
  clear hl hc hz
  go_enter Tryd.func13, Tryd.ntmps13
  go_wp2_with (go_at_call 30; refine (smin_any b off len c zs _ h0 HL.out hlen HZ.out HC.out).mono ?_; rintro e w' ⟨rfl, rfl⟩)
  go_ret
  exact ⟨rfl, rfl⟩
end Go.Proofs.YtgkmmkaaokbmiaaDoor
