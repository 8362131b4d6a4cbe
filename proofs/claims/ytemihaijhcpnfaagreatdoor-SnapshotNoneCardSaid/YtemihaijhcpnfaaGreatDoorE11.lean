/- The check sum of any bytes, the program's and the reference's. -/
import Derived.Test.YtemihaijhcpnfaaGreatDoorE1
namespace Go.Proofs.YtemihaijhcpnfaaGreatDoor
open Go.RowKit
set_option linter.unusedVariables false
set_option linter.unusedSimpArgs false
set_option maxRecDepth 100000
set_option maxHeartbeats 4000000

def stepI (h : Int) (c : UInt8) : Int := bits .xor .u32 (h * 33 % 4294967296) ((c.toNat : Int) % 4294967296)
def sumI (l : List UInt8) : Int := l.foldl stepI 5381
theorem sumI_take {l : List UInt8} {q : Nat} {x : UInt8} (h : l[q]? = some x) : sumI (l.take (q + 1)) = stepI (sumI (l.take q)) x := by
  unfold sumI
  rw [List.take_add_one, h]
  simp
theorem sum_any (l : List UInt8) (v : Value) (w : World) (h : RowV w v l.length 1 (bsV l)) (hl : l.length ≤ 1000000) : Calls Tryz.prog 10 #[v] w fun e w' => e = .returned (.int .u32 (sumI l)) ∧ w = w' := by
  rcases h.2 with ⟨h0, a, c, rfl⟩ | ⟨g, off, c, rfl, hg, hc⟩
  · obtain rfl := List.eq_nil_of_length_eq_zero h0
    go_enter Tryz.func10, Tryz.ntmps10
    go_wp2
    refine wp_loop_rounds 1 ?_
    rw [rounds_succ]
    go_wp2
    go_ret
    exact ⟨rfl, rfl⟩
  · have HC := Lib.hid hc
    obtain ⟨n, hn⟩ : ∃ n, l.length = n := ⟨_, rfl⟩
    have HN := Lib.hid hn
    rw [hn] at hl ⊢
    clear hc h hn
    go_enter Tryz.func10, Tryz.ntmps10
    go_wp2
    go_loopw [8, 3] (fun i x wr => ∃ (wz : World) (q : Nat), wz = wr ∧ i = .int .i64 q ∧ x = .int .u32 (sumI (l.take q)) ∧ q ≤ n ∧ wr = w) (fun i _ _ => n - (intOf i).toNat)
    case atStart => exact ⟨_, 0, rfl, rfl, rfl, by omega, rfl⟩
    case round =>
      obtain ⟨wr, q, hwz, rfl, rfl, hq, hw⟩ := hrel
      subst hwz
      subst hw
      by_cases hlt : q < n
      · have hlt' : (q : Int) < (n : Int) := by omega
        have hq0 : (0 : Int) ≤ (q : Int) := by omega
        obtain ⟨x, hx⟩ : ∃ x, l[q]? = some x := ⟨_, List.getElem?_eq_getElem (by have := HN.out; omega)⟩
        have hcell : wr.cell? ⟨g, off + q, none⟩ = some (.int .u8 (x.toNat : Int)) := HC.out q _ (by simp [bsV, byteV, hx])
        have hs := sumI_take hx
        unfold stepI at hs
        have HS := Lib.hid hs
        clear hs hx
        go_wp2
        go_roundw
        case rel => exact ⟨_, q + 1, rfl, by go_num, by rw [HS.out], by omega, by first | trivial | rfl⟩
        case measure => simp [intOf]; omega
      · have hlt' : ¬ (q : Int) < (n : Int) := by omega
        obtain rfl : q = n := by omega
        have hs : sumI (l.take q) = sumI l := by rw [List.take_of_length_le (by have := HN.out; omega)]
        rw [hs]
        go_wp2
        go_ret
        exact ⟨rfl, rfl⟩
theorem refSum_any (l : List UInt8) (v : Value) (w : World) (h : RowV w v l.length 1 (bsV l)) (hl : l.length ≤ 1000000) : Calls Tryz.prog 11 #[v] w fun e w' => e = .returned (.int .u32 (sumI l)) ∧ w = w' := by
  rcases h.2 with ⟨h0, a, c, rfl⟩ | ⟨g, off, c, rfl, hg, hc⟩
  · obtain rfl := List.eq_nil_of_length_eq_zero h0
    go_enter Tryz.func11, Tryz.ntmps11
    go_wp2
    refine wp_loop_rounds 1 ?_
    rw [rounds_succ]
    go_wp2
    go_ret
    exact ⟨rfl, rfl⟩
  · have HC := Lib.hid hc
    obtain ⟨n, hn⟩ : ∃ n, l.length = n := ⟨_, rfl⟩
    have HN := Lib.hid hn
    rw [hn] at hl ⊢
    clear hc h hn
    go_enter Tryz.func11, Tryz.ntmps11
    go_wp2
    go_loopw [4, 3] (fun i x wr => ∃ (wz : World) (q : Nat), wz = wr ∧ i = .int .i64 q ∧ x = .int .u32 (sumI (l.take q)) ∧ q ≤ n ∧ wr = w) (fun i _ _ => n - (intOf i).toNat)
    case atStart => exact ⟨_, 0, rfl, rfl, rfl, by omega, rfl⟩
    case round =>
      obtain ⟨wr, q, hwz, rfl, rfl, hq, hw⟩ := hrel
      subst hwz
      subst hw
      by_cases hlt : q < n
      · have hlt' : (q : Int) < (n : Int) := by omega
        have hq0 : (0 : Int) ≤ (q : Int) := by omega
        obtain ⟨x, hx⟩ : ∃ x, l[q]? = some x := ⟨_, List.getElem?_eq_getElem (by have := HN.out; omega)⟩
        have hcell : wr.cell? ⟨g, off + q, none⟩ = some (.int .u8 (x.toNat : Int)) := HC.out q _ (by simp [bsV, byteV, hx])
        have hs := sumI_take hx
        unfold stepI at hs
        have HS := Lib.hid hs
        clear hs hx
        go_wp2
        go_roundw
        case rel => exact ⟨_, q + 1, rfl, by go_num, by rw [HS.out], by omega, by first | trivial | rfl⟩
        case measure => simp [intOf]; omega
      · have hlt' : ¬ (q : Int) < (n : Int) := by omega
        obtain rfl : q = n := by omega
        have hs : sumI (l.take q) = sumI l := by rw [List.take_of_length_le (by have := HN.out; omega)]
        rw [hs]
        go_wp2
        go_ret
        exact ⟨rfl, rfl⟩
theorem sum_nil : sumI [] = 5381 := rfl
theorem sum_a : sumI [97] = 177604 := by kernel_rfl
end Go.Proofs.YtemihaijhcpnfaaGreatDoor
