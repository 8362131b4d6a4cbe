/- Contracts of numbered's add, over listeners and over connections. -/
import Derived.Test.YtmdhlodafjpnmaaGreatDup
namespace Go.Proofs.YtmdhlodafjpnmaaGreat
open Go.RowKit
open Go.Maps (Keyed)
set_option linter.unusedVariables false

def qV (b : Nat) (s : ByteArray) (p : Int) : Value := .agg #[.pointer (some ⟨b, 0, none⟩), .string s, .int .i64 p]
theorem zeroQ (w : World) : (zeroValue 120).run Tryz.prog w = .ok (.agg #[.pointer none, .string ⟨#[]⟩, .int .i64 0]) w := by kernel_rfl
theorem zeroD (w : World) : (zeroValue 55).run Tryz.prog w = .ok (.pointer none) w := by kernel_rfl

set_option maxRecDepth 100000 in
set_option maxHeartbeats 2000000 in
theorem addD (m : Nat) (f : List (Value × Value)) (k d : Nat) (w : World) (h : MapIs Tryz.prog 3 w m f) (hk : ∀ j : Nat, j < k → ∃ d', (.int .i64 j, .pointer (some ⟨d', 0, none⟩)) ∈ f) (hx : ∀ p ∈ f, p.1 ≠ .int .i64 k) (hk' : k ≤ 100000) :
    Calls Tryz.prog 83 #[.map (some m), .pointer (some ⟨d, 0, none⟩)] w fun e w' => e = .returned (.int .i64 k) ∧ MapIs Tryz.prog 3 w' m (f ++ [(.int .i64 k, .pointer (some ⟨d, 0, none⟩))]) ∧ Fr [m] w w' := by
  have HK := Lib.hid hk
  have HX := Lib.hid hx
  clear hk hx
  go_enter Tryz.func83, Tryz.ntmps83
  go_wp2
  go_loopw [5] (fun i wr => ∃ j : Nat, i = .int .i64 j ∧ j ≤ k ∧ MapIs Tryz.prog 3 wr m f ∧ Fr [] w wr) (fun i _ => k - (intOf i).toNat)
  case atStart => exact ⟨0, rfl, by omega, h, Fr.refl _ _⟩
  case round =>
    obtain ⟨j, rfl, hj, hm, fr⟩ := hrel
    by_cases hlt : j < k
    · obtain ⟨d', hd⟩ := HK.out j hlt
      have hl : (Instr.lookup 51 (.map (some m)) (.int .i64 j) true).run Tryz.prog wr = .ok (.tuple #[.pointer (some ⟨d', 0, none⟩), .bool true]) wr := hm.hit keyInt (t := 51) (e := 55) Tryz.underlying51 hd true
      clear hd
      go_wp2
      go_roundw
      case rel => exact ⟨j + 1, by go_num, by omega, hm, fr⟩
      case measure => simp [intOf]; omega
    · obtain rfl : j = k := by omega
      have hl : (Instr.lookup 51 (.map (some m)) (.int .i64 j) true).run Tryz.prog wr = .ok (.tuple #[.pointer none, .bool false]) wr := hm.miss keyInt (t := 51) (e := 55) Tryz.underlying51 (keyInt_of j (by omega) (by omega)) HX.out (zeroD _) true
      obtain ⟨w2, hrun, hm2, f2⟩ := hm.put keyInt (t := 51) (e := 55) Tryz.underlying51 (keyInt_of j (by omega) (by omega)) HX.out (.pointer (some ⟨d, 0, none⟩))
      go_wp2
      go_ret
      exact ⟨rfl, hm2, (fr.mono (fun x hx => by cases hx)).trans f2 (fun x hx _ => hx)⟩

set_option maxRecDepth 100000 in
set_option maxHeartbeats 2000000 in
theorem addQ (m : Nat) (f : List (Value × Value)) (k b : Nat) (s : ByteArray) (p : Int) (w : World) (h : MapIs Tryz.prog 3 w m f) (hk : ∀ j : Nat, j < k → ∃ b' s' p', (.int .i64 j, qV b' s' p') ∈ f) (hx : ∀ p ∈ f, p.1 ≠ .int .i64 k) (hk' : k ≤ 100000) :
    Calls Tryz.prog 78 #[.map (some m), qV b s p] w fun e w' => e = .returned (.int .i64 k) ∧ MapIs Tryz.prog 3 w' m (f ++ [(.int .i64 k, qV b s p)]) ∧ Fr [m] w w' := by
  have HK := Lib.hid hk
  have HX := Lib.hid hx
  have hmlt := h.lt
  clear hk hx
  unfold qV
  go_enter Tryz.func78, Tryz.ntmps78
  go_wp2
  go_loopw [5] (fun i wr => ∃ j : Nat, i = .int .i64 j ∧ j ≤ k ∧ MapIs Tryz.prog 3 wr m f ∧ Fr [] w wr ∧ wr.cell? ⟨w.heap.size, 0, none⟩ = some (.pointer (some ⟨b, 0, none⟩)) ∧ wr.cell? ⟨w.heap.size, 1, none⟩ = some (.string s) ∧ wr.cell? ⟨w.heap.size, 2, none⟩ = some (.int .i64 p)) (fun i _ => k - (intOf i).toNat)
  case atStart => exact ⟨0, rfl, by omega, h.keep ((Fr.refl [] _).alloc _) (by simp), (Fr.refl [] _).alloc _, by simp, by simp, by simp⟩
  case round =>
    obtain ⟨j, rfl, hj, hm, fr, k0, k1, k2⟩ := hrel
    by_cases hlt : j < k
    · obtain ⟨b', s', p', hd⟩ := HK.out j hlt
      have hl : (Instr.lookup 49 (.map (some m)) (.int .i64 j) true).run Tryz.prog wr = .ok (.tuple #[.agg #[.pointer (some ⟨b', 0, none⟩), .string s', .int .i64 p'], .bool true]) wr := hm.hit keyInt (t := 49) (e := 120) Tryz.underlying49 hd true
      clear hd
      have f1 : Fr [] wr (wr.alloc (.cells #[.pointer (some ⟨b', 0, none⟩), .string s', .int .i64 p'] 120)) := (Fr.refl [] _).alloc _
      go_wp2
      go_roundw
      case rel => exact ⟨j + 1, by go_num, by omega, hm.keep f1 (by simp), fr.step f1, f1.keep k0 (by simp), f1.keep k1 (by simp), f1.keep k2 (by simp)⟩
      case measure => simp [intOf]; omega
    · obtain rfl : j = k := by omega
      have hl : (Instr.lookup 49 (.map (some m)) (.int .i64 j) true).run Tryz.prog wr = .ok (.tuple #[.agg #[.pointer none, .string ⟨#[]⟩, .int .i64 0], .bool false]) wr := hm.miss keyInt (t := 49) (e := 120) Tryz.underlying49 (keyInt_of j (by omega) (by omega)) HX.out (zeroQ _) true
      have f1 : Fr [] wr (wr.alloc (.cells #[.pointer none, .string ⟨#[]⟩, .int .i64 0] 120)) := (Fr.refl [] _).alloc _
      have j0 := f1.keep k0 (by simp)
      have j1 := f1.keep k1 (by simp)
      have j2 := f1.keep k2 (by simp)
      obtain ⟨w2, hrun, hm2, f2⟩ := (hm.keep f1 (by simp)).put keyInt (t := 49) (e := 120) Tryz.underlying49 (keyInt_of j (by omega) (by omega)) HX.out (.agg #[.pointer (some ⟨b, 0, none⟩), .string s, .int .i64 p])
      go_wp2
      go_ret
      exact ⟨rfl, hm2, ((fr.step f1).mono (fun x hx => by cases hx)).trans f2 (fun x hx _ => hx)⟩
end Go.Proofs.YtmdhlodafjpnmaaGreat
