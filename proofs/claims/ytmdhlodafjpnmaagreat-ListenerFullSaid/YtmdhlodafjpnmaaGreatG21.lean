/- The law's bytes opened. -/
import Derived.Test.YtmdhlodafjpnmaaGreatG20
import Derived.Test.YtmdhlodafjpnmaaGreatOpenL
namespace Go.Proofs.YtmdhlodafjpnmaaGreat
open Go.ChangeShapes Go.WideShapes Go.ChangeAt Go.RowKit
set_option linter.unusedVariables false
set_option maxRecDepth 100000

theorem cellsB : Tryz.prog.cellsOf 5 = 1 := by kernel_rfl
theorem u8_bd {x : Int} (h : (Lit.int .u8 x).wf = true) : 0 ≤ x ∧ x ≤ 255 := by
  simpa [Lit.wf, IntKind.min, IntKind.max, IntKind.signed, IntKind.bits] using h
theorem choose_bytes {p : Nat → UInt8 → Prop} : ∀ n : Nat, (∀ i, i < n → ∃ x, p i x) → ∃ l : List UInt8, l.length = n ∧ ∀ i x, l[i]? = some x → p i x
  | 0, _ => ⟨[], rfl, fun i x h => by simp at h⟩
  | n + 1, h => by
    obtain ⟨l, hl, hp⟩ := choose_bytes n (fun i hi => h i (by omega))
    obtain ⟨x, hx⟩ := h n (by omega)
    refine ⟨l ++ [x], by simp [hl], fun i y hy => ?_⟩
    by_cases hi : i < n
    · rw [List.getElem?_append_left (by omega)] at hy
      exact hp i y hy
    · rw [List.getElem?_append_right (by omega)] at hy
      obtain ⟨j, hj⟩ : ∃ j, i - l.length = j := ⟨_, rfl⟩
      rw [hj] at hy
      match j, hy with
      | 0, hy =>
        simp only [List.getElem?_cons_zero, Option.some.injEq] at hy
        subst hy
        rw [show i = n from by omega]
        exact hx
theorem bytes_of {H : Type} {enc : TypeId × Value → H} {w : World} {fuel : Nat} {sa : Option Addr} {n c : Nat} {x : DataW H × List MemPlace} (h : DataW.trod enc Tryz.prog w 0 (fun _ => true) true fuel 22 [.slice sa n c] = some x) :
    ∃ l : List UInt8, l.length = n ∧ n ≤ maxLen ∧ Bs w (sa, n, c) l := by
  rcases laws.open_rows Tryz.underlying22 cellsB (by omega) h with ⟨rfl, rfl, rfl⟩ | ⟨hl, hm, a, rfl, hz | ⟨b, off, rfl, hrows⟩⟩
  · exact ⟨[], rfl, by unfold maxLen; omega, RowV.nil _ _ _ _⟩
  · subst hz
    exact ⟨[], rfl, by unfold maxLen; omega, RowV.nil _ _ _ _⟩
  · have hx : ∀ i, i < n → ∃ x : UInt8, w.cell? ⟨b, off + i, none⟩ = some (byteV x) := fun i hi => by
      obtain ⟨cs, m, y, hlen, hcell, hy⟩ := hrows i hi
      match cs, hlen with
      | [c0], _ =>
        obtain ⟨x0, e0, _, w0⟩ := DataW.trod_int Tryz.underlying5 hy
        simp only [List.cons.injEq, and_true] at e0
        subst e0
        have hb := u8_bd w0
        refine ⟨UInt8.ofNat x0.toNat, ?_⟩
        have h1 := hcell 0 (by omega)
        rw [show off + i * 1 + 0 = off + i from by omega] at h1
        rw [h1]
        have h2 : (UInt8.ofNat x0.toNat).toNat = x0.toNat := by rw [UInt8.toNat_ofNat']; omega
        simp only [byteV, h2, List.getElem?_cons_zero, Option.some.injEq, Value.int.injEq, true_and]
        omega
    obtain ⟨l, hlen, hp⟩ := choose_bytes n hx
    refine ⟨l, hlen, by omega, ?_⟩
    by_cases h0 : n = 0
    · subst h0
      obtain rfl := List.length_eq_zero_iff.1 hlen
      exact RowV.nil _ _ _ _
    · obtain ⟨x0, hx0⟩ := hx 0 (by omega)
      refine ⟨by rw [bsV_len], .inr ⟨b, off, c, by rw [hlen]; rfl, cell_lt hx0, fun j u hj => ?_⟩⟩
      unfold bsV at hj
      rw [List.getElem?_map] at hj
      cases hlj : l[j]? with
      | none => rw [hlj] at hj; cases hj
      | some y =>
        rw [hlj] at hj
        simp only [Option.map_some, Option.some.injEq] at hj
        subst hj
        exact hp j y hlj
end Go.Proofs.YtmdhlodafjpnmaaGreat
