/- Contracts of the reference's Decimal and Text of addresses. -/
import Derived.Test.YtbilaapikclhlaaDoorPlainA
import Derived.Laws.IdiomStrings
namespace Go.Proofs.YtbilaapikclhlaaDoor
open Go.RowKit Go.Sort
set_option linter.unusedVariables false
set_option maxRecDepth 100000
set_option maxHeartbeats 4000000

/-- Draws and new blocks alone. -/
def Gr (w w' : World) : Prop := ∃ q os', w' = grow (w.drewN q) os'
theorem Gr.refl (w : World) : Gr w w := ⟨0, #[], by rw [grow_empty]; rfl⟩
theorem Gr.trans {a b c : World} (h : Gr a b) (k : Gr b c) : Gr a c := by
  obtain ⟨n, os, rfl⟩ := h
  obtain ⟨q, os', rfl⟩ := k
  exact ⟨n + q, os ++ os', by show grow (grow ((a.drewN n).drewN q) os) os' = _; rw [grow_grow, World.drewN_drewN]⟩
theorem Gr.alloc (w : World) (o : Obj) : Gr w (w.alloc o) := ⟨0, #[o], by rw [alloc_eq_grow]; rfl⟩
theorem Gr.fr {w w' : World} (h : Gr w w') : Fr [] w w' := by
  obtain ⟨q, os, rfl⟩ := h
  exact fr_grow w q os

theorem dec_small (u : Nat) (h : u < 10) (w : World) :
    Calls Tryd.prog 26 #[.int .i64 u] w fun e w' => e = .returned (.string ⟨(Lib.decDigits u).toArray⟩) ∧ Gr w w' := by
  have h' : (u : Int) < 10 := by omega
  rw [Lib.decDigits_one h]
  show Calls _ _ _ _ fun e w' => e = .returned (.string ⟨#[UInt8.ofNat (48 + u)]⟩) ∧ _
  have hcv : (convert 61 9 (.slice (some ⟨w.heap.size, 0, none⟩) 1 1)).run Tryd.prog (w.alloc (.cells #[.int .u8 (48 + u)] 5)) = .ok (.string ⟨#[UInt8.ofNat (48 + u)]⟩) (w.alloc (.cells #[.int .u8 (48 + u)] 5)) := by
    have := run_convert_bytes_back (P := Tryd.prog) (w.alloc (.cells #[.int .u8 (48 + u)] 5)) 61 9 5 ⟨w.heap.size, 0, none⟩ 1 [UInt8.ofNat (48 + u)] Tryd.underlying61 Tryd.underlying5 Tryd.underlying9
      (by
        intro j hj
        have hj0 : j = 0 := by simpa using hj
        subst hj0
        simp only [List.getElem_cons_zero]
        rw [dig_toNat h]
        simp [Addr.add])
    exact this
  generalize (⟨#[UInt8.ofNat (48 + u)]⟩ : ByteArray) = t at hcv ⊢
  go_enter Tryd.func26, Tryd.ntmps26
  go_wp2
  go_ret
  exact ⟨rfl, Gr.alloc _ _⟩
theorem dec_any (n : Nat) : ∀ (u : Nat), u ≤ n → u ≤ 1000000 → ∀ (w : World),
    Calls Tryd.prog 26 #[.int .i64 u] w fun e w' => e = .returned (.string ⟨(Lib.decDigits u).toArray⟩) ∧ Gr w w' := by
  induction n using Nat.strongRecOn with
  | _ n ih =>
    intro u hu hlt w
    by_cases h : u < 10
    · exact dec_small u h w
    · have IH := Lib.hid ih
      clear ih
      have hfin : Lib.decDigits u = Lib.decDigits (u / 10) ++ Lib.decDigits (u % 10) := by
        have e1 : Lib.decDigits u = Lib.decDigits (u / 10) ++ [UInt8.ofNat (48 + u % 10)] := by
          conv => lhs; rw [Lib.decDigits, dif_neg h]
        rw [e1, Lib.decDigits_one (show u % 10 < 10 by omega)]
      have HF := Lib.hid hfin
      clear hfin
      have l1 : (⟨(Lib.decDigits (u / 10)).toArray⟩ : ByteArray).size ≤ 21 := by
        have := Lib.itoa_length_le ((u / 10 : Nat) : Int) (by omega) (by omega)
        rw [Lib.itoa_nonneg] at this
        simpa [ByteArray.size] using this
      have l2 : (⟨(Lib.decDigits (u % 10)).toArray⟩ : ByteArray).size ≤ 21 := by
        have := Lib.itoa_length_le ((u % 10 : Nat) : Int) (by omega) (by omega)
        rw [Lib.itoa_nonneg] at this
        simpa [ByteArray.size] using this
      have h' : ¬ (u : Int) < 10 := by omega
      have D1 := Lib.hid (fun W => IH.out (u / 10) (by omega) (u / 10) (Nat.le_refl _) (by omega) W)
      have D2 := Lib.hid (fun W => dec_small (u % 10) (by omega) W)
      have hret : (⟨(Lib.decDigits (u / 10)).toArray⟩ : ByteArray) ++ ⟨(Lib.decDigits (u % 10)).toArray⟩ = ⟨(Lib.decDigits u).toArray⟩ := by
        rw [HF.out]
        have : ∀ a b : List UInt8, (⟨a.toArray⟩ : ByteArray) ++ ⟨b.toArray⟩ = ⟨(a ++ b).toArray⟩ := fun a b => by
          cases h1 : (⟨a.toArray⟩ : ByteArray) ++ ⟨b.toArray⟩ with
          | mk d =>
            have h2 : ((⟨a.toArray⟩ : ByteArray) ++ ⟨b.toArray⟩).data = a.toArray ++ b.toArray := by simp
            rw [h1] at h2
            simp only at h2
            rw [h2]
            simp
        exact this _ _
      generalize (⟨(Lib.decDigits (u / 10)).toArray⟩ : ByteArray) = t1 at l1 D1 hret
      generalize (⟨(Lib.decDigits (u % 10)).toArray⟩ : ByteArray) = t2 at l2 D2 hret
      have HR := Lib.hid hret
      clear hret HF IH
      have z1 : ¬ 9223372036854775807 < t1.size + t2.size := by omega
      go_enter Tryd.func26, Tryd.ntmps26
      go_wp2_with fail
      rw [show ((u : Int) / 10) = ((u / 10 : Nat) : Int) by omega]
      refine (D1.out _).mono ?_
      rintro e w1 ⟨rfl, g1⟩
      go_wp2_with fail
      rw [show ((u : Int) % 10) = ((u % 10 : Nat) : Int) by omega]
      refine (D2.out _).mono ?_
      rintro e w2 ⟨rfl, g2⟩
      go_wp2_with fail
      go_ret
      exact ⟨by rw [← HR.out]; rfl, g1.trans g2⟩

theorem refText_any (s : ByteArray) (u : Nat) (hs : s.size ≤ 1000000) (hu : u ≤ 1000000) (w : World) :
    Calls Tryd.prog 14 #[.agg #[.string s, .int .i64 u]] w fun e w' => e = .returned (.string (textB s u)) ∧ Fr [] w w' := by
  have mixed : Tryd.prog.follows .mixedOrders = true := by kernel_rfl
  have hdl : (⟨(Lib.decDigits u).toArray⟩ : ByteArray).size ≤ 21 := by
    have := Lib.itoa_length_le u (by omega) (by omega)
    rw [Lib.itoa_nonneg] at this
    simpa [ByteArray.size] using this
  have hI := fun W => dec_any u u (Nat.le_refl _) hu W
  unfold textB
  generalize (⟨(Lib.decDigits u).toArray⟩ : ByteArray) = t at hI hdl ⊢
  have f0 : Fr [] w (w.alloc (.cells #[.string s, .int .i64 u] 23)) := (Fr.refl [] w).alloc _
  have HI := Lib.hid hI
  clear hI
  go_enter Tryd.func14, Tryd.ntmps14
  go_wp2_with fail
  have k0 : ∀ n os, (grow ((w.alloc (.cells #[.string s, .int .i64 u] 23)).drewN n) os).cell? ⟨w.heap.size, 0, none⟩ = some (.string s) := fun n os => cell_grown (by simp) (by simp) n os
  have k1 : ∀ n os, (grow ((w.alloc (.cells #[.string s, .int .i64 u] 23)).drewN n) os).cell? ⟨w.heap.size, 1, none⟩ = some (.int .i64 u) := fun n os => cell_grown (by simp) (by simp) n os
  generalize w.alloc (.cells #[.string s, .int .i64 u] 23) = W0 at k0 k1 f0 ⊢
  have z1 : ¬ 9223372036854775807 < s.size + 1 := by omega
  have z2 : ¬ 9223372036854775807 < s.size + 1 + t.size := by omega
  go_quiet_grown ((go_at_call 26; exact Calls.grown_of (HI.out _)))
  go_wp2_with fail
  go_ret
  exact ⟨rfl, f0.step (fr_grow _ _ _)⟩
end Go.Proofs.YtbilaapikclhlaaDoor
