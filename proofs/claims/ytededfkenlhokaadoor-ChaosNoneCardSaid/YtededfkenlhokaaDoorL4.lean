/- ChaosNone answers true. -/
import Derived.Test.YtededfkenlhokaaDoorL3
namespace Go.Proofs.YtededfkenlhokaaDoor
open Go.RowKit Go.Shelf
set_option linter.unusedVariables false
set_option maxRecDepth 100000
set_option maxHeartbeats 4000000

/-- What ChaosNone's loop reads. -/
structure NoAt (W : World) (B : Nat) (c d n : Int) : Prop where
  a1 : W.cell? ⟨B, 1, none⟩ = some (.int .i64 c)
  a2 : W.cell? ⟨B, 2, none⟩ = some (.int .i64 d)
  a3 : W.cell? ⟨B, 3, none⟩ = some (.int .i64 n)
  z1 : W.cell? ⟨B + 1, 1, none⟩ = some (.map none)
  s0 : W.cell? ⟨B + 1 + 1, 0, none⟩ = some (.pointer none)
  s1 : W.cell? ⟨B + 1 + 1, 1, none⟩ = some (.pointer (some ⟨B + 1, 0, none⟩))
theorem NoAt.new {W W' : World} {B : Nat} {c d n : Int} (h : NoAt W B c d n) (f : Fr [] W W') : NoAt W' B c d n :=
  ⟨f.keep h.a1 (by simp), f.keep h.a2 (by simp), f.keep h.a3 (by simp), f.keep h.z1 (by simp), f.keep h.s0 (by simp), f.keep h.s1 (by simp)⟩
theorem chaosNone_any (a0 c d n : Int) (w : World) (he : Env w) :
    Calls Tryd.prog 6 #[.agg #[.int .i64 a0, .int .i64 c, .int .i64 d, .int .i64 n]] w fun e w' => e = .returned (.bool true) ∧ Fr [] w w' := by
  have HE := Lib.hid he
  have hne := neEf (0, 0, 0) (0, 0, 0)
  rw [decide_eq_true rfl] at hne
  have HN := Lib.hid hne
  clear he hne
  go_enter Tryd.func6, Tryd.ntmps6
  go_wp2
  obtain ⟨W0, hW0⟩ : ∃ W0, ((w.alloc (.cells #[.int .i64 a0, .int .i64 c, .int .i64 d, .int .i64 n] 44)).alloc (.cells #[.slice none 0 0, .map none] 65)).alloc (.cells #[.pointer none, .pointer (some ⟨w.heap.size + 1, 0, none⟩)] 40) = W0 := ⟨_, rfl⟩
  have h0 : Fr [] w W0 := by rw [← hW0]; exact (((Fr.refl [] w).alloc _).alloc _).alloc _
  have hA : NoAt W0 w.heap.size c d n := by
    rw [← hW0]
    have k1 : Fr [] (w.alloc (.cells #[.int .i64 a0, .int .i64 c, .int .i64 d, .int .i64 n] 44)) (((w.alloc (.cells #[.int .i64 a0, .int .i64 c, .int .i64 d, .int .i64 n] 44)).alloc (.cells #[.slice none 0 0, .map none] 65)).alloc (.cells #[.pointer none, .pointer (some ⟨w.heap.size + 1, 0, none⟩)] 40)) := ((Fr.refl [] _).alloc _).alloc _
    have k2 : Fr [] ((w.alloc (.cells #[.int .i64 a0, .int .i64 c, .int .i64 d, .int .i64 n] 44)).alloc (.cells #[.slice none 0 0, .map none] 65)) (((w.alloc (.cells #[.int .i64 a0, .int .i64 c, .int .i64 d, .int .i64 n] 44)).alloc (.cells #[.slice none 0 0, .map none] 65)).alloc (.cells #[.pointer none, .pointer (some ⟨w.heap.size + 1, 0, none⟩)] 40)) := (Fr.refl [] _).alloc _
    exact ⟨k1.keep (newCell _ _ _ 1 rfl rfl rfl) (by simp), k1.keep (newCell _ _ _ 2 rfl rfl rfl) (by simp), k1.keep (newCell _ _ _ 3 rfl rfl rfl) (by simp), k2.keep (newCell _ _ _ 1 rfl (by simp) rfl) (by simp), newCell _ _ _ 0 rfl (by simp) rfl, newCell _ _ _ 1 rfl (by simp) rfl⟩
  rw [hW0]
  have HA0 := Lib.hid hA
  have H0 := Lib.hid h0
  clear hA h0 hW0
  go_loopw [15] (fun i wr => (i = .int .i64 0 ∨ i = .int .i64 1 ∨ i = .int .i64 2) ∧ Fr [] W0 wr) (fun i _ => 2 - (intOf i).toNat)
  case atStart => exact ⟨.inl rfl, Fr.refl _ _⟩
  case round =>
    rename_i wr
    obtain ⟨hi, hF⟩ := hrel
    have HA := Lib.hid (HA0.out.new hF)
    have HF := Lib.hid hF
    have a1 := HA.out.a1
    have a2 := HA.out.a2
    have a3 := HA.out.a3
    have s0 := HA.out.s0
    have s1 := HA.out.s1
    have z1 := HA.out.z1
    have hne := HN.out
    clear hF
    rcases hi with rfl | rfl | rfl
    · have HV := Lib.hid (show NoPlan wr (.pointer none) from .inl rfl)
      clear z1
      go_wp2_with (first
          | (go_at_call 18; refine (noCall _ HV.out c d n).mono ?_; rintro e w1 ⟨rfl, g1⟩; have q1 := (HA.out.new g1).new ((Fr.refl [] w1).alloc (.cells #[.int .i64 0, .int .u64 0, .int .i64 0] 51)); have v1 := (HV.out.new g1).new ((Fr.refl [] w1).alloc (.cells #[.int .i64 0, .int .u64 0, .int .i64 0] 51)); have b1 := q1.a1; have b2 := q1.a2; have b3 := q1.a3; have HV1 := Lib.hid v1; clear q1 v1)
          | (go_at_call 16; refine (noCalls _ HV1.out c d).mono ?_; rintro e w' ⟨rfl, rfl⟩)
          | (go_at_call 17; refine (noBytes _ HV1.out c d).mono ?_; rintro e w' ⟨rfl, rfl⟩)
          | (go_at_call 19; refine (noMoved _ HV1.out c d n).mono ?_; rintro e w' ⟨rfl, rfl⟩)
          | (go_at_call 22; refine (noCopy _ HV1.out).mono ?_; rintro e w' ⟨rfl, rfl⟩))
      go_roundw
      case rel => exact ⟨.inr (.inl rfl), (HF.out.step g1).alloc _⟩
      case measure => simp [intOf]
    · have HV := Lib.hid (show NoPlan wr (.pointer (some ⟨w.heap.size + 1, 0, none⟩)) from .inr ⟨_, rfl, z1⟩)
      clear z1
      go_wp2_with (first
          | (go_at_call 18; refine (noCall _ HV.out c d n).mono ?_; rintro e w1 ⟨rfl, g1⟩; have q1 := (HA.out.new g1).new ((Fr.refl [] w1).alloc (.cells #[.int .i64 0, .int .u64 0, .int .i64 0] 51)); have v1 := (HV.out.new g1).new ((Fr.refl [] w1).alloc (.cells #[.int .i64 0, .int .u64 0, .int .i64 0] 51)); have b1 := q1.a1; have b2 := q1.a2; have b3 := q1.a3; have HV1 := Lib.hid v1; clear q1 v1)
          | (go_at_call 16; refine (noCalls _ HV1.out c d).mono ?_; rintro e w' ⟨rfl, rfl⟩)
          | (go_at_call 17; refine (noBytes _ HV1.out c d).mono ?_; rintro e w' ⟨rfl, rfl⟩)
          | (go_at_call 19; refine (noMoved _ HV1.out c d n).mono ?_; rintro e w' ⟨rfl, rfl⟩)
          | (go_at_call 22; refine (noCopy _ HV1.out).mono ?_; rintro e w' ⟨rfl, rfl⟩))
      go_roundw
      case rel => exact ⟨.inr (.inr rfl), (HF.out.step g1).alloc _⟩
      case measure => simp [intOf]
    · have HK := Lib.hid (known_any wr (HE.out.new (H0.out.step HF.out)))
      clear a1 a2 a3 s0 s1 z1
      go_wp2_with (go_at_call 7; refine HK.out.mono ?_; rintro e w5 ⟨rfl, g5⟩)
      go_ret
      exact ⟨rfl, (H0.out.step HF.out).step g5⟩
end Go.Proofs.YtededfkenlhokaaDoor
