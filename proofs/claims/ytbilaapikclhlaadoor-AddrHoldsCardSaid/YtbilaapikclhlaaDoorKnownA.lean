/- The law's examples: 'known' returns true. -/
import Derived.Test.YtbilaapikclhlaaDoorLawA
namespace Go.Proofs.YtbilaapikclhlaaDoor
open Go.RowKit Go.Sort Go.Lib
set_option linter.unusedVariables false
set_option maxRecDepth 100000
set_option maxHeartbeats 16000000

def web : ByteArray := ⟨#[119, 101, 98]⟩
theorem t_web : textB web 80 = ⟨#[119, 101, 98, 58, 56, 48]⟩ := by
  unfold textB web
  rw [Lib.decDigits_two (by omega) (by omega)]
  rfl
theorem p_web : goodP ⟨#[119, 101, 98, 58, 56, 48]⟩ = true ∧ nameOf ⟨#[119, 101, 98, 58, 56, 48]⟩ = web ∧ portOf ⟨#[119, 101, 98, 58, 56, 48]⟩ = 80 := by
  have h1 : nameOf ⟨#[119, 101, 98, 58, 56, 48]⟩ = web := by decide +kernel
  have h2 : portOf ⟨#[119, 101, 98, 58, 56, 48]⟩ = 80 := by decide +kernel
  refine ⟨?_, h1, h2⟩
  unfold goodP
  rw [h1, h2]
  have : textB web (80 : Int).toNat = ⟨#[119, 101, 98, 58, 56, 48]⟩ := t_web
  rw [this]
  decide +kernel
theorem p1 : goodP ⟨#[119, 101, 98, 58, 48, 56, 48]⟩ = false := by
  have h1 : nameOf ⟨#[119, 101, 98, 58, 48, 56, 48]⟩ = web := by decide +kernel
  have h2 : portOf ⟨#[119, 101, 98, 58, 48, 56, 48]⟩ = 80 := by decide +kernel
  unfold goodP
  rw [h1, h2]
  have : textB web (80 : Int).toNat = ⟨#[119, 101, 98, 58, 56, 48]⟩ := t_web
  rw [this]
  decide +kernel
theorem t_web0 : textB web 0 = ⟨#[119, 101, 98, 58, 48]⟩ := by
  unfold textB web
  rw [Lib.decDigits_one (by omega)]
  rfl
theorem p2 : goodP ⟨#[119, 101, 98, 58]⟩ = false := by
  have h1 : nameOf ⟨#[119, 101, 98, 58]⟩ = web := by decide +kernel
  have h2 : portOf ⟨#[119, 101, 98, 58]⟩ = 0 := by decide +kernel
  unfold goodP
  rw [h1, h2]
  have : textB web (0 : Int).toNat = ⟨#[119, 101, 98, 58, 48]⟩ := t_web0
  rw [this]
  decide +kernel
theorem p3 : goodP ⟨#[119, 101, 98]⟩ = false := by
  have h1 : nameOf ⟨#[119, 101, 98]⟩ = web := by decide +kernel
  have h2 : portOf ⟨#[119, 101, 98]⟩ = 0 := by decide +kernel
  unfold goodP
  rw [h1, h2]
  have : textB web (0 : Int).toNat = ⟨#[119, 101, 98, 58, 48]⟩ := t_web0
  rw [this]
  decide +kernel
theorem t_w0 : textB ⟨#[119]⟩ 0 = ⟨#[119, 58, 48]⟩ := by
  unfold textB
  rw [Lib.decDigits_one (by omega)]
  rfl
theorem p4 : goodP ⟨#[119, 58, 98, 58, 49]⟩ = false := by
  have h1 : nameOf ⟨#[119, 58, 98, 58, 49]⟩ = ⟨#[119]⟩ := by decide +kernel
  have h2 : portOf ⟨#[119, 58, 98, 58, 49]⟩ = 0 := by decide +kernel
  unfold goodP
  rw [h1, h2]
  have : textB ⟨#[119]⟩ (0 : Int).toNat = ⟨#[119, 58, 48]⟩ := t_w0
  rw [this]
  decide +kernel
theorem goodT {s : ByteArray} (h : goodP s = true) : parsedA s = (nameOf s, portOf s) ∧ parsedE s = 0 := by simp [parsedA, parsedE, h]
theorem goodF {s : ByteArray} (h : goodP s = false) : parsedA s = (⟨#[]⟩, 0) ∧ parsedE s = 6 := by simp [parsedA, parsedE, h]
def exL : Nat → Ad
  | 0 => (⟨#[98]⟩, 1)
  | 1 => (⟨#[97]⟩, 2)
  | 2 => (⟨#[98]⟩, 1)
  | _ => (⟨#[97]⟩, 1)
def leA (x y : Ad) : Bool := !(ltOf cmpA) y x
theorem leA_iff (x y : Ad) : leA x y = true ↔ cmpA x y ≤ 0 := by
  have := cmpA_anti x y
  simp only [leA, ltOf, Bool.not_eq_true', decide_eq_false_iff_not]
  omega
theorem leA_trans (a b c : Ad) (h1 : leA a b = true) (h2 : leA b c = true) : leA a c = true :=
  (leA_iff a c).2 (cmpA_trans a b c ((leA_iff a b).1 h1) ((leA_iff b c).1 h2))
theorem leA_total (a b : Ad) : (leA a b || leA b a) = true := by
  have := cmpA_anti a b
  rw [Bool.or_eq_true, leA_iff, leA_iff]
  omega
theorem leA_anti (a b : Ad) (h1 : leA a b = true) (h2 : leA b a = true) : a = b := by
  have := cmpA_anti a b
  have q1 := (leA_iff a b).1 h1
  have q2 := (leA_iff b a).1 h2
  exact (cmpA_zero a b).1 (by omega)
/-- The sorted list is the one sorted permutation. -/
theorem sortA_eq {l l' : List Ad} (hp : l'.Perm l) (hs : l'.Pairwise (fun a b => leA a b = true)) : sortA l = l' := by
  refine List.Perm.eq_of_pairwise (le := fun x y => leA x y = true) (fun a b _ _ h1 h2 => leA_anti a b h1 h2) ?_ hs ((List.mergeSort_perm _ _).trans hp.symm)
  exact List.pairwise_mergeSort leA_trans leA_total l
theorem cs_ex : csA (upto exL 4) = [(⟨#[97]⟩, 1), (⟨#[97]⟩, 2), (⟨#[98]⟩, 1)] := by
  have h : sortA (upto exL 4) = [(⟨#[97]⟩, 1), (⟨#[97]⟩, 2), (⟨#[98]⟩, 1), (⟨#[98]⟩, 1)] := by
    refine sortA_eq ?_ ?_
    · have : upto exL 4 = [(⟨#[98]⟩, 1), (⟨#[97]⟩, 2), (⟨#[98]⟩, 1), (⟨#[97]⟩, 1)] := by decide +kernel
      rw [this]
      decide +kernel
    · decide +kernel
  unfold csA
  rw [h]
  decide +kernel

theorem known_any (w : World) (he : Env w) :
    Calls Tryd.prog 8 #[] w fun e w' => e = .returned (.bool true) ∧ Fr [] w w' := by
  have HE := Lib.hid he
  clear he
  go_enter Tryd.func8, Tryd.ntmps8
  go_wp2_with fail
  refine (validName_any _ (by decide) _).mono ?_
  rintro e w1 ⟨rfl, f1⟩
  rw [show nameB (⟨#[97]⟩ : ByteArray).data.toList = true by decide]
  go_wp2_with fail
  refine (validName_any _ (by decide) _).mono ?_
  rintro e w2 ⟨rfl, f2⟩
  rw [show nameB (⟨#[97, 45, 49, 95, 66]⟩ : ByteArray).data.toList = true by decide]
  go_wp2_with fail
  refine (validName_any _ (by decide) _).mono ?_
  rintro e w3 ⟨rfl, f3⟩
  rw [show nameB (⟨#[49, 97]⟩ : ByteArray).data.toList = false by decide]
  go_wp2_with fail
  refine (validName_any _ (by decide) _).mono ?_
  rintro e w4 ⟨rfl, f4⟩
  rw [show nameB (⟨#[]⟩ : ByteArray).data.toList = false by decide]
  go_wp2_with fail
  refine (validName_any _ (by decide) _).mono ?_
  rintro e w5 ⟨rfl, f5⟩
  rw [show nameB (⟨#[97, 97, 97, 97, 97, 97, 97, 97, 97, 97, 97, 97, 97, 97, 97, 97, 97, 97, 97, 97, 97, 97, 97, 97, 97, 97, 97, 97, 97, 97, 97, 97, 97]⟩ : ByteArray).data.toList = false by decide]
  have F5 := (((f1.step f2).step f3).step f4).step f5
  clear f1 f2 f3 f4 f5
  go_wp2_with fail
  have f6 : Fr [] w5 (w5.alloc (.cells #[.string ⟨#[119, 101, 98]⟩, .int .i64 80] 23)) := (Fr.refl [] w5).alloc _
  refine (Text_ok ⟨#[119, 101, 98]⟩ 80 (by decide) (by omega) (by decide) _ (HE.out.new (F5.step f6))).mono ?_
  rintro e w6 ⟨rfl, f7⟩
  rw [show textB ⟨#[119, 101, 98]⟩ 80 = ⟨#[119, 101, 98, 58, 56, 48]⟩ from t_web]
  have F6 := (F5.step f6).step f7
  have kw0 : w6.cell? ⟨w5.heap.size, 0, none⟩ = some (.string ⟨#[119, 101, 98]⟩) := f7.keep (by simp) (by simp)
  have kw1 : w6.cell? ⟨w5.heap.size, 1, none⟩ = some (.int .i64 80) := f7.keep (by simp) (by simp)
  clear f6 f7 F5
  go_wp2_with fail
  refine (Text_bad ⟨#[119, 101, 98]⟩ 65536 (by decide) (by decide) _).mono ?_
  rintro e w7 ⟨rfl, f8⟩
  have f9 : Fr [] w7 (w7.alloc (.cells #[.string ⟨#[]⟩, .int .i64 0] 23)) := (Fr.refl [] w7).alloc _
  have F8 := (F6.step f8).step f9
  have kz0 : (w7.alloc (.cells #[.string ⟨#[]⟩, .int .i64 0] 23)).cell? ⟨w7.heap.size, 0, none⟩ = some (.string ⟨#[]⟩) := by simp
  have kz1 : (w7.alloc (.cells #[.string ⟨#[]⟩, .int .i64 0] 23)).cell? ⟨w7.heap.size, 1, none⟩ = some (.int .i64 0) := by simp
  have kw0 := (f8.step f9).keep kw0 (by simp)
  have kw1 := (f8.step f9).keep kw1 (by simp)
  clear f8 f9 F6
  go_wp2_with fail
  refine (parses_any _ (⟨#[119, 101, 98]⟩, 80) 0 (by decide) _ (HE.out.new F8)).mono ?_
  rintro e w10 ⟨rfl, g10⟩
  rw [(goodT p_web.1).1, (goodT p_web.1).2, show (decide ((nameOf ⟨#[119, 101, 98, 58, 56, 48]⟩, portOf ⟨#[119, 101, 98, 58, 56, 48]⟩) = ((⟨#[119, 101, 98]⟩, 80) : Ad)) && ((0 : Int) == 0)) = true by rw [p_web.2.1, p_web.2.2]; decide]
  have F10 := F8.step g10
  have kw0 := g10.keep kw0 (by simp)
  have kw1 := g10.keep kw1 (by simp)
  have kz0 := g10.keep kz0 (by simp)
  have kz1 := g10.keep kz1 (by simp)
  clear g10
  go_wp2_with fail
  refine (parses_any _ (⟨#[]⟩, 0) 6 (by decide) _ (HE.out.new F10)).mono ?_
  rintro e w11 ⟨rfl, g11⟩
  rw [(goodF p1).1, (goodF p1).2, show (decide (((⟨#[]⟩, 0) : Ad) = (⟨#[]⟩, 0)) && ((6 : Int) == 6)) = true by decide]
  have F11 := F10.step g11
  have kw0 := g11.keep kw0 (by simp)
  have kw1 := g11.keep kw1 (by simp)
  have kz0 := g11.keep kz0 (by simp)
  have kz1 := g11.keep kz1 (by simp)
  clear g11
  go_wp2_with fail
  refine (parses_any _ (⟨#[]⟩, 0) 6 (by decide) _ (HE.out.new F11)).mono ?_
  rintro e w12 ⟨rfl, g12⟩
  rw [(goodF p2).1, (goodF p2).2, show (decide (((⟨#[]⟩, 0) : Ad) = (⟨#[]⟩, 0)) && ((6 : Int) == 6)) = true by decide]
  have F12 := F11.step g12
  have kw0 := g12.keep kw0 (by simp)
  have kw1 := g12.keep kw1 (by simp)
  have kz0 := g12.keep kz0 (by simp)
  have kz1 := g12.keep kz1 (by simp)
  clear g12
  go_wp2_with fail
  refine (parses_any _ (⟨#[]⟩, 0) 6 (by decide) _ (HE.out.new F12)).mono ?_
  rintro e w13 ⟨rfl, g13⟩
  rw [(goodF p3).1, (goodF p3).2, show (decide (((⟨#[]⟩, 0) : Ad) = (⟨#[]⟩, 0)) && ((6 : Int) == 6)) = true by decide]
  have F13 := F12.step g13
  have kw0 := g13.keep kw0 (by simp)
  have kw1 := g13.keep kw1 (by simp)
  have kz0 := g13.keep kz0 (by simp)
  have kz1 := g13.keep kz1 (by simp)
  clear g13
  go_wp2_with fail
  refine (parses_any _ (⟨#[]⟩, 0) 6 (by decide) _ (HE.out.new F13)).mono ?_
  rintro e w14 ⟨rfl, g14⟩
  rw [(goodF p4).1, (goodF p4).2, show (decide (((⟨#[]⟩, 0) : Ad) = (⟨#[]⟩, 0)) && ((6 : Int) == 6)) = true by decide]
  have F14 := F13.step g14
  have kw0 := g14.keep kw0 (by simp)
  have kw1 := g14.keep kw1 (by simp)
  have kz0 := g14.keep kz0 (by simp)
  have kz1 := g14.keep kz1 (by simp)
  clear g14
  clear kw0 kw1 kz0 kz1
  go_wp2_with fail
  refine (compare_any (⟨#[97]⟩, 2) (⟨#[97]⟩, 10) _).mono ?_
  rintro e w' ⟨rfl, q15, os15, rfl⟩
  rw [show cmpA (⟨#[97]⟩, 2) (⟨#[97]⟩, 10) = -1 by decide]
  have F15 := F14.step (fr_grow _ q15 os15)
  go_wp2_with fail
  refine (compare_any (⟨#[97]⟩, 2) (⟨#[66]⟩, 2) _).mono ?_
  rintro e w' ⟨rfl, q16, os16, rfl⟩
  rw [show cmpA (⟨#[97]⟩, 2) (⟨#[66]⟩, 2) = 1 by decide]
  have F16 := F15.step (fr_grow _ q16 os16)
  go_wp2_with fail
  refine (compare_any (⟨#[97, 98]⟩, 1) (⟨#[97]⟩, 9) _).mono ?_
  rintro e w' ⟨rfl, q17, os17, rfl⟩
  rw [show cmpA (⟨#[97, 98]⟩, 1) (⟨#[97]⟩, 9) = 1 by decide]
  have F17 := F16.step (fr_grow _ q17 os17)
  generalize grow ((grow ((grow (w14.drewN q15) os15).drewN q16) os16).drewN q17) os17 = w17 at F17 ⊢
  clear F14 F15 F16
  go_wp2_with fail
  have f18 : Fr [] w17 (w17.alloc (.cells #[.string ⟨#[98]⟩, .int .i64 1, .string ⟨#[97]⟩, .int .i64 2, .string ⟨#[98]⟩, .int .i64 1, .string ⟨#[97]⟩, .int .i64 1] 23)) := (Fr.refl [] w17).alloc _
  refine (sort_ok w17.heap.size 0 4 4 exL _ (by omega) (by omega) ⟨fun i hi => ?_, fun i hi => ?_⟩ (fun i hi => ?_) (fun i hi => ?_)).mono ?_
  · match i, hi with
    | 0, _ => simp [exL]
    | 1, _ => simp [exL]
    | 2, _ => simp [exL]
    | 3, _ => simp [exL]
  · match i, hi with
    | 0, _ => simp [exL]
    | 1, _ => simp [exL]
    | 2, _ => simp [exL]
    | 3, _ => simp [exL]
  · match i, hi with
    | 0, _ => decide
    | 1, _ => decide
    | 2, _ => decide
    | 3, _ => decide
  · match i, hi with
    | 0, _ => decide
    | 1, _ => decide
    | 2, _ => decide
    | 3, _ => decide
  rw [cs_ex]
  rintro e w18 ⟨g, c, rfl, hR, hg, f19⟩
  have f20 : Fr [] w18 (w18.alloc (.cells #[.string ⟨#[97]⟩, .int .i64 1, .string ⟨#[97]⟩, .int .i64 2, .string ⟨#[98]⟩, .int .i64 1] 23)) := (Fr.refl [] w18).alloc _
  have hR2 := Lib.hid (hR.new f20)
  have F20 := ((F17.step f18).step f19).step f20
  clear hR f18 f19 f20 F17 hg
  go_wp2_with fail
  refine (same_any g 0 w18.heap.size 0 3 3 c 3 3 (fun i => [((⟨#[97]⟩, 1) : Ad), (⟨#[97]⟩, 2), (⟨#[98]⟩, 1)][i]!) (fun i => [((⟨#[97]⟩, 1) : Ad), (⟨#[97]⟩, 2), (⟨#[98]⟩, 1)][i]!) _ (by omega) (by omega) hR2.out ⟨fun i hi => ?_, fun i hi => ?_⟩ (fun _ i hi => rfl) (fun _ h => absurd h (by omega))).mono ?_
  · match i, hi with
    | 0, _ => simp
    | 1, _ => simp
    | 2, _ => simp
  · match i, hi with
    | 0, _ => simp
    | 1, _ => simp
    | 2, _ => simp
  rintro e w19 ⟨rfl, f21⟩
  go_wp2_with fail
  go_ret
  exact ⟨rfl, F20.step f21⟩
end Go.Proofs.YtbilaapikclhlaaDoor
