/- The law AddrNames' walk: it returns true at every string and address. -/
import Derived.Test.YtbilaapikclhlaaDoorKnownA
import Derived.Deep.RegionHeld3
namespace Go.Proofs.YtbilaapikclhlaaDoor
open Go.RowKit Go.Sort Go.Lib
set_option linter.unusedVariables false
set_option maxRecDepth 100000
set_option maxHeartbeats 4000000

theorem names_walk (s a : ByteArray) (p : Int) (w : World) (he : Env w) :
    Calls Tryd.prog 3 #[.string s, .agg #[.string a, .int .i64 p]] w fun e w' => e = .returned (.bool true) ∧ Fr [] w w' := by
  have f0 : Fr [] w (w.alloc (.cells #[.string a, .int .i64 p] 23)) := (Fr.refl [] w).alloc _
  have HE := Lib.hid (he.new f0)
  clear he
  by_cases hs : 100 < (s.size : Int)
  · go_enter Tryd.func3, Tryd.ntmps3
    go_wp2_with (go_at_call 8; refine (known_any _ HE.out).mono ?_; rintro e w1 ⟨rfl, f1⟩)
    go_ret
    exact ⟨rfl, f0.step f1⟩
  · by_cases ha : 100 < (a.size : Int)
    · go_enter Tryd.func3, Tryd.ntmps3
      go_wp2_with (go_at_call 8; refine (known_any _ HE.out).mono ?_; rintro e w1 ⟨rfl, f1⟩)
      go_ret
      exact ⟨rfl, f0.step f1⟩
    · have h1 := Lib.hid (fun W => validName_any s (by omega) W)
      have h2 := Lib.hid (fun W => refName_any s (by omega) W)
      have h3 := Lib.hid (fun W => valid_any a p (by omega) W)
      have h4 := Lib.hid (fun W => refValid_any a p (by omega) W)
      generalize nameB s.data.toList = r1 at h1 h2
      generalize addrB a.data.toList p = r2 at h3 h4
      have b1 : (r1 == r1) = true := by simp
      have b2 : (r2 == r2) = true := by simp
      go_enter Tryd.func3, Tryd.ntmps3
      go_wp2_with fail
      have k0 : (w.alloc (.cells #[.string a, .int .i64 p] 23)).cell? ⟨w.heap.size, 0, none⟩ = some (.string a) := by simp
      have k1 : (w.alloc (.cells #[.string a, .int .i64 p] 23)).cell? ⟨w.heap.size, 1, none⟩ = some (.int .i64 p) := by simp
      generalize w.alloc (.cells #[.string a, .int .i64 p] 23) = W0 at k0 k1 f0 HE ⊢
      have HK := Lib.hid (fun (W : World) (f : Fr [] W0 W) => And.intro (f.keep k0 (by simp)) (f.keep k1 (by simp)))
      clear k0 k1
      go_region_held3 (fun w' => w'.cell? ⟨w.heap.size, 0, none⟩ = some (.string a) ∧ w'.cell? ⟨w.heap.size, 1, none⟩ = some (.int .i64 p)) (first
        | exact HK.out _ ((Fr.refl [] _).drew)
        | exact HK.out _ ((Fr.refl [] _).drew.step f1)
        | exact HK.out _ (((Fr.refl [] _).drew.step f1).step f3)
        | exact HK.out _ ((((Fr.refl [] _).drew.step f1).step f3).step f4)
        | exact HK.out _ (((((Fr.refl [] _).drew.step f1).step f3).step f4).step f5)) (first
        | (go_at_call 9; refine (h1.out _).mono ?_; rintro e w1 ⟨rfl, f1⟩)
        | (go_at_call 10; refine (h2.out _).mono ?_; rintro e w' ⟨rfl, rfl⟩)
        | (go_at_call 11; refine (h3.out _).mono ?_; rintro e w3 ⟨rfl, f3⟩)
        | (go_at_call 12; refine (h4.out _).mono ?_; rintro e w4 ⟨rfl, f4⟩)
        | (go_at_call 8; refine (known_any _ (HE.out.new ((((Fr.refl [] _).drew.step f1).step f3).step f4))).mono ?_; rintro e w5 ⟨rfl, f5⟩))
      all_goals go_wp2
      all_goals go_ret
      all_goals exact ⟨rfl, f0.step (((((Fr.refl [] _).drew.step f1).step f3).step f4).step f5)⟩
end Go.Proofs.YtbilaapikclhlaaDoor
