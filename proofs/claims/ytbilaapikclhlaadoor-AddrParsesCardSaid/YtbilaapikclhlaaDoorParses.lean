/- The law AddrParses' walk: it returns true at every string. -/
import Derived.Test.YtbilaapikclhlaaDoorRefParse
namespace Go.Proofs.YtbilaapikclhlaaDoor
open Go.RowKit Go.Sort
set_option linter.unusedVariables false
set_option maxRecDepth 100000
set_option maxHeartbeats 4000000

theorem parses_walk (s : ByteArray) (w : World) (he : Env w) :
    Calls Tryd.prog 5 #[.string s] w fun e w' => e = .returned (.bool true) ∧ Fr [] w w' := by
  have HE := Lib.hid he
  clear he
  by_cases hs : 100 < (s.size : Int)
  · go_enter Tryd.func5, Tryd.ntmps5
    go_wp2_with (go_at_call 8; refine (known_any _ HE.out).mono ?_; rintro e w1 ⟨rfl, f1⟩)
    go_ret
    exact ⟨rfl, f1⟩
  · have HR := Lib.hid (fun W => refParse_any s (by omega) W)
    have HP := Lib.hid (fun x c W he' => parses_any s x c (by omega) W he')
    cases hg : goodP s
    · have hx := (goodF hg).1
      have hy := (goodF hg).2
      rw [hx, hg] at HR
      rw [hx, hy] at HP
      have hb : (decide (((⟨#[]⟩, 0) : Ad) = (⟨#[]⟩, 0)) && ((6 : Int) == 6)) = true := by decide
      clear hx hy hg
      go_enter Tryd.func5, Tryd.ntmps5
      go_wp2_with fail
      refine (HR.out _).mono ?_
      rintro e w1 ⟨rfl, f1⟩
      have f2 : Fr [] w1 (w1.alloc (.cells #[.string ⟨#[]⟩, .int .i64 0] 23)) := (Fr.refl [] w1).alloc _
      go_wp2_with fail
      refine (HP.out (⟨#[]⟩, 0) 6 _ (HE.out.new (f1.step f2))).mono ?_
      rintro e w2 ⟨rfl, f3⟩
      rw [show (decide (((⟨#[]⟩, 0) : Ad) = (⟨#[]⟩, 0)) && ((6 : Int) == 6)) = true by decide]
      go_wp2_with fail
      refine (known_any _ (HE.out.new ((f1.step f2).step f3))).mono ?_
      rintro e w3 ⟨rfl, f4⟩
      go_wp2_with fail
      go_ret
      exact ⟨rfl, ((f1.step f2).step f3).step f4⟩
    · have hy := (goodT hg).2
      rw [hg] at HR
      rw [hy] at HP
      clear hy hg
      generalize parsedA s = x at HR HP
      go_enter Tryd.func5, Tryd.ntmps5
      go_wp2_with fail
      refine (HR.out _).mono ?_
      rintro e w1 ⟨rfl, f1⟩
      have f2 : Fr [] w1 (w1.alloc (.cells #[.string x.1, .int .i64 x.2] 23)) := (Fr.refl [] w1).alloc _
      go_wp2_with fail
      refine (HP.out x 0 _ (HE.out.new (f1.step f2))).mono ?_
      rintro e w2 ⟨rfl, f3⟩
      rw [show (decide (x = x) && ((0 : Int) == 0)) = true by simp]
      go_wp2_with fail
      refine (known_any _ (HE.out.new ((f1.step f2).step f3))).mono ?_
      rintro e w3 ⟨rfl, f4⟩
      go_wp2_with fail
      go_ret
      exact ⟨rfl, ((f1.step f2).step f3).step f4⟩
end Go.Proofs.YtbilaapikclhlaaDoor
