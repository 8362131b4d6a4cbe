/- The law AddrTexts' walk: it returns true at every address. -/
import Derived.Test.YtbilaapikclhlaaDoorRefA
namespace Go.Proofs.YtbilaapikclhlaaDoor
open Go.RowKit Go.Sort
set_option linter.unusedVariables false
set_option maxRecDepth 100000
set_option maxHeartbeats 4000000

theorem texts_walk (s : ByteArray) (p : Int) (w : World) (he : Env w) :
    Calls Tryd.prog 4 #[.agg #[.string s, .int .i64 p]] w fun e w' => e = .returned (.bool true) ∧ Fr [] w w' := by
  have f0 : Fr [] w (w.alloc (.cells #[.string s, .int .i64 p] 23)) := (Fr.refl [] w).alloc _
  have HE := Lib.hid (he.new f0)
  clear he
  by_cases hs : 100 < (s.size : Int)
  · go_enter Tryd.func4, Tryd.ntmps4
    go_wp2_with (go_at_call 8; refine (known_any _ HE.out).mono ?_; rintro e w1 ⟨rfl, f1⟩)
    go_ret
    exact ⟨rfl, f0.step f1⟩
  · cases hv : addrB s.data.toList p
    · have HT := Lib.hid (fun W => Text_bad s p (by omega) hv W)
      have hV := fun W => refValid_any s p (by omega) W
      rw [hv] at hV
      have HV := Lib.hid hV
      clear hV hv
      go_enter Tryd.func4, Tryd.ntmps4
      go_wp2_with fail
      refine (HT.out _).mono ?_
      rintro e w1 ⟨rfl, f1⟩
      have k0 : w1.cell? ⟨w.heap.size, 0, none⟩ = some (.string s) := f1.keep (by simp) (by simp)
      have k1 : w1.cell? ⟨w.heap.size, 1, none⟩ = some (.int .i64 p) := f1.keep (by simp) (by simp)
      go_wp2_with fail
      refine (HV.out _).mono ?_
      rintro e w2 ⟨rfl, f2⟩
      go_wp2_with fail
      refine (known_any _ (HE.out.new (f1.step f2))).mono ?_
      rintro e w3 ⟨rfl, f3⟩
      go_wp2_with fail
      go_ret
      exact ⟨rfl, ((f0.step f1).step f2).step f3⟩
    · have hp := addr_port hv
      obtain ⟨u, rfl⟩ := Int.eq_ofNat_of_zero_le hp.1
      have HT := Lib.hid (fun W he' => Text_ok s u (by omega) (by omega) hv W he')
      have HR := Lib.hid (fun W => refText_any s u (by omega) (by omega) W)
      have hV := fun W => refValid_any s u (by omega) W
      rw [hv] at hV
      have HV := Lib.hid hV
      clear hV hv
      generalize textB s u = t at HT HR
      go_enter Tryd.func4, Tryd.ntmps4
      go_wp2_with fail
      refine (HT.out _ HE.out).mono ?_
      rintro e w1 ⟨rfl, f1⟩
      have k0 : w1.cell? ⟨w.heap.size, 0, none⟩ = some (.string s) := f1.keep (by simp) (by simp)
      have k1 : w1.cell? ⟨w.heap.size, 1, none⟩ = some (.int .i64 u) := f1.keep (by simp) (by simp)
      go_wp2_with fail
      refine (HV.out _).mono ?_
      rintro e w2 ⟨rfl, f2⟩
      have k0 := f2.keep k0 (by simp)
      have k1 := f2.keep k1 (by simp)
      go_wp2_with fail
      refine (HR.out _).mono ?_
      rintro e w3 ⟨rfl, f3⟩
      go_wp2_with fail
      refine (known_any _ (HE.out.new ((f1.step f2).step f3))).mono ?_
      rintro e w4 ⟨rfl, f4⟩
      go_wp2_with fail
      go_ret
      exact ⟨rfl, (((f0.step f1).step f2).step f3).step f4⟩
end Go.Proofs.YtbilaapikclhlaaDoor
