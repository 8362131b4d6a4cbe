/- Contracts of the law's own same and calls. -/
import Derived.Test.YtededfkenlhokaaDoorL1
namespace Go.Proofs.YtededfkenlhokaaDoor
open Go.RowKit Go.Shelf
set_option linter.unusedVariables false
set_option maxRecDepth 100000
set_option maxHeartbeats 4000000

theorem take_eq_step {fs gs : List Ft} {k : Nat} {x y : Ft} (hx : fs[k]? = some x) (hy : gs[k]? = some y) (h : fs.take k = gs.take k) (he : x = y) : fs.take (k + 1) = gs.take (k + 1) := by
  rw [List.take_add_one, List.take_add_one, hx, hy, h, he]
theorem same_any (v v' : Value) (fs gs : List Ft) (hl : fs.length ≤ 100000) (hl' : gs.length ≤ 100000) (w : World) (h : FtRow w v fs) (h' : FtRow w v' gs) :
    Calls Tryd.prog 13 #[v, v'] w fun e w' => e = .returned (.bool (decide (fs = gs))) ∧ Fr [] w w' := by
  have hne := neFt
  have HN := Lib.hid hne
  clear hne
  obtain ⟨a, c, rfl⟩ := h.val
  obtain ⟨a', c', rfl⟩ := h'.val
  obtain ⟨n, hn⟩ : ∃ n, fs.length = n := ⟨_, rfl⟩
  obtain ⟨n', hn'⟩ : ∃ n, gs.length = n := ⟨_, rfl⟩
  rw [hn] at hl h ⊢
  rw [hn'] at hl' h' ⊢
  by_cases hnn : n = n'
  · subst hnn
    have HM := Lib.hid hn
    have HM' := Lib.hid hn'
    have HH := Lib.hid h
    have HH' := Lib.hid h'
    clear hn hn' h h' hl'
    go_enter Tryd.func13, Tryd.ntmps13
    go_wp2
    go_loopw [5] (fun i wr => ∃ k : Nat, i = .int .i64 k ∧ k ≤ n ∧ fs.take k = gs.take k ∧ Fr [] w wr) (fun i _ => n - (intOf i).toNat)
    case atStart => exact ⟨0, rfl, by omega, rfl, Fr.refl _ _⟩
    case round =>
      rename_i wr
      obtain ⟨k, rfl, hk, ht, hF⟩ := hrel
      by_cases hlt : k < n
      · have hx := List.getElem?_eq_getElem (l := fs) (i := k) (by rw [HM.out]; exact hlt)
        obtain ⟨x, hxe⟩ : ∃ x, fs[k]'(by rw [HM.out]; exact hlt) = x := ⟨_, rfl⟩
        rw [hxe] at hx
        have hy := List.getElem?_eq_getElem (l := gs) (i := k) (by rw [HM'.out]; exact hlt)
        obtain ⟨y, hye⟩ : ∃ x, gs[k]'(by rw [HM'.out]; exact hlt) = x := ⟨_, rfl⟩
        rw [hye] at hy
        have HT := Lib.hid ht
        have HF := Lib.hid hF
        have HX := Lib.hid hx
        have HY := Lib.hid hy
        clear ht hF hxe hye
        rcases HH.out.new HF.out with ⟨h1, _⟩ | ⟨g, off, cap', hv, hg, hcells⟩
        · rw [h1] at hx
          simp at hx
        rcases HH'.out.new HF.out with ⟨h1, _⟩ | ⟨g', off', cap'', hv', hg', hcells'⟩
        · rw [h1] at hy
          simp at hy
        rw [HM.out] at hv
        rw [HM'.out] at hv'
        simp only [Value.slice.injEq] at hv hv'
        obtain ⟨rfl, _, rfl⟩ := hv
        obtain ⟨rfl, _, rfl⟩ := hv'
        obtain ⟨c0, c1, c2, c3, c4⟩ := hcells k x hx
        obtain ⟨d0, d1, d2, d3, d4⟩ := hcells' k y hy
        have hne := HN.out x y
        clear hx hy hcells hcells'
        have k0 : (0 : Int) ≤ (k : Int) := Int.natCast_nonneg _
        have k1 : (k : Int) < (n : Int) := by omega
        by_cases he : x = y
        · rw [decide_eq_true he] at hne
          have HE := Lib.hid he
          clear he
          go_wp2
          go_quiet (fail)
          go_wp2
          go_roundw
          case rel => exact ⟨k + 1, by go_num, by omega, take_eq_step HX.out HY.out HT.out HE.out, HF.out.drewN _⟩
          case measure => simp [intOf]; omega
        · rw [decide_eq_false he] at hne
          have hfg : ¬ fs = gs := fun e => he (by have h1 := HX.out; rw [e, HY.out] at h1; cases h1; rfl)
          have HG := Lib.hid hfg
          clear he hfg
          go_wp2
          go_quiet (fail)
          go_wp2
          go_ret
          exact ⟨by rw [decide_eq_false HG.out] <;> rfl, HF.out.drewN _⟩
      · have hkn : k = n := by omega
        subst hkn
        have hfg : fs = gs := by
          rw [List.take_of_length_le (by rw [HM.out]; omega), List.take_of_length_le (by rw [HM'.out]; omega)] at ht
          exact ht
        have HG := Lib.hid hfg
        clear ht hfg hlt
        go_wp2
        go_ret
        exact ⟨by rw [decide_eq_true HG.out] <;> rfl, hF⟩
  · have hfg : ¬ fs = gs := fun e => hnn (by rw [← hn, ← hn', e])
    have HG := Lib.hid hfg
    have hq : ((n : Int) == (n' : Int)) = false := by rw [beq_eq_false_iff_ne]; omega
    clear hn hn' h h' hfg
    go_enter Tryd.func13, Tryd.ntmps13
    go_wp2
    go_ret
    exact ⟨by rw [decide_eq_false HG.out] <;> rfl, Fr.refl _ _⟩

section
variable {p m : Nat} {v : Value} {fs : List Ft} {F : LF}
theorem callsL_any {q b le : Int} (c d n : Int) (y z : Ef) (w : World) (h : PlanIs w p m v fs F) (hl : laneB c d = true) (hn : 0 ≤ n ∧ n ≤ 65536) (hF : F c d = (q, b, le)) (hb : 0 ≤ q ∧ q ≤ 1000000) (hy : effW fs c d q b n = y) :
    Calls Tryd.prog 24 #[.pointer (some ⟨p, 0, none⟩), .int .i64 c, .int .i64 d, .int .i64 n, .agg #[.int .i64 z.1, .int .u64 z.2.1, .int .i64 z.2.2]] w fun e w' => e = .returned (.bool (decide (y = z))) ∧ PlanIs w' p m v fs (F.upd c d (q + 1, b, y.1)) ∧ Fr [m] w w' := by
  have f0 : Fr [] w (w.alloc (.cells #[.int .i64 z.1, .int .u64 z.2.1, .int .i64 z.2.2] 51)) := (Fr.refl [] w).alloc _
  have hc := call_ok (c := c) (d := d) (w := w.alloc (.cells #[.int .i64 z.1, .int .u64 z.2.1, .int .i64 z.2.2] 51)) (h := h.new f0) n hl hn (by rw [hF]; exact hb)
  rw [hF] at hc
  simp only [hy] at hc
  have hmlt := h.lanes.lt
  have HC := Lib.hid hc
  have HF := Lib.hid f0
  have HFF := Lib.hid hF
  have HEq := Lib.hid eqEf
  have z0 : OutAt (w.alloc (.cells #[.int .i64 z.1, .int .u64 z.2.1, .int .i64 z.2.2] 51)) w.heap.size z := World.alloc_heap_new w _
  have HZ := Lib.hid z0
  clear hc f0 hF hy h hl hn hb z0
  have heq := HEq.out y z
  obtain ⟨r, hr⟩ : ∃ r, decide (y = z) = r := ⟨_, rfl⟩
  rw [hr] at heq ⊢
  clear hr
  cases r
  all_goals (
    go_enter Tryd.func24, Tryd.ntmps24
    go_wp2_with (go_at_call 18; refine HC.out.mono ?_; rintro e w1 ⟨rfl, p1, f1⟩; have o1 := HZ.out.keep f1 (by simp; omega); have o2 := o1.keep ((Fr.refl [] w1).alloc (.cells #[.int .i64 y.1, .int .u64 y.2.1, .int .i64 y.2.2] 51)) (by simp); have c0 := o2.c0; have c1 := o2.c1; have c2 := o2.c2; have HP := Lib.hid p1; have HG := Lib.hid f1; clear p1 f1 o1 o2)
    all_goals go_ret
    all_goals (
      have f2 : Fr [] w1 (w1.alloc (.cells #[.int .i64 y.1, .int .u64 y.2.1, .int .i64 y.2.2] 51)) := (Fr.refl [] w1).alloc _
      have hp := HP.out
      rw [HFF.out] at hp
      exact ⟨rfl, hp.new f2, ((HF.out.mono (T := [m]) (fun x hx => by cases hx)).trans HG.out (fun x hx _ => hx)).step f2⟩))
end
end Go.Proofs.YtededfkenlhokaaDoor
