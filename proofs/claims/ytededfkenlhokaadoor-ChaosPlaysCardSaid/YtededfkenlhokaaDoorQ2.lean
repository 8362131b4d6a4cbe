/- Contract of the law's own effect. -/
import Derived.Test.YtededfkenlhokaaDoorQ1
namespace Go.Proofs.YtededfkenlhokaaDoor
open Go.RowKit Go.Shelf
set_option linter.unusedVariables false
set_option linter.unusedSimpArgs false
set_option maxRecDepth 100000
set_option maxHeartbeats 16000000

theorem OutAt.made (w : World) (x : Int × Int × Int) : OutAt (w.alloc (.cells #[.int .i64 x.1, .int .u64 x.2.1, .int .i64 x.2.2] 51)) w.heap.size x := World.alloc_heap_new w _
theorem eff_startL (w : World) (u v : Value) (x : Ft) (n : Int) {w1 : World}
    (h : (((w.alloc (.cells #[u, v] 58)).alloc (.cells #[.int .i64 x.k, .int .i64 x.c, .int .i64 x.d, .int .i64 x.a, .int .i64 x.g] 97)).alloc (.cells #[.int .i64 0, .int .u64 0, .int .i64 0] 51)).alloc (.cells #[.int .i64 n, .int .u64 0, .int .i64 0] 51) = w1) :
    MdAt w1 w.heap.size u v ∧ LnAt w1 (w.heap.size + 1) x ∧ OutAt w1 (w.heap.size + 1 + 1) (0, 0, 0) ∧ OutAt w1 (w.heap.size + 1 + 1 + 1) (n, 0, 0) ∧ Fr [] w w1 := by
  have fa : Fr [] w (w.alloc (.cells #[u, v] 58)) := (Fr.refl [] w).alloc _
  have ma := MdAt.made w u v
  have za : (w.alloc (.cells #[u, v] 58)).heap.size = w.heap.size + 1 := by simp
  generalize w.alloc (.cells #[u, v] 58) = A at h fa ma za
  have fb : Fr [] A (A.alloc (.cells #[.int .i64 x.k, .int .i64 x.c, .int .i64 x.d, .int .i64 x.a, .int .i64 x.g] 97)) := (Fr.refl [] A).alloc _
  have mb := LnAt.made A x
  have zb : (A.alloc (.cells #[.int .i64 x.k, .int .i64 x.c, .int .i64 x.d, .int .i64 x.a, .int .i64 x.g] 97)).heap.size = w.heap.size + 1 + 1 := by simp [za]
  generalize A.alloc (.cells #[.int .i64 x.k, .int .i64 x.c, .int .i64 x.d, .int .i64 x.a, .int .i64 x.g] 97) = C at h fb mb zb
  have fc : Fr [] C (C.alloc (.cells #[.int .i64 0, .int .u64 0, .int .i64 0] 51)) := (Fr.refl [] C).alloc _
  have mc := OutAt.made C (0, 0, 0)
  have zc : (C.alloc (.cells #[.int .i64 0, .int .u64 0, .int .i64 0] 51)).heap.size = w.heap.size + 1 + 1 + 1 := by simp [zb]
  simp only at mc
  generalize C.alloc (.cells #[.int .i64 0, .int .u64 0, .int .i64 0] 51) = D at h fc mc zc
  have fd : Fr [] D (D.alloc (.cells #[.int .i64 n, .int .u64 0, .int .i64 0] 51)) := (Fr.refl [] D).alloc _
  have md := OutAt.made D (n, 0, 0)
  simp only at md
  rw [h] at fd md
  rw [za] at mb
  rw [zb] at mc
  rw [zc] at md
  have g3 := fc.step fd
  have g2 := fb.step g3
  exact ⟨ma.keep g2 (by simp), mb.keep g3 (by simp), mc.keep fd (by simp), md, fa.step g2⟩
def setOut (W : World) (b : Nat) (y : Int × Int × Int) : World := ((W.setCell ⟨b, 0, none⟩ (.int .i64 y.1)).setCell ⟨b, 1, none⟩ (.int .u64 y.2.1)).setCell ⟨b, 2, none⟩ (.int .i64 y.2.2)
theorem OutAt.setAll {W : World} {b : Nat} {x : Int × Int × Int} (h : OutAt W b x) (y : Int × Int × Int) : OutAt (setOut W b y) b y := ((h.set0 y.1).set1 y.2.1).set2 y.2.2
theorem fr_setOut {S : List Nat} {w W : World} {b : Nat} (h : Fr S w W) (hb : b < w.heap.size → b ∈ S) (y : Int × Int × Int) : Fr S w (setOut W b y) :=
  ((h.setCell hb _).setCell hb _).setCell hb _

theorem effectL_any (vl : Value) (v : Value) (fs : List Ft) (hl : fs.length ≤ 100000) (hok : ∀ f ∈ fs, f.ok = true) (x : Ft) (n : Int) (w : World) (h : FtRow w v fs) :
    Calls Tryd.prog 40 #[.agg #[v, vl], lnV x, .int .i64 n] w fun e w' => e = .returned (.agg #[.int .i64 (emRes (fs.foldl (emStep x.k x.c x.d x.a) (n, 0, false, 0))).1, .int .u64 (emRes (fs.foldl (emStep x.k x.c x.d x.a) (n, 0, false, 0))).2.1, .int .i64 (emRes (fs.foldl (emStep x.k x.c x.d x.a) (n, 0, false, 0))).2.2]) ∧ Fr [] w w' := by
  obtain ⟨a, cap, rfl⟩ := h.val
  obtain ⟨m, hm⟩ : ∃ m, fs.length = m := ⟨_, rfl⟩
  rw [hm] at hl h ⊢
  obtain ⟨W0, hW0⟩ : ∃ W, (((w.alloc (.cells #[.slice a m cap, vl] 58)).alloc (.cells #[.int .i64 x.k, .int .i64 x.c, .int .i64 x.d, .int .i64 x.a, .int .i64 x.g] 97)).alloc (.cells #[.int .i64 0, .int .u64 0, .int .i64 0] 51)).alloc (.cells #[.int .i64 n, .int .u64 0, .int .i64 0] 51) = W := ⟨_, rfl⟩
  obtain ⟨s1, s2, s3, s4, s5⟩ := eff_startL w (.slice a m cap) vl x n hW0
  have HR := Lib.hid h
  have HM := Lib.hid hm
  have S1 := Lib.hid s1
  have S2 := Lib.hid s2
  have S3 := Lib.hid s3
  have S4 := Lib.hid s4
  have S5 := Lib.hid s5
  have HO := Lib.hid hok
  have HW := Lib.hid hW0
  clear h hm s1 s2 s3 s4 s5 hok hW0
  unfold lnV
  obtain ⟨xc, xd, xq, xb, xl⟩ := x
  simp only at HW S2 ⊢
  go_enter Tryd.func40, Tryd.ntmps40
  go_wp2
  have hz := S5.out.size
  obtain ⟨M, hM⟩ : ∃ M, w.heap.size = M := ⟨_, rfl⟩
  have HM2 := Lib.hid hM
  simp only [hM] at S1 S2 S3 S4 ⊢
  simp only [HW.out]
  clear hM hz
  go_loopw [8, 9, 10] (fun cv fv i wr => ∃ (k : Nat) (s1 s2 : Int) (s3 : Bool) (s4 : Int), (fs.take k).foldl (emStep xc xd xq xb) (n, 0, false, 0) = (s1, s2, s3, s4) ∧ cv = .bool s3 ∧ fv = .int .i64 s4 ∧ i = .int .i64 k ∧ k ≤ m ∧ OutAt wr (M + 1 + 1 + 1) (s1, s2, 0) ∧ Fr [M + 1 + 1 + 1] W0 wr) (fun _ _ i _ => m - (intOf i).toNat)
  case atStart => exact ⟨0, _, _, _, _, rfl, rfl, rfl, rfl, by omega, S4.out, Fr.refl _ _⟩
  case round =>
    rename_i wr
    obtain ⟨k, s1, s2, s3, s4, hs, rfl, rfl, rfl, hk, hO, hF⟩ := hrel
    have t1 := S1.out.keep hF (by rw [List.mem_singleton]; omega)
    have t2 := S2.out.keep hF (by rw [List.mem_singleton]; omega)
    have t3 := S3.out.keep hF (by rw [List.mem_singleton]; omega)
    by_cases hlt : k < m
    · have hx := List.getElem?_eq_getElem (l := fs) (i := k) (by rw [HM.out]; exact hlt)
      obtain ⟨f, hxe⟩ : ∃ x, fs[k]'(by rw [HM.out]; exact hlt) = x := ⟨_, rfl⟩
      rw [hxe] at hx
      have hfr : Fr [] w wr := S5.out.trans hF (fun y hy hl => by have := HM2.out; simp at hy; omega)
      rcases HR.out.new hfr with ⟨h1, _⟩ | ⟨g, off, cap', hv, hg, hcells⟩
      · rw [h1] at hx
        simp at hx
      rw [HM.out] at hv
      simp only [Value.slice.injEq] at hv
      obtain ⟨rfl, _, rfl⟩ := hv
      obtain ⟨c0, c1, c2, c3, c4⟩ := hcells k f hx
      have k0 : (0 : Int) ≤ (k : Int) := Int.natCast_nonneg _
      have k1 : (k : Int) < (m : Int) := by omega
      have hfok := HO.out f (List.mem_of_getElem? hx)
      have hkind := (Ft.ok_iff.1 hfok).2.2.2
      have HNX := Lib.hid (fun s' (h : emStep xc xd xq xb (s1, s2, s3, s4) f = s') => (show (fs.take (k + 1)).foldl (emStep xc xd xq xb) (n, 0, false, 0) = s' by rw [List.take_add_one, hx, List.foldl_append, hs]; exact h))
      obtain ⟨fk, fc, fd, fa, fg⟩ := f
      simp only at c0 c1 c2 c3 c4 hkind
      have f2 : Fr [] wr (wr.alloc (.cells #[.int .i64 fk, .int .i64 fc, .int .i64 fd, .int .i64 fa, .int .i64 fg] 32)) := (Fr.refl [] wr).alloc _
      have md0 := t1.c0
      have u2 := t2.keep f2 (by simp)
      have l0 := u2.c0
      have l1 := u2.c1
      have l2 := u2.c2
      have l3 := u2.c3
      have uo := hO.keep f2 (by simp)
      have o0 := uo.c0
      have o1 := uo.c1
      have oz := uo.fz
      have UO := Lib.hid uo
      have HF := Lib.hid (hF.step (f2.mono (fun _ h => by cases h)))
      simp only at l0 l1 l2 l3 o0 o1
      clear hs hO hF t1 t2 t3 hx hxe hfr hcells hg hfok u2 uo f2
      by_cases e1 : fc = xc
      rotate_left
      · have g1 : (fc == xc) = false := beq_eq_false_iff_ne.2 e1
        have HE := Lib.hid e1
        clear e1 hkind
        go_wp2
        go_roundw
        case rel => exact ⟨k + 1, _, _, _, _, HNX.out _ (by simp [emStep, HE.out]), rfl, rfl, by go_num, by omega, UO.out, HF.out⟩
        case measure => simp [intOf]; omega
      · subst e1
        by_cases e2 : fd = xd
        rotate_left
        · have g2 : (fd == xd) = false := beq_eq_false_iff_ne.2 e2
          have HE := Lib.hid e2
          clear e2 hkind
          go_wp2
          go_roundw
          case rel => exact ⟨k + 1, _, _, _, _, HNX.out _ (by simp [emStep, HE.out]), rfl, rfl, by go_num, by omega, UO.out, HF.out⟩
          case measure => simp [intOf]; omega
        · subst e2
          rcases hkind with ⟨rfl, hg⟩ | ⟨rfl, hg⟩ | ⟨rfl, hg⟩ | ⟨rfl, rfl⟩
          · by_cases hq : fa = xq
            · subst hq
              by_cases hlt2 : fg < s1
              · have g4 : decide (fg < s1) = true := decide_eq_true hlt2
                have HE := Lib.hid (show min s1 fg = fg by omega)
                clear hlt2 hg
                go_wp2
                go_roundw
                case rel => exact ⟨k + 1, _, _, _, _, HNX.out _ (by simp [emStep, HE.out]), rfl, rfl, by go_num, by omega, (UO.out.set0 _), (HF.out.setCell (fun _ => by simp) _)⟩
                case measure => simp [intOf]; omega
              · have g4 : decide (fg < s1) = false := decide_eq_false hlt2
                have HE := Lib.hid (show min s1 fg = s1 by omega)
                clear hlt2 hg
                go_wp2
                go_roundw
                case rel => exact ⟨k + 1, _, _, _, _, HNX.out _ (by simp [emStep, HE.out]), rfl, rfl, by go_num, by omega, UO.out, HF.out⟩
                case measure => simp [intOf]; omega
            · have g3 : (fa == xq) = false := beq_eq_false_iff_ne.2 hq
              have HQ := Lib.hid hq
              clear hq hg
              go_wp2
              go_roundw
              case rel => exact ⟨k + 1, _, _, _, _, HNX.out _ (by simp [emStep, HQ.out]), rfl, rfl, by go_num, by omega, UO.out, HF.out⟩
              case measure => simp [intOf]; omega
          · by_cases hq : fa = xq
            · subst hq
              clear hg
              go_wp2
              go_roundw
              case rel => exact ⟨k + 1, _, _, _, _, HNX.out _ (by simp [emStep]), rfl, rfl, by go_num, by omega, (UO.out.set1 _), (HF.out.setCell (fun _ => by simp) _)⟩
              case measure => simp [intOf]; omega
            · have g3 : (fa == xq) = false := beq_eq_false_iff_ne.2 hq
              have HQ := Lib.hid hq
              clear hq hg
              go_wp2
              go_roundw
              case rel => exact ⟨k + 1, _, _, _, _, HNX.out _ (by simp [emStep, HQ.out]), rfl, rfl, by go_num, by omega, UO.out, HF.out⟩
              case measure => simp [intOf]; omega
          · by_cases hq : fa = xq
            · subst hq
              by_cases hz : s4 = 0
              · subst hz
                clear hg
                go_wp2
                go_roundw
                case rel => exact ⟨k + 1, _, _, _, _, HNX.out _ (by simp [emStep]), rfl, rfl, by go_num, by omega, UO.out, HF.out⟩
                case measure => simp [intOf]; omega
              · have g4 : (s4 == 0) = false := beq_eq_false_iff_ne.2 hz
                have HE := Lib.hid hz
                clear hz hg
                go_wp2
                go_roundw
                case rel => exact ⟨k + 1, _, _, _, _, HNX.out _ (by simp [emStep, HE.out]), rfl, rfl, by go_num, by omega, UO.out, HF.out⟩
                case measure => simp [intOf]; omega
            · have g3 : (fa == xq) = false := beq_eq_false_iff_ne.2 hq
              have HQ := Lib.hid hq
              clear hq hg
              go_wp2
              go_roundw
              case rel => exact ⟨k + 1, _, _, _, _, HNX.out _ (by simp [emStep, HQ.out]), rfl, rfl, by go_num, by omega, UO.out, HF.out⟩
              case measure => simp [intOf]; omega
          · cases s3 with
            | true =>
              go_wp2
              go_roundw
              case rel => exact ⟨k + 1, _, _, _, _, HNX.out _ (by simp [emStep]), rfl, rfl, by go_num, by omega, (UO.out.set0 _), (HF.out.setCell (fun _ => by simp) _)⟩
              case measure => simp [intOf]; omega
            | false =>
              by_cases hb : fa ≤ xb
              · have g4 : decide (fa ≤ xb) = true := decide_eq_true hb
                have HB := Lib.hid hb
                clear hb
                go_wp2
                go_roundw
                case rel => exact ⟨k + 1, _, _, _, _, HNX.out _ (by simp [emStep, HB.out]), rfl, rfl, by go_num, by omega, (UO.out.set0 _), (HF.out.setCell (fun _ => by simp) _)⟩
                case measure => simp [intOf]; omega
              · have g4 : decide (fa ≤ xb) = false := decide_eq_false hb
                have HB := Lib.hid (Int.not_le.1 hb)
                have HB2 := Lib.hid hb
                clear hb
                go_wp2
                go_roundw
                case rel => exact ⟨k + 1, _, _, _, _, HNX.out _ (by simp [emStep, HB2.out]), rfl, rfl, by go_num, by omega, (UO.out.set0 _), (HF.out.setCell (fun _ => by simp) _)⟩
                case measure => simp [intOf]; omega
    · have hkm : k = m := by omega
      subst hkm
      have ht : fs.take k = fs := List.take_of_length_le (by rw [HM.out]; omega)
      rw [ht] at hs
      have HS := Lib.hid hs
      have UO := Lib.hid hO
      have HF := Lib.hid (show Fr [] w wr from S5.out.trans hF (fun y hy hl => by have := HM2.out; simp at hy; omega))
      have md0 := t1.c0
      have o0 := hO.c0
      have o1 := hO.c1
      have o2 := hO.c2
      have oz := hO.fz
      have T3 := Lib.hid t3
      have r0 := t3.c0
      have r1 := t3.c1
      have r2 := t3.c2
      have rz := t3.fz
      simp only at o0 o1 o2
      clear hs ht hO hF t1 t2 t3 hlt
      cases s3 with
      | true =>
        go_wp2
        have q1 := (T3.out.keep (Fr.setCell (Fr.setCell (Fr.refl [M + 1 + 1 + 1] wr) (fun _ => by simp) (.int .i64 0) (p := ⟨M + 1 + 1 + 1, 0, none⟩)) (fun _ => by simp) (.int .i64 14) (p := ⟨M + 1 + 1 + 1, 2, none⟩)) (by rw [List.mem_singleton]; omega)).setAll (0, s2, 14)
        unfold setOut at q1
        clear r0 r1 r2 o0 o1 o2
        have m0 := q1.c0
        have m1 := q1.c1
        have m2 := q1.c2
        simp only at m0 m1 m2
        refine bodyPost_ret (v := .agg #[.int .i64 0, .int .u64 s2, .int .i64 14]) (by simp [results, Tryd.results40, go_sem, m0, m1, m2]) rfl ?_
        exact ⟨by rw [HS.out]; simp [emRes], fr_setOut (Fr.setCell (Fr.setCell HF.out (fun h => by have := HM2.out; simp only at h; omega) (.int .i64 0) (p := ⟨M + 1 + 1 + 1, 0, none⟩)) (fun h => by have := HM2.out; simp only at h; omega) (.int .i64 14) (p := ⟨M + 1 + 1 + 1, 2, none⟩)) (fun h => by have := HM2.out; omega) (0, s2, 14)⟩
      | false =>
        by_cases hz : s4 = 0
        · subst hz
          go_wp2
          have q1 := (T3.out.keep (Fr.refl [M + 1 + 1 + 1] wr) (by rw [List.mem_singleton]; omega)).setAll (s1, s2, 0)
          unfold setOut at q1
          clear r0 r1 r2 o0 o1 o2
          have m0 := q1.c0
          have m1 := q1.c1
          have m2 := q1.c2
          simp only at m0 m1 m2
          refine bodyPost_ret (v := .agg #[.int .i64 s1, .int .u64 s2, .int .i64 0]) (by simp [results, Tryd.results40, go_sem, m0, m1, m2]) rfl ?_
          exact ⟨by rw [HS.out]; simp [emRes], fr_setOut HF.out (fun h => by have := HM2.out; omega) (s1, s2, 0)⟩
        · have g4 : (s4 == 0) = false := beq_eq_false_iff_ne.2 hz
          have HZ := Lib.hid hz
          clear hz
          go_wp2
          have q1 := (T3.out.keep (Fr.setCell (Fr.setCell (Fr.refl [M + 1 + 1 + 1] wr) (fun _ => by simp) (.int .i64 0) (p := ⟨M + 1 + 1 + 1, 0, none⟩)) (fun _ => by simp) (.int .i64 s4) (p := ⟨M + 1 + 1 + 1, 2, none⟩)) (by rw [List.mem_singleton]; omega)).setAll (0, s2, s4)
          unfold setOut at q1
          clear r0 r1 r2 o0 o1 o2
          have m0 := q1.c0
          have m1 := q1.c1
          have m2 := q1.c2
          simp only at m0 m1 m2
          refine bodyPost_ret (v := .agg #[.int .i64 0, .int .u64 s2, .int .i64 s4]) (by simp [results, Tryd.results40, go_sem, m0, m1, m2]) rfl ?_
          exact ⟨by rw [HS.out]; simp [emRes, HZ.out], fr_setOut (Fr.setCell (Fr.setCell HF.out (fun h => by have := HM2.out; simp only at h; omega) (.int .i64 0) (p := ⟨M + 1 + 1 + 1, 0, none⟩)) (fun h => by have := HM2.out; simp only at h; omega) (.int .i64 s4) (p := ⟨M + 1 + 1 + 1, 2, none⟩)) (fun h => by have := HM2.out; omega) (0, s2, s4)⟩
end Go.Proofs.YtededfkenlhokaaDoor
