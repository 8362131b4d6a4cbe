/- ChaosHolds answers true. -/
import Derived.Test.YtededfkenlhokaaDoorL5
import Derived.Test.YtededfkenlhokaaDoorHP
import Derived.Test.YtededfkenlhokaaDoorOpenC
import Derived.BigQuiet
import Derived.Deep.CutRange
import Derived.Outline
namespace Go.Proofs.YtededfkenlhokaaDoor
open Go.RowKit Go.Shelf
set_option linter.unusedVariables false
set_option linter.unusedSimpArgs false
set_option maxRecDepth 100000
set_option maxHeartbeats 4000000

theorem xor1_all : (List.range 1001).all (fun n => decide (bits .xor .i64 (n : Int) 1 ≠ (n : Int))) = true := by kernel_rfl
theorem xor1_ne {c d : Int} (h : laneB c d = true) : bits .xor .i64 c 1 ≠ c := by
  unfold laneB at h
  simp only [decide_eq_true_eq] at h
  obtain ⟨n, rfl⟩ : ∃ n : Nat, c = n := ⟨c.toNat, by omega⟩
  have := List.all_eq_true.1 xor1_all n (List.mem_range.2 (by omega))
  simpa using this
theorem AcRow.val {w : World} {v : Value} {l : List Ac} (h : AcRow w v l) : ∃ a c, v = .slice a l.length c := by
  rcases h with ⟨rfl, a, c, rfl⟩ | ⟨g, off, cap, rfl, h1, h2⟩
  · exact ⟨a, c, rfl⟩
  · exact ⟨_, _, rfl⟩
theorem holds_known (v va : Value) (fs : List Ft) (l : List Ac) (w : World) (he : Env w) (h : FtRow w v fs) (ha : AcRow w va l) (hl : fs.length ≤ 9223372036854775807) (hb : planB fs = false ∨ 24 < l.length) :
    Calls Tryd.prog 4 #[v, va] w fun e w' => e = .returned (.bool true) ∧ Fr [] w w' := by
  obtain ⟨a, cap, rfl⟩ := ha.val
  have HP := Lib.hid (planL_any v fs hl w h)
  have HK := Lib.hid (fun W (f : Fr [] w W) => known_any W (he.new f))
  obtain ⟨n, hn⟩ : ∃ n, l.length = n := ⟨_, rfl⟩
  rw [hn] at hb ⊢
  clear h ha he hn
  cases hp : planB fs with
  | false =>
    rw [hp] at HP
    clear hb hp
    go_enter Tryd.func4, Tryd.ntmps4
    go_wp2_with (first
      | (go_at_call 9; refine HP.out.mono ?_; rintro e w1 ⟨rfl, f1⟩)
      | (go_at_call 7; refine (HK.out _ f1).mono ?_; rintro e w2 ⟨rfl, f2⟩))
    go_ret
    exact ⟨rfl, f1.step f2⟩
  | true =>
    rw [hp] at HP
    have h24 : (24 : Int) < (n : Int) := by
      rcases hb with hb | hb
      · rw [hp] at hb
        cases hb
      · omega
    clear hb hp
    go_enter Tryd.func4, Tryd.ntmps4
    go_wp2_with (first
      | (go_at_call 9; refine HP.out.mono ?_; rintro e w1 ⟨rfl, f1⟩)
      | (go_at_call 7; refine (HK.out _ f1).mono ?_; rintro e w2 ⟨rfl, f2⟩))
    go_ret
    exact ⟨rfl, f1.step f2⟩
/-- Two plans, apart. -/
structure Two (w : World) (W : World) (p m p2 m2 : Nat) (v v2 : Value) (fs : List Ft) (F G : LF) : Prop where
  a : PlanIs W p m v fs F
  b : PlanIs W p2 m2 v2 [] G
  lo : w.heap.size ≤ m ∧ w.heap.size ≤ m2
  ab : p2 ≠ m ∧ m2 ≠ m ∧ p ≠ m2 ∧ (∀ g off n c, v2 = .slice (some ⟨g, off, none⟩) n c → g ≠ m) ∧ (∀ g off n c, v = .slice (some ⟨g, off, none⟩) n c → g ≠ m2)
  fr : Fr [] w W
theorem Two.new {w W W' : World} {p m p2 m2 : Nat} {v v2 : Value} {fs : List Ft} {F G : LF} (h : Two w W p m p2 m2 v v2 fs F G) (f : Fr [] W W') : Two w W' p m p2 m2 v v2 fs F G :=
  ⟨h.a.new f, h.b.new f, h.lo, h.ab, h.fr.step f⟩
theorem Two.turnA {w W W' : World} {p m p2 m2 : Nat} {v v2 : Value} {fs : List Ft} {F F' G : LF} (h : Two w W p m p2 m2 v v2 fs F G) (hp : PlanIs W' p m v fs F') (f : Fr [m] W W') : Two w W' p m p2 m2 v v2 fs F' G :=
  ⟨hp, h.b.keep f (by simpa using h.ab.1) (by simpa using h.ab.2.1) (fun g off n c e => by simpa using h.ab.2.2.2.1 g off n c e), h.lo, h.ab, h.fr.trans f (fun x hx hl => by have := h.lo; simp at hx; omega)⟩
theorem Two.turnB {w W W' : World} {p m p2 m2 : Nat} {v v2 : Value} {fs : List Ft} {F G G' : LF} (h : Two w W p m p2 m2 v v2 fs F G) (hp : PlanIs W' p2 m2 v2 [] G') (f : Fr [m2] W W') : Two w W' p m p2 m2 v v2 fs F G' :=
  ⟨h.a.keep f (by simpa using h.ab.2.2.1) (by simpa using h.ab.2.1.symm) (fun g off n c e => by simpa using h.ab.2.2.2.2 g off n c e), hp, h.lo, h.ab, h.fr.trans f (fun x hx hl => by have := h.lo; simp at hx; omega)⟩
theorem LInv.hold {fs : List Ft} {F : LF} {k : Nat} (h : LInv fs F k) {c d : Int} (le : Int) : LInv fs (F.upd c d ((F c d).1 + 1, (F c d).2.1, le)) (k + 1) := fun c' d' => by
  by_cases he : c' = c ∧ d' = d
  · obtain ⟨rfl, rfl⟩ := he
    rw [upd_same]
    obtain ⟨h1, h2, h3⟩ := h c' d'
    exact ⟨by simp only; omega, by simp only; omega, h3⟩
  · have e : F.upd c d ((F c d).1 + 1, (F c d).2.1, le) c' d' = F c' d' := by
      unfold LF.upd
      rw [if_neg he]
    rw [e]
    exact h.skip c' d'
/-- An act in a block of its own. -/
def AcAt (W : World) (b : Nat) (x : Ac) : Prop := W.heap[b]? = some (.cells #[.int .i64 x.what, .int .i64 x.c, .int .i64 x.d, .int .i64 x.n] 44)
theorem AcAt.lt {W : World} {b : Nat} {x : Ac} (h : AcAt W b x) : b < W.heap.size := (Array.getElem?_eq_some_iff.1 h).1
theorem AcAt.c1 {W : World} {b : Nat} {x : Ac} (h : AcAt W b x) : W.cell? ⟨b, 1, none⟩ = some (.int .i64 x.c) := by simp [World.cell?, show W.heap[b]? = _ from h]
theorem AcAt.c2 {W : World} {b : Nat} {x : Ac} (h : AcAt W b x) : W.cell? ⟨b, 2, none⟩ = some (.int .i64 x.d) := by simp [World.cell?, show W.heap[b]? = _ from h]
theorem AcAt.c3 {W : World} {b : Nat} {x : Ac} (h : AcAt W b x) : W.cell? ⟨b, 3, none⟩ = some (.int .i64 x.n) := by simp [World.cell?, show W.heap[b]? = _ from h]
theorem AcAt.keep {S : List Nat} {W W' : World} {b : Nat} {x : Ac} (h : AcAt W b x) (hf : Fr S W W') (hn : b ∉ S) : AcAt W' b x := (hf.block b h.lt hn).trans h
theorem AcAt.made (w : World) (x : Ac) : AcAt (w.alloc (.cells #[.int .i64 x.what, .int .i64 x.c, .int .i64 x.d, .int .i64 x.n] 44)) w.heap.size x := World.alloc_heap_new w _
set_option maxHeartbeats 16000000 in
theorem holds_main (v va : Value) (fs : List Ft) (l : List Ac) (w : World) (he : Env w) (h : FtRow w v fs) (ha : AcRow w va l) (hwf : ∀ a ∈ l, a.wf) (hb : planB fs = true) (h24 : l.length ≤ 24) :
    Calls Tryd.prog 4 #[v, va] w fun e w' => e = .returned (.bool true) ∧ Fr [] w w' := by
  have hb' := hb
  unfold planB allOk at hb'
  simp only [Bool.and_eq_true, decide_eq_true_eq] at hb'
  obtain ⟨h64, hall⟩ := hb'
  have hok := List.all_eq_true.1 hall
  have htl := text_max fs hok
  have hpl := planL_any v fs (by omega) w h
  rw [hb] at hpl
  have HE := Lib.hid he
  have HR := Lib.hid h
  have HA := Lib.hid ha
  have HP := Lib.hid hpl
  have HB := Lib.hid hb
  have HO := Lib.hid hok
  obtain ⟨av, cv, rfl⟩ := h.val
  obtain ⟨aa, ca, rfl⟩ := ha.val
  obtain ⟨m0, hm⟩ : ∃ m, fs.length = m := ⟨_, rfl⟩
  obtain ⟨n, hn⟩ : ∃ n, l.length = n := ⟨_, rfl⟩
  rw [hm] at h64 htl HR HP ⊢
  rw [hn] at h24 HA ⊢
  have HM := Lib.hid hm
  have HN := Lib.hid hn
  have HWf := Lib.hid hwf
  clear hall hok h ha he hpl hb hm hn hwf
  go_enter Tryd.func4, Tryd.ntmps4
  go_wp2_with fail
  refine HP.out.mono ?_
  rintro e w1 ⟨rfl, f1⟩
  have F1 := Lib.hid f1
  clear f1 HP
  go_wp2_with fail
  refine (new_ok _ fs w1 (HR.out.new F1.out) HB.out).mono ?_
  rintro e w2 ⟨p, m, v1, rfl, p2', f2, hp, hmm, hg⟩
  have P2 := Lib.hid p2'
  have F2 := Lib.hid (F1.out.step f2)
  have HG1 := Lib.hid hg
  have l1 := F1.out.size
  clear p2' f2 hg F1
  go_wp2_with fail
  refine (new_ok (.slice none 0 0) [] w2 (.inl ⟨rfl, _, _, rfl⟩) (by decide)).mono ?_
  rintro e w3 ⟨q, mq, v2, rfl, q3, f3, hq, hmq, hgq⟩
  have hT : Two w w3 p m q mq v1 v2 fs (fun _ _ => (0, 0, 0)) (fun _ _ => (0, 0, 0)) := by
    have b1 := cell_lt P2.out.c0
    have b2 := P2.out.lanes.lt
    have b3 := F2.out.size
    exact ⟨P2.out.new f3, q3, ⟨by omega, by omega⟩, ⟨by omega, by omega, by omega, fun g off n c e => by have := hgq g off n c e; omega, fun g off n c e => by have := P2.out.low g off n c e; omega⟩, F2.out.step f3⟩
  have T3 := Lib.hid hT
  clear hT q3 f3 hq hmq hgq P2 F2 HG1 hp hmm l1
  go_wp2_with fail
  refine (text_ok _ fs w3 w3 (HE.out.new T3.out.fr) (Fr.refl [] w3) (HR.out.new T3.out.fr) HB.out).mono ?_
  rintro e w4 ⟨rfl, f4⟩
  have T4 := Lib.hid (T3.out.new f4)
  clear f4 T3
  go_wp2_with fail
  have hq := parse_any (textB fs) (by omega) w4 (HE.out.new T4.out.fr)
  rw [parse_text fs HB.out] at hq
  refine hq.mono ?_
  clear hq
  rintro e w5 ⟨v5, rfl, r5, f5⟩
  have T5 := Lib.hid (T4.out.new f5)
  have R5 := Lib.hid r5
  clear r5 f5 T4
  go_wp2_with fail
  have hq := same_any v5 (.slice av m0 cv) fs fs (by rw [HM.out]; omega) (by rw [HM.out]; omega) w5 R5.out (HR.out.new T5.out.fr)
  rw [decide_eq_true rfl] at hq
  refine hq.mono ?_
  clear hq
  rintro e w6 ⟨rfl, f6⟩
  have T6 := Lib.hid (T5.out.new f6)
  clear f6 T5 R5
  go_wp2
  go_loopw [11] (fun i wr => ∃ (k : Nat) (F G : LF), i = .int .i64 k ∧ k ≤ n ∧ LInv fs F k ∧ LInv [] G k ∧ Two w wr p m q mq v1 v2 fs F G) (fun i _ => n - (intOf i).toNat)
  case atStart => exact ⟨0, _, _, rfl, by omega, LInv.start fs HO.out, LInv.start [] (fun f hf => by cases hf), T6.out⟩
  case round =>
    rename_i wr
    obtain ⟨k, F, G, rfl, hk, hF, hG, hT⟩ := hrel
    by_cases hlt : k < n
    · have hx := List.getElem?_eq_getElem (l := l) (i := k) (by rw [HN.out]; exact hlt)
      obtain ⟨x, hxe⟩ : ∃ x, l[k]'(by rw [HN.out]; exact hlt) = x := ⟨_, rfl⟩
      rw [hxe] at hx
      rcases HA.out.new hT.fr with ⟨h1, _⟩ | ⟨g, off, cap', hv, hg, hcells⟩
      · rw [h1] at hx
        simp at hx
      rw [HN.out] at hv
      simp only [Value.slice.injEq] at hv
      obtain ⟨rfl, _, rfl⟩ := hv
      obtain ⟨c0, c1, c2, c3⟩ := hcells k x hx
      have k0 : (0 : Int) ≤ (k : Int) := Int.natCast_nonneg _
      have k1 : (k : Int) < (n : Int) := by omega
      have a1 := AcAt.made wr x
      obtain ⟨xw, xc, xd, xn⟩ := x
      simp only at c0 c1 c2 c3 a1
      obtain ⟨o, ho⟩ : ∃ o, bits .xor .i64 xc 1 = o := ⟨_, rfl⟩
      have HF := Lib.hid hF
      have HG := Lib.hid hG
      have HT := Lib.hid hT
      have A1 := Lib.hid a1
      have HL1 := Lib.hid (fun W => laneL_any xc xd W)
      have HL2 := Lib.hid (fun W => laneL_any o xd W)
      clear hF hG hT hx hxe hcells a1
      cases l1 : laneB xc xd with
      | false =>
        rw [l1] at HL1
        have L1 := Lib.hid l1
        clear l1
        as_aux_lemma =>
        go_wp2_with (go_at_call 15; first | ((with_reducible refine (HL1.out _).mono ?_); rintro e w' ⟨rfl, rfl⟩) | ((with_reducible refine (HL2.out _).mono ?_); rintro e w' ⟨rfl, rfl⟩))
        go_roundw
        case rel => exact ⟨k + 1, F, G, by go_num, by omega, HF.out.skip, HG.out.skip, HT.out.new ((Fr.refl [] wr).alloc _)⟩
        case measure => simp [intOf]; omega
      | true =>
        rw [l1] at HL1
        have hne := xor1_ne l1
        rw [ho] at hne
        have HNE := Lib.hid hne
        have L1 := Lib.hid l1
        clear hne l1
        cases l2 : laneB o xd with
        | false =>
          rw [l2] at HL2
          have L2 := Lib.hid l2
          clear l2
          as_aux_lemma =>
          go_wp2_with (go_at_call 15; first | ((with_reducible refine (HL1.out _).mono ?_); rintro e w' ⟨rfl, rfl⟩) | ((with_reducible refine (HL2.out _).mono ?_); rintro e w' ⟨rfl, rfl⟩))
          go_roundw
          case rel => exact ⟨k + 1, F, G, by go_num, by omega, HF.out.skip, HG.out.skip, HT.out.new ((Fr.refl [] wr).alloc _)⟩
          case measure => simp [intOf]; omega
        | true =>
          rw [l2] at HL2
          have L2 := Lib.hid l2
          clear l2
          by_cases n1 : xn < 0
          · skip
            as_aux_lemma =>
            go_wp2_with (go_at_call 15; first | ((with_reducible refine (HL1.out _).mono ?_); rintro e w' ⟨rfl, rfl⟩) | ((with_reducible refine (HL2.out _).mono ?_); rintro e w' ⟨rfl, rfl⟩))
            go_roundw
            case rel => exact ⟨k + 1, F, G, by go_num, by omega, HF.out.skip, HG.out.skip, HT.out.new ((Fr.refl [] wr).alloc _)⟩
            case measure => simp [intOf]; omega
          · by_cases n2 : 65536 < xn
            · skip
              as_aux_lemma =>
              go_wp2_with (go_at_call 15; first | ((with_reducible refine (HL1.out _).mono ?_); rintro e w' ⟨rfl, rfl⟩) | ((with_reducible refine (HL2.out _).mono ?_); rintro e w' ⟨rfl, rfl⟩))
              go_roundw
              case rel => exact ⟨k + 1, F, G, by go_num, by omega, HF.out.skip, HG.out.skip, HT.out.new ((Fr.refl [] wr).alloc _)⟩
              case measure => simp [intOf]; omega
            · go_wp2_with (go_at_call 15; first | ((with_reducible refine (HL1.out _).mono ?_); rintro e w' ⟨rfl, rfl⟩) | ((with_reducible refine (HL2.out _).mono ?_); rintro e w' ⟨rfl, rfl⟩))
              have f2 : Fr [] wr (wr.alloc (.cells #[.int .i64 xw, .int .i64 xc, .int .i64 xd, .int .i64 xn] 44)) := (Fr.refl [] wr).alloc _
              have T2 := Lib.hid (HT.out.new f2)
              have a2 := A1.out
              have ac1 := a2.c1
              have ac2 := a2.c2
              have ac3 := a2.c3
              have hAm : wr.heap.size ≠ m ∧ wr.heap.size ≠ mq := by
                have h1 := HT.out.a.lanes.lt
                have h2 := HT.out.b.lanes.lt
                exact ⟨by omega, by omega⟩
              obtain ⟨A, hA⟩ : ∃ A, wr.heap.size = A := ⟨_, rfl⟩
              rw [hA] at hAm
              simp only [hA] at a2 ac1 ac2 ac3 ⊢
              obtain ⟨w2, hw2⟩ : ∃ W, wr.alloc (.cells #[.int .i64 xw, .int .i64 xc, .int .i64 xd, .int .i64 xn] 44) = W := ⟨_, rfl⟩
              simp only [hw2] at T2 a2 ac1 ac2 ac3 ⊢
              obtain ⟨⟨q1, b1, le1⟩, h1⟩ : ∃ y, F o xd = y := ⟨_, rfl⟩
              obtain ⟨⟨q2, b2, le2⟩, h2⟩ : ∃ y, F xc xd = y := ⟨_, rfl⟩
              have hb2 := HF.out xc xd
              rw [h2] at hb2
              simp only at hb2
              obtain ⟨⟨q20, q2k⟩, ⟨b20, b2k⟩, hb2⟩ := hb2
              have hcl := call_ok xc xd w2 T2.out.a xn L1.out ⟨n1, n2⟩ (by rw [h2]; exact ⟨q20, by omega⟩)
              rw [h2] at hcl
              have hmost := effW_most fs HO.out xc xd q2 b2 xn n1 ⟨b20, by omega⟩ hb2
              have hstep := HF.out.step HO.out (by omega) (c := xc) (d := xd) ⟨n1, n2⟩
              rw [h2] at hstep
              obtain ⟨⟨y1, y2, y3⟩, hy⟩ : ∃ y, effW fs xc xd q2 b2 xn = y := ⟨_, rfl⟩
              simp only [hy] at hcl hmost hstep
              obtain ⟨⟨y10, y1n⟩, hy3, hcut⟩ := hmost
              have H1 := Lib.hid h1
              have H2 := Lib.hid h2
              have ACT := Lib.hid a2
              have HAM := Lib.hid hAm
              have HCL := Lib.hid hcl
              have HCUT := Lib.hid hcut
              have HSTEP := Lib.hid hstep
              have HY3 := Lib.hid hy3
              have HQ := Lib.hid (And.intro (And.intro q20 q2k) (And.intro b20 b2k))
              clear ho c0 c1 c2 c3 HT A1 HL1 HL2 f2 hA hw2 h1 h2 hb2 hcl hy hy3 hcut a2 hAm hstep hg q20 q2k b20 b2k
              refine (callsP_any o xd w2 T2.out.a L2.out H1.out).mono ?_
              rintro e w' ⟨rfl, rfl⟩
              go_wp2_with fail
              refine (bytesP_any o xd w2 T2.out.a L2.out H1.out).mono ?_
              rintro e w' ⟨rfl, rfl⟩
              go_wp2_with fail
              refine HCL.out.mono ?_
              rintro e w3 ⟨rfl, p3, f3⟩
              rw [H2.out] at p3
              have t3 := T2.out.turnA p3 f3
              have a3 := ACT.out.keep f3 (by simpa using HAM.out.1)
              have f4 : Fr [] w3 (w3.alloc (.cells #[.int .i64 y1, .int .u64 y2, .int .i64 y3] 51)) := (Fr.refl [] w3).alloc _
              have a4 := a3.keep f4 (by simp)
              have ac1 := a4.c1
              have ac2 := a4.c2
              have ac3 := a4.c3
              have T4 := Lib.hid (t3.new f4)
              have A4 := Lib.hid a4
              clear t3 a3 a4 p3 f3 f4 T2 ACT HCL
              have hcase : (y3 = 0 ∨ (y3 ≠ 0 ∧ y1 = 0)) := by
                by_cases h : y3 = 0
                · exact .inl h
                · exact .inr ⟨h, HY3.out h⟩
              rcases hcase with rfl | ⟨hy3, hy1⟩
              rotate_left
              · as_aux_lemma =>
                have e3 : (y3 != 0) = true := by simpa using hy3
                have e1 : (y1 != 0) = false := by simpa using hy1
                clear HY3 hy3 hy1
                go_wp2_with fail
                refine (movedL_yes xc xd y1 _ T4.out.a L1.out (upd_same _ _ _ _) ⟨by omega, Int.le_refl _⟩ ⟨HQ.out.2.1, by have := HQ.out.2.2; omega⟩ (by omega)).mono ?_
                rintro e w5 ⟨rfl, p5, f5⟩
                rw [upd_upd] at p5
                have T5 := Lib.hid (T4.out.turnA p5 f5)
                have a5 := A4.out.keep f5 (by simpa using HAM.out.1)
                have A5 := Lib.hid a5
                have ad1 := a5.c1
                have ad2 := a5.c2
                clear p5 f5 a5 T4 A4 ac1 ac2 ac3
                go_wp2_with fail
                refine (movedL_no xc xd 1 _ T5.out.a L1.out (upd_same _ _ _ _) ⟨by omega, by omega⟩ ⟨by have := HQ.out.2.1; omega, by have := HQ.out.2.2; omega⟩ (by omega)).mono ?_
                rintro e w6 ⟨rfl, p6, f6⟩
                have T6 := Lib.hid (T5.out.turnA p6 f6)
                have a6 := A5.out.keep f6 (by simpa using HAM.out.1)
                have A6 := Lib.hid a6
                have ac1 := a6.c1
                have ac2 := a6.c2
                have ac3 := a6.c3
                clear p6 f6 a6 T5 A5 ad1 ad2
                have hoF : F.upd xc xd (q2 + 1, b2 + y1, y1 - y1) o xd = (q1, b1, le1) := (upd_other F _ HNE.out).trans H1.out
                go_wp2_with fail
                refine (callsP_any o xd w6 T6.out.a L2.out hoF).mono ?_
                rintro e w' ⟨rfl, rfl⟩
                go_wp2_with fail
                refine (bytesP_any o xd w6 T6.out.a L2.out hoF).mono ?_
                rintro e w' ⟨rfl, rfl⟩
                clear hoF
                go_wp2_with fail
                have hg2 := HG.out xc xd
                have hcl := call_ok xc xd w6 T6.out.b xn L1.out ⟨n1, n2⟩ ⟨hg2.1.1, by have := hg2.1.2; omega⟩
                rw [effW_nil] at hcl
                refine hcl.mono ?_
                clear hcl hg2
                rintro e w7 ⟨rfl, p7, f7⟩
                have t7 := T6.out.turnB p7 f7
                have a7 := A6.out.keep f7 (by simpa using HAM.out.2)
                have f8 : Fr [] w7 (w7.alloc (.cells #[.int .i64 xn, .int .u64 0, .int .i64 0] 51)) := (Fr.refl [] w7).alloc _
                have a8 := a7.keep f8 (by simp)
                have T8 := Lib.hid (t7.new f8)
                have A8 := Lib.hid a8
                have ad1 := a8.c1
                have ad2 := a8.c2
                have ad3 := a8.c3
                have hne : ∀ W, (binOp .neq 51 (.agg #[.int .i64 xn, .int .u64 0, .int .i64 0]) (.agg #[.int .i64 xn, .int .u64 0, .int .i64 0])).run Tryd.prog W = .ok (.bool false) W := fun W => by
                  have := neEf (xn, 0, 0) (xn, 0, 0) W
                  rw [decide_eq_true rfl] at this
                  exact this
                clear p7 f7 t7 a7 f8 a8 T6 A6 ac1 ac2 ac3
                simp only
                go_wp2_with fail
                refine (bytesP_any xc xd _ T8.out.a L1.out (upd_same _ _ _ _)).mono ?_
                rintro e w' ⟨rfl, rfl⟩
                obtain ⟨w8, hw8⟩ : ∃ W, w7.alloc (.cells #[.int .i64 xn, .int .u64 0, .int .i64 0] 51) = W := ⟨_, rfl⟩
                simp only [hw8] at T8 A8 ad1 ad2 ad3 ⊢
                clear hw8 ad1 ad2 ad3 hne
                go_wp2
                go_loopw [25] (fun i wh => ∃ h : Nat, i = .int .i64 h ∧ h ≤ m0 ∧ Fr [] w8 wh) (fun i _ => m0 - (intOf i).toNat)
                case atStart => exact ⟨0, rfl, by omega, Fr.refl _ _⟩
                case round =>
                  rename_i wh
                  obtain ⟨h, rfl, hh, hF8⟩ := hrel
                  by_cases hlt2 : h < m0
                  · have hx := List.getElem?_eq_getElem (l := fs) (i := h) (by rw [HM.out]; exact hlt2)
                    obtain ⟨f, hfe⟩ : ∃ f, fs[h]'(by rw [HM.out]; exact hlt2) = f := ⟨_, rfl⟩
                    rw [hfe] at hx
                    rcases HR.out.new (T8.out.fr.step hF8) with ⟨h1, _⟩ | ⟨gf, offf, cap', hv, hg, hcells⟩
                    · rw [h1] at hx
                      simp at hx
                    rw [HM.out] at hv
                    simp only [Value.slice.injEq] at hv
                    obtain ⟨rfl, _, rfl⟩ := hv
                    obtain ⟨c0, c1, c2, c3, c4⟩ := hcells h f hx
                    have a9 := A8.out.keep hF8 (by simp)
                    have ac1 := a9.c1
                    have ac2 := a9.c2
                    have h0 : (0 : Int) ≤ (h : Int) := Int.natCast_nonneg _
                    have h1 : (h : Int) < (m0 : Int) := by omega
                    have hno : (f.k = 4 ∧ f.c = xc ∧ f.d = xd) → ¬ f.a < b2 + y1 := fun he => by
                      have := HCUT.out f (List.mem_of_getElem? hx) (mt_of.2 he)
                      omega
                    have HF8 := Lib.hid hF8
                    clear hx hfe hcells a9 hF8 hg
                    obtain ⟨fk, fc, fd, fa, fg⟩ := f
                    simp only at c0 c1 c2 c3 c4 hno
                    by_cases e1 : fk = 4
                    · subst e1
                      by_cases e2 : fc = xc
                      · subst e2
                        by_cases e3 : fd = xd
                        · subst e3
                          have e4 : decide (fa < b2 + y1) = false := decide_eq_false (hno ⟨rfl, rfl, rfl⟩)
                          clear hno
                          go_wp2
                          go_quiet (fail)
                          go_wp2
                          go_roundw
                          case rel => exact ⟨h + 1, by go_num, by omega, HF8.out.drewN _⟩
                          case measure => simp [intOf]; omega
                        · clear hno
                          have g1 : (fd == xd) = false := beq_eq_false_iff_ne.2 e3
                          have g2 : decide (fd = xd) = false := decide_eq_false e3
                          clear e3
                          go_wp2
                          go_quiet (fail)
                          go_wp2
                          go_roundw
                          case rel => exact ⟨h + 1, by go_num, by omega, HF8.out.drewN _⟩
                          case measure => simp [intOf]; omega
                      · clear hno
                        have g1 : (fc == xc) = false := beq_eq_false_iff_ne.2 e2
                        have g2 : decide (fc = xc) = false := decide_eq_false e2
                        clear e2
                        go_wp2
                        go_quiet (fail)
                        go_wp2
                        go_roundw
                        case rel => exact ⟨h + 1, by go_num, by omega, HF8.out.drewN _⟩
                        case measure => simp [intOf]; omega
                    · clear hno
                      have g1 : (fk == 4) = false := beq_eq_false_iff_ne.2 e1
                      have g2 : decide (fk = 4) = false := decide_eq_false e1
                      clear e1
                      go_wp2
                      go_quiet (fail)
                      go_wp2
                      go_roundw
                      case rel => exact ⟨h + 1, by go_num, by omega, HF8.out.drewN _⟩
                      case measure => simp [intOf]; omega
                  · have hhm : h = m0 := by omega
                    subst hhm
                    go_wp2
                    go_roundw
                    case rel => exact ⟨k + 1, _, _, by go_num, by omega, HSTEP.out _, HG.out.hold _, T8.out.new hF8⟩
                    case measure => simp [intOf]; omega
              · as_aux_lemma =>
                clear HY3
                go_wp2_with fail
                refine (movedL_yes xc xd y1 _ T4.out.a L1.out (upd_same _ _ _ _) ⟨by omega, Int.le_refl _⟩ ⟨HQ.out.2.1, by have := HQ.out.2.2; omega⟩ (by omega)).mono ?_
                rintro e w5 ⟨rfl, p5, f5⟩
                rw [upd_upd] at p5
                have T5 := Lib.hid (T4.out.turnA p5 f5)
                have a5 := A4.out.keep f5 (by simpa using HAM.out.1)
                have A5 := Lib.hid a5
                have ad1 := a5.c1
                have ad2 := a5.c2
                clear p5 f5 a5 T4 A4 ac1 ac2 ac3
                go_wp2_with fail
                refine (movedL_no xc xd 1 _ T5.out.a L1.out (upd_same _ _ _ _) ⟨by omega, by omega⟩ ⟨by have := HQ.out.2.1; omega, by have := HQ.out.2.2; omega⟩ (by omega)).mono ?_
                rintro e w6 ⟨rfl, p6, f6⟩
                have T6 := Lib.hid (T5.out.turnA p6 f6)
                have a6 := A5.out.keep f6 (by simpa using HAM.out.1)
                have A6 := Lib.hid a6
                have ac1 := a6.c1
                have ac2 := a6.c2
                have ac3 := a6.c3
                clear p6 f6 a6 T5 A5 ad1 ad2
                have hoF : F.upd xc xd (q2 + 1, b2 + y1, y1 - y1) o xd = (q1, b1, le1) := (upd_other F _ HNE.out).trans H1.out
                go_wp2_with fail
                refine (callsP_any o xd w6 T6.out.a L2.out hoF).mono ?_
                rintro e w' ⟨rfl, rfl⟩
                go_wp2_with fail
                refine (bytesP_any o xd w6 T6.out.a L2.out hoF).mono ?_
                rintro e w' ⟨rfl, rfl⟩
                clear hoF
                go_wp2_with fail
                have hg2 := HG.out xc xd
                have hcl := call_ok xc xd w6 T6.out.b xn L1.out ⟨n1, n2⟩ ⟨hg2.1.1, by have := hg2.1.2; omega⟩
                rw [effW_nil] at hcl
                refine hcl.mono ?_
                clear hcl hg2
                rintro e w7 ⟨rfl, p7, f7⟩
                have t7 := T6.out.turnB p7 f7
                have a7 := A6.out.keep f7 (by simpa using HAM.out.2)
                have f8 : Fr [] w7 (w7.alloc (.cells #[.int .i64 xn, .int .u64 0, .int .i64 0] 51)) := (Fr.refl [] w7).alloc _
                have a8 := a7.keep f8 (by simp)
                have T8 := Lib.hid (t7.new f8)
                have A8 := Lib.hid a8
                have ad1 := a8.c1
                have ad2 := a8.c2
                have ad3 := a8.c3
                have hne : ∀ W, (binOp .neq 51 (.agg #[.int .i64 xn, .int .u64 0, .int .i64 0]) (.agg #[.int .i64 xn, .int .u64 0, .int .i64 0])).run Tryd.prog W = .ok (.bool false) W := fun W => by
                  have := neEf (xn, 0, 0) (xn, 0, 0) W
                  rw [decide_eq_true rfl] at this
                  exact this
                clear p7 f7 t7 a7 f8 a8 T6 A6 ac1 ac2 ac3
                simp only
                go_wp2_with fail
                refine (bytesP_any xc xd _ T8.out.a L1.out (upd_same _ _ _ _)).mono ?_
                rintro e w' ⟨rfl, rfl⟩
                obtain ⟨w8, hw8⟩ : ∃ W, w7.alloc (.cells #[.int .i64 xn, .int .u64 0, .int .i64 0] 51) = W := ⟨_, rfl⟩
                simp only [hw8] at T8 A8 ad1 ad2 ad3 ⊢
                clear hw8 ad1 ad2 ad3 hne
                go_wp2
                go_loopw [25] (fun i wh => ∃ h : Nat, i = .int .i64 h ∧ h ≤ m0 ∧ Fr [] w8 wh) (fun i _ => m0 - (intOf i).toNat)
                case atStart => exact ⟨0, rfl, by omega, Fr.refl _ _⟩
                case round =>
                  rename_i wh
                  obtain ⟨h, rfl, hh, hF8⟩ := hrel
                  by_cases hlt2 : h < m0
                  · have hx := List.getElem?_eq_getElem (l := fs) (i := h) (by rw [HM.out]; exact hlt2)
                    obtain ⟨f, hfe⟩ : ∃ f, fs[h]'(by rw [HM.out]; exact hlt2) = f := ⟨_, rfl⟩
                    rw [hfe] at hx
                    rcases HR.out.new (T8.out.fr.step hF8) with ⟨h1, _⟩ | ⟨gf, offf, cap', hv, hg, hcells⟩
                    · rw [h1] at hx
                      simp at hx
                    rw [HM.out] at hv
                    simp only [Value.slice.injEq] at hv
                    obtain ⟨rfl, _, rfl⟩ := hv
                    obtain ⟨c0, c1, c2, c3, c4⟩ := hcells h f hx
                    have a9 := A8.out.keep hF8 (by simp)
                    have ac1 := a9.c1
                    have ac2 := a9.c2
                    have h0 : (0 : Int) ≤ (h : Int) := Int.natCast_nonneg _
                    have h1 : (h : Int) < (m0 : Int) := by omega
                    have hno : (f.k = 4 ∧ f.c = xc ∧ f.d = xd) → ¬ f.a < b2 + y1 := fun he => by
                      have := HCUT.out f (List.mem_of_getElem? hx) (mt_of.2 he)
                      omega
                    have HF8 := Lib.hid hF8
                    clear hx hfe hcells a9 hF8 hg
                    obtain ⟨fk, fc, fd, fa, fg⟩ := f
                    simp only at c0 c1 c2 c3 c4 hno
                    by_cases e1 : fk = 4
                    · subst e1
                      by_cases e2 : fc = xc
                      · subst e2
                        by_cases e3 : fd = xd
                        · subst e3
                          have e4 : decide (fa < b2 + y1) = false := decide_eq_false (hno ⟨rfl, rfl, rfl⟩)
                          clear hno
                          go_wp2
                          go_quiet (fail)
                          go_wp2
                          go_roundw
                          case rel => exact ⟨h + 1, by go_num, by omega, HF8.out.drewN _⟩
                          case measure => simp [intOf]; omega
                        · clear hno
                          have g1 : (fd == xd) = false := beq_eq_false_iff_ne.2 e3
                          have g2 : decide (fd = xd) = false := decide_eq_false e3
                          clear e3
                          go_wp2
                          go_quiet (fail)
                          go_wp2
                          go_roundw
                          case rel => exact ⟨h + 1, by go_num, by omega, HF8.out.drewN _⟩
                          case measure => simp [intOf]; omega
                      · clear hno
                        have g1 : (fc == xc) = false := beq_eq_false_iff_ne.2 e2
                        have g2 : decide (fc = xc) = false := decide_eq_false e2
                        clear e2
                        go_wp2
                        go_quiet (fail)
                        go_wp2
                        go_roundw
                        case rel => exact ⟨h + 1, by go_num, by omega, HF8.out.drewN _⟩
                        case measure => simp [intOf]; omega
                    · clear hno
                      have g1 : (fk == 4) = false := beq_eq_false_iff_ne.2 e1
                      have g2 : decide (fk = 4) = false := decide_eq_false e1
                      clear e1
                      go_wp2
                      go_quiet (fail)
                      go_wp2
                      go_roundw
                      case rel => exact ⟨h + 1, by go_num, by omega, HF8.out.drewN _⟩
                      case measure => simp [intOf]; omega
                  · have hhm : h = m0 := by omega
                    subst hhm
                    go_wp2
                    go_roundw
                    case rel => exact ⟨k + 1, _, _, by go_num, by omega, HSTEP.out _, HG.out.hold _, T8.out.new hF8⟩
                    case measure => simp [intOf]; omega
    · have hkn : k = n := by omega
      subst hkn
      have HK := Lib.hid (known_any wr (HE.out.new hT.fr))
      have HF := Lib.hid hT.fr
      clear hF hG hT hlt
      go_wp2_with (go_at_call 7; refine HK.out.mono ?_; rintro e w9 ⟨rfl, f9⟩)
      go_ret
      exact ⟨rfl, HF.out.step f9⟩
end Go.Proofs.YtededfkenlhokaaDoor
