/- Contract of the law's own with. -/
import Derived.Test.YtededfkenlhokaaDoorQ3
import Derived.Test.YtededfkenlhokaaDoorC16
import Derived.Deep.RegionHeld3
import Derived.Deep.AppendLies
namespace Go.Proofs.YtededfkenlhokaaDoor
open Go.RowKit Go.Shelf
set_option linter.unusedVariables false
set_option linter.unusedSimpArgs false
set_option maxRecDepth 100000
set_option maxHeartbeats 8000000

theorem infoLn : (Tryd.prog.info? 97).map (fun i => (i.zero, i.size, i.bytes)) = some (some (.agg #[.int .i64 0, .int .i64 0, .int .i64 0, .int .i64 0, .int .i64 0]), 5, 40) := by kernel_rfl
theorem MdAt.set1 {W : World} {b : Nat} {u v : Value} (h : MdAt W b u v) (y : Value) : MdAt (W.setCell ⟨b, 1, none⟩ y) b u y := by
  unfold MdAt at *
  show (W.heap.modify b _)[b]? = _
  rw [Array.getElem?_modify, if_pos rfl, h]
  rfl
theorem MdAt.set0 {W : World} {b : Nat} {u v : Value} (h : MdAt W b u v) (y : Value) : MdAt (W.setCell ⟨b, 0, none⟩ y) b y v := by
  unfold MdAt at *
  show (W.heap.modify b _)[b]? = _
  rw [Array.getElem?_modify, if_pos rfl, h]
  rfl
theorem LnRow.of {w : World} {lo : Nat} {v : Value} {fs : List Ft} (h : w.ownsRow lo 97 5 v fs.length (ftCells fs)) : FtRow w v fs := by
  have h0 := h
  obtain ⟨hl, ⟨hv, hn⟩ | ⟨g, cap, cur, hv, hb, hh, h1, h2, h3, h4⟩⟩ := h
  · subst hv
    exact .inl ⟨List.eq_nil_of_length_eq_zero hn, _, _, rfl⟩
  · have hlt : g < w.heap.size := (Array.getElem?_eq_some_iff.1 hh).1
    have hc : ∀ j u, (ftCells fs)[j]? = some u → w.cell? ⟨g, j, none⟩ = some u := fun j u hj => by
      have := World.ownsRow.cells h0 (g := g) (by rw [hv]; rfl) j u hj
      simpa [Addr.add_lit] using this
    refine .inr ⟨g, 0, cap, hv, hlt, fun i x hx => ?_⟩
    obtain ⟨d0, d1, d2, d3, d4⟩ := ftCells_at fs i x hx
    simp only [Nat.zero_add]
    exact ⟨hc _ _ d0, hc _ _ d1, hc _ _ d2, hc _ _ d3, hc _ _ d4⟩
theorem with_start (w : World) (u v : Value) (x : Ft) {w1 : World}
    (h : ((((w.alloc (.cells #[u, v] 58)).alloc (.cells #[.int .i64 x.k, .int .i64 x.c, .int .i64 x.d, .int .i64 x.a, .int .i64 x.g] 97)).alloc (.cells #[.slice none 0 0, .slice none 0 0] 58)).alloc (.cells #[.int .i64 x.k, .int .i64 x.c, .int .i64 x.d, .int .i64 x.a, .int .i64 x.g] 97)).alloc (.cells #[u, .slice (some ⟨w.heap.size + 1 + 1 + 1, 0, none⟩) 1 1] 58) = w1) :
    MdAt w1 w.heap.size u v ∧ LnAt w1 (w.heap.size + 1) x ∧ MdAt w1 (w.heap.size + 1 + 1) (.slice none 0 0) (.slice none 0 0) ∧
    w1.ownsRow (w.heap.size + 1 + 1 + 1) 97 5 (.slice (some ⟨w.heap.size + 1 + 1 + 1, 0, none⟩) 1 1) 1 (ftCells [x]) ∧
    MdAt w1 (w.heap.size + 1 + 1 + 1 + 1) u (.slice (some ⟨w.heap.size + 1 + 1 + 1, 0, none⟩) 1 1) ∧ Fr [] w w1 := by
  have fa : Fr [] w (w.alloc (.cells #[u, v] 58)) := (Fr.refl [] w).alloc _
  have ma := MdAt.made w u v
  have za : (w.alloc (.cells #[u, v] 58)).heap.size = w.heap.size + 1 := by simp
  generalize w.alloc (.cells #[u, v] 58) = A at h fa ma za
  have fb : Fr [] A (A.alloc (.cells #[.int .i64 x.k, .int .i64 x.c, .int .i64 x.d, .int .i64 x.a, .int .i64 x.g] 97)) := (Fr.refl [] A).alloc _
  have mb := LnAt.made A x
  have zb : (A.alloc (.cells #[.int .i64 x.k, .int .i64 x.c, .int .i64 x.d, .int .i64 x.a, .int .i64 x.g] 97)).heap.size = w.heap.size + 1 + 1 := by simp [za]
  generalize A.alloc (.cells #[.int .i64 x.k, .int .i64 x.c, .int .i64 x.d, .int .i64 x.a, .int .i64 x.g] 97) = C at h fb mb zb
  have fc : Fr [] C (C.alloc (.cells #[.slice none 0 0, .slice none 0 0] 58)) := (Fr.refl [] C).alloc _
  have mc := MdAt.made C (.slice none 0 0) (.slice none 0 0)
  have zc : (C.alloc (.cells #[.slice none 0 0, .slice none 0 0] 58)).heap.size = w.heap.size + 1 + 1 + 1 := by simp [zb]
  generalize C.alloc (.cells #[.slice none 0 0, .slice none 0 0] 58) = D at h fc mc zc
  have fd : Fr [] D (D.alloc (.cells #[.int .i64 x.k, .int .i64 x.c, .int .i64 x.d, .int .i64 x.a, .int .i64 x.g] 97)) := (Fr.refl [] D).alloc _
  have md := LnAt.made D x
  have zd : (D.alloc (.cells #[.int .i64 x.k, .int .i64 x.c, .int .i64 x.d, .int .i64 x.a, .int .i64 x.g] 97)).heap.size = w.heap.size + 1 + 1 + 1 + 1 := by simp [zc]
  generalize D.alloc (.cells #[.int .i64 x.k, .int .i64 x.c, .int .i64 x.d, .int .i64 x.a, .int .i64 x.g] 97) = E at h fd md zd
  have fe : Fr [] E (E.alloc (.cells #[u, .slice (some ⟨w.heap.size + 1 + 1 + 1, 0, none⟩) 1 1] 58)) := (Fr.refl [] E).alloc _
  have me := MdAt.made E u (.slice (some ⟨w.heap.size + 1 + 1 + 1, 0, none⟩) 1 1)
  rw [h] at fe me
  rw [za] at mb
  rw [zb] at mc
  rw [zc] at md
  rw [zd] at me
  have g4 := fd.step fe
  have g3 := fc.step g4
  have g2 := fb.step g3
  refine ⟨ma.keep g2 (by simp), mb.keep g3 (by simp), mc.keep g4 (by simp), ⟨rfl, .inr ⟨_, 1, _, rfl, Nat.le_refl _, md.keep fe (by simp), Nat.le_refl _, by unfold maxLen; omega, rfl, rfl⟩⟩, me, fa.step g2⟩
/-- The model that is being made. -/
structure WithR (w W : World) (M : Nat) (u v : Value) (x : Ft) (acc : List Ft) (wv : Value) : Prop where
  m : MdAt W M u v
  l : LnAt W (M + 1) x
  r : MdAt W (M + 1 + 1) (.slice none 0 0) (.slice none 0 0)
  row : W.ownsRow (M + 1 + 1 + 1) 97 5 wv acc.length (ftCells acc)
  o : MdAt W (M + 1 + 1 + 1 + 1) u wv
  fr : Fr [] w W
theorem WithR.new {w W W' : World} {M : Nat} {u v : Value} {x : Ft} {acc : List Ft} {wv : Value} (h : WithR w W M u v x acc wv) (f : Fr [] W W') : WithR w W' M u v x acc wv :=
  ⟨h.m.keep f (by simp), h.l.keep f (by simp), h.r.keep f (by simp), row_fr h.row f, h.o.keep f (by simp), h.fr.step f⟩
theorem row_frS {S : List Nat} {n k : Nat} {W W' : World} {v : Value} {xs : List Value} {E : TypeId} {sz : Nat} (hs : W.ownsRow n E sz v k xs) (h : Fr S W W') (hn : ∀ q, v.ownBlock = some q → q ∉ S) : W'.ownsRow n E sz v k xs := by
  refine ⟨hs.1, hs.2.imp id ?_⟩
  rintro ⟨g, cap, cur, hv, hb, hh, rest⟩
  exact ⟨g, cap, cur, hv, hb, (h.block g (Array.getElem?_eq_some_iff.1 hh).1 (hn g (by rw [hv]; rfl))).trans hh, rest⟩
theorem WithR.apart {w W : World} {M : Nat} {u v : Value} {x : Ft} {acc : List Ft} {wv : Value} (h : WithR w W M u v x acc wv) : ∀ q, wv.ownBlock = some q → M + 1 + 1 + 1 ≤ q ∧ q ≠ M + 1 + 1 + 1 + 1 := fun q e => by
  rcases h.row.2 with ⟨h1, _⟩ | ⟨g, cap, cur, hv, hb, hh, _⟩
  · rw [h1] at e
    cases e
  · rw [hv] at e
    cases e
    refine ⟨hb, fun e => ?_⟩
    have h2 := h.o
    unfold MdAt at h2
    rw [← e, hh] at h2
    simp at h2
theorem notOwn {wv : Value} {b : Nat} (h : ∀ q, wv.ownBlock = some q → q ≠ b) : b ∉ wv.ownBlock.toList := fun hm => by
  rw [Option.mem_toList] at hm
  exact h b hm rfl
theorem WithR.more {w W W4 : World} {M : Nat} {u v : Value} {x : Ft} {acc : List Ft} {wv : Value} (h : WithR w W M u v x acc wv) (F : Fr wv.ownBlock.toList W W4) (y : Ft) {g n c : Nat}
    (hr : W4.ownsRow (M + 1 + 1 + 1) 97 5 (.slice (some ⟨g, 0, none⟩) n c) n (ftCells (acc ++ [y]))) (hn : n = (acc ++ [y]).length) (hat : wv.ownBlock = some g ∨ W.heap.size ≤ g) (hM : w.heap.size = M) :
    WithR w (W4.setCell ⟨M + 1 + 1 + 1 + 1, 1, none⟩ (.slice (some ⟨g, 0, none⟩) n c)) M u v x (acc ++ [y]) (.slice (some ⟨g, 0, none⟩) n c) := by
  have ha := h.apart
  have hb := h.fr.size
  have hm := h.m.lt
  have ho := h.o.lt
  have F2 : Fr [M + 1 + 1 + 1 + 1] W4 (W4.setCell ⟨M + 1 + 1 + 1 + 1, 1, none⟩ (.slice (some ⟨g, 0, none⟩) n c)) := (Fr.refl _ W4).setCell (fun _ => by simp) _
  have hg : g ≠ M + 1 + 1 + 1 + 1 := by
    rcases hat with h | h
    · exact (ha g h).2
    · omega
  refine ⟨(h.m.keep F (notOwn fun q e => by have := (ha q e).1; omega)).keep F2 (by rw [List.mem_singleton]; omega), (h.l.keep F (notOwn fun q e => by have := (ha q e).1; omega)).keep F2 (by rw [List.mem_singleton]; omega), (h.r.keep F (notOwn fun q e => by have := (ha q e).1; omega)).keep F2 (by rw [List.mem_singleton]; omega), ?_, (h.o.keep F (notOwn fun q e => (ha q e).2)).set1 _, ?_⟩
  · rw [← hn]
    exact row_frS hr F2 (fun q e => by cases e; rw [List.mem_singleton]; exact hg)
  · exact (h.fr.trans F (fun q hq hl => by rw [Option.mem_toList] at hq; have := (ha q hq).1; omega)).trans F2 (fun q hq hl => by rw [List.mem_singleton] at hq; omega)
theorem with_any (au : Option Addr) (nu cu : Nat) (vl : Value) (L : List Ft) (hl : L.length ≤ 1000) (x : Ft) (w : World) (h : FtRow w vl L) :
    Calls Tryd.prog 41 #[.agg #[.slice au nu cu, vl], lnV x] w fun e w' => ∃ vl', e = .returned (.agg #[.slice au nu cu, vl']) ∧ FtRow w' vl' (withL L x) ∧ (∀ g off n c, vl' = .slice (some ⟨g, off, none⟩) n c → w.heap.size ≤ g) ∧ Fr [] w w' := by
  obtain ⟨a, cap, rfl⟩ := h.val
  obtain ⟨m, hm⟩ : ∃ m, L.length = m := ⟨_, rfl⟩
  rw [hm] at hl h ⊢
  obtain ⟨W0, hW0⟩ : ∃ W, ((((w.alloc (.cells #[.slice au nu cu, .slice a m cap] 58)).alloc (.cells #[.int .i64 x.k, .int .i64 x.c, .int .i64 x.d, .int .i64 x.a, .int .i64 x.g] 97)).alloc (.cells #[.slice none 0 0, .slice none 0 0] 58)).alloc (.cells #[.int .i64 x.k, .int .i64 x.c, .int .i64 x.d, .int .i64 x.a, .int .i64 x.g] 97)).alloc (.cells #[.slice au nu cu, .slice (some ⟨w.heap.size + 1 + 1 + 1, 0, none⟩) 1 1] 58) = W := ⟨_, rfl⟩
  obtain ⟨s1, s2, s3, s4, s5, s6⟩ := with_start w (.slice au nu cu) (.slice a m cap) x hW0
  have hWR : WithR w W0 w.heap.size (.slice au nu cu) (.slice a m cap) x [x] (.slice (some ⟨w.heap.size + 1 + 1 + 1, 0, none⟩) 1 1) := ⟨s1, s2, s3, s4, s5, s6⟩
  have WR := Lib.hid hWR
  have HM := Lib.hid hm
  have HR := Lib.hid h
  have HW := Lib.hid hW0
  clear h hm hWR s1 s2 s3 s4 s5 s6 hW0
  unfold lnV
  obtain ⟨xc, xd, xq, xb, xl⟩ := x
  simp only at HW ⊢
  go_enter Tryd.func41, Tryd.ntmps41
  go_wp2
  obtain ⟨M, hM⟩ : ∃ M, w.heap.size = M := ⟨_, rfl⟩
  have HM2 := Lib.hid hM
  simp only [HW.out]
  simp only [hM] at WR ⊢
  clear hM
  go_loopw [6] (fun i wr => ∃ (k : Nat) (acc : List Ft) (aw : Option Addr) (na cw : Nat), i = .int .i64 k ∧ k ≤ m ∧ acc = ⟨xc, xd, xq, xb, xl⟩ :: (L.take k).filter (fun y => !laneIs xc xd y) ∧ acc.length = na ∧ WithR w wr M (.slice au nu cu) (.slice a m cap) ⟨xc, xd, xq, xb, xl⟩ acc (.slice aw na cw)) (fun i _ => m - (intOf i).toNat)
  case atStart => exact ⟨0, _, _, _, _, rfl, by omega, rfl, rfl, WR.out⟩
  case round =>
    rename_i wr
    obtain ⟨k, acc, aw, na, cw, rfl, hk, hacc, hna, hR⟩ := hrel
    have md1 := hR.m.c1
    have l0 := hR.l.c0
    have l1 := hR.l.c1
    have o1 := hR.o.c1
    have oz := hR.o.fz
    simp only at l0 l1
    by_cases hlt : k < m
    · have hx := List.getElem?_eq_getElem (l := L) (i := k) (by rw [HM.out]; exact hlt)
      obtain ⟨y, hxe⟩ : ∃ x, L[k]'(by rw [HM.out]; exact hlt) = x := ⟨_, rfl⟩
      rw [hxe] at hx
      rcases HR.out.new hR.fr with ⟨h1, _⟩ | ⟨g, off, cap', hv, hg, hcells⟩
      · rw [h1] at hx
        simp at hx
      have hgM : g < M := by
        rcases HR.out with ⟨h1, _⟩ | ⟨g', off', cap'', hv', hg', _⟩
        · rw [h1] at hx
          simp at hx
        · rw [hv] at hv'
          cases hv'
          have := HM2.out
          omega
      have HGM := Lib.hid hgM
      clear hgM
      rw [HM.out] at hv
      simp only [Value.slice.injEq] at hv
      obtain ⟨rfl, _, rfl⟩ := hv
      obtain ⟨c0, c1, c2, c3, c4⟩ := hcells k y hx
      have k0 : (0 : Int) ≤ (k : Int) := Int.natCast_nonneg _
      have k1 : (k : Int) < (m : Int) := by omega
      have hnext : ⟨xc, xd, xq, xb, xl⟩ :: (L.take (k + 1)).filter (fun y => !laneIs xc xd y) = acc ++ (if laneIs xc xd y = true then [] else [y]) := by
        rw [List.take_add_one, hx, List.filter_append, hacc]
        cases hy : laneIs xc xd y <;> simp [hy]
      have HNX := Lib.hid hnext
      have HRR := Lib.hid hR
      have HNA := Lib.hid hna
      clear hx hacc hxe hcells hg hnext hR hna
      obtain ⟨yk, yc, yd, ya, yg⟩ := y
      simp only at c0 c1 c2 c3 c4
      by_cases e1 : yk = xc
      · have e1' := e1.symm
        clear e1
        subst e1'
        by_cases e2 : yc = xd
        · have e2' := e2.symm
          clear e2
          subst e2'
          have h9 := HNX.out
          rw [show laneIs xc xd ⟨xc, xd, yd, ya, yg⟩ = true by simp [laneIs], if_pos rfl, List.append_nil] at h9
          have HN2 := Lib.hid h9
          clear h9
          go_wp2
          go_quiet (fail)
          go_wp2
          go_roundw
          case rel => exact ⟨k + 1, acc, _, _, _, by go_num, by omega, HN2.out.symm, HNA.out, HRR.out.new ((Fr.refl [] _).drewN _)⟩
          case measure => simp [intOf]; omega
        · have g2 : (yc != xd) = true := bne_iff_ne.2 e2
          have h9 := HNX.out
          rw [show laneIs xc xd ⟨xc, yc, yd, ya, yg⟩ = false by simp [laneIs, e2], if_neg (by simp)] at h9
          have HN2 := Lib.hid h9
          clear h9 e2
          go_wp2
          go_quiet (fail)
          go_wp2
          have f1 : Fr [] wr (wr.drewN nq) := (Fr.refl [] wr).drewN _
          have R1 := Lib.hid (HRR.out.new f1)
          have d0 := f1.keep c0 (by simp)
          have d1 := f1.keep c1 (by simp)
          have d2 := f1.keep c2 (by simp)
          have d3 := f1.keep c3 (by simp)
          have d4 := f1.keep c4 (by simp)
          have md2 := f1.keep md1 (by simp)
          have o2 := f1.keep o1 (by simp)
          have oz2 := R1.out.o.fz
          obtain ⟨W1, hW1⟩ : ∃ W, wr.drewN nq = W := ⟨_, rfl⟩
          simp only [hW1] at R1 d0 d1 d2 d3 d4 md2 o2 oz2 ⊢
          clear c0 c1 c2 c3 c4 md1 o1 oz hW1 f1 HRR l0 l1
          have hbs := R1.out.fr.size
          have hob := R1.out.o.lt
          have RW := Lib.hid (show W1.ownsRow (M + 1 + 1 + 1) 97 5 (.slice aw na cw) na (ftCells acc) by have h := R1.out.row; rw [HNA.out] at h; exact h)
          have hna : na ≤ 1001 := by
            have h := congrArg List.length HN2.out
            rw [List.length_append, HNA.out] at h
            have h2 := List.length_filter_le (fun y => !laneIs xc xd y) (L.take (k + 1))
            rw [List.length_take] at h2
            simp only [List.length_cons, List.length_nil] at h
            omega
          obtain ⟨i0, hi, hz0, hz1, hz2⟩ := info_parts infoLn
          have ha := R1.out.apart
          have ng : g ∉ (Value.slice aw na cw).ownBlock.toList := notOwn fun q e => by have := (ha q e).1; have := HGM.out; omega
          have nM : M ∉ (Value.slice aw na cw).ownBlock.toList := notOwn fun q e => by have := (ha q e).1; omega
          have nO : M + 1 + 1 + 1 + 1 ∉ (Value.slice aw na cw).ownBlock.toList := notOwn fun q e => (ha q e).2
          clear ha
          have hgM := HGM.out
          have fA : Fr [] W1 (W1.drew.alloc (.cells #[.int .i64 xc, .int .i64 yc, .int .i64 yd, .int .i64 ya, .int .i64 yg] 97)) := ((Fr.refl [] W1).drewN 1).alloc _
          have o3 := fA.keep o2 (by simp)
          have o4 : W1.drew.cell? ⟨M + 1 + 1 + 1 + 1, 1, none⟩ = some (.slice aw na cw) := o2
          have HFA := Lib.hid fA
          clear fA
          refine wp_region_held_drew (S := fun w' => w'.cell? ⟨g, off + k * 5, none⟩ = some (.int .i64 xc) ∧ w'.cell? ⟨g, off + k * 5 + 1, none⟩ = some (.int .i64 yc) ∧ w'.cell? ⟨g, off + k * 5 + 2, none⟩ = some (.int .i64 yd) ∧ w'.cell? ⟨g, off + k * 5 + 3, none⟩ = some (.int .i64 ya) ∧ w'.cell? ⟨g, off + k * 5 + 4, none⟩ = some (.int .i64 yg) ∧ w'.cell? ⟨M, 1, none⟩ = some (.slice (some ⟨g, off, none⟩) m cap)) (by kernel_rfl) (⟨d0, d1, d2, d3, d4, md2⟩) (fun hHeld => ?_)
          refine wpAnyH_take (i := 0) (oi := _) (v := ?_) rfl (by kernel_rfl) (by kernel_rfl) (by kernel_rfl) (fun _ _ _ h => h) (Or.inl ⟨by rfl, ?_⟩) (by assumption) ?_
          rotate_left
          · intro w hSw
            try dsimp only at hSw
            go_simp
            try with_reducible rfl
          try simp only [Act.put, List.setIfInBounds_toArray, List.set_cons_zero, List.set_cons_succ]
          refine wpAnyH_take (i := 2) (oi := _) (v := ?_) rfl (by kernel_rfl) (by kernel_rfl) (by kernel_rfl) (fun _ _ _ h => h) (Or.inl ⟨by rfl, ?_⟩) (by assumption) ?_
          rotate_left
          · intro w hSw
            try dsimp only at hSw
            go_simp
            try with_reducible rfl
          try simp only [Act.put, List.setIfInBounds_toArray, List.set_cons_zero, List.set_cons_succ]
          refine wpAnyH_take (i := 3) (oi := _) (v := ?_) rfl (by kernel_rfl) (by kernel_rfl) (by kernel_rfl) (fun _ _ _ h => h) (Or.inl ⟨by rfl, ?_⟩) (by assumption) ?_
          rotate_left
          · intro w hSw
            try dsimp only at hSw
            go_simp
            try with_reducible rfl
          try simp only [Act.put, List.setIfInBounds_toArray, List.set_cons_zero, List.set_cons_succ]
          refine wpAnyH_take (i := 4) (oi := _) (v := ?_) rfl (by kernel_rfl) (by kernel_rfl) (by kernel_rfl) (fun _ _ _ h => h) (Or.inl ⟨by rfl, ?_⟩) (by assumption) ?_
          rotate_left
          · intro w hSw
            try dsimp only at hSw
            go_simp
            try with_reducible rfl
          try simp only [Act.put, List.setIfInBounds_toArray, List.set_cons_zero, List.set_cons_succ]
          refine wpAnyH_take (i := 5) (oi := _) (v := ?_) rfl (by kernel_rfl) (by kernel_rfl) (by kernel_rfl) (fun _ _ _ h => h) (Or.inl ⟨by rfl, ?_⟩) (by assumption) ?_
          rotate_left
          · intro w hSw
            try dsimp only at hSw
            go_simp
            try with_reducible rfl
          try simp only [Act.put, List.setIfInBounds_toArray, List.set_cons_zero, List.set_cons_succ]
          refine wpAnyH_take (i := 6) (oi := _) (v := ?_) rfl (by kernel_rfl) (by kernel_rfl) (by kernel_rfl) (fun _ _ _ h => h) (Or.inl ⟨by rfl, ?_⟩) (by assumption) ?_
          rotate_left
          · intro w hSw
            try dsimp only at hSw
            go_simp
            try with_reducible rfl
          try simp only [Act.put, List.setIfInBounds_toArray, List.set_cons_zero, List.set_cons_succ]
          refine wpAnyH_ready (rs := [1, 7]) (by kernel_rfl) (by simp) ?_
          refine AllReadyH.cons (o := _) rfl (fun K hK => ?_) (AllReadyH.cons (o := _) rfl (fun K hK => ?_) AllReadyH.nil)
          · skip
            go_simp
            refine hK.out _ _ (hHeld) (fun hHeld => ?_)
            clear hK K
            try simp only [Act.put, List.setIfInBounds_toArray, List.set_cons_zero, List.set_cons_succ]
            refine wpAnyH_ready (rs := [7]) (by kernel_rfl) (by simp) ?_
            refine AllReadyH.cons (o := _) rfl (fun K hK => ?_) AllReadyH.nil
            go_simp
            refine hK.out _ _ (⟨HFA.out.keep d0 (by simp), HFA.out.keep d1 (by simp), HFA.out.keep d2 (by simp), HFA.out.keep d3 (by simp), HFA.out.keep d4 (by simp), HFA.out.keep md2 (by simp)⟩) (fun hHeld => ?_)
            clear hK K
            try simp only [Act.put, List.setIfInBounds_toArray, List.set_cons_zero, List.set_cons_succ]
            refine wpAnyH_ready (rs := [8]) (by kernel_rfl) (by simp) ?_
            refine AllReadyH.cons (o := _) rfl (fun K hK => ?_) AllReadyH.nil
            refine step_append_lies _ (by rfl) (.tmp 40) (.tmp 46) _ (by rfl) (M + 1 + 1 + 1) 97 i0 _ 5 40 Tryd.underlying56 hi hz0 hz1 hz2 rfl (by omega) (.slice aw na cw) na (ftCells acc) (by rfl) (row_fr RW.out HFA.out) _ 1 1 [.int .i64 xc, .int .i64 yc, .int .i64 yd, .int .i64 ya, .int .i64 yg] (by rfl) (by rfl) (World.news_of_block (cs := #[.int .i64 xc, .int .i64 yc, .int .i64 yd, .int .i64 ya, .int .i64 yg]) (t := 97) (fr := (0, 0)) (World.alloc_heap_new _ _)) (by simp [Value.oneCell']) (by omega) (by simp only [maxLen]; omega) (by omega) (Nat.le_trans (show M + 1 + 1 + 1 ≤ W1.heap.size by omega) HFA.out.size) _ rfl ?_
            intro g6 cap6 w4 hown6 hgrow6 hat6 hlt6
            have F6 : Fr (Value.slice aw na cw).ownBlock.toList W1 w4 := (fr_up HFA.out).trans (grownFr hgrow6 (fun q e => by simp [e])) (fun q hq _ => hq)
            have oz6 := (R1.out.o.keep F6 nO).fz
            have o6 := F6.keep o2 nO
            refine hK.out _ _ (⟨F6.keep d0 ng, F6.keep d1 ng, F6.keep d2 ng, F6.keep d3 ng, F6.keep d4 ng, F6.keep md2 nM⟩) (fun hHeld => ?_)
            clear hK K
            try simp only [Act.put, List.setIfInBounds_toArray, List.set_cons_zero, List.set_cons_succ]
            refine wpAnyH_take (i := 9) (oi := _) (v := ?_) rfl (by kernel_rfl) (by kernel_rfl) (by kernel_rfl) (fun _ _ _ h => h) (Or.inl ⟨by rfl, ?_⟩) (by assumption) ?_
            rotate_left
            · intro w hSw
              try dsimp only at hSw
              go_simp
              try with_reducible rfl
            try simp only [Act.put, List.setIfInBounds_toArray, List.set_cons_zero, List.set_cons_succ]
            have F7 : Fr [M + 1 + 1 + 1 + 1] w4 (w4.setCell ⟨M + 1 + 1 + 1 + 1, 1, none⟩ (.slice (some ⟨g6, 0, none⟩) (na + 1) cap6)) := (Fr.refl _ w4).setCell (fun _ => by simp) _
            refine wpAnyH_ready (rs := [10]) (by kernel_rfl) (by simp) ?_
            refine AllReadyH.cons (o := _) rfl (fun K hK => ?_) AllReadyH.nil
            go_simp
            refine hK.out _ _ (⟨F7.keep (F6.keep d0 ng) (by rw [List.mem_singleton]; omega), F7.keep (F6.keep d1 ng) (by rw [List.mem_singleton]; omega), F7.keep (F6.keep d2 ng) (by rw [List.mem_singleton]; omega), F7.keep (F6.keep d3 ng) (by rw [List.mem_singleton]; omega), F7.keep (F6.keep d4 ng) (by rw [List.mem_singleton]; omega), F7.keep (F6.keep md2 nM) (by rw [List.mem_singleton]; omega)⟩) (fun hHeld => ?_)
            clear hK K
            try simp only [Act.put, List.setIfInBounds_toArray, List.set_cons_zero, List.set_cons_succ]
            refine wpAnyH_done (by kernel_rfl) ?_ _
            have hlen : (acc ++ [(⟨xc, yc, yd, ya, yg⟩ : Ft)]).length = na + 1 := by rw [List.length_append, HNA.out]; rfl
            have HMORE := Lib.hid (R1.out.more F6 ⟨xc, yc, yd, ya, yg⟩ (by rw [ftCells_app]; exact hown6) hlen.symm (hat6.imp id (fun e => by rw [e]; exact HFA.out.size)) HM2.out)
            have HLEN := Lib.hid hlen
            clear hlen hgM hown6 hgrow6 hat6 hlt6 o6 oz6 F6 F7
            go_wp2
            go_roundw
            case rel => exact ⟨k + 1, _, _, _, _, by go_num, by omega, HN2.out.symm, HLEN.out, HMORE.out⟩
            case measure => simp [intOf]; omega
          · skip
            go_simp
            refine hK.out _ _ (⟨HFA.out.keep d0 (by simp), HFA.out.keep d1 (by simp), HFA.out.keep d2 (by simp), HFA.out.keep d3 (by simp), HFA.out.keep d4 (by simp), HFA.out.keep md2 (by simp)⟩) (fun hHeld => ?_)
            clear hK K
            try simp only [Act.put, List.setIfInBounds_toArray, List.set_cons_zero, List.set_cons_succ]
            refine wpAnyH_ready (rs := [1]) (by kernel_rfl) (by simp) ?_
            refine AllReadyH.cons (o := _) rfl (fun K hK => ?_) AllReadyH.nil
            go_simp
            refine hK.out _ _ (⟨HFA.out.keep d0 (by simp), HFA.out.keep d1 (by simp), HFA.out.keep d2 (by simp), HFA.out.keep d3 (by simp), HFA.out.keep d4 (by simp), HFA.out.keep md2 (by simp)⟩) (fun hHeld => ?_)
            clear hK K
            try simp only [Act.put, List.setIfInBounds_toArray, List.set_cons_zero, List.set_cons_succ]
            refine wpAnyH_ready (rs := [8]) (by kernel_rfl) (by simp) ?_
            refine AllReadyH.cons (o := _) rfl (fun K hK => ?_) AllReadyH.nil
            refine step_append_lies _ (by rfl) (.tmp 40) (.tmp 46) _ (by rfl) (M + 1 + 1 + 1) 97 i0 _ 5 40 Tryd.underlying56 hi hz0 hz1 hz2 rfl (by omega) (.slice aw na cw) na (ftCells acc) (by rfl) (row_fr RW.out HFA.out) _ 1 1 [.int .i64 xc, .int .i64 yc, .int .i64 yd, .int .i64 ya, .int .i64 yg] (by rfl) (by rfl) (World.news_of_block (cs := #[.int .i64 xc, .int .i64 yc, .int .i64 yd, .int .i64 ya, .int .i64 yg]) (t := 97) (fr := (0, 0)) (World.alloc_heap_new _ _)) (by simp [Value.oneCell']) (by omega) (by simp only [maxLen]; omega) (by omega) (Nat.le_trans (show M + 1 + 1 + 1 ≤ W1.heap.size by omega) HFA.out.size) _ rfl ?_
            intro g6 cap6 w4 hown6 hgrow6 hat6 hlt6
            have F6 : Fr (Value.slice aw na cw).ownBlock.toList W1 w4 := (fr_up HFA.out).trans (grownFr hgrow6 (fun q e => by simp [e])) (fun q hq _ => hq)
            have oz6 := (R1.out.o.keep F6 nO).fz
            have o6 := F6.keep o2 nO
            refine hK.out _ _ (⟨F6.keep d0 ng, F6.keep d1 ng, F6.keep d2 ng, F6.keep d3 ng, F6.keep d4 ng, F6.keep md2 nM⟩) (fun hHeld => ?_)
            clear hK K
            try simp only [Act.put, List.setIfInBounds_toArray, List.set_cons_zero, List.set_cons_succ]
            refine wpAnyH_take (i := 9) (oi := _) (v := ?_) rfl (by kernel_rfl) (by kernel_rfl) (by kernel_rfl) (fun _ _ _ h => h) (Or.inl ⟨by rfl, ?_⟩) (by assumption) ?_
            rotate_left
            · intro w hSw
              try dsimp only at hSw
              go_simp
              try with_reducible rfl
            try simp only [Act.put, List.setIfInBounds_toArray, List.set_cons_zero, List.set_cons_succ]
            have F7 : Fr [M + 1 + 1 + 1 + 1] w4 (w4.setCell ⟨M + 1 + 1 + 1 + 1, 1, none⟩ (.slice (some ⟨g6, 0, none⟩) (na + 1) cap6)) := (Fr.refl _ w4).setCell (fun _ => by simp) _
            refine wpAnyH_ready (rs := [10]) (by kernel_rfl) (by simp) ?_
            refine AllReadyH.cons (o := _) rfl (fun K hK => ?_) AllReadyH.nil
            go_simp
            refine hK.out _ _ (⟨F7.keep (F6.keep d0 ng) (by rw [List.mem_singleton]; omega), F7.keep (F6.keep d1 ng) (by rw [List.mem_singleton]; omega), F7.keep (F6.keep d2 ng) (by rw [List.mem_singleton]; omega), F7.keep (F6.keep d3 ng) (by rw [List.mem_singleton]; omega), F7.keep (F6.keep d4 ng) (by rw [List.mem_singleton]; omega), F7.keep (F6.keep md2 nM) (by rw [List.mem_singleton]; omega)⟩) (fun hHeld => ?_)
            clear hK K
            try simp only [Act.put, List.setIfInBounds_toArray, List.set_cons_zero, List.set_cons_succ]
            refine wpAnyH_done (by kernel_rfl) ?_ _
            have hlen : (acc ++ [(⟨xc, yc, yd, ya, yg⟩ : Ft)]).length = na + 1 := by rw [List.length_append, HNA.out]; rfl
            have HMORE := Lib.hid (R1.out.more F6 ⟨xc, yc, yd, ya, yg⟩ (by rw [ftCells_app]; exact hown6) hlen.symm (hat6.imp id (fun e => by rw [e]; exact HFA.out.size)) HM2.out)
            have HLEN := Lib.hid hlen
            clear hlen hgM hown6 hgrow6 hat6 hlt6 o6 oz6 F6 F7
            go_wp2
            go_roundw
            case rel => exact ⟨k + 1, _, _, _, _, by go_num, by omega, HN2.out.symm, HLEN.out, HMORE.out⟩
            case measure => simp [intOf]; omega
      · have g1 : (yk != xc) = true := bne_iff_ne.2 e1
        have h9 := HNX.out
        rw [show laneIs xc xd ⟨yk, yc, yd, ya, yg⟩ = false by simp [laneIs, e1], if_neg (by simp)] at h9
        have HN2 := Lib.hid h9
        clear h9 e1
        go_wp2
        go_quiet (fail)
        go_wp2
        have f1 : Fr [] wr (wr.drewN nq) := (Fr.refl [] wr).drewN _
        have R1 := Lib.hid (HRR.out.new f1)
        have d0 := f1.keep c0 (by simp)
        have d1 := f1.keep c1 (by simp)
        have d2 := f1.keep c2 (by simp)
        have d3 := f1.keep c3 (by simp)
        have d4 := f1.keep c4 (by simp)
        have md2 := f1.keep md1 (by simp)
        have o2 := f1.keep o1 (by simp)
        have oz2 := R1.out.o.fz
        obtain ⟨W1, hW1⟩ : ∃ W, wr.drewN nq = W := ⟨_, rfl⟩
        simp only [hW1] at R1 d0 d1 d2 d3 d4 md2 o2 oz2 ⊢
        clear c0 c1 c2 c3 c4 md1 o1 oz hW1 f1 HRR l0 l1
        have hbs := R1.out.fr.size
        have hob := R1.out.o.lt
        have RW := Lib.hid (show W1.ownsRow (M + 1 + 1 + 1) 97 5 (.slice aw na cw) na (ftCells acc) by have h := R1.out.row; rw [HNA.out] at h; exact h)
        have hna : na ≤ 1001 := by
          have h := congrArg List.length HN2.out
          rw [List.length_append, HNA.out] at h
          have h2 := List.length_filter_le (fun y => !laneIs xc xd y) (L.take (k + 1))
          rw [List.length_take] at h2
          simp only [List.length_cons, List.length_nil] at h
          omega
        obtain ⟨i0, hi, hz0, hz1, hz2⟩ := info_parts infoLn
        have ha := R1.out.apart
        have ng : g ∉ (Value.slice aw na cw).ownBlock.toList := notOwn fun q e => by have := (ha q e).1; have := HGM.out; omega
        have nM : M ∉ (Value.slice aw na cw).ownBlock.toList := notOwn fun q e => by have := (ha q e).1; omega
        have nO : M + 1 + 1 + 1 + 1 ∉ (Value.slice aw na cw).ownBlock.toList := notOwn fun q e => (ha q e).2
        clear ha
        have hgM := HGM.out
        have fA : Fr [] W1 (W1.drew.alloc (.cells #[.int .i64 yk, .int .i64 yc, .int .i64 yd, .int .i64 ya, .int .i64 yg] 97)) := ((Fr.refl [] W1).drewN 1).alloc _
        have o3 := fA.keep o2 (by simp)
        have o4 : W1.drew.cell? ⟨M + 1 + 1 + 1 + 1, 1, none⟩ = some (.slice aw na cw) := o2
        have HFA := Lib.hid fA
        clear fA
        refine wp_region_held_drew (S := fun w' => w'.cell? ⟨g, off + k * 5, none⟩ = some (.int .i64 yk) ∧ w'.cell? ⟨g, off + k * 5 + 1, none⟩ = some (.int .i64 yc) ∧ w'.cell? ⟨g, off + k * 5 + 2, none⟩ = some (.int .i64 yd) ∧ w'.cell? ⟨g, off + k * 5 + 3, none⟩ = some (.int .i64 ya) ∧ w'.cell? ⟨g, off + k * 5 + 4, none⟩ = some (.int .i64 yg) ∧ w'.cell? ⟨M, 1, none⟩ = some (.slice (some ⟨g, off, none⟩) m cap)) (by kernel_rfl) (⟨d0, d1, d2, d3, d4, md2⟩) (fun hHeld => ?_)
        refine wpAnyH_take (i := 0) (oi := _) (v := ?_) rfl (by kernel_rfl) (by kernel_rfl) (by kernel_rfl) (fun _ _ _ h => h) (Or.inl ⟨by rfl, ?_⟩) (by assumption) ?_
        rotate_left
        · intro w hSw
          try dsimp only at hSw
          go_simp
          try with_reducible rfl
        try simp only [Act.put, List.setIfInBounds_toArray, List.set_cons_zero, List.set_cons_succ]
        refine wpAnyH_take (i := 2) (oi := _) (v := ?_) rfl (by kernel_rfl) (by kernel_rfl) (by kernel_rfl) (fun _ _ _ h => h) (Or.inl ⟨by rfl, ?_⟩) (by assumption) ?_
        rotate_left
        · intro w hSw
          try dsimp only at hSw
          go_simp
          try with_reducible rfl
        try simp only [Act.put, List.setIfInBounds_toArray, List.set_cons_zero, List.set_cons_succ]
        refine wpAnyH_take (i := 3) (oi := _) (v := ?_) rfl (by kernel_rfl) (by kernel_rfl) (by kernel_rfl) (fun _ _ _ h => h) (Or.inl ⟨by rfl, ?_⟩) (by assumption) ?_
        rotate_left
        · intro w hSw
          try dsimp only at hSw
          go_simp
          try with_reducible rfl
        try simp only [Act.put, List.setIfInBounds_toArray, List.set_cons_zero, List.set_cons_succ]
        refine wpAnyH_take (i := 4) (oi := _) (v := ?_) rfl (by kernel_rfl) (by kernel_rfl) (by kernel_rfl) (fun _ _ _ h => h) (Or.inl ⟨by rfl, ?_⟩) (by assumption) ?_
        rotate_left
        · intro w hSw
          try dsimp only at hSw
          go_simp
          try with_reducible rfl
        try simp only [Act.put, List.setIfInBounds_toArray, List.set_cons_zero, List.set_cons_succ]
        refine wpAnyH_take (i := 5) (oi := _) (v := ?_) rfl (by kernel_rfl) (by kernel_rfl) (by kernel_rfl) (fun _ _ _ h => h) (Or.inl ⟨by rfl, ?_⟩) (by assumption) ?_
        rotate_left
        · intro w hSw
          try dsimp only at hSw
          go_simp
          try with_reducible rfl
        try simp only [Act.put, List.setIfInBounds_toArray, List.set_cons_zero, List.set_cons_succ]
        refine wpAnyH_take (i := 6) (oi := _) (v := ?_) rfl (by kernel_rfl) (by kernel_rfl) (by kernel_rfl) (fun _ _ _ h => h) (Or.inl ⟨by rfl, ?_⟩) (by assumption) ?_
        rotate_left
        · intro w hSw
          try dsimp only at hSw
          go_simp
          try with_reducible rfl
        try simp only [Act.put, List.setIfInBounds_toArray, List.set_cons_zero, List.set_cons_succ]
        refine wpAnyH_ready (rs := [1, 7]) (by kernel_rfl) (by simp) ?_
        refine AllReadyH.cons (o := _) rfl (fun K hK => ?_) (AllReadyH.cons (o := _) rfl (fun K hK => ?_) AllReadyH.nil)
        · skip
          go_simp
          refine hK.out _ _ (hHeld) (fun hHeld => ?_)
          clear hK K
          try simp only [Act.put, List.setIfInBounds_toArray, List.set_cons_zero, List.set_cons_succ]
          refine wpAnyH_ready (rs := [7]) (by kernel_rfl) (by simp) ?_
          refine AllReadyH.cons (o := _) rfl (fun K hK => ?_) AllReadyH.nil
          go_simp
          refine hK.out _ _ (⟨HFA.out.keep d0 (by simp), HFA.out.keep d1 (by simp), HFA.out.keep d2 (by simp), HFA.out.keep d3 (by simp), HFA.out.keep d4 (by simp), HFA.out.keep md2 (by simp)⟩) (fun hHeld => ?_)
          clear hK K
          try simp only [Act.put, List.setIfInBounds_toArray, List.set_cons_zero, List.set_cons_succ]
          refine wpAnyH_ready (rs := [8]) (by kernel_rfl) (by simp) ?_
          refine AllReadyH.cons (o := _) rfl (fun K hK => ?_) AllReadyH.nil
          refine step_append_lies _ (by rfl) (.tmp 40) (.tmp 46) _ (by rfl) (M + 1 + 1 + 1) 97 i0 _ 5 40 Tryd.underlying56 hi hz0 hz1 hz2 rfl (by omega) (.slice aw na cw) na (ftCells acc) (by rfl) (row_fr RW.out HFA.out) _ 1 1 [.int .i64 yk, .int .i64 yc, .int .i64 yd, .int .i64 ya, .int .i64 yg] (by rfl) (by rfl) (World.news_of_block (cs := #[.int .i64 yk, .int .i64 yc, .int .i64 yd, .int .i64 ya, .int .i64 yg]) (t := 97) (fr := (0, 0)) (World.alloc_heap_new _ _)) (by simp [Value.oneCell']) (by omega) (by simp only [maxLen]; omega) (by omega) (Nat.le_trans (show M + 1 + 1 + 1 ≤ W1.heap.size by omega) HFA.out.size) _ rfl ?_
          intro g6 cap6 w4 hown6 hgrow6 hat6 hlt6
          have F6 : Fr (Value.slice aw na cw).ownBlock.toList W1 w4 := (fr_up HFA.out).trans (grownFr hgrow6 (fun q e => by simp [e])) (fun q hq _ => hq)
          have oz6 := (R1.out.o.keep F6 nO).fz
          have o6 := F6.keep o2 nO
          refine hK.out _ _ (⟨F6.keep d0 ng, F6.keep d1 ng, F6.keep d2 ng, F6.keep d3 ng, F6.keep d4 ng, F6.keep md2 nM⟩) (fun hHeld => ?_)
          clear hK K
          try simp only [Act.put, List.setIfInBounds_toArray, List.set_cons_zero, List.set_cons_succ]
          refine wpAnyH_take (i := 9) (oi := _) (v := ?_) rfl (by kernel_rfl) (by kernel_rfl) (by kernel_rfl) (fun _ _ _ h => h) (Or.inl ⟨by rfl, ?_⟩) (by assumption) ?_
          rotate_left
          · intro w hSw
            try dsimp only at hSw
            go_simp
            try with_reducible rfl
          try simp only [Act.put, List.setIfInBounds_toArray, List.set_cons_zero, List.set_cons_succ]
          have F7 : Fr [M + 1 + 1 + 1 + 1] w4 (w4.setCell ⟨M + 1 + 1 + 1 + 1, 1, none⟩ (.slice (some ⟨g6, 0, none⟩) (na + 1) cap6)) := (Fr.refl _ w4).setCell (fun _ => by simp) _
          refine wpAnyH_ready (rs := [10]) (by kernel_rfl) (by simp) ?_
          refine AllReadyH.cons (o := _) rfl (fun K hK => ?_) AllReadyH.nil
          go_simp
          refine hK.out _ _ (⟨F7.keep (F6.keep d0 ng) (by rw [List.mem_singleton]; omega), F7.keep (F6.keep d1 ng) (by rw [List.mem_singleton]; omega), F7.keep (F6.keep d2 ng) (by rw [List.mem_singleton]; omega), F7.keep (F6.keep d3 ng) (by rw [List.mem_singleton]; omega), F7.keep (F6.keep d4 ng) (by rw [List.mem_singleton]; omega), F7.keep (F6.keep md2 nM) (by rw [List.mem_singleton]; omega)⟩) (fun hHeld => ?_)
          clear hK K
          try simp only [Act.put, List.setIfInBounds_toArray, List.set_cons_zero, List.set_cons_succ]
          refine wpAnyH_done (by kernel_rfl) ?_ _
          have hlen : (acc ++ [(⟨yk, yc, yd, ya, yg⟩ : Ft)]).length = na + 1 := by rw [List.length_append, HNA.out]; rfl
          have HMORE := Lib.hid (R1.out.more F6 ⟨yk, yc, yd, ya, yg⟩ (by rw [ftCells_app]; exact hown6) hlen.symm (hat6.imp id (fun e => by rw [e]; exact HFA.out.size)) HM2.out)
          have HLEN := Lib.hid hlen
          clear hlen hgM hown6 hgrow6 hat6 hlt6 o6 oz6 F6 F7
          go_wp2
          go_roundw
          case rel => exact ⟨k + 1, _, _, _, _, by go_num, by omega, HN2.out.symm, HLEN.out, HMORE.out⟩
          case measure => simp [intOf]; omega
        · skip
          go_simp
          refine hK.out _ _ (⟨HFA.out.keep d0 (by simp), HFA.out.keep d1 (by simp), HFA.out.keep d2 (by simp), HFA.out.keep d3 (by simp), HFA.out.keep d4 (by simp), HFA.out.keep md2 (by simp)⟩) (fun hHeld => ?_)
          clear hK K
          try simp only [Act.put, List.setIfInBounds_toArray, List.set_cons_zero, List.set_cons_succ]
          refine wpAnyH_ready (rs := [1]) (by kernel_rfl) (by simp) ?_
          refine AllReadyH.cons (o := _) rfl (fun K hK => ?_) AllReadyH.nil
          go_simp
          refine hK.out _ _ (⟨HFA.out.keep d0 (by simp), HFA.out.keep d1 (by simp), HFA.out.keep d2 (by simp), HFA.out.keep d3 (by simp), HFA.out.keep d4 (by simp), HFA.out.keep md2 (by simp)⟩) (fun hHeld => ?_)
          clear hK K
          try simp only [Act.put, List.setIfInBounds_toArray, List.set_cons_zero, List.set_cons_succ]
          refine wpAnyH_ready (rs := [8]) (by kernel_rfl) (by simp) ?_
          refine AllReadyH.cons (o := _) rfl (fun K hK => ?_) AllReadyH.nil
          refine step_append_lies _ (by rfl) (.tmp 40) (.tmp 46) _ (by rfl) (M + 1 + 1 + 1) 97 i0 _ 5 40 Tryd.underlying56 hi hz0 hz1 hz2 rfl (by omega) (.slice aw na cw) na (ftCells acc) (by rfl) (row_fr RW.out HFA.out) _ 1 1 [.int .i64 yk, .int .i64 yc, .int .i64 yd, .int .i64 ya, .int .i64 yg] (by rfl) (by rfl) (World.news_of_block (cs := #[.int .i64 yk, .int .i64 yc, .int .i64 yd, .int .i64 ya, .int .i64 yg]) (t := 97) (fr := (0, 0)) (World.alloc_heap_new _ _)) (by simp [Value.oneCell']) (by omega) (by simp only [maxLen]; omega) (by omega) (Nat.le_trans (show M + 1 + 1 + 1 ≤ W1.heap.size by omega) HFA.out.size) _ rfl ?_
          intro g6 cap6 w4 hown6 hgrow6 hat6 hlt6
          have F6 : Fr (Value.slice aw na cw).ownBlock.toList W1 w4 := (fr_up HFA.out).trans (grownFr hgrow6 (fun q e => by simp [e])) (fun q hq _ => hq)
          have oz6 := (R1.out.o.keep F6 nO).fz
          have o6 := F6.keep o2 nO
          refine hK.out _ _ (⟨F6.keep d0 ng, F6.keep d1 ng, F6.keep d2 ng, F6.keep d3 ng, F6.keep d4 ng, F6.keep md2 nM⟩) (fun hHeld => ?_)
          clear hK K
          try simp only [Act.put, List.setIfInBounds_toArray, List.set_cons_zero, List.set_cons_succ]
          refine wpAnyH_take (i := 9) (oi := _) (v := ?_) rfl (by kernel_rfl) (by kernel_rfl) (by kernel_rfl) (fun _ _ _ h => h) (Or.inl ⟨by rfl, ?_⟩) (by assumption) ?_
          rotate_left
          · intro w hSw
            try dsimp only at hSw
            go_simp
            try with_reducible rfl
          try simp only [Act.put, List.setIfInBounds_toArray, List.set_cons_zero, List.set_cons_succ]
          have F7 : Fr [M + 1 + 1 + 1 + 1] w4 (w4.setCell ⟨M + 1 + 1 + 1 + 1, 1, none⟩ (.slice (some ⟨g6, 0, none⟩) (na + 1) cap6)) := (Fr.refl _ w4).setCell (fun _ => by simp) _
          refine wpAnyH_ready (rs := [10]) (by kernel_rfl) (by simp) ?_
          refine AllReadyH.cons (o := _) rfl (fun K hK => ?_) AllReadyH.nil
          go_simp
          refine hK.out _ _ (⟨F7.keep (F6.keep d0 ng) (by rw [List.mem_singleton]; omega), F7.keep (F6.keep d1 ng) (by rw [List.mem_singleton]; omega), F7.keep (F6.keep d2 ng) (by rw [List.mem_singleton]; omega), F7.keep (F6.keep d3 ng) (by rw [List.mem_singleton]; omega), F7.keep (F6.keep d4 ng) (by rw [List.mem_singleton]; omega), F7.keep (F6.keep md2 nM) (by rw [List.mem_singleton]; omega)⟩) (fun hHeld => ?_)
          clear hK K
          try simp only [Act.put, List.setIfInBounds_toArray, List.set_cons_zero, List.set_cons_succ]
          refine wpAnyH_done (by kernel_rfl) ?_ _
          have hlen : (acc ++ [(⟨yk, yc, yd, ya, yg⟩ : Ft)]).length = na + 1 := by rw [List.length_append, HNA.out]; rfl
          have HMORE := Lib.hid (R1.out.more F6 ⟨yk, yc, yd, ya, yg⟩ (by rw [ftCells_app]; exact hown6) hlen.symm (hat6.imp id (fun e => by rw [e]; exact HFA.out.size)) HM2.out)
          have HLEN := Lib.hid hlen
          clear hlen hgM hown6 hgrow6 hat6 hlt6 o6 oz6 F6 F7
          go_wp2
          go_roundw
          case rel => exact ⟨k + 1, _, _, _, _, by go_num, by omega, HN2.out.symm, HLEN.out, HMORE.out⟩
          case measure => simp [intOf]; omega
    · have hkm : k = m := by omega
      subst hkm
      have ht : L.take k = L := List.take_of_length_le (by rw [HM.out]; omega)
      rw [ht] at hacc
      have HA := Lib.hid hacc
      have HRR := Lib.hid hR
      have HNA := Lib.hid hna
      have o0 := hR.o.c0
      have r0 := hR.r.c0
      have r1 := hR.r.c1
      have rz := hR.r.fz
      clear ht hacc hR hna hlt
      go_wp2
      have q1 : MdAt ((wr.setCell ⟨M + 1 + 1, 0, none⟩ (.slice au nu cu)).setCell ⟨M + 1 + 1, 1, none⟩ (.slice aw na cw)) (M + 1 + 1) (.slice au nu cu) (.slice aw na cw) := (HRR.out.r.set0 _).set1 _
      have m0 := q1.c0
      have m1 := q1.c1
      clear r0 r1
      refine bodyPost_ret (v := .agg #[.slice au nu cu, .slice aw na cw]) (by simp [results, Tryd.results41, go_sem, m0, m1]) rfl ?_
      have f2 : Fr [M + 1 + 1] wr ((wr.setCell ⟨M + 1 + 1, 0, none⟩ (.slice au nu cu)).setCell ⟨M + 1 + 1, 1, none⟩ (.slice aw na cw)) := ((Fr.refl [M + 1 + 1] wr).setCell (fun _ => by simp) _).setCell (fun _ => by simp) _
      have f3 : Fr [] w ((wr.setCell ⟨M + 1 + 1, 0, none⟩ (.slice au nu cu)).setCell ⟨M + 1 + 1, 1, none⟩ (.slice aw na cw)) := HRR.out.fr.trans f2 (fun y hy hl => by have := HM2.out; rw [List.mem_singleton] at hy; omega)
      have hrow := HRR.out.row
      rw [HNA.out] at hrow
      refine ⟨_, rfl, ?_, fun g off n c he => ?_, f3⟩
      rotate_left
      · have hb := hrow.2
        have := HM2.out
        rcases hb with ⟨h1, h2⟩ | ⟨g', cap', cur, h1, h2, _⟩
        · rw [h1] at he
          cases he
        · rw [h1] at he
          cases he
          omega
      have hL := LnRow.of (fs := acc) (by rw [HNA.out]; exact hrow)
      unfold withL
      rw [HA.out] at hL
      refine hL.keep f2 (fun g off n c he => ?_)
      have hb := hrow.2
      rcases hb with ⟨h1, h2⟩ | ⟨g', cap', cur, h1, h2, _⟩
      · rw [h1] at he
        cases he
      · rw [h1] at he
        cases he
        rw [List.mem_singleton]
        omega
end Go.Proofs.YtededfkenlhokaaDoor
