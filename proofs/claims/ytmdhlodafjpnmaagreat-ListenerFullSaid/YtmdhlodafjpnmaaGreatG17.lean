/- The program's Conns and Listeners of a net in memory. -/
import Derived.Test.YtmdhlodafjpnmaaGreatG16
import Derived.Test.YtmdhlodafjpnmaaGreatG14
namespace Go.Proofs.YtmdhlodafjpnmaaGreat
open Go.RowKit
open Go.Maps (Keyed)
set_option linter.unusedVariables false
set_option linter.unusedSimpArgs false
set_option maxRecDepth 100000
set_option maxHeartbeats 8000000

/-- A connection without bytes, as its state says. -/
def emb (y : PN.PC) : PG := ⟨y.ref, ⟨stE y.cap (wrOf y.a0) (rdOf y.a1), stE y.cap (wrOf y.a1) (rdOf y.a0), y.a0, y.a1⟩⟩
theorem nilQ_own (w : World) (B : Nat) (y : PN.PC) : CnO w B (emb y).c nilQ := ⟨BsO.nil w B, BsO.nil w B, BsO.nil w B, BsO.nil w B⟩
theorem rel_keys {C : List PN.PC} {D : List PN.PC} (h : PN.RelC C D) : (D.map (fun y => (y.ref : Int))).Perm (C.map (fun y => (y.ref : Int))) ∧ (D.map (fun y => (y.ref : Int))).Pairwise (· < ·) :=
  ⟨h.1.map _, List.pairwise_map.2 (h.2.imp (fun h => by omega))⟩
theorem rel_keysL {C : List PN.PL} {D : List PN.PL} (h : PN.RelL C D) : (D.map (fun y => (y.ref : Int))).Perm (C.map (fun y => (y.ref : Int))) ∧ (D.map (fun y => (y.ref : Int))).Pairwise (· < ·) :=
  ⟨h.1.map _, List.pairwise_map.2 (h.2.imp (fun h => by omega))⟩
theorem exec_lookup {P : Program} {o : Oper} {a : Act} {w w' : World} {v : Value} {t : TypeId} {m x : Operand} {M X : Value} (ho : o.op = .lookup t m x false) (hm : a.eval m = M) (hx : a.eval x = X) (hrun : (Instr.lookup t M X false).run P w = .ok v w') : (execOp a.eval o).run P w = .ok (.value v) w' := by
  simp [execOp, ho, hm, hx, hrun]
theorem exec_bld3 {P : Program} {o : Oper} {a : Act} {w w' : World} {v : Value} {t : TypeId} {x y z : Operand} {V U T : Value} (ho : o.op = .build t #[(0, x), (1, y), (2, z)]) (hx : a.eval x = V) (hy : a.eval y = U) (hz : a.eval z = T) (hrun : (Instr.build t #[(0, V), (1, U), (2, T)]).run P w = .ok v w') : (execOp a.eval o).run P w = .ok (.value v) w' := by
  simp [execOp, ho, hx, hy, hz, hrun]
theorem bldLg3 (s : ByteArray) (p most : Int) (q : Sli) : ∀ w, (Instr.build 98 #[(0, .agg #[.string s, .int .i64 p]), (1, .int .i64 most), (2, slv q)]).run Tryz.prog w = .ok (.agg #[.string s, .int .i64 p, .int .i64 most, slv q]) w := fun w => by kernel_rfl
theorem bldLs3 (x : PN.PL) (q : Sli) : ∀ w, (Instr.build 100 #[(0, .int .i64 x.ref), (1, .agg #[.string x.s, .int .i64 x.p, .int .i64 x.most, slv q])]).run Tryz.prog w = .ok (.agg (lsC x q).toArray) w := fun w => by kernel_rfl
theorem size120 : ∀ w, (sizeOf 120).run Tryz.prog w = .ok 3 w := fun w => by kernel_rfl
theorem most_any (b q m t : Nat) (most : Int) (closed : Bool) (l : List (Nat × Int)) (g : Nat) (w : World) (h : BackIs w b q m t most closed l g) :
    Calls Tryz.prog 59 #[.pointer (some ⟨b, 0, none⟩)] w fun e w' => e = .returned (.int .i64 most) ∧ w = w' := by
  have HN := Lib.hid (backNone_any w h)
  have c1 := h.c1
  clear h
  go_enter Tryz.func59, Tryz.ntmps59
  go_wp2_with (go_at_call 106; refine HN.out.mono ?_; rintro e w' ⟨rfl, rfl⟩)
  go_ret
  exact ⟨rfl, rfl⟩
def ConnsOut (D : List PN.PC) (w : World) (e : Ending) (w' : World) : Prop := ∃ s : Sli, e = .returned (slv s) ∧ CRow w' (slv s) (D.map emb) ∧ Fr [] w w'
def LisOut (D : List PN.PL) (w : World) (e : Ending) (w' : World) : Prop := ∃ s : Sli, e = .returned (slv s) ∧ LRow w' (slv s) D ∧ Fr [] w w'
theorem RowO.next {w w' : World} {B : Nat} {v : Value} {D : List PN.PL} (h : RowO 100 5 (ElLO B) w B v D) (f : Fr [] w w') : RowO 100 5 (ElLO B) w' B v D := by
  obtain ⟨Xs, h1, h2⟩ := h
  exact ⟨Xs, h1.mono (fun X y ⟨q, e1, e2⟩ => ⟨q, e1, rowNew e2 f⟩), rowNew h2 f⟩
theorem netConns_w {own : Nat → Nat} {B : NB} {L : List LB} {C : List CB} {G : Nat} (D : List PN.PC) (w : World) (h : NetW w own B L C G) (hD : PN.RelC (C.map CB.pc) D) :
    Calls Tryz.prog 25 #[.pointer (some ⟨B.n, 0, none⟩)] w (ConnsOut D w) := by
  obtain ⟨n, hn⟩ : ∃ n, D.length = n := ⟨_, rfl⟩
  have hnC : n = C.length := by rw [← hn, hD.len]; simp
  have hn1 : n ≤ 128 := by have := h.nc; omega
  obtain ⟨hp, hs⟩ := rel_keys hD
  have hkey : (C.map CB.ent).map (·.1) = (C.map (fun y => (y.ref : Int))).map (Value.int .i64) := by
    rw [List.map_map, List.map_map]
    rfl
  have hcm : (C.map CB.pc).map (fun y => (y.ref : Int)) = C.map (fun y => (y.ref : Int)) := by
    rw [List.map_map]
    rfl
  rw [hcm] at hp
  have HN := Lib.hid (netNone_any w h.net)
  have HLS := Lib.hid (listC_any B.cm (C.map CB.ent) (D.map (fun y => (y.ref : Int))) w h.net.cs _ hkey hp hs (by rw [List.length_map]; omega))
  have HNET := Lib.hid h.net
  have HCS := Lib.hid h.cs
  have HMEM := Lib.hid (show ∀ y ∈ D, ∃ z ∈ C, y = z.pc from fun y hy => by
    obtain ⟨z, hz, rfl⟩ := List.mem_map.1 (hD.mem.1 hy)
    exact ⟨z, hz, rfl⟩)
  have HLEN := Lib.hid hn
  have c2 := h.net.c2
  clear h hD hp hs hkey hcm hnC hn
  go_enter Tryz.func25, Tryz.ntmps25
  go_wp2_with fail
  refine HN.out.mono ?_
  rintro e w' ⟨rfl, rfl⟩
  go_wp2_with fail
  refine HLS.out.mono ?_
  rintro e w1 ⟨⟨s1, s2, s3⟩, rfl, hso, f1⟩
  rw [List.length_map, HLEN.out] at hso
  obtain rfl : s2 = n := by
    rcases hso.2 with ⟨he, h0⟩ | ⟨g, cap, cur, he, _⟩
    · simp only [slv, Value.slice.injEq] at he
      omega
    · simp only [slv, Value.slice.injEq] at he
      exact he.2.1
  have HSO := Lib.hid hso
  have HF1 := Lib.hid f1
  have HE := Lib.hid f1.size
  obtain ⟨E0, hE0⟩ : ∃ z, w1.heap.size = z := ⟨_, rfl⟩
  have HE0 := Lib.hid hE0
  clear hso f1 c2 hE0
  simp only [slv]
  go_wp2_with fail
  go_loopw [14, 3] (fun i v wr => ∃ (wz : World) (q : Nat) (vo : Sli), wz = wr ∧ i = .int .i64 q ∧ v = .slice vo.1 vo.2.1 vo.2.2 ∧ q ≤ s2 ∧ COwn wr E0 (slv vo) ((D.take q).map emb) ∧ Fr [] w1 wr) (fun i _ _ => s2 - (intOf i).toNat)
  case atStart => exact ⟨_, 0, (none, 0, 0), rfl, rfl, rfl, by omega, ⟨[], Recs.nil, World.ownsRow_nil _ _ _ _⟩, Fr.refl _ _⟩
  case round =>
    obtain ⟨wr, q, vo, hwz, rfl, rfl, hq, ho, fr⟩ := hrel
    subst hwz
    have HO := Lib.hid ho
    have FR := Lib.hid fr
    clear ho fr
    by_cases hlt : q < s2
    · skip
      have hlt' : (q : Int) < (s2 : Int) := by omega
      have hq0 : (0 : Int) ≤ (q : Int) := by omega
      have hy := List.getElem?_eq_getElem (l := D) (i := q) (by rw [HLEN.out]; exact hlt)
      obtain ⟨y, hye⟩ : ∃ y, D[q]'(by rw [HLEN.out]; exact hlt) = y := ⟨_, rfl⟩
      rw [hye] at hy
      have HYY := Lib.hid hy
      obtain ⟨z, hz, hyz⟩ := HMEM.out y (List.mem_of_getElem? hy)
      have HYZ := Lib.hid hyz
      have hdup := ((HCS.out z hz).dup.new HF1.out).new FR.out
      have HDUP := Lib.hid hdup
      have HTL := Lib.hid (show ((D.take q).map emb).length = q from by rw [List.length_map, List.length_take, HLEN.out]; omega)
      obtain ⟨gs, hgs, hcell⟩ : ∃ gs, s1 = some ⟨gs, 0, none⟩ ∧ wr.cell? ⟨gs, q, none⟩ = some (.int .i64 y.ref) := by
        rcases HSO.out.2 with ⟨he, h0⟩ | ⟨g, cap, cur, he, _⟩
        · omega
        · simp only [slv, Value.slice.injEq] at he
          refine ⟨g, he.1, FR.out.keep ?_ (by simp)⟩
          have := World.ownsRow.cells HSO.out (g := g) (by rw [he.1]; rfl) q (.int .i64 y.ref) (by simp [intsV, hy])
          rwa [Addr.add_lit, Nat.zero_add] at this
      subst hgs
      have hcm2 : wr.cell? ⟨B.n, 2, none⟩ = some (.map (some B.cm)) := FR.out.keep (HF1.out.keep HNET.out.c2 (by simp)) (by simp)
      have hlk := ((HNET.out.cs.keep HF1.out (by simp)).keep FR.out (by simp)).hit keyInt (t := 51) (e := 55) Tryz.underlying51 (x := .int .i64 y.ref) (v := .pointer (some ⟨z.d, 0, none⟩)) (List.mem_map.2 ⟨z, hz, by rw [hyz]; rfl⟩) false
      have HLK := Lib.hid hlk
      clear hy hye hyz hz hdup hlk
      go_upto_region 7 with fail
      clear hcell
      refine wp_region_lit ?_
      refine wpList_plain rfl (fun K hK => ?_); go_simp; refine hK _ _ ?_; clear hK K
      refine wpList_plain rfl (fun K hK => ?_); go_simp; refine hK _ _ ?_; clear hK K
      refine wpList_plain rfl (fun K hK => ?_); go_simp; refine hK _ _ ?_; clear hK K
      refine wpList_plain rfl (fun K hK => ?_); go_simp; refine hK _ _ ?_; clear hK K
      refine wpList_plain rfl (fun K hK => ?_); go_simp; refine hK _ _ ?_; clear hK K
      refine wpList_plain rfl (fun K hK => ?_); go_simp; refine hK _ _ ?_; clear hK K
      refine wpList_plain rfl (fun K hK => ?_); go_simp; refine hK _ _ ?_; clear hK K
      try simp only [Act.put, List.getElem_toArray, List.getElem_cons_succ, List.getElem_cons_zero, List.setIfInBounds_toArray, List.set_cons_zero, List.set_cons_succ]
      refine wpList_val rfl (v := .pointer (some ⟨z.d, 0, none⟩)) (w' := wr) (exec_lookup (M := .map (some B.cm)) (X := .int .i64 y.ref) rfl rfl rfl HLK.out) ?_
      try simp only [Act.put, List.getElem_toArray, List.getElem_cons_succ, List.getElem_cons_zero, List.setIfInBounds_toArray, List.set_cons_zero, List.set_cons_succ]
      refine wpList_plain rfl (fun K hK => ?_)
      go_simp
      refine (dupState_any _ HDUP.out).mono ?_
      rintro e w2 ⟨rfl, f2⟩
      refine hK _ _ ?_
      clear hK K
      try simp only [Act.put, List.getElem_toArray, List.getElem_cons_succ, List.getElem_cons_zero, List.setIfInBounds_toArray, List.set_cons_zero, List.set_cons_succ]
      refine wpList_val rfl (v := .agg (pgC (emb y) nilQ).toArray) (w' := w2) (exec_bld2 (V := .int .i64 y.ref) (U := .agg (cnC (emb y).c nilQ).toArray) rfl rfl (by rw [HYZ.out]; rfl) (bldConn (emb y) nilQ w2)) ?_
      try simp only [Act.put, List.getElem_toArray, List.getElem_cons_succ, List.getElem_cons_zero, List.setIfInBounds_toArray, List.set_cons_zero, List.set_cons_succ]
      obtain ⟨w3, hw3⟩ : ∃ z, w2.alloc (.cells (pgC (emb y) nilQ).toArray 96) = z := ⟨_, rfl⟩
      obtain ⟨E3, hE3⟩ : ∃ z, w2.heap.size = z := ⟨_, rfl⟩
      have hb3 : Blk w3 E3 96 (pgC (emb y) nilQ) := by rw [← hw3, ← hE3]; exact Blk.made w2 96 (pgC (emb y) nilQ)
      have f3 : Fr [] w2 w3 := by rw [← hw3]; exact (Fr.refl [] w2).alloc _
      refine wpList_val rfl (v := .slice (some ⟨E3, 0, none⟩) 1 1) (w' := w3) ?_ ?_
      · refine exec_bsl (V := .agg (pgC (emb y) nilQ).toArray) rfl rfl ?_
        rw [bslConn, hw3, hE3]
      try simp only [Act.put, List.getElem_toArray, List.getElem_cons_succ, List.getElem_cons_zero, List.setIfInBounds_toArray, List.set_cons_zero, List.set_cons_succ]
      have HR3 := Lib.hid (show RowV w3 (.slice (some ⟨E3, 0, none⟩) 1 1) 1 17 (pgC (emb y) nilQ) from ⟨rfl, .inr ⟨E3, 0, 1, rfl, hb3.lt, hb3.at⟩⟩)
      have HF3 := Lib.hid (f2.step f3)
      clear hw3 hE3 hb3 f2 f3
      obtain ⟨Xs, hrec, hown⟩ := HO.out.next HF3.out
      rw [HTL.out] at hown
      refine wpList_append_any elemConn rfl _ _ rfl E0 (v := slv vo) (n := q) (xs := Xs.flatten) rfl hown (X := .slice (some ⟨E3, 0, none⟩) 1 1) (m := 1) (news := pgC (emb y) nilQ) rfl HR3.out (pgC_one _ _) (by omega) (by decide) (by rw [← HE0.out]; exact (FR.out.step HF3.out).size) ?_
      intro vo' w4 ho4 f4
      try simp only [Act.put, List.getElem_toArray, List.getElem_cons_succ, List.getElem_cons_zero, List.setIfInBounds_toArray, List.set_cons_zero, List.set_cons_succ]
      refine wpList_plain rfl (fun K hK => ?_); go_simp; refine hK _ _ ?_; clear hK K
      refine wpList_nil ?_
      try simp only [Act.put, List.getElem_toArray, List.getElem_cons_succ, List.getElem_cons_zero, List.setIfInBounds_toArray, List.set_cons_zero, List.set_cons_succ]
      have HF4 := Lib.hid ((FR.out.step HF3.out).ownRow hown f4 (by rw [HE0.out]; exact Nat.le_refl _))
      have HC4 := Lib.hid (show COwn w4 E0 (slv vo') ((D.take (q + 1)).map emb) from by
        rw [take_get HYY.out, List.map_append]
        refine ⟨Xs ++ [pgC (emb y) nilQ], ((hrec.mono (fun X y ⟨t, e1, e2⟩ => (⟨t, e1, ⟨rowFar e2.b0 hown f4 (by decide), rowFar e2.r0 hown f4 (by decide), rowFar e2.b1 hown f4 (by decide), rowFar e2.r1 hown f4 (by decide)⟩⟩ : ElCO E0 w4 X y))).push rfl (pgC_one _ _) ⟨nilQ, rfl, nilQ_own _ _ _⟩), ?_⟩
        rw [List.length_append, HTL.out, List.map_cons, List.map_nil, List.length_singleton, List.flatten_append, List.flatten_singleton]
        exact ho4)
      clear hrec hown ho4 f4 HO HR3 HF3 HDUP HLK HYZ HYY hcm2
      simp only [slv]
      go_wp2
      go_roundw
      case rel => exact ⟨_, q + 1, vo', rfl, by go_num, rfl, by omega, HC4.out, HF4.out⟩
      case measure => simp [intOf]; omega
    · skip
      obtain rfl : q = s2 := by omega
      have HDC := Lib.hid (show CRow wr (slv vo) (D.map emb) from by
        have := HO.out.row
        rwa [List.take_of_length_le (by rw [HLEN.out]; exact Nat.le_refl _)] at this)
      go_wp2
      go_ret
      exact ⟨vo, rfl, HDC.out, HF1.out.step FR.out⟩
theorem netListeners_w {own : Nat → Nat} {B : NB} {L : List LB} {C : List CB} {G : Nat} (D : List PN.PL) (w : World) (h : NetW w own B L C G) (hD : PN.RelL (L.map LB.pl) D) (hG : G < 4611686018427387904) :
    Calls Tryz.prog 24 #[.pointer (some ⟨B.n, 0, none⟩)] w (LisOut D w) := by
  obtain ⟨n, hn⟩ : ∃ n, D.length = n := ⟨_, rfl⟩
  have hnC : n = L.length := by rw [← hn, hD.len]; simp
  have hn1 : n ≤ 128 := by have := h.nl; omega
  obtain ⟨hp, hs⟩ := rel_keysL hD
  have hkey : (L.map LB.ent).map (·.1) = (L.map (fun y => (y.ref : Int))).map (Value.int .i64) := by
    rw [List.map_map, List.map_map]
    rfl
  have hcm : (L.map LB.pl).map (fun y => (y.ref : Int)) = L.map (fun y => (y.ref : Int)) := by
    rw [List.map_map]
    rfl
  rw [hcm] at hp
  have HN := Lib.hid (netNone_any w h.net)
  have HLS := Lib.hid (listQ_any B.lm (L.map LB.ent) (D.map (fun y => (y.ref : Int))) w h.net.ls _ hkey hp hs (by rw [List.length_map]; omega))
  have HNET := Lib.hid h.net
  have HCS := Lib.hid h.ls
  have HMEM := Lib.hid (show ∀ y ∈ D, ∃ z ∈ L, y = z.pl from fun y hy => by
    obtain ⟨z, hz, rfl⟩ := List.mem_map.1 (hD.mem.1 hy)
    exact ⟨z, hz, rfl⟩)
  have HLEN := Lib.hid hn
  have c2 := h.net.c1
  clear h hD hp hs hkey hcm hnC hn
  go_enter Tryz.func24, Tryz.ntmps24
  go_wp2_with fail
  refine HN.out.mono ?_
  rintro e w' ⟨rfl, rfl⟩
  go_wp2_with fail
  refine HLS.out.mono ?_
  rintro e w1 ⟨⟨s1, s2, s3⟩, rfl, hso, f1⟩
  rw [List.length_map, HLEN.out] at hso
  obtain rfl : s2 = n := by
    rcases hso.2 with ⟨he, h0⟩ | ⟨g, cap, cur, he, _⟩
    · simp only [slv, Value.slice.injEq] at he
      omega
    · simp only [slv, Value.slice.injEq] at he
      exact he.2.1
  have HSO := Lib.hid hso
  have HF1 := Lib.hid f1
  have HE := Lib.hid f1.size
  obtain ⟨E0, hE0⟩ : ∃ z, w1.heap.size = z := ⟨_, rfl⟩
  have HE0 := Lib.hid hE0
  clear hso f1 c2 hE0
  simp only [slv]
  go_wp2_with fail
  go_loopw [15, 3] (fun i v wr => ∃ (wz : World) (q : Nat) (vo : Sli), wz = wr ∧ i = .int .i64 q ∧ v = .slice vo.1 vo.2.1 vo.2.2 ∧ q ≤ s2 ∧ RowO 100 5 (ElLO E0) wr E0 (slv vo) (D.take q) ∧ Fr [] w1 wr) (fun i _ _ => s2 - (intOf i).toNat)
  case atStart => exact ⟨_, 0, (none, 0, 0), rfl, rfl, rfl, by omega, ⟨[], Recs.nil, World.ownsRow_nil _ _ _ _⟩, Fr.refl _ _⟩
  case round =>
    obtain ⟨wr, q, vo, hwz, rfl, rfl, hq, ho, fr⟩ := hrel
    subst hwz
    have HO := Lib.hid ho
    have FR := Lib.hid fr
    clear ho fr
    by_cases hlt : q < s2
    · skip
      have hlt' : (q : Int) < (s2 : Int) := by omega
      have hq0 : (0 : Int) ≤ (q : Int) := by omega
      have hy := List.getElem?_eq_getElem (l := D) (i := q) (by rw [HLEN.out]; exact hlt)
      obtain ⟨y, hye⟩ : ∃ y, D[q]'(by rw [HLEN.out]; exact hlt) = y := ⟨_, rfl⟩
      rw [hye] at hy
      have HYY := Lib.hid hy
      obtain ⟨z, hz, hyz⟩ := HMEM.out y (List.mem_of_getElem? hy)
      have HYZ := Lib.hid hyz
      have hlw := ((HCS.out z hz).keep HF1.out (fun x hx => by cases hx)).keep FR.out (fun x hx => by cases hx)
      have HBK := Lib.hid hlw.back
      have HGZ := Lib.hid (show z.g < 4611686018427387904 ∧ z.l.length ≤ 100000 from ⟨by have := hlw.g; omega, by have := hlw.len; have := hlw.most; omega⟩)
      have HTL := Lib.hid (show (D.take q).length = q from by rw [List.length_take, HLEN.out]; omega)
      obtain ⟨gs, hgs, hcell⟩ : ∃ gs, s1 = some ⟨gs, 0, none⟩ ∧ wr.cell? ⟨gs, q, none⟩ = some (.int .i64 y.ref) := by
        rcases HSO.out.2 with ⟨he, h0⟩ | ⟨g, cap, cur, he, _⟩
        · omega
        · simp only [slv, Value.slice.injEq] at he
          refine ⟨g, he.1, FR.out.keep ?_ (by simp)⟩
          have := World.ownsRow.cells HSO.out (g := g) (by rw [he.1]; rfl) q (.int .i64 y.ref) (by simp [intsV, hy])
          rwa [Addr.add_lit, Nat.zero_add] at this
      subst hgs
      have hcm2 : wr.cell? ⟨B.n, 1, none⟩ = some (.map (some B.lm)) := FR.out.keep (HF1.out.keep HNET.out.c1 (by simp)) (by simp)
      have hlk := ((HNET.out.ls.keep HF1.out (by simp)).keep FR.out (by simp)).hit keyInt (t := 49) (e := 120) Tryz.underlying49 (x := .int .i64 y.ref) (v := .agg #[.pointer (some ⟨z.b, 0, none⟩), .string z.s, .int .i64 z.p]) (List.mem_map.2 ⟨z, hz, by rw [hyz]; rfl⟩) false
      rw [if_neg (by decide)] at hlk
      have HLK := Lib.hid hlk
      clear hy hye hyz hz hlw hlk
      go_upto_region 7 with fail
      clear hcell
      refine wp_region_lit ?_
      refine wpList_plain rfl (fun K hK => ?_); go_simp; refine hK _ _ ?_; clear hK K
      refine wpList_plain rfl (fun K hK => ?_); go_simp; refine hK _ _ ?_; clear hK K
      refine wpList_plain rfl (fun K hK => ?_); go_simp; refine hK _ _ ?_; clear hK K
      refine wpList_plain rfl (fun K hK => ?_); go_simp; refine hK _ _ ?_; clear hK K
      refine wpList_plain rfl (fun K hK => ?_); go_simp; refine hK _ _ ?_; clear hK K
      try simp only [Act.put, List.getElem_toArray, List.getElem_cons_succ, List.getElem_cons_zero, List.setIfInBounds_toArray, List.set_cons_zero, List.set_cons_succ]
      refine wpList_val rfl (v := .agg ([.pointer (some ⟨z.b, 0, none⟩), .string z.s, .int .i64 z.p]).toArray) (w' := wr) (exec_lookup (M := .map (some B.lm)) (X := .int .i64 y.ref) rfl rfl rfl HLK.out) ?_
      try simp only [Act.put, List.getElem_toArray, List.getElem_cons_succ, List.getElem_cons_zero, List.setIfInBounds_toArray, List.set_cons_zero, List.set_cons_succ]
      refine wpList_plain rfl (fun K hK => ?_); go_simp; refine hK _ _ ?_; clear hK K
      try simp only [Act.put, List.getElem_toArray, List.getElem_cons_succ, List.getElem_cons_zero, List.setIfInBounds_toArray, List.set_cons_zero, List.set_cons_succ]
      obtain ⟨E2, hE_⟩ : ∃ E, wr.heap.size = E := ⟨_, rfl⟩
      obtain ⟨wx, hw_⟩ : ∃ z, wr.alloc (.cells #[.pointer none, .string ⟨#[]⟩, .int .i64 0] 120) = z := ⟨_, rfl⟩
      have hbx : Blk wx E2 120 [.pointer none, .string ⟨#[]⟩, .int .i64 0] := by rw [← hw_, ← hE_]; exact Blk.made wr 120 _
      have fx : Fr [] wr wx := by rw [← hw_]; exact (Fr.refl [] wr).alloc _
      rw [hw_]
      simp only [hE_]
      have HE2 := Lib.hid (show E0 ≤ E2 from by rw [← hE_, ← HE0.out]; exact FR.out.size)
      have HX := Lib.hid hbx
      have HFX := Lib.hid fx
      have HEE := Lib.hid hE_
      clear fx hbx hw_ hE_
      obtain ⟨w2, hst, hb_, hf_⟩ := store_all (t := 120) ([.pointer (some ⟨z.b, 0, none⟩), .string z.s, .int .i64 z.p]) size120 rfl (by intro u hu; simp only [List.mem_cons, List.not_mem_nil, or_false] at hu; rcases hu with rfl | rfl | rfl <;> rfl) HX.out rfl
      refine wpList_skp rfl (w' := w2) ?_ ?_
      · show Sem.run Tryz.prog ((Instr.storeAt 120 (.pointer (some ⟨E2, 0, none⟩)) (.agg ([.pointer (some ⟨z.b, 0, none⟩), .string z.s, .int .i64 z.p]).toArray)) >>= fun _ => pure Next.skip) _ = _
        rw [Sem.run_bind, hst]
        rfl
      clear hst
      try simp only [Act.put, List.getElem_toArray, List.getElem_cons_succ, List.getElem_cons_zero, List.setIfInBounds_toArray, List.set_cons_zero, List.set_cons_succ]
      refine wpList_nil ?_
      try simp only [Act.put, List.getElem_toArray, List.getElem_cons_succ, List.getElem_cons_zero, List.setIfInBounds_toArray, List.set_cons_zero, List.set_cons_succ]
      have HX2 := Lib.hid hb_
      have HF2 := Lib.hid (HFX.out.own1 (S := []) (B := 0) hf_ (by rw [HEE.out]; exact Nat.le_refl _))
      clear hb_ hf_ HX HFX HEE hcm2 HLK
      obtain ⟨w3, hw3⟩ : ∃ z, w2.drew = z := ⟨_, rfl⟩
      have f3 : Fr [] w2 w3 := by rw [← hw3]; exact (Fr.refl [] w2).drew
      have HX3 := Lib.hid (HX2.out.keep f3 (by simp))
      have HF3 := Lib.hid (HF2.out.step f3)
      have HW3 := Lib.hid hw3
      clear f3 hw3 HX2 HF2
      go_upto_region 8 with fail
      refine wp_region_held_drew (S := fun W => W.cell? ⟨E2, 0, none⟩ = some (.pointer (some ⟨z.b, 0, none⟩)) ∧ LiesAt W E2 1 [.string z.s, .int .i64 z.p]) (by kernel_rfl) (by rw [HW3.out]; exact ⟨HX3.out.at 0 _ rfl, HX3.out.at.part (k := 1) (n := 2) rfl⟩) (fun hHeld => ?_)
      rw [HW3.out] at hHeld ⊢
      refine wpAnyH_take (i := 0) (oi := _) (v := ?_) rfl (by kernel_rfl) (by kernel_rfl) (by kernel_rfl) (fun _ _ _ h => h) (Or.inl ⟨by rfl, ?_⟩) (by first | assumption | trivial) ?_
      rotate_left
      · intro w hSw; (try dsimp only at hSw); go_simp; try with_reducible rfl
      try simp only [Act.put, List.getElem_toArray, List.getElem_cons_succ, List.getElem_cons_zero, List.setIfInBounds_toArray, List.set_cons_zero, List.set_cons_succ]
      refine wpAnyH_take (i := 1) (oi := _) (v := ?_) rfl (by kernel_rfl) (by kernel_rfl) (by kernel_rfl) (fun _ _ _ h => h) (Or.inl ⟨by rfl, ?_⟩) (by first | assumption | trivial) ?_
      rotate_left
      · intro w hSw; (try dsimp only at hSw); go_simp; try with_reducible rfl
      try simp only [Act.put, List.getElem_toArray, List.getElem_cons_succ, List.getElem_cons_zero, List.setIfInBounds_toArray, List.set_cons_zero, List.set_cons_succ]
      refine wpAnyH_take (i := 2) (oi := _) (v := ?_) rfl (by kernel_rfl) (by kernel_rfl) (by kernel_rfl) (fun _ _ _ h => h) (Or.inl ⟨by rfl, ?_⟩) (by first | assumption | trivial) ?_
      rotate_left
      · intro w hSw; (try dsimp only at hSw); go_simp; try with_reducible rfl
      try simp only [Act.put, List.getElem_toArray, List.getElem_cons_succ, List.getElem_cons_zero, List.setIfInBounds_toArray, List.set_cons_zero, List.set_cons_succ]
      refine wpAnyH_take (i := 3) (oi := _) (v := .agg #[.string z.s, .int .i64 z.p]) rfl (by kernel_rfl) (by kernel_rfl) (by kernel_rfl) (fun _ _ _ h => h) (Or.inl ⟨by rfl, ?_⟩) (by first | assumption | trivial) ?_
      · intro w hSw
        try dsimp only at hSw
        show Sem.run Tryz.prog ((Instr.loadAt 28 (.pointer (some ⟨E2, 1, none⟩))) >>= fun x => pure (Next.value x)) w = _
        rw [Sem.run_bind, load_all agg28 size28 (xs := [.string z.s, .int .i64 z.p]) rfl hSw.2]
        rfl
      try simp only [Act.put, List.getElem_toArray, List.getElem_cons_succ, List.getElem_cons_zero, List.setIfInBounds_toArray, List.set_cons_zero, List.set_cons_succ]
      refine wpAnyH_take (i := 4) (oi := _) (v := ?_) rfl (by kernel_rfl) (by kernel_rfl) (by kernel_rfl) (fun _ _ _ h => h) (Or.inl ⟨by rfl, ?_⟩) (by first | assumption | trivial) ?_
      rotate_left
      · intro w hSw; (try dsimp only at hSw); go_simp; try with_reducible rfl
      try simp only [Act.put, List.getElem_toArray, List.getElem_cons_succ, List.getElem_cons_zero, List.setIfInBounds_toArray, List.set_cons_zero, List.set_cons_succ]
      refine wpAnyH_take (i := 5) (oi := _) (v := ?_) rfl (by kernel_rfl) (by kernel_rfl) (by kernel_rfl) (fun _ _ _ h => h) (Or.inl ⟨by rfl, ?_⟩) (by first | assumption | trivial) ?_
      rotate_left
      · intro w hSw; (try dsimp only at hSw); go_simp; try with_reducible rfl
      try simp only [Act.put, List.getElem_toArray, List.getElem_cons_succ, List.getElem_cons_zero, List.setIfInBounds_toArray, List.set_cons_zero, List.set_cons_succ]
      refine wpAnyH_take (i := 7) (oi := _) (v := ?_) rfl (by kernel_rfl) (by kernel_rfl) (by kernel_rfl) (fun _ _ _ h => h) (Or.inl ⟨by rfl, ?_⟩) (by first | assumption | trivial) ?_
      rotate_left
      · intro w hSw; (try dsimp only at hSw); go_simp; try with_reducible rfl
      try simp only [Act.put, List.getElem_toArray, List.getElem_cons_succ, List.getElem_cons_zero, List.setIfInBounds_toArray, List.set_cons_zero, List.set_cons_succ]
      refine wpAnyH_take (i := 8) (oi := _) (v := ?_) rfl (by kernel_rfl) (by kernel_rfl) (by kernel_rfl) (fun _ _ _ h => h) (Or.inl ⟨by rfl, ?_⟩) (by first | assumption | trivial) ?_
      rotate_left
      · intro w hSw; (try dsimp only at hSw); go_simp; try with_reducible rfl
      try simp only [Act.put, List.getElem_toArray, List.getElem_cons_succ, List.getElem_cons_zero, List.setIfInBounds_toArray, List.set_cons_zero, List.set_cons_succ]
      refine wpAnyH_ready (rs := [6]) (by kernel_rfl) (by simp) ?_
      refine AllReadyH.cons (o := _) rfl (fun K hK => ?_) AllReadyH.nil
      go_simp
      refine (most_any _ _ _ _ _ _ _ _ _ (HBK.out.keep HF3.out (by simp) (by simp) (by simp) (by simp))).mono ?_
      rintro e w' ⟨rfl, rfl⟩
      refine hK.out _ _ (hHeld) (fun hHeld => ?_)
      clear hK K
      try simp only [Act.put, List.getElem_toArray, List.getElem_cons_succ, List.getElem_cons_zero, List.setIfInBounds_toArray, List.set_cons_zero, List.set_cons_succ]
      refine wpAnyH_ready (rs := [9]) (by kernel_rfl) (by simp) ?_
      refine AllReadyH.cons (o := _) rfl (fun K hK => ?_) AllReadyH.nil
      go_simp
      refine (waiting_any _ _ _ _ _ _ _ _ HGZ.out.1 _ (HBK.out.keep HF3.out (by simp) (by simp) (by simp) (by simp)) HGZ.out.2).mono ?_
      rintro e w4 ⟨v, rfl, how, f4⟩
      obtain ⟨sq, rfl, _⟩ := (RowV.of_own how).sli
      have hsz : E0 ≤ w3.heap.size := by rw [← HE0.out]; exact (FR.out.step HF3.out).size
      have HQ4 := Lib.hid (show w4.ownsRow E0 3 1 (slv sq) z.pl.l.length (intsV z.pl.l) from by
        have := rowBase how hsz
        have e1 : z.pl.l.length = z.l.length := by simp [LB.pl]
        have e2 : intsV z.pl.l = z.l.map connV64 := by simp [intsV, LB.pl, connV64, Function.comp_def]
        rw [e1, e2]
        exact this)
      have HX4 := Lib.hid (HX3.out.keep f4 (by simp))
      have HF4 := Lib.hid (HF3.out.step f4)
      clear how f4 hsz
      refine hK.out _ _ (⟨HX4.out.at 0 _ rfl, HX4.out.at.part (k := 1) (n := 2) rfl⟩) (fun hHeld => ?_)
      clear hK K
      try simp only [Act.put, List.getElem_toArray, List.getElem_cons_succ, List.getElem_cons_zero, List.setIfInBounds_toArray, List.set_cons_zero, List.set_cons_succ]
      refine wpAnyH_take (i := 10) (oi := _) (v := .agg #[.string z.s, .int .i64 z.p, .int .i64 z.most, slv sq]) rfl (by kernel_rfl) (by kernel_rfl) (by kernel_rfl) (fun _ _ _ h => h) (Or.inl ⟨by rfl, ?_⟩) (by first | assumption | trivial) ?_
      · intro w hSw
        try dsimp only at hSw
        exact exec_bld3 (V := .agg #[.string z.s, .int .i64 z.p]) (U := .int .i64 z.most) (T := slv sq) rfl rfl rfl rfl (bldLg3 z.s z.p z.most sq w)
      try simp only [Act.put, List.getElem_toArray, List.getElem_cons_succ, List.getElem_cons_zero, List.setIfInBounds_toArray, List.set_cons_zero, List.set_cons_succ]
      refine wpAnyH_take (i := 11) (oi := _) (v := .agg (lsC z.pl sq).toArray) rfl (by kernel_rfl) (by kernel_rfl) (by kernel_rfl) (fun _ _ _ h => h) (Or.inl ⟨by rfl, ?_⟩) (by first | assumption | trivial) ?_
      · intro w hSw
        try dsimp only at hSw
        exact exec_bld2 (V := .int .i64 z.pl.ref) (U := .agg #[.string z.s, .int .i64 z.p, .int .i64 z.most, slv sq]) rfl (by rw [HYZ.out]; rfl) rfl (bldLs3 z.pl sq w)
      try simp only [Act.put, List.getElem_toArray, List.getElem_cons_succ, List.getElem_cons_zero, List.setIfInBounds_toArray, List.set_cons_zero, List.set_cons_succ]
      refine wpAnyH_ready (rs := [12]) (by kernel_rfl) (by simp) ?_
      refine AllReadyH.cons (o := _) rfl (fun K hK => ?_) AllReadyH.nil
      obtain ⟨w5, hw5⟩ : ∃ zz, w4.alloc (.cells (lsC z.pl sq).toArray 100) = zz := ⟨_, rfl⟩
      obtain ⟨E5, hE5⟩ : ∃ z, w4.heap.size = z := ⟨_, rfl⟩
      have hb5 : Blk w5 E5 100 (lsC z.pl sq) := by rw [← hw5, ← hE5]; exact Blk.made w4 100 (lsC z.pl sq)
      have f5 : Fr [] w4 w5 := by rw [← hw5]; exact (Fr.refl [] w4).alloc _
      split
      rotate_left
      · rename_i hno
        exact absurd rfl hno
      refine wp_vl (v := .slice (some ⟨E5, 0, none⟩) 1 1) (w' := w5) ?_ ?_
      · refine exec_bsl (V := .agg (lsC z.pl sq).toArray) rfl rfl ?_
        rw [bslLis, hw5, hE5]
      have HR5 := Lib.hid (show RowV w5 (.slice (some ⟨E5, 0, none⟩) 1 1) 1 5 (lsC z.pl sq) from ⟨rfl, .inr ⟨E5, 0, 1, rfl, hb5.lt, hb5.at⟩⟩)
      have HX5 := Lib.hid (HX4.out.keep f5 (by simp))
      have HF5 := Lib.hid (HF4.out.step f5)
      have HQ5 := Lib.hid (rowNew HQ4.out f5)
      clear hw5 hE5 hb5 f5
      refine hK.out _ _ (⟨HX5.out.at 0 _ rfl, HX5.out.at.part (k := 1) (n := 2) rfl⟩) (fun hHeld => ?_)
      clear hK K
      try simp only [Act.put, List.getElem_toArray, List.getElem_cons_succ, List.getElem_cons_zero, List.setIfInBounds_toArray, List.set_cons_zero, List.set_cons_succ]
      refine wpAnyH_ready (rs := [13]) (by kernel_rfl) (by simp) ?_
      refine AllReadyH.cons (o := _) rfl (fun K hK => ?_) AllReadyH.nil
      split
      rotate_left
      · rename_i hno
        exact absurd rfl hno
      obtain ⟨Xs, hrec, hown⟩ := RowO.next HO.out HF5.out
      rw [HTL.out] at hown
      refine wp_append_any elemLis _ _ rfl E0 (v := slv vo) (n := q) (xs := Xs.flatten) rfl hown (X := .slice (some ⟨E5, 0, none⟩) 1 1) (m := 1) (news := lsC z.pl sq) rfl HR5.out (lsC_one _ _) (by omega) (by decide) (by rw [← HE0.out]; exact (FR.out.step HF5.out).size) ?_
      intro vo' w6 ho6 f6
      have HX6 := Lib.hid (HX5.out.farRow hown f6 (by decide))
      have HF6 := Lib.hid ((FR.out.step HF5.out).ownRow hown f6 (by rw [HE0.out]; exact Nat.le_refl _))
      have HC6 := Lib.hid (show RowO 100 5 (ElLO E0) w6 E0 (slv vo') (D.take (q + 1)) from by
        rw [take_get HYY.out]
        refine ⟨Xs ++ [lsC z.pl sq], ((hrec.mono (fun X y ⟨t, e1, e2⟩ => (⟨t, e1, rowFar e2 hown f6 (by decide)⟩ : ElLO E0 w6 X y))).push rfl (lsC_one _ _) ⟨sq, by rw [HYZ.out], by rw [HYZ.out]; exact rowFar HQ5.out hown f6 (by decide)⟩), ?_⟩
        rw [List.length_append, HTL.out, List.length_singleton, List.flatten_append, List.flatten_singleton]
        exact ho6)
      clear hrec hown ho6 f6
      refine hK.out _ _ (⟨HX6.out.at 0 _ rfl, HX6.out.at.part (k := 1) (n := 2) rfl⟩) (fun hHeld => ?_)
      clear hK K
      try simp only [Act.put, List.getElem_toArray, List.getElem_cons_succ, List.getElem_cons_zero, List.setIfInBounds_toArray, List.set_cons_zero, List.set_cons_succ]
      refine wpAnyH_take (i := 14) (oi := _) (v := ?_) rfl (by kernel_rfl) (by kernel_rfl) (by kernel_rfl) (fun _ _ _ h => h) (Or.inl ⟨by rfl, ?_⟩) (by first | assumption | trivial) ?_
      rotate_left
      · intro w hSw; (try dsimp only at hSw); go_simp; try with_reducible rfl
      try simp only [Act.put, List.getElem_toArray, List.getElem_cons_succ, List.getElem_cons_zero, List.setIfInBounds_toArray, List.set_cons_zero, List.set_cons_succ]
      refine wpAnyH_done (by kernel_rfl) ?_ _
      clear hHeld HX3 HX4 HX5 HX6 HF3 HF4 HF5 HQ4 HQ5 HR5 HO HBK HGZ HYY HYZ HW3
      simp only [slv]
      go_wp2
      go_roundw
      case rel => exact ⟨_, q + 1, vo', rfl, by go_num, rfl, by omega, HC6.out, HF6.out⟩
      case measure => simp [intOf]; omega
    · skip
      obtain rfl : q = s2 := by omega
      have HDC := Lib.hid (show LRow wr (slv vo) D from by
        have := RowO.row HO.out
        rwa [List.take_of_length_le (by rw [HLEN.out]; exact Nat.le_refl _)] at this)
      go_wp2
      go_ret
      exact ⟨vo, rfl, HDC.out, HF1.out.step FR.out⟩
theorem conns_l {K : Nat → Prop} {B : NB} {N : PN.Net} {G : Nat} {w : World} (D : List PN.PC) (h : Live K B N G w) (hD : PN.RelC N.C D) :
    Calls Tryz.prog 25 #[.pointer (some ⟨B.n, 0, none⟩)] w (ConnsOut D w) := by
  obtain ⟨own, L, C, h1, rfl, _⟩ := h
  exact netConns_w D w h1 hD
theorem listeners_l {K : Nat → Prop} {B : NB} {N : PN.Net} {G : Nat} {w : World} (D : List PN.PL) (h : Live K B N G w) (hD : PN.RelL N.L D) (hG : G ≤ 1000000) :
    Calls Tryz.prog 24 #[.pointer (some ⟨B.n, 0, none⟩)] w (LisOut D w) := by
  obtain ⟨own, L, C, h1, rfl, _⟩ := h
  exact netListeners_w D w h1 hD (by omega)
end Go.Proofs.YtmdhlodafjpnmaaGreat
