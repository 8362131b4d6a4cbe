/- The net with bytes: its Conns and Listeners. -/
/- Plain: a net with bytes whose lists stand in another order answers every call in the same way. -/
/- The net with bytes: Connect and Pair with arguments that are not valid, Find, Conn. -/
/- A net with bytes under way: its plain form, the blocks of others that it keeps as they are, and each of its calls over that. -/
/- Plain: who waits for each listener, and what connections hold, through every call of a net whose streams hold nothing. -/
import Derived.Test.YtmdhlodafjpnmaaGreatN12
import Derived.Test.YtmdhlodafjpnmaaGreatG15
import Derived.Test.YtmdhlodafjpnmaaGreatG12
import Derived.Test.YtmdhlodafjpnmaaGreatBP3
import Derived.Test.YtmdhlodafjpnmaaGreatConn0
import Derived.Test.YtmdhlodafjpnmaaGreatLn1
namespace Go.Proofs.YtmdhlodafjpnmaaGreat
open List renaming getElem_toArray → qj1, getElem_cons_succ → qj2, getElem_cons_zero → qj3, setIfInBounds_toArray → qj4, set_cons_zero → qj5, set_cons_succ → qj6
open Go.RowKit
open Go.Maps (Keyed)
set_option linter.unusedVariables false
set_option linter.unusedSimpArgs false
set_option maxRecDepth 100000
set_option maxHeartbeats 8000000

theorem take_getG {α : Type} {D : List α} {q : Nat} {y : α} (hy : D[q]? = some y) : D.take (q + 1) = D.take q ++ [y] := by rw [List.take_add_one, hy]; rfl
abbrev RelG : List PG → List PG → Prop := PN.Rel PG.ref
theorem rel_keysG {C : List PG} {D : List PG} (h : RelG C D) : (D.map (fun y => (y.ref : Int))).Perm (C.map (fun y => (y.ref : Int))) ∧ (D.map (fun y => (y.ref : Int))).Pairwise (· < ·) :=
  ⟨h.1.map _, List.pairwise_map.2 (h.2.imp (fun h => by omega))⟩
theorem rel_keysL {C : List PN.PL} {D : List PN.PL} (h : PN.RelL C D) : (D.map (fun y => (y.ref : Int))).Perm (C.map (fun y => (y.ref : Int))) ∧ (D.map (fun y => (y.ref : Int))).Pairwise (· < ·) :=
  ⟨h.1.map _, List.pairwise_map.2 (h.2.imp (fun h => by omega))⟩
theorem exec_lookup {P : Program} {o : Oper} {a : Act} {w w' : World} {v : Value} {t : TypeId} {m x : Operand} {M X : Value} (ho : o.op = .lookup t m x false) (hm : a.eval m = M) (hx : a.eval x = X) (hrun : (Instr.lookup t M X false).run P w = .ok v w') : (execOp a.eval o).run P w = .ok (.value v) w' := by
  simp [execOp, ho, hm, hx, hrun]
theorem exec_bld3 {P : Program} {o : Oper} {a : Act} {w w' : World} {v : Value} {t : TypeId} {x y z : Operand} {V U T : Value} (ho : o.op = .build t #[(0, x), (1, y), (2, z)]) (hx : a.eval x = V) (hy : a.eval y = U) (hz : a.eval z = T) (hrun : (Instr.build t #[(0, V), (1, U), (2, T)]).run P w = .ok v w') : (execOp a.eval o).run P w = .ok (.value v) w' := by
  simp [execOp, ho, hx, hy, hz, hrun]
theorem bldLg3 (s : ByteArray) (p most : Int) (q : Sli) : ∀ w, (Instr.build 98 #[(0, .agg #[.string s, .int .i64 p]), (1, .int .i64 most), (2, slv q)]).run Tryz.prog w = .ok (.agg #[.string s, .int .i64 p, .int .i64 most, slv q]) w := fun w => by kernel_rfl
theorem bldLs3 (x : PN.PL) (q : Sli) : ∀ w, (Instr.build 100 #[(0, .int .i64 x.ref), (1, .agg #[.string x.s, .int .i64 x.p, .int .i64 x.most, slv q])]).run Tryz.prog w = .ok (.agg (lsC x q).toArray) w := fun w => by kernel_rfl
theorem size120 : ∀ w, (sizeOf 120).run Tryz.prog w = .ok 3 w := fun w => by kernel_rfl
theorem most_any (b q m t : Nat) (most : Int) (closed : Bool) (l : List (Nat × Int)) (g : Nat) (w : World) (h : BackIs w b q m t most closed l g) :
    Calls Tryz.prog 59 #[.pointer (some ⟨b, 0, none⟩)] w fun e w' => e = .returned (.int .i64 most) ∧ w = w' := by
  have HN := Lib.hid (backNone_any w h)
  have c1 := h.c1
  clear h
  go_enter Tryz.func59, Tryz.ntmps59
  go_wp2_with (go_at_call 106; refine HN.out.mono ?_; rintro e w' ⟨rfl, rfl⟩)
  go_ret
  exact ⟨rfl, rfl⟩
def ConnsOutG (D : List PG) (w : World) (e : Ending) (w' : World) : Prop := ∃ s : Sli, e = .returned (slv s) ∧ COwn w' w.heap.size (slv s) D ∧ Fr [] w w'
def LisOutG (D : List PN.PL) (w : World) (e : Ending) (w' : World) : Prop := ∃ s : Sli, e = .returned (slv s) ∧ RowO 100 5 (ElLO w.heap.size) w' w.heap.size (slv s) D ∧ Fr [] w w'
theorem RowO.next {w w' : World} {B : Nat} {v : Value} {D : List PN.PL} (h : RowO 100 5 (ElLO B) w B v D) (f : Fr [] w w') : RowO 100 5 (ElLO B) w' B v D := by
  obtain ⟨Xs, h1, h2⟩ := h
  exact ⟨Xs, h1.mono (fun X y ⟨q, e1, e2⟩ => ⟨q, e1, rowNew e2 f⟩), rowNew h2 f⟩
theorem netConns_g {own : Nat → Nat} {B : NB} {L : List LB} {C : List CG} {G : Nat} (D : List PG) (w : World) (h : NetG w own B L C G) (hD : RelG (C.map CG.pg) D) :
    Calls Tryz.prog 25 #[.pointer (some ⟨B.n, 0, none⟩)] w (ConnsOutG D w) := by
  obtain ⟨n, hn⟩ : ∃ n, D.length = n := ⟨_, rfl⟩
  have hnC : n = C.length := by rw [← hn, hD.len]; simp
  have hn1 : n ≤ 128 := by have := h.nc; omega
  obtain ⟨hp, hs⟩ := rel_keysG hD
  have hkey : (C.map CG.ent).map (·.1) = (C.map (fun y => (y.ref : Int))).map (Value.int .i64) := by
    rw [List.map_map, List.map_map]
    rfl
  have hcm : (C.map CG.pg).map (fun y => (y.ref : Int)) = C.map (fun y => (y.ref : Int)) := by
    rw [List.map_map]
    rfl
  rw [hcm] at hp
  have HN := Lib.hid (netNone_any w h.net)
  have HLS := Lib.hid (listC_any B.cm (C.map CG.ent) (D.map (fun y => (y.ref : Int))) w h.net.cs _ hkey hp hs (by rw [List.length_map]; omega))
  have HNET := Lib.hid h.net
  have HCS := Lib.hid h.cs
  have HMEM := Lib.hid (show ∀ y ∈ D, ∃ z ∈ C, y = z.pg from fun y hy => by
    obtain ⟨z, hz, rfl⟩ := List.mem_map.1 (hD.mem.1 hy)
    exact ⟨z, hz, rfl⟩)
  have HLEN := Lib.hid hn
  have c2 := h.net.c2
  clear h hD hp hs hkey hcm hnC hn
  go_enter Tryz.func25, Tryz.ntmps25
  go_wp2_with fail
  refine HN.out.mono ?_
  rintro e w' ⟨rfl, rfl⟩
  go_wp2_with fail
  refine HLS.out.mono ?_
  rintro e w1 ⟨⟨s1, s2, s3⟩, rfl, hso, f1⟩
  rw [List.length_map, HLEN.out] at hso
  obtain rfl : s2 = n := by
    rcases hso.2 with ⟨he, h0⟩ | ⟨g, cap, cur, he, _⟩
    · simp only [slv, Value.slice.injEq] at he
      omega
    · simp only [slv, Value.slice.injEq] at he
      exact he.2.1
  have HSO := Lib.hid hso
  have HF1 := Lib.hid f1
  have HE := Lib.hid f1.size
  obtain ⟨E0, hE0⟩ : ∃ z, w1.heap.size = z := ⟨_, rfl⟩
  have HE0 := Lib.hid hE0
  clear hso f1 c2 hE0
  simp only [slv]
  go_wp2_with fail
  go_loopw [14, 3] (fun i v wr => ∃ (wz : World) (q : Nat) (vo : Sli), wz = wr ∧ i = .int .i64 q ∧ v = .slice vo.1 vo.2.1 vo.2.2 ∧ q ≤ s2 ∧ COwn wr E0 (slv vo) (D.take q) ∧ Fr [] w1 wr) (fun i _ _ => s2 - (intOf i).toNat)
  case atStart => exact ⟨_, 0, (none, 0, 0), rfl, rfl, rfl, by omega, ⟨[], Recs.nil, World.ownsRow_nil _ _ _ _⟩, Fr.refl _ _⟩
  case round =>
    obtain ⟨wr, q, vo, hwz, rfl, rfl, hq, ho, fr⟩ := hrel
    subst hwz
    have HO := Lib.hid ho
    have FR := Lib.hid fr
    clear ho fr
    by_cases hlt : q < s2
    · skip
      have hlt' : (q : Int) < (s2 : Int) := by omega
      have hq0 : (0 : Int) ≤ (q : Int) := by omega
      have hy := List.getElem?_eq_getElem (l := D) (i := q) (by rw [HLEN.out]; exact hlt)
      obtain ⟨y, hye⟩ : ∃ y, D[q]'(by rw [HLEN.out]; exact hlt) = y := ⟨_, rfl⟩
      rw [hye] at hy
      have HYY := Lib.hid hy
      obtain ⟨z, hz, hyz⟩ := HMEM.out y (List.mem_of_getElem? hy)
      have HYZ := Lib.hid hyz
      have hdup := ((HCS.out z hz).dup.new HF1.out).new FR.out
      have HDUP := Lib.hid hdup
      have HTL := Lib.hid (show (D.take q).length = q from by rw [List.length_take, HLEN.out]; omega)
      obtain ⟨gs, hgs, hcell⟩ : ∃ gs, s1 = some ⟨gs, 0, none⟩ ∧ wr.cell? ⟨gs, q, none⟩ = some (.int .i64 y.ref) := by
        rcases HSO.out.2 with ⟨he, h0⟩ | ⟨g, cap, cur, he, _⟩
        · omega
        · simp only [slv, Value.slice.injEq] at he
          refine ⟨g, he.1, FR.out.keep ?_ (by simp)⟩
          have := World.ownsRow.cells HSO.out (g := g) (by rw [he.1]; rfl) q (.int .i64 y.ref) (by simp [intsV, hy])
          rwa [Addr.add_lit, Nat.zero_add] at this
      subst hgs
      have hcm2 : wr.cell? ⟨B.n, 2, none⟩ = some (.map (some B.cm)) := FR.out.keep (HF1.out.keep HNET.out.c2 (by simp)) (by simp)
      have hlk := ((HNET.out.cs.keep HF1.out (by simp)).keep FR.out (by simp)).hit keyInt (t := 51) (e := 55) Tryz.underlying51 (x := .int .i64 y.ref) (v := .pointer (some ⟨z.d, 0, none⟩)) (List.mem_map.2 ⟨z, hz, by rw [hyz]; rfl⟩) false
      have HLK := Lib.hid hlk
      clear hy hye hyz hz hdup hlk
      go_upto_region 7 with fail
      clear hcell
      refine wp_region_lit ?_
      refine wpList_plain rfl (fun K hK => ?_); go_simp; refine hK _ _ ?_; clear hK K
      refine wpList_plain rfl (fun K hK => ?_); go_simp; refine hK _ _ ?_; clear hK K
      refine wpList_plain rfl (fun K hK => ?_); go_simp; refine hK _ _ ?_; clear hK K
      refine wpList_plain rfl (fun K hK => ?_); go_simp; refine hK _ _ ?_; clear hK K
      refine wpList_plain rfl (fun K hK => ?_); go_simp; refine hK _ _ ?_; clear hK K
      refine wpList_plain rfl (fun K hK => ?_); go_simp; refine hK _ _ ?_; clear hK K
      refine wpList_plain rfl (fun K hK => ?_); go_simp; refine hK _ _ ?_; clear hK K
      try simp only [Act.put, qj1, qj2, qj3, qj4, qj5, qj6]
      refine wpList_val rfl (v := .pointer (some ⟨z.d, 0, none⟩)) (w' := wr) (exec_lookup (M := .map (some B.cm)) (X := .int .i64 y.ref) rfl rfl rfl HLK.out) ?_
      try simp only [Act.put, qj1, qj2, qj3, qj4, qj5, qj6]
      refine wpList_plain rfl (fun K hK => ?_)
      go_simp
      refine (dupStateB HDUP.out).mono ?_
      rintro e w2 ⟨q4, rfl, hq4, f2⟩
      have HQ4 := Lib.hid (hq4.base (B' := E0) (by rw [← HE0.out]; exact FR.out.size))
      refine hK _ _ ?_
      clear hK K
      try simp only [Act.put, qj1, qj2, qj3, qj4, qj5, qj6]
      refine wpList_val rfl (v := .agg (pgC y q4).toArray) (w' := w2) (exec_bld2 (V := .int .i64 y.ref) (U := .agg (cnC y.c q4).toArray) rfl rfl (by rw [HYZ.out]; rfl) (bldConn y q4 w2)) ?_
      try simp only [Act.put, qj1, qj2, qj3, qj4, qj5, qj6]
      obtain ⟨w3, hw3⟩ : ∃ z, w2.alloc (.cells (pgC y q4).toArray 96) = z := ⟨_, rfl⟩
      obtain ⟨E3, hE3⟩ : ∃ z, w2.heap.size = z := ⟨_, rfl⟩
      have hb3 : Blk w3 E3 96 (pgC y q4) := by rw [← hw3, ← hE3]; exact Blk.made w2 96 (pgC y q4)
      have f3 : Fr [] w2 w3 := by rw [← hw3]; exact (Fr.refl [] w2).alloc _
      refine wpList_val rfl (v := .slice (some ⟨E3, 0, none⟩) 1 1) (w' := w3) ?_ ?_
      · refine exec_bsl (V := .agg (pgC y q4).toArray) rfl rfl ?_
        rw [bslConn, hw3, hE3]
      try simp only [Act.put, qj1, qj2, qj3, qj4, qj5, qj6]
      have HR3 := Lib.hid (show RowV w3 (.slice (some ⟨E3, 0, none⟩) 1 1) 1 17 (pgC y q4) from ⟨rfl, .inr ⟨E3, 0, 1, rfl, hb3.lt, hb3.at⟩⟩)
      have HQ3 := Lib.hid (show CnO w3 E0 y.c q4 from by rw [HYZ.out]; exact HQ4.out.new f3)
      have HF3 := Lib.hid (f2.step f3)
      clear hw3 hE3 hb3 f2 f3
      obtain ⟨Xs, hrec, hown⟩ := HO.out.next HF3.out
      rw [HTL.out] at hown
      refine wpList_append_any elemConn rfl _ _ rfl E0 (v := slv vo) (n := q) (xs := Xs.flatten) rfl hown (X := .slice (some ⟨E3, 0, none⟩) 1 1) (m := 1) (news := pgC y q4) rfl HR3.out (pgC_one _ _) (by omega) (by decide) (by rw [← HE0.out]; exact (FR.out.step HF3.out).size) ?_
      intro vo' w4 ho4 f4
      try simp only [Act.put, qj1, qj2, qj3, qj4, qj5, qj6]
      refine wpList_plain rfl (fun K hK => ?_); go_simp; refine hK _ _ ?_; clear hK K
      refine wpList_nil ?_
      try simp only [Act.put, qj1, qj2, qj3, qj4, qj5, qj6]
      have HF4 := Lib.hid ((FR.out.step HF3.out).ownRow hown f4 (by rw [HE0.out]; exact Nat.le_refl _))
      have HQ5 := Lib.hid (show CnO w4 E0 y.c q4 from ⟨rowFar (HQ3.out.b0) hown f4 (by decide), rowFar (HQ3.out.r0) hown f4 (by decide), rowFar (HQ3.out.b1) hown f4 (by decide), rowFar (HQ3.out.r1) hown f4 (by decide)⟩)
      have HC4 := Lib.hid (show COwn w4 E0 (slv vo') (D.take (q + 1)) from by
        rw [take_getG HYY.out]
        refine ⟨Xs ++ [pgC y q4], ((hrec.mono (fun X y ⟨t, e1, e2⟩ => (⟨t, e1, ⟨rowFar e2.b0 hown f4 (by decide), rowFar e2.r0 hown f4 (by decide), rowFar e2.b1 hown f4 (by decide), rowFar e2.r1 hown f4 (by decide)⟩⟩ : ElCO E0 w4 X y))).push rfl (pgC_one _ _) ⟨q4, rfl, HQ5.out⟩), ?_⟩
        rw [List.length_append, HTL.out, List.length_singleton, List.flatten_append, List.flatten_singleton]
        exact ho4)
      clear hrec hown ho4 f4 HO HR3 HF3 HDUP HLK HYZ HYY hcm2
      simp only [slv]
      go_wp2
      go_roundw
      case rel => exact ⟨_, q + 1, vo', rfl, by go_num, rfl, by omega, HC4.out, HF4.out⟩
      case measure => simp [intOf]; omega
    · skip
      obtain rfl : q = s2 := by omega
      have HDC := Lib.hid (show COwn wr w.heap.size (slv vo) D from by
        have := HO.out.base (B' := w.heap.size) (by rw [← HE0.out]; exact HF1.out.size)
        rwa [List.take_of_length_le (by rw [HLEN.out]; exact Nat.le_refl _)] at this)
      go_wp2
      go_ret
      exact ⟨vo, rfl, HDC.out, HF1.out.step FR.out⟩
theorem netListeners_g {own : Nat → Nat} {B : NB} {L : List LB} {C : List CG} {G : Nat} (D : List PN.PL) (w : World) (h : NetG w own B L C G) (hD : PN.RelL (L.map LB.pl) D) (hG : G < 4611686018427387904) :
    Calls Tryz.prog 24 #[.pointer (some ⟨B.n, 0, none⟩)] w (LisOutG D w) := by
  obtain ⟨n, hn⟩ : ∃ n, D.length = n := ⟨_, rfl⟩
  have hnC : n = L.length := by rw [← hn, hD.len]; simp
  have hn1 : n ≤ 128 := by have := h.nl; omega
  obtain ⟨hp, hs⟩ := rel_keysL hD
  have hkey : (L.map LB.ent).map (·.1) = (L.map (fun y => (y.ref : Int))).map (Value.int .i64) := by
    rw [List.map_map, List.map_map]
    rfl
  have hcm : (L.map LB.pl).map (fun y => (y.ref : Int)) = L.map (fun y => (y.ref : Int)) := by
    rw [List.map_map]
    rfl
  rw [hcm] at hp
  have HN := Lib.hid (netNone_any w h.net)
  have HLS := Lib.hid (listQ_any B.lm (L.map LB.ent) (D.map (fun y => (y.ref : Int))) w h.net.ls _ hkey hp hs (by rw [List.length_map]; omega))
  have HNET := Lib.hid h.net
  have HCS := Lib.hid h.ls
  have HMEM := Lib.hid (show ∀ y ∈ D, ∃ z ∈ L, y = z.pl from fun y hy => by
    obtain ⟨z, hz, rfl⟩ := List.mem_map.1 (hD.mem.1 hy)
    exact ⟨z, hz, rfl⟩)
  have HLEN := Lib.hid hn
  have c2 := h.net.c1
  clear h hD hp hs hkey hcm hnC hn
  go_enter Tryz.func24, Tryz.ntmps24
  go_wp2_with fail
  refine HN.out.mono ?_
  rintro e w' ⟨rfl, rfl⟩
  go_wp2_with fail
  refine HLS.out.mono ?_
  rintro e w1 ⟨⟨s1, s2, s3⟩, rfl, hso, f1⟩
  rw [List.length_map, HLEN.out] at hso
  obtain rfl : s2 = n := by
    rcases hso.2 with ⟨he, h0⟩ | ⟨g, cap, cur, he, _⟩
    · simp only [slv, Value.slice.injEq] at he
      omega
    · simp only [slv, Value.slice.injEq] at he
      exact he.2.1
  have HSO := Lib.hid hso
  have HF1 := Lib.hid f1
  have HE := Lib.hid f1.size
  obtain ⟨E0, hE0⟩ : ∃ z, w1.heap.size = z := ⟨_, rfl⟩
  have HE0 := Lib.hid hE0
  clear hso f1 c2 hE0
  simp only [slv]
  go_wp2_with fail
  go_loopw [15, 3] (fun i v wr => ∃ (wz : World) (q : Nat) (vo : Sli), wz = wr ∧ i = .int .i64 q ∧ v = .slice vo.1 vo.2.1 vo.2.2 ∧ q ≤ s2 ∧ RowO 100 5 (ElLO E0) wr E0 (slv vo) (D.take q) ∧ Fr [] w1 wr) (fun i _ _ => s2 - (intOf i).toNat)
  case atStart => exact ⟨_, 0, (none, 0, 0), rfl, rfl, rfl, by omega, ⟨[], Recs.nil, World.ownsRow_nil _ _ _ _⟩, Fr.refl _ _⟩
  case round =>
    obtain ⟨wr, q, vo, hwz, rfl, rfl, hq, ho, fr⟩ := hrel
    subst hwz
    have HO := Lib.hid ho
    have FR := Lib.hid fr
    clear ho fr
    by_cases hlt : q < s2
    · skip
      have hlt' : (q : Int) < (s2 : Int) := by omega
      have hq0 : (0 : Int) ≤ (q : Int) := by omega
      have hy := List.getElem?_eq_getElem (l := D) (i := q) (by rw [HLEN.out]; exact hlt)
      obtain ⟨y, hye⟩ : ∃ y, D[q]'(by rw [HLEN.out]; exact hlt) = y := ⟨_, rfl⟩
      rw [hye] at hy
      have HYY := Lib.hid hy
      obtain ⟨z, hz, hyz⟩ := HMEM.out y (List.mem_of_getElem? hy)
      have HYZ := Lib.hid hyz
      have hlw := ((HCS.out z hz).keep HF1.out (fun x hx => by cases hx)).keep FR.out (fun x hx => by cases hx)
      have HBK := Lib.hid hlw.back
      have HGZ := Lib.hid (show z.g < 4611686018427387904 ∧ z.l.length ≤ 100000 from ⟨by have := hlw.g; omega, by have := hlw.len; have := hlw.most; omega⟩)
      have HTL := Lib.hid (show (D.take q).length = q from by rw [List.length_take, HLEN.out]; omega)
      obtain ⟨gs, hgs, hcell⟩ : ∃ gs, s1 = some ⟨gs, 0, none⟩ ∧ wr.cell? ⟨gs, q, none⟩ = some (.int .i64 y.ref) := by
        rcases HSO.out.2 with ⟨he, h0⟩ | ⟨g, cap, cur, he, _⟩
        · omega
        · simp only [slv, Value.slice.injEq] at he
          refine ⟨g, he.1, FR.out.keep ?_ (by simp)⟩
          have := World.ownsRow.cells HSO.out (g := g) (by rw [he.1]; rfl) q (.int .i64 y.ref) (by simp [intsV, hy])
          rwa [Addr.add_lit, Nat.zero_add] at this
      subst hgs
      have hcm2 : wr.cell? ⟨B.n, 1, none⟩ = some (.map (some B.lm)) := FR.out.keep (HF1.out.keep HNET.out.c1 (by simp)) (by simp)
      have hlk := ((HNET.out.ls.keep HF1.out (by simp)).keep FR.out (by simp)).hit keyInt (t := 49) (e := 120) Tryz.underlying49 (x := .int .i64 y.ref) (v := .agg #[.pointer (some ⟨z.b, 0, none⟩), .string z.s, .int .i64 z.p]) (List.mem_map.2 ⟨z, hz, by rw [hyz]; rfl⟩) false
      rw [if_neg (by decide)] at hlk
      have HLK := Lib.hid hlk
      clear hy hye hyz hz hlw hlk
      go_upto_region 7 with fail
      clear hcell
      refine wp_region_lit ?_
      refine wpList_plain rfl (fun K hK => ?_); go_simp; refine hK _ _ ?_; clear hK K
      refine wpList_plain rfl (fun K hK => ?_); go_simp; refine hK _ _ ?_; clear hK K
      refine wpList_plain rfl (fun K hK => ?_); go_simp; refine hK _ _ ?_; clear hK K
      refine wpList_plain rfl (fun K hK => ?_); go_simp; refine hK _ _ ?_; clear hK K
      refine wpList_plain rfl (fun K hK => ?_); go_simp; refine hK _ _ ?_; clear hK K
      try simp only [Act.put, qj1, qj2, qj3, qj4, qj5, qj6]
      refine wpList_val rfl (v := .agg ([.pointer (some ⟨z.b, 0, none⟩), .string z.s, .int .i64 z.p]).toArray) (w' := wr) (exec_lookup (M := .map (some B.lm)) (X := .int .i64 y.ref) rfl rfl rfl HLK.out) ?_
      try simp only [Act.put, qj1, qj2, qj3, qj4, qj5, qj6]
      refine wpList_plain rfl (fun K hK => ?_); go_simp; refine hK _ _ ?_; clear hK K
      try simp only [Act.put, qj1, qj2, qj3, qj4, qj5, qj6]
      obtain ⟨E2, hE_⟩ : ∃ E, wr.heap.size = E := ⟨_, rfl⟩
      obtain ⟨wx, hw_⟩ : ∃ z, wr.alloc (.cells #[.pointer none, .string ⟨#[]⟩, .int .i64 0] 120) = z := ⟨_, rfl⟩
      have hbx : Blk wx E2 120 [.pointer none, .string ⟨#[]⟩, .int .i64 0] := by rw [← hw_, ← hE_]; exact Blk.made wr 120 _
      have fx : Fr [] wr wx := by rw [← hw_]; exact (Fr.refl [] wr).alloc _
      rw [hw_]
      simp only [hE_]
      have HE2 := Lib.hid (show E0 ≤ E2 from by rw [← hE_, ← HE0.out]; exact FR.out.size)
      have HX := Lib.hid hbx
      have HFX := Lib.hid fx
      have HEE := Lib.hid hE_
      clear fx hbx hw_ hE_
      obtain ⟨w2, hst, hb_, hf_⟩ := store_all (t := 120) ([.pointer (some ⟨z.b, 0, none⟩), .string z.s, .int .i64 z.p]) size120 rfl (by intro u hu; simp only [List.mem_cons, List.not_mem_nil, or_false] at hu; rcases hu with rfl | rfl | rfl <;> rfl) HX.out rfl
      refine wpList_skp rfl (w' := w2) ?_ ?_
      · show Sem.run Tryz.prog ((Instr.storeAt 120 (.pointer (some ⟨E2, 0, none⟩)) (.agg ([.pointer (some ⟨z.b, 0, none⟩), .string z.s, .int .i64 z.p]).toArray)) >>= fun _ => pure Next.skip) _ = _
        rw [Sem.run_bind, hst]
        rfl
      clear hst
      try simp only [Act.put, qj1, qj2, qj3, qj4, qj5, qj6]
      refine wpList_nil ?_
      try simp only [Act.put, qj1, qj2, qj3, qj4, qj5, qj6]
      have HX2 := Lib.hid hb_
      have HF2 := Lib.hid (HFX.out.own1 (S := []) (B := 0) hf_ (by rw [HEE.out]; exact Nat.le_refl _))
      clear hb_ hf_ HX HFX HEE hcm2 HLK
      obtain ⟨w3, hw3⟩ : ∃ z, w2.drew = z := ⟨_, rfl⟩
      have f3 : Fr [] w2 w3 := by rw [← hw3]; exact (Fr.refl [] w2).drew
      have HX3 := Lib.hid (HX2.out.keep f3 (by simp))
      have HF3 := Lib.hid (HF2.out.step f3)
      have HW3 := Lib.hid hw3
      clear f3 hw3 HX2 HF2
      go_upto_region 8 with fail
      refine wp_region_held_drew (S := fun W => W.cell? ⟨E2, 0, none⟩ = some (.pointer (some ⟨z.b, 0, none⟩)) ∧ LiesAt W E2 1 [.string z.s, .int .i64 z.p]) (by kernel_rfl) (by rw [HW3.out]; exact ⟨HX3.out.at 0 _ rfl, HX3.out.at.part (k := 1) (n := 2) rfl⟩) (fun hHeld => ?_)
      rw [HW3.out] at hHeld ⊢
      refine wpAnyH_take (i := 0) (oi := _) (v := ?_) rfl (by kernel_rfl) (by kernel_rfl) (by kernel_rfl) (fun _ _ _ h => h) (Or.inl ⟨by rfl, ?_⟩) (by first | assumption | trivial) ?_
      rotate_left
      · intro w hSw; (try dsimp only at hSw); go_simp; try with_reducible rfl
      try simp only [Act.put, qj1, qj2, qj3, qj4, qj5, qj6]
      refine wpAnyH_take (i := 1) (oi := _) (v := ?_) rfl (by kernel_rfl) (by kernel_rfl) (by kernel_rfl) (fun _ _ _ h => h) (Or.inl ⟨by rfl, ?_⟩) (by first | assumption | trivial) ?_
      rotate_left
      · intro w hSw; (try dsimp only at hSw); go_simp; try with_reducible rfl
      try simp only [Act.put, qj1, qj2, qj3, qj4, qj5, qj6]
      refine wpAnyH_take (i := 2) (oi := _) (v := ?_) rfl (by kernel_rfl) (by kernel_rfl) (by kernel_rfl) (fun _ _ _ h => h) (Or.inl ⟨by rfl, ?_⟩) (by first | assumption | trivial) ?_
      rotate_left
      · intro w hSw; (try dsimp only at hSw); go_simp; try with_reducible rfl
      try simp only [Act.put, qj1, qj2, qj3, qj4, qj5, qj6]
      refine wpAnyH_take (i := 3) (oi := _) (v := .agg #[.string z.s, .int .i64 z.p]) rfl (by kernel_rfl) (by kernel_rfl) (by kernel_rfl) (fun _ _ _ h => h) (Or.inl ⟨by rfl, ?_⟩) (by first | assumption | trivial) ?_
      · intro w hSw
        try dsimp only at hSw
        show Sem.run Tryz.prog ((Instr.loadAt 28 (.pointer (some ⟨E2, 1, none⟩))) >>= fun x => pure (Next.value x)) w = _
        rw [Sem.run_bind, load_all agg28 size28 (xs := [.string z.s, .int .i64 z.p]) rfl hSw.2]
        rfl
      try simp only [Act.put, qj1, qj2, qj3, qj4, qj5, qj6]
      refine wpAnyH_take (i := 4) (oi := _) (v := ?_) rfl (by kernel_rfl) (by kernel_rfl) (by kernel_rfl) (fun _ _ _ h => h) (Or.inl ⟨by rfl, ?_⟩) (by first | assumption | trivial) ?_
      rotate_left
      · intro w hSw; (try dsimp only at hSw); go_simp; try with_reducible rfl
      try simp only [Act.put, qj1, qj2, qj3, qj4, qj5, qj6]
      refine wpAnyH_take (i := 5) (oi := _) (v := ?_) rfl (by kernel_rfl) (by kernel_rfl) (by kernel_rfl) (fun _ _ _ h => h) (Or.inl ⟨by rfl, ?_⟩) (by first | assumption | trivial) ?_
      rotate_left
      · intro w hSw; (try dsimp only at hSw); go_simp; try with_reducible rfl
      try simp only [Act.put, qj1, qj2, qj3, qj4, qj5, qj6]
      refine wpAnyH_take (i := 7) (oi := _) (v := ?_) rfl (by kernel_rfl) (by kernel_rfl) (by kernel_rfl) (fun _ _ _ h => h) (Or.inl ⟨by rfl, ?_⟩) (by first | assumption | trivial) ?_
      rotate_left
      · intro w hSw; (try dsimp only at hSw); go_simp; try with_reducible rfl
      try simp only [Act.put, qj1, qj2, qj3, qj4, qj5, qj6]
      refine wpAnyH_take (i := 8) (oi := _) (v := ?_) rfl (by kernel_rfl) (by kernel_rfl) (by kernel_rfl) (fun _ _ _ h => h) (Or.inl ⟨by rfl, ?_⟩) (by first | assumption | trivial) ?_
      rotate_left
      · intro w hSw; (try dsimp only at hSw); go_simp; try with_reducible rfl
      try simp only [Act.put, qj1, qj2, qj3, qj4, qj5, qj6]
      refine wpAnyH_ready (rs := [6]) (by kernel_rfl) (by simp) ?_
      refine AllReadyH.cons (o := _) rfl (fun K hK => ?_) AllReadyH.nil
      go_simp
      refine (most_any _ _ _ _ _ _ _ _ _ (HBK.out.keep HF3.out (by simp) (by simp) (by simp) (by simp))).mono ?_
      rintro e w' ⟨rfl, rfl⟩
      refine hK.out _ _ (hHeld) (fun hHeld => ?_)
      clear hK K
      try simp only [Act.put, qj1, qj2, qj3, qj4, qj5, qj6]
      refine wpAnyH_ready (rs := [9]) (by kernel_rfl) (by simp) ?_
      refine AllReadyH.cons (o := _) rfl (fun K hK => ?_) AllReadyH.nil
      go_simp
      refine (waiting_any _ _ _ _ _ _ _ _ HGZ.out.1 _ (HBK.out.keep HF3.out (by simp) (by simp) (by simp) (by simp)) HGZ.out.2).mono ?_
      rintro e w4 ⟨v, rfl, how, f4⟩
      obtain ⟨sq, rfl, _⟩ := (RowV.of_own how).sli
      have hsz : E0 ≤ w3.heap.size := by rw [← HE0.out]; exact (FR.out.step HF3.out).size
      have HQ4 := Lib.hid (show w4.ownsRow E0 3 1 (slv sq) z.pl.l.length (intsV z.pl.l) from by
        have := rowBase how hsz
        have e1 : z.pl.l.length = z.l.length := by simp [LB.pl]
        have e2 : intsV z.pl.l = z.l.map connV64 := by simp [intsV, LB.pl, connV64, Function.comp_def]
        rw [e1, e2]
        exact this)
      have HX4 := Lib.hid (HX3.out.keep f4 (by simp))
      have HF4 := Lib.hid (HF3.out.step f4)
      clear how f4 hsz
      refine hK.out _ _ (⟨HX4.out.at 0 _ rfl, HX4.out.at.part (k := 1) (n := 2) rfl⟩) (fun hHeld => ?_)
      clear hK K
      try simp only [Act.put, qj1, qj2, qj3, qj4, qj5, qj6]
      refine wpAnyH_take (i := 10) (oi := _) (v := .agg #[.string z.s, .int .i64 z.p, .int .i64 z.most, slv sq]) rfl (by kernel_rfl) (by kernel_rfl) (by kernel_rfl) (fun _ _ _ h => h) (Or.inl ⟨by rfl, ?_⟩) (by first | assumption | trivial) ?_
      · intro w hSw
        try dsimp only at hSw
        exact exec_bld3 (V := .agg #[.string z.s, .int .i64 z.p]) (U := .int .i64 z.most) (T := slv sq) rfl rfl rfl rfl (bldLg3 z.s z.p z.most sq w)
      try simp only [Act.put, qj1, qj2, qj3, qj4, qj5, qj6]
      refine wpAnyH_take (i := 11) (oi := _) (v := .agg (lsC z.pl sq).toArray) rfl (by kernel_rfl) (by kernel_rfl) (by kernel_rfl) (fun _ _ _ h => h) (Or.inl ⟨by rfl, ?_⟩) (by first | assumption | trivial) ?_
      · intro w hSw
        try dsimp only at hSw
        exact exec_bld2 (V := .int .i64 z.pl.ref) (U := .agg #[.string z.s, .int .i64 z.p, .int .i64 z.most, slv sq]) rfl (by rw [HYZ.out]; rfl) rfl (bldLs3 z.pl sq w)
      try simp only [Act.put, qj1, qj2, qj3, qj4, qj5, qj6]
      refine wpAnyH_ready (rs := [12]) (by kernel_rfl) (by simp) ?_
      refine AllReadyH.cons (o := _) rfl (fun K hK => ?_) AllReadyH.nil
      obtain ⟨w5, hw5⟩ : ∃ zz, w4.alloc (.cells (lsC z.pl sq).toArray 100) = zz := ⟨_, rfl⟩
      obtain ⟨E5, hE5⟩ : ∃ z, w4.heap.size = z := ⟨_, rfl⟩
      have hb5 : Blk w5 E5 100 (lsC z.pl sq) := by rw [← hw5, ← hE5]; exact Blk.made w4 100 (lsC z.pl sq)
      have f5 : Fr [] w4 w5 := by rw [← hw5]; exact (Fr.refl [] w4).alloc _
      split
      rotate_left
      · rename_i hno
        exact absurd rfl hno
      refine wp_vl (v := .slice (some ⟨E5, 0, none⟩) 1 1) (w' := w5) ?_ ?_
      · refine exec_bsl (V := .agg (lsC z.pl sq).toArray) rfl rfl ?_
        rw [bslLis, hw5, hE5]
      have HR5 := Lib.hid (show RowV w5 (.slice (some ⟨E5, 0, none⟩) 1 1) 1 5 (lsC z.pl sq) from ⟨rfl, .inr ⟨E5, 0, 1, rfl, hb5.lt, hb5.at⟩⟩)
      have HX5 := Lib.hid (HX4.out.keep f5 (by simp))
      have HF5 := Lib.hid (HF4.out.step f5)
      have HQ5 := Lib.hid (rowNew HQ4.out f5)
      clear hw5 hE5 hb5 f5
      refine hK.out _ _ (⟨HX5.out.at 0 _ rfl, HX5.out.at.part (k := 1) (n := 2) rfl⟩) (fun hHeld => ?_)
      clear hK K
      try simp only [Act.put, qj1, qj2, qj3, qj4, qj5, qj6]
      refine wpAnyH_ready (rs := [13]) (by kernel_rfl) (by simp) ?_
      refine AllReadyH.cons (o := _) rfl (fun K hK => ?_) AllReadyH.nil
      split
      rotate_left
      · rename_i hno
        exact absurd rfl hno
      obtain ⟨Xs, hrec, hown⟩ := RowO.next HO.out HF5.out
      rw [HTL.out] at hown
      refine wp_append_any elemLis _ _ rfl E0 (v := slv vo) (n := q) (xs := Xs.flatten) rfl hown (X := .slice (some ⟨E5, 0, none⟩) 1 1) (m := 1) (news := lsC z.pl sq) rfl HR5.out (lsC_one _ _) (by omega) (by decide) (by rw [← HE0.out]; exact (FR.out.step HF5.out).size) ?_
      intro vo' w6 ho6 f6
      have HX6 := Lib.hid (HX5.out.farRow hown f6 (by decide))
      have HF6 := Lib.hid ((FR.out.step HF5.out).ownRow hown f6 (by rw [HE0.out]; exact Nat.le_refl _))
      have HC6 := Lib.hid (show RowO 100 5 (ElLO E0) w6 E0 (slv vo') (D.take (q + 1)) from by
        rw [take_getG HYY.out]
        refine ⟨Xs ++ [lsC z.pl sq], ((hrec.mono (fun X y ⟨t, e1, e2⟩ => (⟨t, e1, rowFar e2 hown f6 (by decide)⟩ : ElLO E0 w6 X y))).push rfl (lsC_one _ _) ⟨sq, by rw [HYZ.out], by rw [HYZ.out]; exact rowFar HQ5.out hown f6 (by decide)⟩), ?_⟩
        rw [List.length_append, HTL.out, List.length_singleton, List.flatten_append, List.flatten_singleton]
        exact ho6)
      clear hrec hown ho6 f6
      refine hK.out _ _ (⟨HX6.out.at 0 _ rfl, HX6.out.at.part (k := 1) (n := 2) rfl⟩) (fun hHeld => ?_)
      clear hK K
      try simp only [Act.put, qj1, qj2, qj3, qj4, qj5, qj6]
      refine wpAnyH_take (i := 14) (oi := _) (v := ?_) rfl (by kernel_rfl) (by kernel_rfl) (by kernel_rfl) (fun _ _ _ h => h) (Or.inl ⟨by rfl, ?_⟩) (by first | assumption | trivial) ?_
      rotate_left
      · intro w hSw; (try dsimp only at hSw); go_simp; try with_reducible rfl
      try simp only [Act.put, qj1, qj2, qj3, qj4, qj5, qj6]
      refine wpAnyH_done (by kernel_rfl) ?_ _
      clear hHeld HX3 HX4 HX5 HX6 HF3 HF4 HF5 HQ4 HQ5 HR5 HO HBK HGZ HYY HYZ HW3
      simp only [slv]
      go_wp2
      go_roundw
      case rel => exact ⟨_, q + 1, vo', rfl, by go_num, rfl, by omega, HC6.out, HF6.out⟩
      case measure => simp [intOf]; omega
    · skip
      obtain rfl : q = s2 := by omega
      have HDC := Lib.hid (show RowO 100 5 (ElLO w.heap.size) wr w.heap.size (slv vo) D from by
        have hle : w.heap.size ≤ E0 := by rw [← HE0.out]; exact HF1.out.size
        obtain ⟨Xs, h1, h2⟩ := HO.out
        have : RowO 100 5 (ElLO w.heap.size) wr w.heap.size (slv vo) (D.take _) := ⟨Xs, h1.mono (fun X y ⟨q, e1, e2⟩ => ⟨q, e1, rowBase e2 hle⟩), rowBase h2 hle⟩
        rwa [List.take_of_length_le (by rw [HLEN.out]; exact Nat.le_refl _)] at this)
      go_wp2
      go_ret
      exact ⟨vo, rfl, HDC.out, HF1.out.step FR.out⟩
end Go.Proofs.YtmdhlodafjpnmaaGreat
namespace Go.Proofs.YtmdhlodafjpnmaaGreat
set_option linter.unusedVariables false
set_option linter.unusedSimpArgs false
set_option maxRecDepth 100000
set_option maxHeartbeats 4000000

theorem find_perm {α : Type} {l m : List α} (p : α → Bool) (h : l.Perm m) (hu : ∀ x ∈ l, ∀ y ∈ l, p x = true → p y = true → x = y) : l.find? p = m.find? p := by
  cases h1 : l.find? p with
  | none =>
    cases h2 : m.find? p with
    | none => rfl
    | some y =>
      have := List.find?_eq_none.1 h1 y (h.mem_iff.2 (List.mem_of_find?_eq_some h2))
      exact absurd (List.find?_some h2) this
  | some x =>
    cases h2 : m.find? p with
    | none =>
      have := List.find?_eq_none.1 h2 x (h.mem_iff.1 (List.mem_of_find?_eq_some h1))
      exact absurd (List.find?_some h1) this
    | some y =>
      rw [hu x (List.mem_of_find?_eq_some h1) y (h.mem_iff.2 (List.mem_of_find?_eq_some h2)) (List.find?_some h1) (List.find?_some h2)]
theorem nodup_inj {α β : Type} {f : α → β} : ∀ {l : List α}, (l.map f).Nodup → ∀ x ∈ l, ∀ y ∈ l, f x = f y → x = y
  | [], _, x, hx, _, _, _ => by cases hx
  | a :: l, h, x, hx, y, hy, he => by
    rw [List.map_cons, List.nodup_cons] at h
    rcases List.mem_cons.1 hx with hxa | hx2
    · rcases List.mem_cons.1 hy with hya | hy2
      · rw [hxa, hya]
      · exact absurd (List.mem_map.2 ⟨y, hy2, by rw [← he, hxa]⟩) h.1
    · rcases List.mem_cons.1 hy with hya | hy2
      · exact absurd (List.mem_map.2 ⟨x, hx2, by rw [he, hya]⟩) h.1
      · exact nodup_inj h.2 x hx2 y hy2 he
theorem pair_inj {α : Type} {R : α → α → Prop} (hs : ∀ a b, R a b → R b a) : ∀ {l : List α}, l.Pairwise (fun x y => ¬ R x y) → ∀ x ∈ l, ∀ y ∈ l, R x y → x = y
  | [], _, x, hx, _, _, _ => by cases hx
  | a :: l, h, x, hx, y, hy, he => by
    rw [List.pairwise_cons] at h
    rcases List.mem_cons.1 hx with hxa | hx2
    · rcases List.mem_cons.1 hy with hya | hy2
      · rw [hxa, hya]
      · exact absurd (hxa ▸ he) (h.1 y hy2)
    · rcases List.mem_cons.1 hy with hya | hy2
      · exact absurd (hs _ _ (hya ▸ he)) (h.1 x hx2)
      · exact pair_inj hs h.2 x hx2 y hy2 he

/-- What holds of the plain form of a net. -/
structure GoodG (N : NG) : Prop where
  lr : (N.L.map (·.ref)).Nodup
  cr : (N.C.map (·.ref)).Nodup
  ad : N.L.Pairwise fun x y => ¬ (x.s = y.s ∧ x.p = y.p)
  qu : ∀ k ∈ PN.waitsOf N.L, ∃ y ∈ N.C, (y.ref : Int) = k ∧ y.c.a1 = false
  va : (PN.waitsOf N.L).Nodup
  op : ∀ y ∈ N.C, (y.c.a0 && y.c.a1) = false
  ok : ∀ y ∈ N.C, CcOk y.c
  nl : N.L.length ≤ 128
  nc : N.C.length ≤ 128
  ls : ∀ x ∈ N.L, addrB x.s.data.toList x.p = true ∧ x.s.size ≤ 1000000 ∧ (x.p == 0) = false ∧ (1 ≤ x.most ∧ x.most ≤ 128) ∧ (x.l.length : Int) ≤ x.most
theorem NetG.good {w : World} {own : Nat → Nat} {B : NB} {L : List LB} {C : List CG} {G : Nat} (h : NetG w own B L C G) : GoodG (plainG L C) := by
  refine ⟨?_, ?_, ?_, ?_, ?_, ?_, ?_, by simpa [plainG] using h.nl, by simpa [plainG] using h.nc, fun x hx => ?_⟩
  · have := h.refs
    simpa [plainG, LB.pl, Function.comp_def] using this
  · have := h.crefs
    simpa [plainG, CG.pg, Function.comp_def] using this
  · exact List.pairwise_map.2 h.adrs
  · intro k hk
    rw [show (plainG L C).L = L.map LB.pl from rfl, waitsOf_qs] at hk
    obtain ⟨y, hy, h1, h2⟩ := h.queue k hk
    exact ⟨y.pg, List.mem_map.2 ⟨y, hy, rfl⟩, h1, h2⟩
  · rw [show (plainG L C).L = L.map LB.pl from rfl, waitsOf_qs]
    exact h.vals
  · intro y hy
    obtain ⟨z, hz, rfl⟩ := List.mem_map.1 hy
    exact (h.cs z hz).op
  · intro y hy
    obtain ⟨z, hz, rfl⟩ := List.mem_map.1 hy
    exact (h.cs z hz).ok
  · obtain ⟨z, hz, rfl⟩ := List.mem_map.1 hx
    have := h.ls z hz
    exact ⟨this.adr, this.sz, this.port, this.most, by have := this.len; simpa [LB.pl] using this⟩

/-- The same net in another order. -/
structure Near (M N : NG) : Prop where
  L : M.L.Perm N.L
  C : M.C.Perm N.C
theorem Near.refl (M : NG) : Near M M := ⟨List.Perm.refl _, List.Perm.refl _⟩
section
variable {M N : NG}
theorem Near.at (h : Near M N) (g : GoodG M) (s : ByteArray) (p : Int) : PN.at? M.L s p = PN.at? N.L s p :=
  find_perm _ h.L (fun x hx y hy e1 e2 => pair_inj (R := fun x y : PN.PL => x.s = y.s ∧ x.p = y.p) (fun a b hab => ⟨hab.1.symm, hab.2.symm⟩) g.ad x hx y hy (by
    have e1 := of_decide_eq_true e1
    have e2 := of_decide_eq_true e2
    exact ⟨e1.1.trans e2.1.symm, e1.2.trans e2.2.symm⟩))
theorem Near.by (h : Near M N) (g : GoodG M) (r : Int) : PN.byRef M.L r = PN.byRef N.L r :=
  find_perm _ h.L (fun x hx y hy e1 e2 => nodup_inj g.lr x hx y hy (by
    have e1 := of_decide_eq_true e1
    have e2 := of_decide_eq_true e2
    omega))
theorem Near.byG (h : Near M N) (g : GoodG M) (r : Int) : byG M.C r = byG N.C r :=
  find_perm _ h.C (fun x hx y hy e1 e2 => nodup_inj g.cr x hx y hy (by
    have e1 := of_decide_eq_true e1
    have e2 := of_decide_eq_true e2
    omega))
theorem Near.freeC (h : Near M N) : PN.free (M.C.map (·.ref)) = PN.free (N.C.map (·.ref)) := PN.free_perm (h.C.map _)
theorem Near.freeL (h : Near M N) : PN.free (M.L.map (·.ref)) = PN.free (N.L.map (·.ref)) := PN.free_perm (h.L.map _)
theorem Near.portOf (h : Near M N) (s : ByteArray) (p : Int) : PN.portOf M.L s p = PN.portOf N.L s p := by
  unfold PN.portOf PN.ports
  rw [PN.free_perm ((h.L.filter _).map _)]
theorem Near.waits (h : Near M N) (k : Int) : (k ∈ PN.waitsOf M.L) = (k ∈ PN.waitsOf N.L) := by
  refine propext ?_
  unfold PN.waitsOf
  simp only [List.mem_flatMap]
  exact ⟨fun ⟨x, hx, hk⟩ => ⟨x, h.L.mem_iff.1 hx, hk⟩, fun ⟨x, hx, hk⟩ => ⟨x, h.L.mem_iff.2 hx, hk⟩⟩
theorem Near.pair (h : Near M N) (c : Nat) : Near (M.pair c).1 (N.pair c).1 ∧ (M.pair c).2 = (N.pair c).2 := by
  unfold NG.pair
  rw [h.freeC, h.C.length_eq]
  split
  · exact ⟨h, rfl⟩
  · exact ⟨⟨h.L, h.C.append_right _⟩, rfl⟩
theorem Near.connect (h : Near M N) (g : GoodG M) (s : ByteArray) (p : Int) (c : Nat) : Near (M.connect s p c).1 (N.connect s p c).1 ∧ (M.connect s p c).2 = (N.connect s p c).2 := by
  unfold NG.connect
  rw [h.freeC, h.C.length_eq, h.at g]
  split
  · exact ⟨h, rfl⟩
  · split
    · exact ⟨h, rfl⟩
    · split
      · exact ⟨h, rfl⟩
      · exact ⟨⟨h.L.map _, h.C.append_right _⟩, rfl⟩
theorem Near.accept (h : Near M N) (g : GoodG M) (r : Int) : Near (M.accept r).1 (N.accept r).1 ∧ (M.accept r).2 = (N.accept r).2 := by
  unfold NG.accept
  rw [h.by g]
  split
  · exact ⟨h, rfl⟩
  · split
    · exact ⟨h, rfl⟩
    · exact ⟨⟨h.L.map _, h.C⟩, rfl⟩
theorem hangL_perm {C D : List PG} (h : C.Perm D) (k : Int) (e : Bool) : (hangL C k e).Perm (hangL D k e) := (h.map _).filter _
theorem hangsL_perm : ∀ (l : List Int) {C D : List PG}, C.Perm D → (hangsL C l).Perm (hangsL D l)
  | [], _, _, h => h
  | k :: l, _, _, h => hangsL_perm l (hangL_perm h k true)
theorem Near.close (h : Near M N) (g : GoodG M) (r : Int) : Near (M.close r).1 (N.close r).1 ∧ (M.close r).2 = (N.close r).2 := by
  unfold NG.close
  rw [h.by g]
  split
  · exact ⟨h, rfl⟩
  · exact ⟨⟨h.L.filter _, hangsL_perm _ h.C⟩, rfl⟩
theorem Near.hang (h : Near M N) (g : GoodG M) (k en : Int) : Near (M.hang k en).1 (N.hang k en).1 ∧ (M.hang k en).2 = (N.hang k en).2 := by
  unfold NG.hang
  rw [h.byG g]
  simp only [h.waits]
  split
  · exact ⟨h, rfl⟩
  · split
    · exact ⟨h, rfl⟩
    · split
      · exact ⟨h, rfl⟩
      · exact ⟨⟨h.L, hangL_perm h.C _ _⟩, rfl⟩
theorem Near.listen (h : Near M N) (g : GoodG M) (s : ByteArray) (p most : Int) (ok : Bool) : Near (M.listen s p most ok).1 (N.listen s p most ok).1 ∧ (M.listen s p most ok).2 = (N.listen s p most ok).2 := by
  unfold NG.listen
  rw [h.portOf, h.freeL, h.L.length_eq, h.at g]
  split
  · exact ⟨h, rfl⟩
  · split
    · exact ⟨h, rfl⟩
    · split
      · exact ⟨h, rfl⟩
      · exact ⟨⟨h.L.append_right _, h.C⟩, rfl⟩
end
/-- There is a list of them in the order of their numbers. -/
theorem rel_ex {α : Type} (ref : α → Nat) (l : List α) (hn : (l.map ref).Nodup) : ∃ D, PN.Rel ref l D := by
  refine ⟨l.mergeSort (fun a b => decide (ref a ≤ ref b)), List.mergeSort_perm _ _, ?_⟩
  have h1 := List.pairwise_mergeSort (le := fun a b => decide (ref a ≤ ref b)) (fun a b c h1 h2 => by
    have h1 := of_decide_eq_true h1
    have h2 := of_decide_eq_true h2
    exact decide_eq_true (by omega)) (fun a b => by
    rcases Nat.le_total (ref a) (ref b) with h | h
    · simp [h]
    · simp [h]) l
  have h2 : ((l.mergeSort (fun a b => decide (ref a ≤ ref b))).map ref).Nodup := ((List.mergeSort_perm l _).map ref).nodup_iff.2 hn
  have h3 := List.pairwise_map.1 h2
  refine (h1.and h3).imp (fun {a b} ⟨h1, h2⟩ => ?_)
  have := of_decide_eq_true h1
  omega
end Go.Proofs.YtmdhlodafjpnmaaGreat
namespace Go.Proofs.YtmdhlodafjpnmaaGreat
open Go.RowKit
open Go.Maps (Keyed)
set_option linter.unusedVariables false
set_option maxRecDepth 100000
set_option maxHeartbeats 4000000

section
variable {own : Nat → Nat} {B : NB} {L : List LB} {C : List CG} {G : Nat} (w : World)
theorem netFindG_some (s : ByteArray) (p : Int) (h : NetG w own B L C G) (hs : s.size ≤ 1000000) :
    Calls Tryz.prog 32 #[.pointer (some ⟨B.n, 0, none⟩), .agg #[.string s, .int .i64 p]] w fun e w' => ∃ v c : Int, e = .returned (.tuple #[.int .i64 v, .int .i64 c]) ∧ (c == 1) = false ∧ (addrB s.data.toList p = false → (c == 2) = true) ∧ Fr [] w w' := by
  cases hv : addrB s.data.toList p with
  | false =>
    refine (netFind_bad s p w h.net hs hv).mono ?_
    rintro e w' ⟨rfl, hf⟩
    exact ⟨0, 2, rfl, by decide, fun _ => by decide, hf⟩
  | true =>
    rcases hat : PN.at? (plainG L C).L s p with _ | z
    · refine (netFind_miss s p w h.net hs hv (at_none hat)).mono ?_
      rintro e w' ⟨rfl, hf⟩
      exact ⟨0, 9, rfl, by decide, (fun h => by cases h), hf⟩
    · obtain ⟨L1, x, L2, rfl, rfl, rfl, rfl⟩ := at_some hat
      refine (netFind_hit x.s x.p x.ref w h.net hs hv (List.mem_map.2 ⟨x, by simp, rfl⟩)).mono ?_
      rintro e w' ⟨rfl, hf⟩
      exact ⟨x.ref, 0, rfl, by decide, (fun h => by cases h), hf⟩
theorem netConnectG_arg (s : ByteArray) (p c : Int) (h : NetG w own B L C G) (hs : s.size ≤ 1000000) (hb : (c < 0 ∨ 4096 < c) ∨ addrB s.data.toList p = false) :
    Calls Tryz.prog 31 #[.pointer (some ⟨B.n, 0, none⟩), .agg #[.string s, .int .i64 p], .int .i64 c] w fun e w' => e = .returned (.tuple #[.int .i64 0, .int .i64 2]) ∧ Fr [] w w' := by
  have f0 : Fr [] w (w.alloc (.cells #[.string s, .int .i64 p] 28)) := (Fr.refl [] w).alloc _
  have HF := Lib.hid (netFindG_some _ s p (h.new f0) hs)
  clear h
  by_cases hc : c < 0 ∨ 4096 < c
  · have HC := Lib.hid hc
    clear hc hb
    go_enter Tryz.func31, Tryz.ntmps31
    go_wp2_with (first
      | (go_at_call 32; refine HF.out.mono ?_; rintro e w1 ⟨v, c1, rfl, hc1, _, f1⟩)
      | (go_at_call 80; refine (dupNew_bad c HC.out _).mono ?_; rintro e w2 ⟨rfl, f2⟩))
    all_goals
      go_ret2
      exact ⟨rfl, (f0.step f1).step f2⟩
  · obtain ⟨c, rfl⟩ := Int.eq_ofNat_of_zero_le (show 0 ≤ c by omega)
    have hcc : c ≤ 4096 := by omega
    have hv : addrB s.data.toList p = false := hb.resolve_left hc
    have HV := Lib.hid hv
    clear hb hc hv
    go_enter Tryz.func31, Tryz.ntmps31
    go_wp2_with (first
      | (go_at_call 32; refine HF.out.mono ?_; rintro e w1 ⟨v, c1, rfl, hc1, hc2, f1⟩; have hc3 := hc2 HV.out; clear hc2)
      | (go_at_call 80; refine (dupNew_ok c (by omega) _).mono ?_; rintro e w2 ⟨d, rfl, hd, f2⟩))
    all_goals
      go_ret2
      exact ⟨rfl, (f0.step f1).step f2⟩
theorem netPairG_arg (c : Int) (h : NetG w own B L C G) (hb : c < 0 ∨ 4096 < c) :
    Calls Tryz.prog 33 #[.pointer (some ⟨B.n, 0, none⟩), .int .i64 c] w fun e w' => e = .returned (.tuple #[.int .i64 0, .int .i64 2]) ∧ Fr [] w w' := by
  have HN := Lib.hid (netNone_any _ h.net)
  have HC := Lib.hid hb
  clear h hb
  go_enter Tryz.func33, Tryz.ntmps33
  go_wp2_with (first
    | (go_at_call 55; refine HN.out.mono ?_; rintro e w' ⟨rfl, rfl⟩)
    | (go_at_call 80; refine (dupNew_bad c HC.out _).mono ?_; rintro e w2 ⟨rfl, f2⟩))
  go_ret2
  exact ⟨rfl, f2⟩
end
section
variable {own : Nat → Nat} {B : NB} {L : List LB} {C : List CG} {G : Nat} (w : World)
/-- Find at an address that is valid: the number and the error. -/
def NG.find (N : NG) (s : ByteArray) (p : Int) : Int × Int :=
  match PN.at? N.L s p with
  | none => (0, 9)
  | some x => (x.ref, 0)
theorem netFind_g (s : ByteArray) (p : Int) (h : NetG w own B L C G) (hs : s.size ≤ 1000000) (hv : addrB s.data.toList p = true) :
    Calls Tryz.prog 32 #[.pointer (some ⟨B.n, 0, none⟩), .agg #[.string s, .int .i64 p]] w fun e w' => e = .returned (.tuple #[.int .i64 ((plainG L C).find s p).1, .int .i64 ((plainG L C).find s p).2]) ∧ Fr [] w w' := by
  unfold NG.find
  rcases hat : PN.at? (plainG L C).L s p with _ | z
  · exact netFind_miss s p w h.net hs hv (at_none hat)
  · obtain ⟨L1, x, L2, rfl, rfl, rfl, rfl⟩ := at_some hat
    exact netFind_hit x.s x.p x.ref w h.net hs hv (List.mem_map.2 ⟨x, by simp, rfl⟩)
theorem netConn_miss (k : Int) (h : NetG w own B L C G) (hk : -9223372036854775808 ≤ k) (hk' : k ≤ 9223372036854775807) (hx : byG (plainG L C).C k = none) :
    Calls Tryz.prog 20 #[.pointer (some ⟨B.n, 0, none⟩), .int .i64 k] w fun e w' => e = .returned (.tuple #[.pointer none, .int .i64 9]) ∧ w = w' := by
  have c2 := h.net.c2
  have HN := Lib.hid (netNone_any _ h.net)
  have hlk := h.net.cs.miss keyInt (t := 51) (e := 55) Tryz.underlying51 (keyInt_of k hk hk') (byG_none hx) (zeroD _) true
  simp only [if_true] at hlk
  clear h hx
  go_enter Tryz.func20, Tryz.ntmps20
  go_wp2_with (go_at_call 55; refine HN.out.mono ?_; rintro e w' ⟨rfl, rfl⟩)
  go_ret2
  exact ⟨rfl, rfl⟩
theorem netConn_hit {y : CG} (h : NetG w own B L C G) (hy : y ∈ C) :
    Calls Tryz.prog 20 #[.pointer (some ⟨B.n, 0, none⟩), .int .i64 y.ref] w fun e w' => e = .returned (.tuple #[.pointer (some ⟨y.d, 0, none⟩), .int .i64 0]) ∧ w = w' := by
  have c2 := h.net.c2
  have HN := Lib.hid (netNone_any _ h.net)
  have hlk := h.net.cs.hit keyInt (t := 51) (e := 55) Tryz.underlying51 (x := .int .i64 y.ref) (v := .pointer (some ⟨y.d, 0, none⟩)) (List.mem_map.2 ⟨y, hy, rfl⟩) true
  simp only [if_true] at hlk
  clear h hy
  go_enter Tryz.func20, Tryz.ntmps20
  go_wp2_with (go_at_call 55; refine HN.out.mono ?_; rintro e w' ⟨rfl, rfl⟩)
  go_ret2
  exact ⟨rfl, rfl⟩
end
end Go.Proofs.YtmdhlodafjpnmaaGreat
namespace Go.Proofs.YtmdhlodafjpnmaaGreat
open Go.RowKit
open Go.Maps (Keyed)
set_option linter.unusedVariables false
set_option maxRecDepth 100000
set_option maxHeartbeats 4000000

def LiveG (K : Nat → Prop) (B : NB) (N : NG) (G : Nat) (w : World) : Prop :=
  ∃ own L C, NetG w own B L C G ∧ plainG L C = N ∧ (∀ z, K z → z < w.heap.size ∧ own z = 4)

section
variable {K : Nat → Prop} {B : NB} {N : NG} {G : Nat} {w w' : World}
theorem LiveG.new (h : LiveG K B N G w) (hf : Fr [] w w') : LiveG K B N G w' := by
  obtain ⟨own, L, C, h1, h2, h3⟩ := h
  exact ⟨own, L, C, h1.new hf, h2, fun z hz => ⟨Nat.lt_of_lt_of_le (h3 z hz).1 hf.size, (h3 z hz).2⟩⟩
theorem LiveG.keep {S : List Nat} (h : LiveG K B N G w) (hf : Fr S w w') (hS : ∀ x ∈ S, x < w.heap.size → K x) : LiveG K B N G w' := by
  obtain ⟨own, L, C, h1, h2, h3⟩ := h
  have hf' : Fr (S.filter (fun x => decide (x < w.heap.size))) w w' := hf.mono (fun x hx hl => List.mem_filter.2 ⟨hx, by simpa using hl⟩)
  refine ⟨own, L, C, h1.keep hf' (fun z hz => ?_), h2, fun z hz => ⟨Nat.lt_of_lt_of_le (h3 z hz).1 hf.size, (h3 z hz).2⟩⟩
  obtain ⟨hz1, hz2⟩ := List.mem_filter.1 hz
  rw [(h3 z (hS z hz1 (of_decide_eq_true hz2))).2]
  unfold netO
  omega
theorem LiveG.less {K' : Nat → Prop} (h : LiveG K B N G w) (hk : ∀ z, K' z → K z) : LiveG K' B N G w := by
  obtain ⟨own, L, C, h1, h2, h3⟩ := h
  exact ⟨own, L, C, h1, h2, fun z hz => h3 z (hk z hz)⟩
theorem LiveG.mono {G' : Nat} (h : LiveG K B N G w) (hg : G ≤ G') : LiveG K B N G' w := by
  obtain ⟨own, L, C, h1, h2, h3⟩ := h
  exact ⟨own, L, C, h1.mono hg, h2, h3⟩
/-- What is new since w is kept, too. -/
theorem LiveG.more (h : LiveG K B N G w) (hf : Fr [] w w') : LiveG (fun z => K z ∨ w.heap.size ≤ z ∧ z < w'.heap.size) B N G w' := by
  obtain ⟨own, L, C, h1, h2, h3⟩ := h
  refine ⟨ownNew w own 4, L, C, (h1.ext (Ext.new w own 4)).new hf, h2, fun z hz => ?_⟩
  rcases hz with hz | ⟨hz, hz'⟩
  · obtain ⟨k1, k2⟩ := h3 z hz
    exact ⟨Nat.lt_of_lt_of_le k1 hf.size, (Ext.new w own 4 z k1).trans k2⟩
  · exact ⟨hz', ownNew_ge hz⟩
/-- What is new since w is kept, though something of K has turned. -/
theorem LiveG.moreS {S : List Nat} (h : LiveG K B N G w) (hf : Fr S w w') (hS : ∀ x ∈ S, x < w.heap.size → K x) : LiveG (fun z => K z ∨ w.heap.size ≤ z ∧ z < w'.heap.size) B N G w' := by
  obtain ⟨own, L, C, h1, h2, h3⟩ := h
  have hf' : Fr (S.filter (fun x => decide (x < w.heap.size))) w w' := hf.mono (fun x hx hl => List.mem_filter.2 ⟨hx, by simpa using hl⟩)
  refine ⟨ownNew w own 4, L, C, (h1.ext (Ext.new w own 4)).keep hf' (fun z hz => ?_), h2, fun z hz => ?_⟩
  · obtain ⟨hz1, hz2⟩ := List.mem_filter.1 hz
    rw [Ext.new w own 4 z (of_decide_eq_true hz2), (h3 z (hS z hz1 (of_decide_eq_true hz2))).2]
    unfold netO
    omega
  · rcases hz with hz | ⟨hz, hz'⟩
    · obtain ⟨k1, k2⟩ := h3 z hz
      exact ⟨Nat.lt_of_lt_of_le k1 hf.size, (Ext.new w own 4 z k1).trans k2⟩
    · exact ⟨hz', ownNew_ge hz⟩
theorem LiveG.good (h : LiveG K B N G w) : GoodG N := by
  obtain ⟨own, L, C, h1, rfl, h3⟩ := h
  exact h1.good
theorem liveG_call {own own' : Nat → Nat} {L' : List LB} {C' : List CG} {N' : NG} {G' : Nat} (hK : ∀ z, K z → z < w.heap.size ∧ own z = 4) (hn : NetG w' own' B L' C' G') (hp : plainG L' C' = N') (he : Ext w own own') (hf : FrO own netO w w') : LiveG K B N' G' w' ∧ FrK K w w' := by
  refine ⟨⟨own', L', C', hn, hp, fun z hz => ?_⟩, ?_⟩
  · obtain ⟨k1, k2⟩ := hK z hz
    exact ⟨Nat.lt_of_lt_of_le k1 hf.size, (he z k1).trans k2⟩
  · obtain ⟨S, h1, h2⟩ := hf
    refine ⟨S, h1, fun x hx hl hk => ?_⟩
    have := h2 x hx hl
    rw [(hK x hk).2] at this
    unfold netO at this
    omega
theorem new_lg (w : World) :
    Calls Tryz.prog 9 #[] w fun e w' => ∃ B : NB, e = .returned (.pointer (some ⟨B.n, 0, none⟩)) ∧ LiveG (fun z => z < w.heap.size) B ⟨[], []⟩ 0 w' ∧ Fr [] w w' := by
  refine (netNew_any _).mono ?_
  rintro e w1 ⟨n, r, m, lm, cm, rfl, hn, f1, l1, l2, l3, l4, l5⟩
  have hN0 : NetG w1 (ownNew w (fun _ => 4) 0) ⟨n, r, m, lm, cm⟩ [] [] 0 :=
    ⟨hn, ⟨ownNew_ge l1, ownNew_ge l2, ownNew_ge l3, ownNew_ge l4, ownNew_ge l5⟩, (by intro x hx; cases hx), (by intro x hx; cases hx), by simp, by simp, by simp, (by intro k hk; simp [qs] at hk), by simp [qs], by simp, by simp⟩
  exact ⟨⟨n, r, m, lm, cm⟩, rfl, ⟨_, [], [], hN0, rfl, fun z hz => ⟨Nat.lt_of_lt_of_le hz f1.size, (Ext.new w (fun _ => 4) 0 z hz)⟩⟩, f1⟩
theorem listen_lg (s : ByteArray) (p most : Int) (h : LiveG K B N G w) (hs : s.size ≤ 1000000) :
    Calls Tryz.prog 30 #[.pointer (some ⟨B.n, 0, none⟩), .agg #[.string s, .int .i64 p], .int .i64 most] w fun e w' =>
      e = .returned (.tuple #[.int .i64 (N.listen s p most (addrB s.data.toList p)).2.1, .agg #[.string (N.listen s p most (addrB s.data.toList p)).2.2.1.1, .int .i64 (N.listen s p most (addrB s.data.toList p)).2.2.1.2], .int .i64 (N.listen s p most (addrB s.data.toList p)).2.2.2]) ∧ LiveG K B (N.listen s p most (addrB s.data.toList p)).1 G w' ∧ FrK K w w' := by
  obtain ⟨own, L, C, h1, rfl, h3⟩ := h
  refine (netListen_g s p most w h1 hs).mono ?_
  rintro e w' ⟨own', L', he, hp, hn, hx, hf⟩
  exact ⟨he, liveG_call h3 hn hp hx hf⟩
/-- Connect with any arguments. -/
def NG.connectA (N : NG) (s : ByteArray) (p c : Int) : NG × Int × Int := if (c < 0 ∨ 4096 < c) ∨ addrB s.data.toList p = false then (N, 0, 2) else N.connect s p c.toNat
def NG.pairA (N : NG) (c : Int) : NG × Int × Int := if c < 0 ∨ 4096 < c then (N, 0, 2) else N.pair c.toNat
theorem connect_lg (s : ByteArray) (p c : Int) (h : LiveG K B N G w) (hs : s.size ≤ 1000000) (hG : G ≤ 1000000) :
    Calls Tryz.prog 31 #[.pointer (some ⟨B.n, 0, none⟩), .agg #[.string s, .int .i64 p], .int .i64 c] w fun e w' =>
      e = .returned (.tuple #[.int .i64 (N.connectA s p c).2.1, .int .i64 (N.connectA s p c).2.2]) ∧ LiveG K B (N.connectA s p c).1 (G + 1) w' ∧ FrK K w w' := by
  have h' := h
  obtain ⟨own, L, C, h1, rfl, h3⟩ := h
  unfold NG.connectA
  by_cases hb : (c < 0 ∨ 4096 < c) ∨ addrB s.data.toList p = false
  · rw [if_pos hb]
    refine (netConnectG_arg w s p c h1 hs hb).mono ?_
    rintro e w' ⟨rfl, hf⟩
    exact ⟨rfl, (h'.new hf).mono (by omega), FrK.new hf⟩
  · rw [if_neg hb]
    obtain ⟨c, rfl⟩ := Int.eq_ofNat_of_zero_le (show 0 ≤ c by omega)
    have hv : addrB s.data.toList p = true := by
      cases hv : addrB s.data.toList p with
      | true => rfl
      | false => exact absurd (.inr hv) hb
    refine (netConnect_g s p c w h1 hs hv (by omega) (by omega)).mono ?_
    rintro e w' ⟨own', L', C', he, hp, hn, hx, hf⟩
    exact ⟨he, liveG_call h3 hn hp hx hf⟩
theorem pair_lg (c : Int) (h : LiveG K B N G w) :
    Calls Tryz.prog 33 #[.pointer (some ⟨B.n, 0, none⟩), .int .i64 c] w fun e w' =>
      e = .returned (.tuple #[.int .i64 (N.pairA c).2.1, .int .i64 (N.pairA c).2.2]) ∧ LiveG K B (N.pairA c).1 G w' ∧ FrK K w w' := by
  have h' := h
  obtain ⟨own, L, C, h1, rfl, h3⟩ := h
  unfold NG.pairA
  by_cases hb : c < 0 ∨ 4096 < c
  · rw [if_pos hb]
    refine (netPairG_arg w c h1 hb).mono ?_
    rintro e w' ⟨rfl, hf⟩
    exact ⟨rfl, h'.new hf, FrK.new hf⟩
  · rw [if_neg hb]
    obtain ⟨c, rfl⟩ := Int.eq_ofNat_of_zero_le (show 0 ≤ c by omega)
    refine (netPair_g c w h1 (by omega)).mono ?_
    rintro e w' ⟨own', C', he, hp, hn, hx, hf⟩
    exact ⟨he, liveG_call h3 hn hp hx hf⟩
theorem accept_lg (ref : Int) (h : LiveG K B N G w) (hr : -9223372036854775808 ≤ ref) (hr' : ref ≤ 9223372036854775807) (hG : G ≤ 1000000) :
    Calls Tryz.prog 34 #[.pointer (some ⟨B.n, 0, none⟩), .int .i64 ref] w fun e w' =>
      e = .returned (.tuple #[.int .i64 (N.accept ref).2.1, .int .i64 (N.accept ref).2.2]) ∧ LiveG K B (N.accept ref).1 G w' ∧ FrK K w w' := by
  obtain ⟨own, L, C, h1, rfl, h3⟩ := h
  refine (netAccept_g ref w h1 hr hr' (by omega)).mono ?_
  rintro e w' ⟨L', he, hp, hn, hf⟩
  exact ⟨he, liveG_call h3 hn hp (Ext.refl _ _) hf⟩
theorem close_lg (ref : Int) (h : LiveG K B N G w) (hr : -9223372036854775808 ≤ ref) (hr' : ref ≤ 9223372036854775807) (hG : G ≤ 1000000) :
    Calls Tryz.prog 35 #[.pointer (some ⟨B.n, 0, none⟩), .int .i64 ref] w fun e w' => ∃ v,
      e = .returned (.tuple #[v, .int .i64 (N.close ref).2.2]) ∧ RowOf w' w.heap.size v ((N.close ref).2.1.map (Value.int .i64)) ∧ LiveG (fun z => K z ∨ v.ownBlock = some z) B (N.close ref).1 G w' ∧ FrK K w w' := by
  obtain ⟨own, L, C, h1, rfl, h3⟩ := h
  refine (netClose_g ref w h1 hr hr' (by omega)).mono ?_
  rintro e w' ⟨v, own', L', C', he, hv, hp, hn, hx, hf, ho⟩
  obtain ⟨⟨own2, L2, C2, _, _, _⟩, hk⟩ := liveG_call (K := K) h3 hn hp hx hf
  refine ⟨v, he, hv, ⟨own', L', C', hn, hp, fun z hz => ?_⟩, hk⟩
  rcases hz with hz | hz
  · obtain ⟨k1, k2⟩ := h3 z hz
    exact ⟨Nat.lt_of_lt_of_le k1 hf.size, (hx z k1).trans k2⟩
  · refine ⟨?_, ho z hz⟩
    rcases hv with ⟨_, rfl⟩ | ⟨g, cap, rfl, _, hlt, _⟩
    · cases hz
    · simp only [Value.ownBlock, Option.some.injEq] at hz
      rw [← hz]
      exact hlt
theorem hang_lg (k en : Int) (h : LiveG K B N G w) (hG : G ≤ 1000000) (hk : -9223372036854775808 ≤ k) (hk' : k ≤ 9223372036854775807) :
    Calls Tryz.prog 18 #[.pointer (some ⟨B.n, 0, none⟩), .int .i64 k, .int .i64 en] w fun e w' => e = .returned (.int .i64 (N.hang k en).2) ∧ LiveG K B (N.hang k en).1 G w' ∧ FrK K w w' := by
  obtain ⟨own, L, C, h1, rfl, h3⟩ := h
  refine (netHang_g w k en h1 (by omega) hk hk').mono ?_
  rintro e w' ⟨own', C', he, hp, hn, hx, hf⟩
  exact ⟨he, liveG_call h3 hn hp hx hf⟩
theorem find_lg (s : ByteArray) (p : Int) (h : LiveG K B N G w) (hs : s.size ≤ 1000000) (hv : addrB s.data.toList p = true) :
    Calls Tryz.prog 32 #[.pointer (some ⟨B.n, 0, none⟩), .agg #[.string s, .int .i64 p]] w fun e w' => e = .returned (.tuple #[.int .i64 (N.find s p).1, .int .i64 (N.find s p).2]) ∧ Fr [] w w' := by
  obtain ⟨own, L, C, h1, rfl, h3⟩ := h
  exact netFind_g w s p h1 hs hv
theorem findA_lg (s : ByteArray) (p : Int) (h : LiveG K B N G w) (hs : s.size ≤ 1000000) :
    Calls Tryz.prog 32 #[.pointer (some ⟨B.n, 0, none⟩), .agg #[.string s, .int .i64 p]] w fun e w' => ∃ v c : Int, e = .returned (.tuple #[.int .i64 v, .int .i64 c]) ∧ (addrB s.data.toList p = true → v = (N.find s p).1 ∧ c = (N.find s p).2) ∧ Fr [] w w' := by
  cases hv : addrB s.data.toList p with
  | true =>
    refine (find_lg s p h hs hv).mono ?_
    rintro e w' ⟨rfl, hf⟩
    exact ⟨_, _, rfl, fun _ => ⟨rfl, rfl⟩, hf⟩
  | false =>
    obtain ⟨own, L, C, h1, rfl, h3⟩ := h
    refine (netFindG_some w s p h1 hs).mono ?_
    rintro e w' ⟨v, c, rfl, _, _, hf⟩
    exact ⟨v, c, rfl, (fun h => by cases h), hf⟩
theorem conns_lg (D : List PG) (h : LiveG K B N G w) (hD : RelG N.C D) :
    Calls Tryz.prog 25 #[.pointer (some ⟨B.n, 0, none⟩)] w (ConnsOutG D w) := by
  obtain ⟨own, L, C, h1, rfl, _⟩ := h
  exact netConns_g D w h1 hD
theorem listeners_lg (D : List PN.PL) (h : LiveG K B N G w) (hD : PN.RelL N.L D) (hG : G ≤ 1000000) :
    Calls Tryz.prog 24 #[.pointer (some ⟨B.n, 0, none⟩)] w (LisOutG D w) := by
  obtain ⟨own, L, C, h1, rfl, _⟩ := h
  exact netListeners_g D w h1 hD (by omega)
theorem conn_miss (k : Int) (h : LiveG K B N G w) (hk : -9223372036854775808 ≤ k) (hk' : k ≤ 9223372036854775807) (hx : byG N.C k = none) :
    Calls Tryz.prog 20 #[.pointer (some ⟨B.n, 0, none⟩), .int .i64 k] w fun e w' => e = .returned (.tuple #[.pointer none, .int .i64 9]) ∧ w = w' := by
  obtain ⟨own, L, C, h1, rfl, _⟩ := h
  exact netConn_miss w k h1 hk hk' hx
theorem conn_hit (k : Int) {y : PG} (h : LiveG K B N G w) (hx : byG N.C k = some y) :
    Calls Tryz.prog 20 #[.pointer (some ⟨B.n, 0, none⟩), .int .i64 k] w fun e w' => ∃ d own c, e = .returned (.tuple #[.pointer (some ⟨d, 0, none⟩), .int .i64 0]) ∧ w = w' ∧ DupB w own c d y.c ∧ c % 4 = 1 := by
  obtain ⟨own, L, C, h1, rfl, _⟩ := h
  obtain ⟨C1, z, C2, rfl, rfl, rfl⟩ := byG_some hx
  refine (netConn_hit w h1 (y := z) (by simp)).mono ?_
  rintro e w' ⟨rfl, rfl⟩
  exact ⟨z.d, own, _, rfl, rfl, (h1.cs z (by simp)).dup, by omega⟩
end
end Go.Proofs.YtmdhlodafjpnmaaGreat
namespace Go.Proofs.YtmdhlodafjpnmaaGreat
set_option linter.unusedVariables false
set_option linter.unusedSimpArgs false
set_option maxRecDepth 100000
set_option maxHeartbeats 4000000

/-- Who waits for a listener. -/
def NG.wait (N : NG) (r : Int) : List Int := match PN.byRef N.L r with
  | none => []
  | some x => x.l
/-- Streams that hold nothing. -/
def Emp (x : CC) : Prop := (x.s0.buf = [] ∧ x.s0.busy = false) ∧ x.s1.buf = [] ∧ x.s1.busy = false
theorem emp_cc0 (c : Int) : Emp (cc0 c) := ⟨⟨rfl, rfl⟩, rfl, rfl⟩
theorem emp_W {x : SS} {e : Int} (h : x.buf = [] ∧ x.busy = false) : (x.closeW e).1.buf = [] ∧ (x.closeW e).1.busy = false := by
  unfold SS.closeW
  split <;> exact h
theorem emp_R {x : SS} {e : Int} (h : x.buf = [] ∧ x.busy = false) : (x.closeR e).1.buf = [] ∧ (x.closeR e).1.busy = false := by
  unfold SS.closeR
  split
  · exact ⟨rfl, h.2⟩
  · exact h
theorem Emp.close {x : CC} (h : Emp x) (e : Bool) : Emp (x.close e).1 := by
  unfold CC.close
  split
  · exact h
  · cases e with
    | false => exact (show Emp ⟨(x.s0.closeW 13).1, (x.s1.closeR 14).1, true, x.a1⟩ from ⟨emp_W h.1, emp_R h.2⟩)
    | true => exact (show Emp ⟨(x.s0.closeR 14).1, (x.s1.closeW 13).1, x.a0, true⟩ from ⟨emp_R h.1, emp_W h.2⟩)
theorem close_true (x : CC) : (x.close true).1.a1 = true := by
  unfold CC.close
  split
  · rename_i h
    exact h
  · rfl
/-- A read of what holds nothing and is closed for writing. -/
theorem read_shut {x : CC} (ok : CcOk x) (h : Emp x) (ha : x.a1 = true) : (x.readN false 1).2.1 = [] ∧ ((x.readN false 1).2.2 = 13 ∨ (x.readN false 1).2.2 = 14) := by
  have hw := (ok.c1 ha).1
  have ht : (x.s1.takeN (1 : Int).toNat).1 = [] := by
    unfold SS.takeN
    rw [h.2.1, h.2.2]
    split <;> simp
  show (x.s1.read 1).2.1 = [] ∧ ((x.s1.read 1).2.2 = 13 ∨ (x.s1.read 1).2.2 = 14)
  unfold SS.read
  rw [if_neg (by omega)]
  by_cases hr : x.s1.rd ≠ 0
  · rw [if_pos hr]
    exact ⟨rfl, .inr rfl⟩
  · rw [if_neg hr, if_neg (by omega), ht, if_neg (by simp), hw]
    exact ⟨rfl, .inl rfl⟩

structure SmallG (N : NG) : Prop where
  cr : ∀ y ∈ N.C, y.ref < 128
  lr : ∀ x ∈ N.L, x.ref < 128
  emp : ∀ y ∈ N.C, Emp y.c
theorem SmallG.nil : SmallG ⟨[], []⟩ := ⟨(fun y h => by cases h), (fun y h => by cases h), (fun y h => by cases h)⟩
theorem hangL_mem {C : List PG} {k : Int} {e : Bool} {z : PG} (h : z ∈ hangL C k e) : ∃ y ∈ C, z.ref = y.ref ∧ (z.c = y.c ∧ (y.ref : Int) ≠ k ∨ z.c = (y.c.close e).1 ∧ (y.ref : Int) = k) := by
  unfold hangL at h
  obtain ⟨h1, _⟩ := List.mem_filter.1 h
  obtain ⟨y, hy, rfl⟩ := List.mem_map.1 h1
  refine ⟨y, hy, ?_⟩
  split
  · rename_i hk
    exact ⟨rfl, .inr ⟨rfl, hk⟩⟩
  · rename_i hk
    exact ⟨rfl, .inl ⟨rfl, hk⟩⟩
theorem hangsL_mem : ∀ (l : List Int) {C : List PG} {z : PG}, z ∈ hangsL C l → ∃ y ∈ C, z.ref = y.ref ∧ (Emp y.c → Emp z.c) ∧ (y.c.a1 = true → z.c.a1 = true) ∧ ((z.ref : Int) ∈ l → z.c.a1 = true)
  | [], C, z, h => ⟨z, h, rfl, id, id, fun hm => by cases hm⟩
  | k :: l, C, z, h => by
    obtain ⟨y, hy, h1, h2, h3, h4⟩ := hangsL_mem l (C := hangL C k true) h
    obtain ⟨x, hx, g1, g2⟩ := hangL_mem hy
    refine ⟨x, hx, h1.trans g1, fun he => h2 ?_, fun ha => h3 ?_, fun hm => ?_⟩
    · rcases g2 with ⟨g, _⟩ | ⟨g, _⟩
      · rw [g]; exact he
      · rw [g]; exact he.close true
    · rcases g2 with ⟨g, _⟩ | ⟨g, _⟩
      · rw [g]; exact ha
      · rw [g]; exact close_true _
    · rcases List.mem_cons.1 hm with hm | hm
      · refine h3 ?_
        rcases g2 with ⟨_, g⟩ | ⟨g, _⟩
        · omega
        · rw [g]; exact close_true _
      · exact h4 hm
theorem find_map {L : List PN.PL} {g : PN.PL → PN.PL} (hg : ∀ y, (g y).ref = y.ref) (r : Int) : PN.byRef (L.map g) r = (PN.byRef L r).map g := by
  unfold PN.byRef
  rw [List.find?_map]
  congr 1
  congr 1
  funext y
  simp [Function.comp, hg]
theorem byRef_mem {L : List PN.PL} {r : Int} {x : PN.PL} (h : PN.byRef L r = some x) : x ∈ L ∧ (x.ref : Int) = r :=
  ⟨List.mem_of_find?_eq_some h, by simpa using List.find?_some h⟩
theorem ite_no {c : Int} {P Q : Prop} (hc : c ≠ 0) (h : Q) : if c = 0 then P else Q := by rw [if_neg hc]; exact h
theorem ite_yes {c : Int} {P Q : Prop} (hc : c = 0) (h : P) : if c = 0 then P else Q := by rw [if_pos hc]; exact h
theorem byRef_drop (k : Nat) (q : Int) : ∀ L : List PN.PL, PN.byRef (PN.dropL L k) q = if q = k then none else PN.byRef L q
  | [] => by simp [PN.byRef, PN.dropL]
  | a :: L => by
    have ih := byRef_drop k q L
    unfold PN.dropL PN.byRef at ih ⊢
    rw [List.filter_cons]
    by_cases ha : a.ref = k
    · rw [if_neg (by simp [ha]), ih]
      by_cases hq : q = k
      · rw [if_pos hq, if_pos hq]
      · rw [if_neg hq, if_neg hq, List.find?_cons, decide_eq_false (by omega)]
    · rw [if_pos (by simp [ha]), List.find?_cons, ih]
      by_cases hq : q = k
      · rw [if_pos hq, if_pos hq, decide_eq_false (by omega)]
      · rw [if_neg hq, if_neg hq, List.find?_cons]
section
variable {N : NG}
theorem SmallG.pair (h : SmallG N) (g : GoodG N) (c : Int) : SmallG (N.pairA c).1 ∧ ∀ r, (N.pairA c).1.wait r = N.wait r := by
  unfold NG.pairA NG.pair
  split
  · exact ⟨h, fun r => rfl⟩
  · split
    · exact ⟨h, fun r => rfl⟩
    · rename_i hn
      have hf := (PN.free_spec (N.C.map (·.ref))).2.2
      rw [List.length_map] at hf
      refine ⟨⟨fun y hy => ?_, h.lr, fun y hy => ?_⟩, fun r => rfl⟩
      · rcases List.mem_append.1 hy with hy | hy
        · exact h.cr y hy
        · rw [List.mem_singleton] at hy
          subst hy
          show PN.free _ < 128
          omega
      · rcases List.mem_append.1 hy with hy | hy
        · exact h.emp y hy
        · rw [List.mem_singleton] at hy
          subst hy
          exact emp_cc0 _
theorem SmallG.hang (h : SmallG N) (k en : Int) : SmallG (N.hang k en).1 ∧ ∀ r, (N.hang k en).1.wait r = N.wait r := by
  unfold NG.hang
  split
  · exact ⟨h, fun r => rfl⟩
  · split
    · exact ⟨h, fun r => rfl⟩
    · split
      · exact ⟨h, fun r => rfl⟩
      · refine ⟨⟨fun z hz => ?_, h.lr, fun z hz => ?_⟩, fun r => rfl⟩
        · obtain ⟨y, hy, e, _⟩ := hangL_mem hz
          rw [e]
          exact h.cr y hy
        · obtain ⟨y, hy, e, hor⟩ := hangL_mem hz
          rcases hor with ⟨e2, _⟩ | ⟨e2, _⟩
          · rw [e2]; exact h.emp y hy
          · rw [e2]; exact (h.emp y hy).close _
theorem SmallG.listen (h : SmallG N) (g : GoodG N) (s : ByteArray) (p most : Int) (ok : Bool) : SmallG (N.listen s p most ok).1 ∧ (∀ r, (N.listen s p most ok).1.wait r = N.wait r) ∧ ((N.listen s p most ok).2.2.2 = 0 → N.wait (N.listen s p most ok).2.1 = []) := by
  unfold NG.listen
  split
  · exact ⟨h, fun r => rfl, fun h => by cases h⟩
  · split
    · exact ⟨h, fun r => rfl, fun h => by cases h⟩
    · split
      · exact ⟨h, fun r => rfl, fun h => by cases h⟩
      · have hf := PN.free_spec (N.L.map (·.ref))
        have hf3 := hf.2.2
        rw [List.length_map] at hf3
        have hnone : PN.byRef N.L (PN.free (N.L.map (·.ref)) : Nat) = none := by
          refine List.find?_eq_none.2 fun x hx he => hf.1 ?_
          have := of_decide_eq_true he
          exact List.mem_map.2 ⟨x, hx, by omega⟩
        refine ⟨⟨h.cr, fun x hx => ?_, h.emp⟩, fun r => ?_, fun _ => ?_⟩
        · rcases List.mem_append.1 hx with hx | hx
          · exact h.lr x hx
          · rw [List.mem_singleton] at hx
            subst hx
            show PN.free _ < 128
            omega
        · unfold NG.wait
          show (match PN.byRef (N.L ++ _) r with | none => [] | some x => x.l) = _
          unfold PN.byRef
          rw [List.find?_append]
          cases hr : N.L.find? (fun x => decide ((x.ref : Int) = r)) with
          | some y => rfl
          | none =>
            simp only [Option.none_or, List.find?_cons]
            split
            · rename_i heq
              split at heq
              · rfl
              · rfl
            · rename_i x heq
              split at heq
              · cases heq; rfl
              · cases heq
        · show N.wait _ = []
          unfold NG.wait
          rw [hnone]
theorem SmallG.connect (h : SmallG N) (g : GoodG N) (s : ByteArray) (p c : Int) : SmallG (N.connectA s p c).1 ∧ (if (N.connectA s p c).2.2 = 0 then (N.find s p).2 = 0 ∧ addrB s.data.toList p = true ∧ (∀ r, (N.connectA s p c).1.wait r = if r = (N.find s p).1 then N.wait r ++ [(N.connectA s p c).2.1] else N.wait r) ∧ (∀ M : NG, M.L.map (fun x => (x.ref, x.s, x.p)) = N.L.map (fun x => (x.ref, x.s, x.p)) → M.find s p = N.find s p) ∧ (N.connectA s p c).1.L.map (fun x => (x.ref, x.s, x.p)) = N.L.map (fun x => (x.ref, x.s, x.p)) else ∀ r, (N.connectA s p c).1.wait r = N.wait r) := by
  have same : ∀ M : NG, M.L.map (fun x => (x.ref, x.s, x.p)) = N.L.map (fun x => (x.ref, x.s, x.p)) → M.find s p = N.find s p := fun M he => by
    have hfm : ∀ L : List PN.PL, (PN.at? L s p).map (fun x => (x.ref, x.s, x.p)) = (L.map (fun x : PN.PL => (x.ref, x.s, x.p))).find? (fun t => decide (t.2.1 = s ∧ t.2.2 = p)) := fun L => by
      unfold PN.at?
      rw [List.find?_map]
      rfl
    have h1 := hfm M.L
    rw [he, ← hfm N.L] at h1
    unfold NG.find
    cases hM : PN.at? M.L s p with
    | none =>
      rw [hM] at h1
      cases hN : PN.at? N.L s p with
      | none => rfl
      | some y => rw [hN] at h1; cases h1
    | some x =>
      rw [hM] at h1
      cases hN : PN.at? N.L s p with
      | none => rw [hN] at h1; cases h1
      | some y =>
        rw [hN] at h1
        simp only [Option.map_some, Option.some.injEq, Prod.mk.injEq] at h1
        simp only [h1.1]
  unfold NG.connectA
  by_cases hb : (c < 0 ∨ 4096 < c) ∨ addrB s.data.toList p = false
  · rw [if_pos hb]
    exact ⟨h, ite_no (c := 2) (by decide) (fun r => rfl)⟩
  rw [if_neg hb]
  have hv : addrB s.data.toList p = true := by
    cases hv : addrB s.data.toList p with
    | true => rfl
    | false => exact absurd (.inr hv) hb
  unfold NG.connect
  cases hat : PN.at? N.L s p with
  | none => exact ⟨h, ite_no (c := 15) (by decide) (fun r => rfl)⟩
  | some x =>
    simp only
    by_cases h1 : (x.l.length : Int) = x.most
    · rw [if_pos h1]
      exact ⟨h, ite_no (c := 16) (by decide) (fun r => rfl)⟩
    rw [if_neg h1]
    by_cases h2 : 128 ≤ N.C.length
    · rw [if_pos h2]
      exact ⟨h, ite_no (c := 7) (by decide) (fun r => rfl)⟩
    rw [if_neg h2]
    have hf := (PN.free_spec (N.C.map (·.ref))).2.2
    rw [List.length_map] at hf
    have hxm := List.mem_of_find?_eq_some hat
    have hby : PN.byRef N.L (x.ref : Int) = some x := by
      cases hby : PN.byRef N.L (x.ref : Int) with
      | none => exact absurd (List.find?_eq_none.1 hby x hxm) (by simp)
      | some y =>
        obtain ⟨m1, m2⟩ := byRef_mem hby
        rw [nodup_inj g.lr y m1 x hxm (by show y.ref = x.ref; omega)]
    have hpr : ∀ y : PN.PL, (if y.ref = x.ref then { y with l := y.l ++ [(PN.free (N.C.map (·.ref)) : Int)] } else y).ref = y.ref := fun y => by split <;> rfl
    refine ⟨⟨fun y hy => ?_, fun y hy => ?_, fun y hy => ?_⟩, ?_⟩
    · rcases List.mem_append.1 hy with hy | hy
      · exact h.cr y hy
      · rw [List.mem_singleton] at hy
        subst hy
        show PN.free _ < 128
        omega
    · obtain ⟨z, hz, rfl⟩ := List.mem_map.1 hy
      rw [hpr]
      exact h.lr z hz
    · rcases List.mem_append.1 hy with hy | hy
      · exact h.emp y hy
      · rw [List.mem_singleton] at hy
        subst hy
        exact emp_cc0 _
    refine ite_yes (c := 0) rfl ⟨by unfold NG.find; rw [hat], hv, fun r => ?_, same, ?_⟩
    · have hfd : (N.find s p).1 = x.ref := by unfold NG.find; rw [hat]
      rw [hfd]
      unfold NG.wait
      show (match PN.byRef (PN.pushL N.L x.ref _) r with | none => [] | some x => x.l) = _
      unfold PN.pushL
      rw [find_map hpr]
      by_cases hr : r = x.ref
      · subst hr
        rw [if_pos rfl, hby]
        simp
      · rw [if_neg hr]
        cases hq : PN.byRef N.L r with
        | none => rfl
        | some y =>
          obtain ⟨m1, m2⟩ := byRef_mem hq
          have : ¬ y.ref = x.ref := by omega
          simp [this]
    · show (PN.pushL N.L x.ref _).map _ = _
      unfold PN.pushL
      rw [List.map_map]
      refine List.map_congr_left fun y hy => ?_
      simp only [Function.comp]
      split <;> rfl
theorem SmallG.accept (h : SmallG N) (g : GoodG N) (r : Int) : SmallG (N.accept r).1 ∧ (if (N.accept r).2.2 = 0 then N.wait r = (N.accept r).2.1 :: (N.accept r).1.wait r ∧ ∀ q, q ≠ r → (N.accept r).1.wait q = N.wait q else ∀ q, (N.accept r).1.wait q = N.wait q) := by
  unfold NG.accept
  cases hat : PN.byRef N.L r with
  | none => exact ⟨h, ite_no (c := 9) (by decide) (fun q => rfl)⟩
  | some x =>
    obtain ⟨m1, m2⟩ := byRef_mem hat
    obtain ⟨xr, xs, xp, xm, xl⟩ := x
    have m2 : (xr : Int) = r := m2
    cases xl with
    | nil =>
      exact ⟨h, ite_no (c := 16) (by decide) (fun q => rfl)⟩
    | cons k l =>
      have hpr : ∀ y : PN.PL, (if y.ref = xr then { y with l := y.l.tail } else y).ref = y.ref := fun y => by split <;> rfl
      have hw : ∀ q, (⟨PN.popL N.L xr, N.C⟩ : NG).wait q = if q = r then l else N.wait q := fun q => by
        unfold NG.wait
        show (match PN.byRef (PN.popL N.L xr) q with | none => [] | some x => x.l) = _
        unfold PN.popL
        rw [find_map hpr]
        by_cases hr : q = r
        · subst hr
          rw [if_pos rfl, hat]
          simp
        · rw [if_neg hr]
          cases hq : PN.byRef N.L q with
          | none => rfl
          | some y =>
            obtain ⟨n1, n2⟩ := byRef_mem hq
            have : ¬ y.ref = xr := by omega
            simp [this]
      refine ⟨⟨h.cr, fun y hy => ?_, h.emp⟩, ?_⟩
      · obtain ⟨z, hz, rfl⟩ := List.mem_map.1 hy
        rw [hpr]
        exact h.lr z hz
      · refine ite_yes (c := 0) rfl ⟨?_, fun q hq => (hw q).trans (if_neg hq)⟩
        show N.wait r = k :: (⟨PN.popL N.L xr, N.C⟩ : NG).wait r
        rw [hw, if_pos rfl]
        unfold NG.wait
        rw [hat]
theorem SmallG.close (h : SmallG N) (g : GoodG N) (r : Int) : SmallG (N.close r).1 ∧ ((N.close r).2.1 = N.wait r) ∧ (∀ q, (N.close r).1.wait q = if q = r then [] else N.wait q) ∧ (∀ k ∈ (N.close r).2.1, ∀ y, byG (N.close r).1.C k = some y → y.c.a1 = true) := by
  unfold NG.close
  cases hat : PN.byRef N.L r with
  | none =>
    refine ⟨h, ?_, fun q => ?_, fun k hk => by cases hk⟩
    · unfold NG.wait
      rw [hat]
    · by_cases hq : q = r
      · rw [if_pos hq, hq]
        show N.wait r = []
        unfold NG.wait
        rw [hat]
      · rw [if_neg hq]
  | some x =>
    obtain ⟨m1, m2⟩ := byRef_mem hat
    refine ⟨⟨fun z hz => ?_, fun y hy => h.lr y (List.mem_filter.1 hy).1, fun z hz => ?_⟩, ?_, fun q => ?_, fun k hk y hy => ?_⟩
    · obtain ⟨y, hy, e, _⟩ := hangsL_mem _ hz
      rw [e]
      exact h.cr y hy
    · obtain ⟨y, hy, e, e2, _⟩ := hangsL_mem _ hz
      exact e2 (h.emp y hy)
    · unfold NG.wait
      rw [hat]
    · unfold NG.wait
      show (match PN.byRef (PN.dropL N.L x.ref) q with | none => [] | some x => x.l) = _
      rw [byRef_drop]
      by_cases hq : q = r
      · rw [if_pos (by omega), if_pos hq]
      · rw [if_neg (by omega), if_neg hq]
    · have hy2 : (y.ref : Int) = k := by have := List.find?_some hy; simpa using this
      obtain ⟨z, hz, _, _, _, h4⟩ := hangsL_mem _ (List.mem_of_find?_eq_some hy)
      exact h4 (by rw [hy2]; exact hk)
/-- Hang of an end 1 that waits. -/
theorem hang_waits (g : GoodG N) (k r : Int) (hk : k ∈ N.wait r) : (N.hang k 1).2 = 8 := by
  have hw : k ∈ PN.waitsOf N.L := by
    unfold NG.wait at hk
    cases hat : PN.byRef N.L r with
    | none => rw [hat] at hk; cases hk
    | some x =>
      rw [hat] at hk
      exact List.mem_flatMap.2 ⟨x, (byRef_mem hat).1, hk⟩
  obtain ⟨y, hy, h1, _⟩ := g.qu k hw
  unfold NG.hang
  rw [if_neg (by decide)]
  cases hb : byG N.C k with
  | none => exact absurd (List.find?_eq_none.1 hb y hy) (by simpa using h1)
  | some z =>
    exact congrArg Prod.snd (if_pos ⟨rfl, hw⟩)
end
end Go.Proofs.YtmdhlodafjpnmaaGreat
