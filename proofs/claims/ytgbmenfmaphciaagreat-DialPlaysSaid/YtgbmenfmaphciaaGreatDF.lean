/- DialPlays: the walk. -/
import Derived.Test.YtgbmenfmaphciaaGreatTK
import Derived.Test.YtgbmenfmaphciaaGreatDI
import Derived.Test.YtgbmenfmaphciaaGreatFew
import Derived.Test.YtgbmenfmaphciaaGreatAll2
import Derived.Deep.CutBlock
import Derived.Deep.CutRange
namespace Go.Proofs.YtgbmenfmaphciaaGreat
set_option linter.unusedVariables false
set_option linter.unusedSimpArgs false
set_option linter.unusedSectionVars false
open Go.RowKit
open Go.Maps (Keyed)
set_option linter.unusedVariables false
set_option linter.unusedSimpArgs false
set_option maxRecDepth 100000
set_option maxHeartbeats 16000000
theorem elemPt : Elem Tryz.prog 32 41 1 8 := Elem.mk' Tryz.underlying32 (z := .pointer none) (by kernel_rfl) rfl (by decide)
theorem elemWd : Elem Tryz.prog 33 46 8 72 := Elem.mk' Tryz.underlying33 (z := .agg wDz.toArray) (by kernel_rfl) rfl (by decide)
theorem bslPt (d : Nat) : ∀ w : World, (Instr.buildSlice 32 1 #[(0, .pointer (some ⟨d, 0, none⟩))]).run Tryz.prog w = .ok (.slice (some ⟨w.heap.size, 0, none⟩) 1 1) (w.alloc (.cells #[.pointer (some ⟨d, 0, none⟩)] 41)) := fun w => by kernel_rfl
theorem bslWd (x : PN.PD) : ∀ w : World, (Instr.buildSlice 33 1 #[(0, .agg (wD x).toArray)]).run Tryz.prog w = .ok (.slice (some ⟨w.heap.size, 0, none⟩) 1 1) (w.alloc (.cells (wD x).toArray 46)) := fun w => by kernel_rfl
theorem exec_bld3a {P : Program} {o : Oper} {a : Act} {w w' : World} {v : Value} {t : TypeId} {x y z : Operand} {V U T : Value} (ho : o.op = .build t #[(0, x), (1, y), (2, z)]) (hx : a.eval x = V) (hy : a.eval y = U) (hz : a.eval z = T) (hrun : (Instr.build t #[(0, V), (1, U), (2, T)]).run P w = .ok v w') : (execOp a.eval o).run P w = .ok (.value v) w' := by
 simp [execOp, ho, hx, hy, hz, hrun]
theorem bldWd (s : ByteArray) (p : Int) (c : Nat) (un : Int) : ∀ w, (Instr.build 46 #[(0, .agg #[.string s, .int .i64 p]), (1, .int .i64 c), (2, .int .u64 un)]).run Tryz.prog w = .ok (.agg (wD ⟨s, p, c, un, 0, 0, 0, 0⟩).toArray) w := fun w => by kernel_rfl
def actC (what which an : Int) (s : ByteArray) (p now : Int) : List Value := [.int .i64 what, .int .i64 which, .int .i64 an, .string s, .int .i64 p, .int .u64 now]
theorem actC_one (what which an : Int) (s : ByteArray) (p now : Int) : ∀ u ∈ actC what which an s p now, u.oneCell' = true := by
 intro u hu
 simp only [actC, List.mem_cons, List.not_mem_nil, or_false] at hu
 rcases hu with rfl | rfl | rfl | rfl | rfl | rfl <;> rfl
def actZ : List Value := [.int .i64 0, .int .i64 0, .int .i64 0, .string ⟨#[]⟩, .int .i64 0, .int .u64 0]
theorem aggAc : ∀ w, (isAgg 48).run Tryz.prog w = .ok true w := fun w => by kernel_rfl
theorem sizeAc : ∀ w, (sizeOf 48).run Tryz.prog w = .ok 6 w := fun w => by kernel_rfl
theorem act_adr {w : World} {b : Nat} {t : TypeId} {what which an : Int} {s : ByteArray} {p now : Int} (h : Blk w b t (actC what which an s p now)) : LiesAt w b 3 (sp s p) := fun j u hj => by
 have h' := h.at
 simp only [LiesAt, Nat.zero_add] at h'
 match j with
 | 0 => exact h' 3 u hj
 | 1 => exact h' 4 u hj
 | j + 2 => simp [sp] at hj
theorem wp_append_loc {P : Program} {o : Oper} {a : Act} {w : World} {Q : Exit → Act → World → Prop} {K : Act → World → Prop} {t e : TypeId} {size bytes : Nat} (E : Elem P t e size bytes) (s x : Operand)
  (ho : o.op = .call { callee := .builtin .append, args := #[s, x], argTypes := #[t, t] }) (base : Nat)
  {v : Value} {n : Nat} {xs : List Value} (hs : a.eval s = v) (hown : w.ownsRow base e size v n xs)
  {b m c : Nat} {news : List Value} (hX : a.eval x = .slice (some ⟨b, 0, none⟩) m c) (hx : w.ownsRow base e size (.slice (some ⟨b, 0, none⟩) m c) m news) (h1 : ∀ u ∈ news, u.oneCell' = true) (hm : 0 < m)
  (h63 : n + m ≤ 1000000) (hb : bytes ≤ 1000) (hbase : base ≤ w.heap.size)
  (h : ∀ (s' : Sli) w', w'.ownsRow base e size (slv s') (n + m) (xs ++ news) → Fr v.ownBlock.toList w w' → (∀ g, (slv s').ownBlock = some g → v.ownBlock = some g ∨ g = w.heap.size) → K (a.put o.dst (slv s')) w') : o.wp P a w K Q := by
 obtain ⟨i, z, hi, hz, h2, h3, h4⟩ := E.hi
 have hbb : (n + m) * bytes ≤ 1000000 * 1000 := Nat.mul_le_mul h63 hb
 refine wp_append_lies w s x t ho base e i z size bytes E.ht hi hz h2 h3 h4 E.pos v n xs hs hown ⟨b, 0, none⟩ m c news hX hx.1 (fun j u hj => World.ownsRow.cells hx (g := b) rfl j u hj) h1 hm (by simp only [maxLen]; omega) (by omega) hbase _ rfl (fun g cap w' q1 q2 q3 _ => ?_)
 exact h (some ⟨g, 0, none⟩, n + m, cap) w' q1 (grownFr' q2) (fun g' hg => by
  simp only [slv, Value.ownBlock, Option.some.injEq] at hg
  subst hg
  exact q3)
def PlayE (w0 : World) (B : NB) (V : Nat) (v6 v7 : Value) (n q : Nat) (w : World) : Prop :=
 ∃ (own : Nat → Nat) (ids : Nat → Nat × Nat) (L : List LB) (C : List CB) (G T : Nat) (D : List PN.PD) (R : PN.Net) (sL sC : Sli), PlayR w0 B V v6 v7 w own ids L C G T D D R sL sC ∧ PN.Match (plainN L C) R ∧ D.length = n ∧ G ≤ 20000 * q ∧ T ≤ 1100 * q
theorem oldNe {w : World} {B0 b : Nat} {e : TypeId} {sz n : Nat} {v : Value} {xs : List Value} (h : w.ownsRow B0 e sz v n xs) (hb : b < B0) : b ∉ v.ownBlock.toList := fun hm => by
 have h1 : v.ownBlock = some b := by simpa using hm
 have := (h.lt b h1).1
 omega
theorem dialPlays_walk (sa la : Option Addr) (ns sc nl lc : Nat) (f : Nat → St) (g : Nat → Ac) (w : World) (hs : StRow w sa ns f) (hl : AcRow w la nl g) (h1 : ns ≤ maxLen) (h2 : nl ≤ maxLen)
  (hA : ∀ j, j < nl → (-9223372036854775808 ≤ (g j).which ∧ (g j).which ≤ 9223372036854775807) ∧ (-9223372036854775808 ≤ (g j).n ∧ (g j).n ≤ 9223372036854775807) ∧ (0 ≤ (g j).now ∧ (g j).now ≤ 18446744073709551615)) :
  Calls Tryz.prog 3 #[.slice sa ns sc, .slice la nl lc] w fun e w' => e = .returned (.bool true) ∧ Fr [] w w' := by
 have HF := Lib.hid (few_any sa la ns sc nl lc f g w hs hl h1 h2)
 have HS := Lib.hid hs
 have HL := Lib.hid hl
 have HA := Lib.hid hA
 clear hs hl h1 h2 hA
 go_enter Tryz.func3, Tryz.ntmps3
 go_wp2_with fail
 refine HF.out.mono ?_
 rintro e w' ⟨r, rfl, rfl, hr⟩
 cases r with
 | false =>
  go_wp2_with fail
  refine (known_true _).mono ?_
  rintro e w2 ⟨rfl, f2⟩
  go_wp2_with fail
  go_ret
  exact ⟨rfl, f2⟩
 | true =>
  obtain ⟨b1, b2, hfs, hgs⟩ := hr rfl
  have HFS := Lib.hid hfs
  have HGS := Lib.hid hgs
  clear hfs hgs hr HF
  go_wp2_with fail
  refine (netNew_any _).mono ?_
  rintro e w1 ⟨n, r, m, lm, cm, rfl, hn, f1, l1, l2, l3, l4, l5⟩
  have hE0 : Ext w (fun _ => 4) (ownNew w (fun _ => 4) 0) := Ext.new _ _ _
  have hN0 : NetW w1 (ownNew w (fun _ => 4) 0) ⟨n, r, m, lm, cm⟩ [] [] 0 :=
   ⟨hn, ⟨ownNew_ge l1, ownNew_ge l2, ownNew_ge l3, ownNew_ge l4, ownNew_ge l5⟩, (by intro x hx; cases hx), (by intro x hx; cases hx), by simp, by simp, by simp, (by intro k hk; simp [qs] at hk), by simp [qs], by simp, by simp⟩
  have HN0 := Lib.hid hN0
  have HF1 := Lib.hid f1
  have HE0 := Lib.hid hE0
  clear hN0 hE0 hn l1 l2 l3 l4 l5 f1
  go_upto_region 7 with fail
  obtain ⟨V, hV⟩ : ∃ V, w1.heap.size = V := ⟨_, rfl⟩
  obtain ⟨w2, hw2⟩ : ∃ z, w1.alloc (.cells zNt.toArray 31) = z := ⟨_, rfl⟩
  have hbV : Blk w2 V 31 zNt := by rw [← hw2, ← hV]; exact Blk.made w1 31 zNt
  have f2 : Fr [] w1 w2 := by rw [← hw2]; exact (Fr.refl [] w1).alloc _
  simp only [show (World.alloc w1 (.cells #[.slice none 0 0, .slice none 0 0] 31)) = w2 from hw2, hV]
  have hM0 : MadeP w (fun _ => 4) ⟨n, r, m, lm, cm⟩ V 0 w2 (ownNew w1 (ownNew w (fun _ => 4) 0) 4) (fun _ => (0, 0)) [] (.slice none 0 0) (.slice none 0 0) :=
   ⟨by simp, (HN0.out.ext (Ext.new _ _ _)).new f2, (by intro i x hi; simp at hi), (by intro x hx; cases hx), World.ownsRow_nil _ _ _ _, ⟨[], Recs.nil, World.ownsRow_nil _ _ _ _⟩, hbV, ⟨ownNew_ge (by omega), by have := HF1.out.size; omega⟩, (by intro g hg; simp [Value.ownBlock] at hg), (by intro g hg; simp [Value.ownBlock] at hg), fun z hz => (Ext.new w1 _ 4 z (Nat.lt_of_lt_of_le hz HF1.out.size)).trans (HE0.out z hz), HF1.out.step f2, fun _ => rfl⟩
  have HM0 := Lib.hid hM0
  clear hM0 hbV f2 hw2 hV HN0 HF1 HE0
  obtain ⟨NBB, hNB⟩ : ∃ q : NB, (⟨n, r, m, lm, cm⟩ : NB) = q := ⟨_, rfl⟩
  rw [hNB] at HM0
  obtain rfl : n = NBB.n := by rw [← hNB]
  clear hNB
  go_wp2_with fail
  go_loopw [9, 7, 8] (fun i v6 v7 wr => ∃ (wz : World) (k : Nat) (own' : Nat → Nat) (ids : Nat → Nat × Nat) (D : List PN.PD) (x6 x7 : Value), wz = wr ∧ x6 = v6 ∧ x7 = v7 ∧ i = .int .i64 k ∧ k ≤ ns ∧ MadeP w (fun _ => 4) NBB V k wr own' ids D x6 x7) (fun i _ _ _ => ns - (intOf i).toNat)
  case atStart => exact ⟨_, 0, _, _, [], _, _, rfl, rfl, rfl, rfl, by omega, HM0.out⟩
  case round =>
   obtain ⟨wr, k, own1, ids, D, x6, x7, hwz, rfl, rfl, rfl, hk, hM⟩ := hrel
   subst hwz
   have HM := Lib.hid hM
   clear hM
   by_cases hlt : k < ns
   ·as_aux_lemma =>
    rcases HS.out with h0 | ⟨b, off, rfl, hbl, hc⟩
    ·omega
    ·obtain ⟨c0, c1, c2, c3⟩ := hc k hlt
     have fr := HM.out.fr
     have hlt' : (k : Int) < (ns : Int) := by omega
     have hk0 : (0 : Int) ≤ (k : Int) := by omega
     have hsz := HFS.out k hlt
     obtain ⟨x, hx⟩ : ∃ x, f k = x := ⟨_, rfl⟩
     rw [hx] at c0 c1 c2 c3 hsz
     obtain ⟨xs, xp, xc, xu⟩ := x
     simp only at c0 c1 c2 c3 hsz
     have HC := Lib.hid (show w.cell? ⟨b, off + k * 4, none⟩ = some (.string xs) ∧ w.cell? ⟨b, off + k * 4 + 1, none⟩ = some (.int .i64 xp) ∧ w.cell? ⟨b, off + k * 4 + 2, none⟩ = some (.int .i64 xc) ∧ w.cell? ⟨b, off + k * 4 + 3, none⟩ = some (.int .u64 xu) from ⟨c0, c1, c2, c3⟩)
     have FR := Lib.hid fr
     have HBL := Lib.hid hbl
     clear hc c0 c1 c2 c3 fr hx hbl
     obtain ⟨w3, hw3⟩ : ∃ z, wr.drew = z := ⟨_, rfl⟩
     have f3 : Fr [] wr w3 := by rw [← hw3]; exact (Fr.refl [] wr).drew
     have HW3 := Lib.hid hw3
     have HF3 := Lib.hid f3
     clear hw3 f3
     go_upto_region 12 with fail
     refine wp_region_held_drew (S := fun w' => w'.cell? ⟨b, off + k * 4, none⟩ = some (.string xs) ∧ w'.cell? ⟨b, off + k * 4 + 1, none⟩ = some (.int .i64 xp) ∧ w'.cell? ⟨b, off + k * 4 + 2, none⟩ = some (.int .i64 xc) ∧ w'.cell? ⟨b, off + k * 4 + 3, none⟩ = some (.int .u64 xu)) (by kernel_rfl) (by rw [HW3.out]; exact ⟨(FR.out.step HF3.out).keep HC.out.1 (by simp), (FR.out.step HF3.out).keep HC.out.2.1 (by simp), (FR.out.step HF3.out).keep HC.out.2.2.1 (by simp), (FR.out.step HF3.out).keep HC.out.2.2.2 (by simp)⟩) (fun hHeld => ?_)
     rw [HW3.out] at hHeld ⊢
     refine tkZ 0 ?_
     refine tkZ 1 ?_
     refine tkZ 2 ?_
     refine tkZ 3 ?_
     refine tvZ 4 (.agg (sp xs xp).toArray) rfl ?_ ?_
     ·intro w hSw
      try dsimp only at hSw
      show Sem.run Tryz.prog ((Instr.loadAt 36 (.pointer (some ⟨b, off + k * 4, none⟩))) >>= fun x => pure (Next.value x)) w = _
      rw [Sem.run_bind, load_all agg28 size28 (xs := sp xs xp) rfl (fun j u hj => by
       match j with
       | 0 => cases hj; exact hSw.1
       | 1 => cases hj; exact hSw.2.1)]
      rfl
     try simp only [Act.put, nrZ]
     refine tkZ 5 ?_
     refine tkZ 6 ?_
     refine tkZ 7 ?_
     refine tkZ 8 ?_
     refine tkZ 9 ?_
     refine rdZ 10 (fun K hK => ?_)
     go_simp
     refine (refDialValid_any xs xp xc _ (by omega)).mono ?_
     rintro e w4 ⟨rfl, f4⟩
     have HF4 := Lib.hid (HF3.out.step f4)
     obtain ⟨vb, hvb⟩ : ∃ z, (addrB xs.data.toList xp && decide (0 < xp) && capB xc) = z := ⟨_, rfl⟩
     rw [hvb]
     have HVB := Lib.hid hvb
     clear f4 hvb
     refine hK.out _ _ (⟨(FR.out.step HF4.out).keep HC.out.1 (by simp), (FR.out.step HF4.out).keep HC.out.2.1 (by simp), (FR.out.step HF4.out).keep HC.out.2.2.1 (by simp), (FR.out.step HF4.out).keep HC.out.2.2.2 (by simp)⟩) (fun hHeld => ?_)
     clear hK K
     try simp only [Act.put, nrZ]
     refine tkZ 11 ?_
     refine wpAnyH_done (by kernel_rfl) ?_ _
     clear hHeld
     cases vb with
     | true =>
      obtain ⟨v1, v2, v3, v4⟩ : addrB xs.data.toList xp = true ∧ 0 < xp ∧ 0 ≤ xc ∧ xc ≤ 4096 := by
       have h := HVB.out
       simp only [Bool.and_eq_true, decide_eq_true_eq, capB] at h
       exact ⟨h.1.1, h.1.2, h.2.1, h.2.2⟩
      clear HVB
      obtain ⟨cn, rfl⟩ : ∃ cn : Nat, xc = cn := ⟨xc.toNat, by omega⟩
      have v5 : (xp == 0) = false := by rw [beq_eq_false_iff_ne]; omega
      have V1 := Lib.hid v1
      clear v1
      obtain ⟨w5, hw5⟩ : ∃ z, w4.drew = z := ⟨_, rfl⟩
      have f5 : Fr [] w4 w5 := by rw [← hw5]; exact (Fr.refl [] w4).drew
      have HW5 := Lib.hid hw5
      have HF5 := Lib.hid (HF4.out.step f5)
      clear hw5 f5 HF4
      go_upto_region 13 with fail
      refine wp_region_held_drew (S := fun w' => w'.cell? ⟨b, off + k * 4, none⟩ = some (.string xs) ∧ w'.cell? ⟨b, off + k * 4 + 1, none⟩ = some (.int .i64 xp) ∧ w'.cell? ⟨b, off + k * 4 + 2, none⟩ = some (.int .i64 (cn : Int)) ∧ w'.cell? ⟨b, off + k * 4 + 3, none⟩ = some (.int .u64 xu)) (by kernel_rfl) (by rw [HW5.out]; exact ⟨(FR.out.step HF5.out).keep HC.out.1 (by simp), (FR.out.step HF5.out).keep HC.out.2.1 (by simp), (FR.out.step HF5.out).keep HC.out.2.2.1 (by simp), (FR.out.step HF5.out).keep HC.out.2.2.2 (by simp)⟩) (fun hHeld => ?_)
      rw [HW5.out] at hHeld ⊢
      refine tkZ 0 ?_
      refine tkZ 1 ?_
      refine tkZ 2 ?_
      refine tkZ 3 ?_
      refine tvZ 4 (.agg (sp xs xp).toArray) rfl ?_ ?_
      ·intro w hSw
       try dsimp only at hSw
       show Sem.run Tryz.prog ((Instr.loadAt 36 (.pointer (some ⟨b, off + k * 4, none⟩))) >>= fun x => pure (Next.value x)) w = _
       rw [Sem.run_bind, load_all agg28 size28 (xs := sp xs xp) rfl (fun j u hj => by
        match j with
        | 0 => cases hj; exact hSw.1
        | 1 => cases hj; exact hSw.2.1)]
       rfl
      try simp only [Act.put, nrZ]
      refine tkZ 5 ?_
      refine tkZ 6 ?_
      refine tkZ 7 ?_
      refine tkZ 8 ?_
      refine tkZ 9 ?_
      refine tkZ 10 ?_
      refine tkZ 11 ?_
      refine tkZ 12 ?_
      refine tkZ 13 ?_
      refine tkZ 14 ?_
      refine rdZ 15 (fun K hK => ?_)
      go_simp
      refine (dialNew_ok xs xp xu cn _ (by omega) V1.out v5 (by omega)).mono ?_
      rintro e w6 ⟨d, u, rfl, hd, ld, lu, f6⟩
      have HF6 := Lib.hid (HF5.out.step f6)
      have HDI := Lib.hid hd
      have HLD := Lib.hid (show wr.heap.size ≤ d ∧ wr.heap.size ≤ u from ⟨Nat.le_trans HF5.out.size ld, Nat.le_trans HF5.out.size lu⟩)
      clear f6 hd ld lu
      refine hK.out _ _ (⟨(FR.out.step HF6.out).keep HC.out.1 (by simp), (FR.out.step HF6.out).keep HC.out.2.1 (by simp), (FR.out.step HF6.out).keep HC.out.2.2.1 (by simp), (FR.out.step HF6.out).keep HC.out.2.2.2 (by simp)⟩) (fun hHeld => ?_)
      clear hK K
      try simp only [Act.put, nrZ]
      refine tkZ 16 ?_
      refine tkZ 17 ?_
      refine tkZ 18 ?_
      refine tkZ 19 ?_
      refine tkZ 20 ?_
      refine wpAnyH_done (by kernel_rfl) ?_ _
      clear hHeld
      obtain ⟨y, hy⟩ : ∃ y : PN.PD, (⟨xs, xp, cn, xu, 0, 0, 0, 0⟩ : PN.PD) = y := ⟨_, rfl⟩
      have HY := Lib.hid hy
      clear hy
      obtain ⟨w7, hw7⟩ : ∃ z, w6.drew = z := ⟨_, rfl⟩
      have f7 : Fr [] w6 w7 := by rw [← hw7]; exact (Fr.refl [] w6).drew
      have HW7 := Lib.hid hw7
      have HF7 := Lib.hid (HF6.out.step f7)
      have HDI7 := Lib.hid (HDI.out.new f7)
      obtain ⟨a6, c6, rfl⟩ := (RowV.of_own HM.out.r6).val
      obtain ⟨Ys, hY1, hY2⟩ := HM.out.r7
      obtain ⟨a7, c7, rfl⟩ := (RowV.of_own hY2).val
      have HR6 := Lib.hid (rowFr' HM.out.r6 HF7.out (fun g _ => by simp))
      have HR7 := Lib.hid (rowFr' hY2 HF7.out (fun g _ => by simp))
      have HY1 := Lib.hid hY1
      have HBS := Lib.hid (show w.heap.size ≤ w7.heap.size from (FR.out.step HF7.out).size)
      have hDk := HM.out.len
      have HAP := Lib.hid (show ∀ g, (Value.slice a7 D.length c7).ownBlock = some g → (Value.slice a6 D.length c6).ownBlock ≠ some g from rowApart HM.out.r6 hY2 (by decide))
      clear hw7 f7 hY1 hY2 HF6 HDI
      obtain ⟨x7, hx7⟩ : ∃ z, w7 = z := ⟨_, rfl⟩
      have HX7 := Lib.hid hx7
      go_upto_region 16 with fail
      refine wp_region_held_drew (S := fun w' => w'.cell? ⟨b, off + k * 4, none⟩ = some (.string xs) ∧ w'.cell? ⟨b, off + k * 4 + 1, none⟩ = some (.int .i64 xp) ∧ w'.cell? ⟨b, off + k * 4 + 2, none⟩ = some (.int .i64 (cn : Int)) ∧ w'.cell? ⟨b, off + k * 4 + 3, none⟩ = some (.int .u64 xu)) (by kernel_rfl) (by rw [HW7.out]; exact ⟨(FR.out.step HF7.out).keep HC.out.1 (by simp), (FR.out.step HF7.out).keep HC.out.2.1 (by simp), (FR.out.step HF7.out).keep HC.out.2.2.1 (by simp), (FR.out.step HF7.out).keep HC.out.2.2.2 (by simp)⟩) (fun hHeld => ?_)
      rw [HW7.out, hx7] at hHeld ⊢
      rw [hx7] at HF7 HDI7 HR6 HR7 HBS
      clear hx7 HX7 HW7
      refine tkZ 0 ?_
      refine tkZ 1 ?_
      refine tkZ 4 ?_
      refine tkZ 5 ?_
      refine tkZ 6 ?_
      refine tkZ 7 ?_
      refine tkZ 8 ?_
      refine tvZ 9 (.agg (sp xs xp).toArray) rfl ?_ ?_
      ·intro w hSw
       try dsimp only at hSw
       show Sem.run Tryz.prog ((Instr.loadAt 36 (.pointer (some ⟨b, off + k * 4, none⟩))) >>= fun x => pure (Next.value x)) w = _
       rw [Sem.run_bind, load_all agg28 size28 (xs := sp xs xp) rfl (fun j u hj => by
        match j with
        | 0 => cases hj; exact hSw.1
        | 1 => cases hj; exact hSw.2.1)]
       rfl
      try simp only [Act.put, nrZ]
      refine tkZ 10 ?_
      refine tkZ 11 ?_
      refine tkZ 12 ?_
      refine tkZ 13 ?_
      refine tkZ 14 ?_
      refine tkZ 15 ?_
      refine tkZ 16 ?_
      refine tkZ 17 ?_
      refine tkZ 18 ?_
      refine tkZ 19 ?_
      refine tvZ 20 (.agg (wD y).toArray) rfl ?_ ?_
      ·intro w hSw
       try dsimp only at hSw
       rw [← HY.out]
       exact exec_bld3a (V := .agg #[.string xs, .int .i64 xp]) (U := .int .i64 (cn : Int)) (T := .int .u64 xu) rfl rfl rfl rfl (bldWd xs xp cn xu w)
      try simp only [Act.put, nrZ]
      have XS7 := Lib.hid (Nat.le_refl x7.heap.size)
      have FA7 := Lib.hid (Fr.refl (Value.slice a6 D.length c6).ownBlock.toList x7)
      have R6_7 := HR6
      have R7_7 := HR7
      refine wpAnyH_ready (rs := [2, 21]) (by kernel_rfl) (by simp) ?_
      refine AllReadyH.cons (o := _) rfl (fun K hK => ?_) (AllReadyH.cons (o := _) rfl (fun K hK => ?_) AllReadyH.nil)
      ·skip
       obtain ⟨x8, hx_⟩ : ∃ z, x7.alloc (.cells #[.pointer (some ⟨d, 0, none⟩)] 41) = z := ⟨_, rfl⟩
       obtain ⟨EBP, hEP⟩ : ∃ z, x7.heap.size = z := ⟨_, rfl⟩
       have hown : x8.ownsRow w.heap.size 41 1 (.slice (some ⟨EBP, 0, none⟩) 1 1) 1 ([.pointer (some ⟨d, 0, none⟩)]) := by
        rw [← hx_, ← hEP]
        exact World.ownsRow_lit x7 #[.pointer (some ⟨d, 0, none⟩)] 1 (Nat.le_trans HBS.out XS7.out) (by unfold maxLen; omega) rfl
       have fz : Fr [] x7 x8 := by rw [← hx_]; exact (Fr.refl [] x7).alloc _
       split
       rotate_left
       ·rename_i hno
        exact absurd rfl hno
       refine wp_vl (v := .slice (some ⟨EBP, 0, none⟩) 1 1) (w' := x8) ?_ ?_
       ·refine exec_bsl (V := .pointer (some ⟨d, 0, none⟩)) rfl rfl ?_
        rw [bslPt, hx_, hEP]
       have BP_8 := Lib.hid hown
       clear hx_ hEP hown
       have R7_8 := Lib.hid (rowFr' R7_7.out fz (fun g _ => by simp))
       have R6_8 := Lib.hid (rowFr' R6_7.out fz (fun g _ => by simp))
       have FA8 := Lib.hid (FA7.out.trans fz (fun x hx => by cases hx))
       have XH8 := Lib.hid (show (fun w' => w'.cell? ⟨b, off + k * 4, none⟩ = some (.string xs) ∧ w'.cell? ⟨b, off + k * 4 + 1, none⟩ = some (.int .i64 xp) ∧ w'.cell? ⟨b, off + k * 4 + 2, none⟩ = some (.int .i64 (cn : Int)) ∧ w'.cell? ⟨b, off + k * 4 + 3, none⟩ = some (.int .u64 xu)) x8 from ⟨fz.keep hHeld.1 (by simp), fz.keep hHeld.2.1 (by simp), fz.keep hHeld.2.2.1 (by simp), fz.keep hHeld.2.2.2 (by simp)⟩)
       have XS8 := Lib.hid (Nat.le_trans XS7.out fz.size)
       clear fz
       refine hK.out _ _ (XH8.out) (fun hHeld => ?_)
       clear hK K
       try simp only [Act.put, nrZ]
       refine wpAnyH_ready (rs := [3, 21]) (by kernel_rfl) (by simp) ?_
       refine AllReadyH.cons (o := _) rfl (fun K hK => ?_) (AllReadyH.cons (o := _) rfl (fun K hK => ?_) AllReadyH.nil)
       ·skip
        split
        rotate_left
        ·rename_i hno
         exact absurd rfl hno
        refine wp_append_loc elemPt _ _ rfl w.heap.size (v := .slice a6 D.length c6) rfl R6_8.out rfl BP_8.out (by intro u hu; rw [List.mem_singleton] at hu; rw [hu]; rfl) (by omega) (by omega) (by decide) (Nat.le_trans HBS.out XS8.out) ?_
        intro u6 x9 ho6 fz loc6
        have U6 := Lib.hid ho6
        obtain ⟨xm, hxm⟩ : ∃ z, x9 = z := ⟨_, rfl⟩
        have L6 := Lib.hid (show ∀ g, (slv u6).ownBlock = some g → (Value.slice a6 D.length c6).ownBlock = some g ∨ x7.heap.size ≤ g from fun g hg => (loc6 g hg).imp id (fun h => by rw [h]; exact XS8.out))
        clear ho6 loc6 hxm
        have R7_9 := Lib.hid (rowFr' R7_8.out fz (fun g hg hm => HAP.out g hg (by simpa using hm)))
        have FA9 := Lib.hid (FA8.out.trans fz (fun x hx _ => hx))
        have FM9 := Lib.hid (Fr.refl [] x9)
        have ne_ := oldNe R6_8.out HBL.out
        have XH9 := Lib.hid (show (fun w' => w'.cell? ⟨b, off + k * 4, none⟩ = some (.string xs) ∧ w'.cell? ⟨b, off + k * 4 + 1, none⟩ = some (.int .i64 xp) ∧ w'.cell? ⟨b, off + k * 4 + 2, none⟩ = some (.int .i64 (cn : Int)) ∧ w'.cell? ⟨b, off + k * 4 + 3, none⟩ = some (.int .u64 xu)) x9 from ⟨fz.keep hHeld.1 ne_, fz.keep hHeld.2.1 ne_, fz.keep hHeld.2.2.1 ne_, fz.keep hHeld.2.2.2 ne_⟩)
        clear ne_
        have XS9 := Lib.hid (Nat.le_trans XS8.out fz.size)
        clear fz
        refine hK.out _ _ (XH9.out) (fun hHeld => ?_)
        clear hK K
        try simp only [Act.put, nrZ]
        refine rdZ 21 (fun K hK => ?_)
        obtain ⟨x10, hx_⟩ : ∃ z, x9.alloc (.cells (wD y).toArray 46) = z := ⟨_, rfl⟩
        obtain ⟨EBW, hEP⟩ : ∃ z, x9.heap.size = z := ⟨_, rfl⟩
        have hown : x10.ownsRow w.heap.size 46 8 (.slice (some ⟨EBW, 0, none⟩) 1 1) 1 (wD y) := by
         rw [← hx_, ← hEP]
         exact World.ownsRow_lit x9 (wD y).toArray 1 (Nat.le_trans HBS.out XS9.out) (by unfold maxLen; omega) rfl
        have fz : Fr [] x9 x10 := by rw [← hx_]; exact (Fr.refl [] x9).alloc _
        split
        rotate_left
        ·rename_i hno
         exact absurd rfl hno
        refine wp_vl (v := .slice (some ⟨EBW, 0, none⟩) 1 1) (w' := x10) ?_ ?_
        ·refine exec_bsl (V := .agg (wD y).toArray) rfl rfl ?_
         rw [bslWd, hx_, hEP]
        have BW_10 := Lib.hid hown
        clear hx_ hEP hown
        have R7_10 := Lib.hid (rowFr' R7_9.out fz (fun g _ => by simp))
        have FM10 := Lib.hid (FM9.out.step fz)
        have XH10 := Lib.hid (show (fun w' => w'.cell? ⟨b, off + k * 4, none⟩ = some (.string xs) ∧ w'.cell? ⟨b, off + k * 4 + 1, none⟩ = some (.int .i64 xp) ∧ w'.cell? ⟨b, off + k * 4 + 2, none⟩ = some (.int .i64 (cn : Int)) ∧ w'.cell? ⟨b, off + k * 4 + 3, none⟩ = some (.int .u64 xu)) x10 from ⟨fz.keep hHeld.1 (by simp), fz.keep hHeld.2.1 (by simp), fz.keep hHeld.2.2.1 (by simp), fz.keep hHeld.2.2.2 (by simp)⟩)
        have XS10 := Lib.hid (Nat.le_trans XS9.out fz.size)
        clear fz
        refine hK.out _ _ (XH10.out) (fun hHeld => ?_)
        clear hK K
        try simp only [Act.put, nrZ]
        refine rdZ 22 (fun K hK => ?_)
        split
        rotate_left
        ·rename_i hno
         exact absurd rfl hno
        refine wp_append_loc elemWd _ _ rfl w.heap.size (v := .slice a7 D.length c7) rfl R7_10.out rfl BW_10.out (wD_one y) (by omega) (by omega) (by decide) (Nat.le_trans HBS.out XS10.out) ?_
        intro u7 x11 ho7 fz loc7
        have ne_ := oldNe R7_10.out HBL.out
        have hW : WRow x11 w.heap.size (slv u7) (D ++ [y]) := by
         refine ⟨Ys ++ [wD y], HY1.out.push rfl (wD_one y) rfl, ?_⟩
         rw [List.flatten_append, List.length_append]
         simpa using ho7
        have L7 : ∀ g, (slv u7).ownBlock = some g → (Value.slice a7 D.length c7).ownBlock = some g ∨ x7.heap.size ≤ g := fun g hg => (loc7 g hg).imp id (fun h => by rw [h]; exact XS10.out)
        obtain ⟨own2, ids2, hM2⟩ := HM.out.step (s := xs) (p := xp) (un := xu) (c := cn) (d := d) (u := u) HDI7.out HLD.out.1 HLD.out.2 HF7.out V1.out (by omega) (by omega) FA9.out U6.out L6.out ((FM10.out.mono (T := (Value.slice a7 D.length c7).ownBlock.toList) (fun x hx => by cases hx)).trans fz (fun x hx _ => hx)) (by rw [HY.out]; exact hW) L7
        rw [HY.out] at hM2
        have HM2 := Lib.hid hM2
        have XH11 := Lib.hid (show (fun w' => w'.cell? ⟨b, off + k * 4, none⟩ = some (.string xs) ∧ w'.cell? ⟨b, off + k * 4 + 1, none⟩ = some (.int .i64 xp) ∧ w'.cell? ⟨b, off + k * 4 + 2, none⟩ = some (.int .i64 (cn : Int)) ∧ w'.cell? ⟨b, off + k * 4 + 3, none⟩ = some (.int .u64 xu)) x11 from ⟨fz.keep hHeld.1 ne_, fz.keep hHeld.2.1 ne_, fz.keep hHeld.2.2.1 ne_, fz.keep hHeld.2.2.2 ne_⟩)
        clear ho7 fz loc7 ne_ hW hM2 L7
        refine hK.out _ _ (XH11.out) (fun hHeld => ?_)
        clear hK K
        try simp only [Act.put, nrZ]
        refine tkZ 23 ?_
        refine tkZ 24 ?_
        refine wpAnyH_done (by kernel_rfl) ?_ _
        clear hHeld
        go_wp2
        go_roundw
        case rel => exact ⟨_, k + 1, own2, ids2, D ++ [y], slv u6, slv u7, rfl, rfl, rfl, by go_num, by omega, HM2.out⟩
        case measure => simp [intOf]; omega
       ·skip
        obtain ⟨x9, hx_⟩ : ∃ z, x8.alloc (.cells (wD y).toArray 46) = z := ⟨_, rfl⟩
        obtain ⟨EBW, hEP⟩ : ∃ z, x8.heap.size = z := ⟨_, rfl⟩
        have hown : x9.ownsRow w.heap.size 46 8 (.slice (some ⟨EBW, 0, none⟩) 1 1) 1 (wD y) := by
         rw [← hx_, ← hEP]
         exact World.ownsRow_lit x8 (wD y).toArray 1 (Nat.le_trans HBS.out XS8.out) (by unfold maxLen; omega) rfl
        have fz : Fr [] x8 x9 := by rw [← hx_]; exact (Fr.refl [] x8).alloc _
        split
        rotate_left
        ·rename_i hno
         exact absurd rfl hno
        refine wp_vl (v := .slice (some ⟨EBW, 0, none⟩) 1 1) (w' := x9) ?_ ?_
        ·refine exec_bsl (V := .agg (wD y).toArray) rfl rfl ?_
         rw [bslWd, hx_, hEP]
        have BW_9 := Lib.hid hown
        clear hx_ hEP hown
        have R7_9 := Lib.hid (rowFr' R7_8.out fz (fun g _ => by simp))
        have R6_9 := Lib.hid (rowFr' R6_8.out fz (fun g _ => by simp))
        have FA9 := Lib.hid (FA8.out.trans fz (fun x hx => by cases hx))
        have BP_9 := Lib.hid (rowFr' BP_8.out fz (fun g _ => by simp))
        have XH9 := Lib.hid (show (fun w' => w'.cell? ⟨b, off + k * 4, none⟩ = some (.string xs) ∧ w'.cell? ⟨b, off + k * 4 + 1, none⟩ = some (.int .i64 xp) ∧ w'.cell? ⟨b, off + k * 4 + 2, none⟩ = some (.int .i64 (cn : Int)) ∧ w'.cell? ⟨b, off + k * 4 + 3, none⟩ = some (.int .u64 xu)) x9 from ⟨fz.keep hHeld.1 (by simp), fz.keep hHeld.2.1 (by simp), fz.keep hHeld.2.2.1 (by simp), fz.keep hHeld.2.2.2 (by simp)⟩)
        have XS9 := Lib.hid (Nat.le_trans XS8.out fz.size)
        clear fz
        refine hK.out _ _ (XH9.out) (fun hHeld => ?_)
        clear hK K
        try simp only [Act.put, nrZ]
        refine rdZ 3 (fun K hK => ?_)
        split
        rotate_left
        ·rename_i hno
         exact absurd rfl hno
        refine wp_append_loc elemPt _ _ rfl w.heap.size (v := .slice a6 D.length c6) rfl R6_9.out rfl BP_9.out (by intro u hu; rw [List.mem_singleton] at hu; rw [hu]; rfl) (by omega) (by omega) (by decide) (Nat.le_trans HBS.out XS9.out) ?_
        intro u6 x10 ho6 fz loc6
        have U6 := Lib.hid ho6
        obtain ⟨xm, hxm⟩ : ∃ z, x10 = z := ⟨_, rfl⟩
        have L6 := Lib.hid (show ∀ g, (slv u6).ownBlock = some g → (Value.slice a6 D.length c6).ownBlock = some g ∨ x7.heap.size ≤ g from fun g hg => (loc6 g hg).imp id (fun h => by rw [h]; exact XS9.out))
        clear ho6 loc6 hxm
        have R7_10 := Lib.hid (rowFr' R7_9.out fz (fun g hg hm => HAP.out g hg (by simpa using hm)))
        have BW_10 := Lib.hid (rowFr' BW_9.out fz (fun g hg hm => rowApart R6_9.out BW_9.out (by decide) g hg (by simpa using hm)))
        have FA10 := Lib.hid (FA9.out.trans fz (fun x hx _ => hx))
        have FM10 := Lib.hid (Fr.refl [] x10)
        have ne_ := oldNe R6_9.out HBL.out
        have XH10 := Lib.hid (show (fun w' => w'.cell? ⟨b, off + k * 4, none⟩ = some (.string xs) ∧ w'.cell? ⟨b, off + k * 4 + 1, none⟩ = some (.int .i64 xp) ∧ w'.cell? ⟨b, off + k * 4 + 2, none⟩ = some (.int .i64 (cn : Int)) ∧ w'.cell? ⟨b, off + k * 4 + 3, none⟩ = some (.int .u64 xu)) x10 from ⟨fz.keep hHeld.1 ne_, fz.keep hHeld.2.1 ne_, fz.keep hHeld.2.2.1 ne_, fz.keep hHeld.2.2.2 ne_⟩)
        clear ne_
        have XS10 := Lib.hid (Nat.le_trans XS9.out fz.size)
        clear fz
        refine hK.out _ _ (XH10.out) (fun hHeld => ?_)
        clear hK K
        try simp only [Act.put, nrZ]
        refine rdZ 22 (fun K hK => ?_)
        split
        rotate_left
        ·rename_i hno
         exact absurd rfl hno
        refine wp_append_loc elemWd _ _ rfl w.heap.size (v := .slice a7 D.length c7) rfl R7_10.out rfl BW_10.out (wD_one y) (by omega) (by omega) (by decide) (Nat.le_trans HBS.out XS10.out) ?_
        intro u7 x11 ho7 fz loc7
        have ne_ := oldNe R7_10.out HBL.out
        have hW : WRow x11 w.heap.size (slv u7) (D ++ [y]) := by
         refine ⟨Ys ++ [wD y], HY1.out.push rfl (wD_one y) rfl, ?_⟩
         rw [List.flatten_append, List.length_append]
         simpa using ho7
        have L7 : ∀ g, (slv u7).ownBlock = some g → (Value.slice a7 D.length c7).ownBlock = some g ∨ x7.heap.size ≤ g := fun g hg => (loc7 g hg).imp id (fun h => by rw [h]; exact XS10.out)
        obtain ⟨own2, ids2, hM2⟩ := HM.out.step (s := xs) (p := xp) (un := xu) (c := cn) (d := d) (u := u) HDI7.out HLD.out.1 HLD.out.2 HF7.out V1.out (by omega) (by omega) FA10.out U6.out L6.out ((FM10.out.mono (T := (Value.slice a7 D.length c7).ownBlock.toList) (fun x hx => by cases hx)).trans fz (fun x hx _ => hx)) (by rw [HY.out]; exact hW) L7
        rw [HY.out] at hM2
        have HM2 := Lib.hid hM2
        have XH11 := Lib.hid (show (fun w' => w'.cell? ⟨b, off + k * 4, none⟩ = some (.string xs) ∧ w'.cell? ⟨b, off + k * 4 + 1, none⟩ = some (.int .i64 xp) ∧ w'.cell? ⟨b, off + k * 4 + 2, none⟩ = some (.int .i64 (cn : Int)) ∧ w'.cell? ⟨b, off + k * 4 + 3, none⟩ = some (.int .u64 xu)) x11 from ⟨fz.keep hHeld.1 ne_, fz.keep hHeld.2.1 ne_, fz.keep hHeld.2.2.1 ne_, fz.keep hHeld.2.2.2 ne_⟩)
        clear ho7 fz loc7 ne_ hW hM2 L7
        refine hK.out _ _ (XH11.out) (fun hHeld => ?_)
        clear hK K
        try simp only [Act.put, nrZ]
        refine tkZ 23 ?_
        refine tkZ 24 ?_
        refine wpAnyH_done (by kernel_rfl) ?_ _
        clear hHeld
        go_wp2
        go_roundw
        case rel => exact ⟨_, k + 1, own2, ids2, D ++ [y], slv u6, slv u7, rfl, rfl, rfl, by go_num, by omega, HM2.out⟩
        case measure => simp [intOf]; omega
      ·skip
       obtain ⟨x8, hx_⟩ : ∃ z, x7.alloc (.cells (wD y).toArray 46) = z := ⟨_, rfl⟩
       obtain ⟨EBW, hEP⟩ : ∃ z, x7.heap.size = z := ⟨_, rfl⟩
       have hown : x8.ownsRow w.heap.size 46 8 (.slice (some ⟨EBW, 0, none⟩) 1 1) 1 (wD y) := by
        rw [← hx_, ← hEP]
        exact World.ownsRow_lit x7 (wD y).toArray 1 (Nat.le_trans HBS.out XS7.out) (by unfold maxLen; omega) rfl
       have fz : Fr [] x7 x8 := by rw [← hx_]; exact (Fr.refl [] x7).alloc _
       split
       rotate_left
       ·rename_i hno
        exact absurd rfl hno
       refine wp_vl (v := .slice (some ⟨EBW, 0, none⟩) 1 1) (w' := x8) ?_ ?_
       ·refine exec_bsl (V := .agg (wD y).toArray) rfl rfl ?_
        rw [bslWd, hx_, hEP]
       have BW_8 := Lib.hid hown
       clear hx_ hEP hown
       have R7_8 := Lib.hid (rowFr' R7_7.out fz (fun g _ => by simp))
       have R6_8 := Lib.hid (rowFr' R6_7.out fz (fun g _ => by simp))
       have FA8 := Lib.hid (FA7.out.trans fz (fun x hx => by cases hx))
       have XH8 := Lib.hid (show (fun w' => w'.cell? ⟨b, off + k * 4, none⟩ = some (.string xs) ∧ w'.cell? ⟨b, off + k * 4 + 1, none⟩ = some (.int .i64 xp) ∧ w'.cell? ⟨b, off + k * 4 + 2, none⟩ = some (.int .i64 (cn : Int)) ∧ w'.cell? ⟨b, off + k * 4 + 3, none⟩ = some (.int .u64 xu)) x8 from ⟨fz.keep hHeld.1 (by simp), fz.keep hHeld.2.1 (by simp), fz.keep hHeld.2.2.1 (by simp), fz.keep hHeld.2.2.2 (by simp)⟩)
       have XS8 := Lib.hid (Nat.le_trans XS7.out fz.size)
       clear fz
       refine hK.out _ _ (XH8.out) (fun hHeld => ?_)
       clear hK K
       try simp only [Act.put, nrZ]
       refine rdZ 2 (fun K hK => ?_)
       obtain ⟨x9, hx_⟩ : ∃ z, x8.alloc (.cells #[.pointer (some ⟨d, 0, none⟩)] 41) = z := ⟨_, rfl⟩
       obtain ⟨EBP, hEP⟩ : ∃ z, x8.heap.size = z := ⟨_, rfl⟩
       have hown : x9.ownsRow w.heap.size 41 1 (.slice (some ⟨EBP, 0, none⟩) 1 1) 1 ([.pointer (some ⟨d, 0, none⟩)]) := by
        rw [← hx_, ← hEP]
        exact World.ownsRow_lit x8 #[.pointer (some ⟨d, 0, none⟩)] 1 (Nat.le_trans HBS.out XS8.out) (by unfold maxLen; omega) rfl
       have fz : Fr [] x8 x9 := by rw [← hx_]; exact (Fr.refl [] x8).alloc _
       split
       rotate_left
       ·rename_i hno
        exact absurd rfl hno
       refine wp_vl (v := .slice (some ⟨EBP, 0, none⟩) 1 1) (w' := x9) ?_ ?_
       ·refine exec_bsl (V := .pointer (some ⟨d, 0, none⟩)) rfl rfl ?_
        rw [bslPt, hx_, hEP]
       have BP_9 := Lib.hid hown
       clear hx_ hEP hown
       have R7_9 := Lib.hid (rowFr' R7_8.out fz (fun g _ => by simp))
       have R6_9 := Lib.hid (rowFr' R6_8.out fz (fun g _ => by simp))
       have FA9 := Lib.hid (FA8.out.trans fz (fun x hx => by cases hx))
       have BW_9 := Lib.hid (rowFr' BW_8.out fz (fun g _ => by simp))
       have XH9 := Lib.hid (show (fun w' => w'.cell? ⟨b, off + k * 4, none⟩ = some (.string xs) ∧ w'.cell? ⟨b, off + k * 4 + 1, none⟩ = some (.int .i64 xp) ∧ w'.cell? ⟨b, off + k * 4 + 2, none⟩ = some (.int .i64 (cn : Int)) ∧ w'.cell? ⟨b, off + k * 4 + 3, none⟩ = some (.int .u64 xu)) x9 from ⟨fz.keep hHeld.1 (by simp), fz.keep hHeld.2.1 (by simp), fz.keep hHeld.2.2.1 (by simp), fz.keep hHeld.2.2.2 (by simp)⟩)
       have XS9 := Lib.hid (Nat.le_trans XS8.out fz.size)
       clear fz
       refine hK.out _ _ (XH9.out) (fun hHeld => ?_)
       clear hK K
       try simp only [Act.put, nrZ]
       refine rdZ 3 (fun K hK => ?_)
       split
       rotate_left
       ·rename_i hno
        exact absurd rfl hno
       refine wp_append_loc elemPt _ _ rfl w.heap.size (v := .slice a6 D.length c6) rfl R6_9.out rfl BP_9.out (by intro u hu; rw [List.mem_singleton] at hu; rw [hu]; rfl) (by omega) (by omega) (by decide) (Nat.le_trans HBS.out XS9.out) ?_
       intro u6 x10 ho6 fz loc6
       have U6 := Lib.hid ho6
       obtain ⟨xm, hxm⟩ : ∃ z, x10 = z := ⟨_, rfl⟩
       have L6 := Lib.hid (show ∀ g, (slv u6).ownBlock = some g → (Value.slice a6 D.length c6).ownBlock = some g ∨ x7.heap.size ≤ g from fun g hg => (loc6 g hg).imp id (fun h => by rw [h]; exact XS9.out))
       clear ho6 loc6 hxm
       have R7_10 := Lib.hid (rowFr' R7_9.out fz (fun g hg hm => HAP.out g hg (by simpa using hm)))
       have BW_10 := Lib.hid (rowFr' BW_9.out fz (fun g hg hm => rowApart R6_9.out BW_9.out (by decide) g hg (by simpa using hm)))
       have FA10 := Lib.hid (FA9.out.trans fz (fun x hx _ => hx))
       have FM10 := Lib.hid (Fr.refl [] x10)
       have ne_ := oldNe R6_9.out HBL.out
       have XH10 := Lib.hid (show (fun w' => w'.cell? ⟨b, off + k * 4, none⟩ = some (.string xs) ∧ w'.cell? ⟨b, off + k * 4 + 1, none⟩ = some (.int .i64 xp) ∧ w'.cell? ⟨b, off + k * 4 + 2, none⟩ = some (.int .i64 (cn : Int)) ∧ w'.cell? ⟨b, off + k * 4 + 3, none⟩ = some (.int .u64 xu)) x10 from ⟨fz.keep hHeld.1 ne_, fz.keep hHeld.2.1 ne_, fz.keep hHeld.2.2.1 ne_, fz.keep hHeld.2.2.2 ne_⟩)
       clear ne_
       have XS10 := Lib.hid (Nat.le_trans XS9.out fz.size)
       clear fz
       refine hK.out _ _ (XH10.out) (fun hHeld => ?_)
       clear hK K
       try simp only [Act.put, nrZ]
       refine rdZ 22 (fun K hK => ?_)
       split
       rotate_left
       ·rename_i hno
        exact absurd rfl hno
       refine wp_append_loc elemWd _ _ rfl w.heap.size (v := .slice a7 D.length c7) rfl R7_10.out rfl BW_10.out (wD_one y) (by omega) (by omega) (by decide) (Nat.le_trans HBS.out XS10.out) ?_
       intro u7 x11 ho7 fz loc7
       have ne_ := oldNe R7_10.out HBL.out
       have hW : WRow x11 w.heap.size (slv u7) (D ++ [y]) := by
        refine ⟨Ys ++ [wD y], HY1.out.push rfl (wD_one y) rfl, ?_⟩
        rw [List.flatten_append, List.length_append]
        simpa using ho7
       have L7 : ∀ g, (slv u7).ownBlock = some g → (Value.slice a7 D.length c7).ownBlock = some g ∨ x7.heap.size ≤ g := fun g hg => (loc7 g hg).imp id (fun h => by rw [h]; exact XS10.out)
       obtain ⟨own2, ids2, hM2⟩ := HM.out.step (s := xs) (p := xp) (un := xu) (c := cn) (d := d) (u := u) HDI7.out HLD.out.1 HLD.out.2 HF7.out V1.out (by omega) (by omega) FA10.out U6.out L6.out ((FM10.out.mono (T := (Value.slice a7 D.length c7).ownBlock.toList) (fun x hx => by cases hx)).trans fz (fun x hx _ => hx)) (by rw [HY.out]; exact hW) L7
       rw [HY.out] at hM2
       have HM2 := Lib.hid hM2
       have XH11 := Lib.hid (show (fun w' => w'.cell? ⟨b, off + k * 4, none⟩ = some (.string xs) ∧ w'.cell? ⟨b, off + k * 4 + 1, none⟩ = some (.int .i64 xp) ∧ w'.cell? ⟨b, off + k * 4 + 2, none⟩ = some (.int .i64 (cn : Int)) ∧ w'.cell? ⟨b, off + k * 4 + 3, none⟩ = some (.int .u64 xu)) x11 from ⟨fz.keep hHeld.1 ne_, fz.keep hHeld.2.1 ne_, fz.keep hHeld.2.2.1 ne_, fz.keep hHeld.2.2.2 ne_⟩)
       clear ho7 fz loc7 ne_ hW hM2 L7
       refine hK.out _ _ (XH11.out) (fun hHeld => ?_)
       clear hK K
       try simp only [Act.put, nrZ]
       refine tkZ 23 ?_
       refine tkZ 24 ?_
       refine wpAnyH_done (by kernel_rfl) ?_ _
       clear hHeld
       go_wp2
       go_roundw
       case rel => exact ⟨_, k + 1, own2, ids2, D ++ [y], slv u6, slv u7, rfl, rfl, rfl, by go_num, by omega, HM2.out⟩
       case measure => simp [intOf]; omega
     | false =>
      have HMS := Lib.hid (HM.out.skip HF4.out)
      clear HVB
      go_wp2
      go_roundw
      case rel => exact ⟨_, k + 1, own1, ids, D, _, _, rfl, rfl, rfl, by go_num, by omega, HMS.out⟩
      case measure => simp [intOf]; omega
   ·obtain rfl : k = ns := by omega
    obtain ⟨a6, c6, rfl⟩ := (RowV.of_own HM.out.r6).val
    obtain ⟨Ys, hY1, hY2⟩ := HM.out.r7
    obtain ⟨a7, c7, rfl⟩ := (RowV.of_own hY2).val
    have HNL := Lib.hid (show D.length = 0 → a6 = none ∧ c6 = 0 from fun h => by
     have h' := HM.out.nil h
     simp only [Value.slice.injEq] at h'
     exact ⟨h'.1, h'.2.2⟩)
    obtain ⟨nd, hnd⟩ : ∃ nd, D.length = nd := ⟨_, rfl⟩
    have hnd8 : nd ≤ 8 := by rw [← hnd]; have := HM.out.len; omega
    have HP0 := Lib.hid (show PlayE w NBB V (.slice a6 nd c6) (.slice a7 nd c7) nd 0 wr from by
     refine ⟨own1, ids, [], [], 0, 0, D, ⟨[], []⟩, (none, 0, 0), (none, 0, 0), ?_, PN.Match.nil, hnd, by omega, by omega⟩
     have h := HM.out.play
     rw [hnd] at h
     exact h)
    rw [hnd] at HNL ⊢
    clear hnd hY1 hY2 HM
    go_wp2_with fail
    go_loopg [12] nl (fun kg i wr => ∃ (wz : World) (q : Nat), wz = wr ∧ i = .int .i64 q ∧ q + kg = nl ∧ PlayE w NBB V (.slice a6 nd c6) (.slice a7 nd c7) nd q wr)
    case atStart => exact ⟨_, 0, rfl, rfl, by omega, HP0.out⟩
    case round =>
     clear HP0
     obtain ⟨wr, q, hwz, rfl, hq, hE⟩ := hrel
     subst hwz
     have HE := Lib.hid hE
     clear hE
     by_cases hlq : q < nl
     ·obtain ⟨gn, rfl⟩ : ∃ z, gk = z + 1 := ⟨gk - 1, by omega⟩
      have hlq' : (q : Int) < (nl : Int) := by omega
      have hq0 : (0 : Int) ≤ (q : Int) := by omega
      rcases HL.out with h0 | ⟨b, off, rfl, hbl, hc⟩
      ·omega
      ·obtain ⟨own, ids, L, C, G, T, D, R, sL, sC, hP, hM, hD, hG, hT⟩ := HE.out
       obtain ⟨c0, c1, c2, c3, c4, c5⟩ := hc q hlq
       obtain ⟨⟨n1, n2⟩, ⟨n3, n4⟩, ⟨n5, n6⟩⟩ := HA.out q hlq
       have hsz := HGS.out q hlq
       obtain ⟨x, hx⟩ : ∃ x, g q = x := ⟨_, rfl⟩
       rw [hx] at c0 c1 c2 c3 c4 c5 hsz n1 n2 n3 n4 n5 n6
       obtain ⟨what, which, an, as_, ap, now⟩ := x
       simp only at c0 c1 c2 c3 c4 c5 hsz n1 n2 n3 n4 n5 n6
       have HFR := Lib.hid hP.fr
       have HAC := Lib.hid (show LiesAt wr b (off + q * 6) (actC what which an as_ ap now) from fun j u hj => by
        match j with
        | 0 => cases hj; exact HFR.out.keep c0 (by simp)
        | 1 => cases hj; exact HFR.out.keep c1 (by simp)
        | 2 => cases hj; exact HFR.out.keep c2 (by simp)
        | 3 => cases hj; exact HFR.out.keep c3 (by simp)
        | 4 => cases hj; exact HFR.out.keep c4 (by simp)
        | 5 => cases hj; exact HFR.out.keep c5 (by simp)
        | j + 6 => simp [actC] at hj)
       have HP := Lib.hid (hP.ext (own' := ownNew wr own 4) (Ext.new _ _ _))
       have HNW := Lib.hid (show ∀ z, wr.heap.size ≤ z → ownNew wr own 4 z = 4 from fun z hz => ownNew_ge hz)
       have HM := Lib.hid hM
       obtain ⟨ow1, how⟩ : ∃ o, ownNew wr own 4 = o := ⟨_, rfl⟩
       rw [how] at HP HNW
       clear hP hM hc c0 c1 c2 c3 c4 c5 hx how hbl HE HFR
       go_upto_region 20 with fail
       refine wp_region_lit ?_
       iterate 3 (refine wpList_plain rfl (fun K hK => ?_); go_simp; refine hK _ _ ?_; clear hK K)
       try simp only [Act.put, nrZ]
       refine ldZ (load_all aggAc sizeAc (xs := actC what which an as_ ap now) rfl HAC.out) ?_
       refine wpList_plain rfl (fun K hK => ?_); go_simp; refine hK _ _ ?_; clear hK K
       try simp only [Act.put, nrZ]
       obtain ⟨A, hA_⟩ : ∃ E, wr.heap.size = E := ⟨_, rfl⟩
       obtain ⟨x1, hx_⟩ : ∃ z, wr.alloc (.cells actZ.toArray 48) = z := ⟨_, rfl⟩
       have hbx : Blk x1 A 48 actZ := by rw [← hx_, ← hA_]; exact Blk.made wr 48 actZ
       have fx : Fr [] wr x1 := by rw [← hx_]; exact (Fr.refl [] wr).alloc _
       simp only [show (World.alloc wr (.cells #[.int .i64 0, .int .i64 0, .int .i64 0, .string ⟨#[]⟩, .int .i64 0, .int .u64 0] 48)) = x1 from hx_, hA_]
       have HX1 := Lib.hid hbx
       have HF1 := Lib.hid fx
       have HAZ := Lib.hid hA_
       clear hbx fx hx_ hA_
       obtain ⟨w1, hst, hb_, hf_⟩ := store_all (t := 48) (actC what which an as_ ap now) sizeAc rfl (actC_one _ _ _ _ _ _) HX1.out rfl
       refine stZ hst ?_
       clear hst
       refine wpList_nil ?_
       try simp only [Act.put, nrZ]
       have HBA := Lib.hid hb_
       have HFA := Lib.hid (HF1.out.own1 (S := []) (B := 0) hf_ (by have := HAZ.out; omega))
       have HP1 := Lib.hid (HP.out.new HFA.out)
       have HOA := Lib.hid (HNW.out A (by have := HAZ.out; omega))
       have HN1 := Lib.hid (show ∀ z, w1.heap.size ≤ z → ow1 z = 4 from fun z hz => HNW.out z (Nat.le_trans HFA.out.size hz))
       clear hb_ hf_ HX1 HF1 HP HAC
       have b0 : w1.cell? ⟨A, 0, none⟩ = some (.int .i64 what) := HBA.out.at 0 _ rfl
       have b1' : w1.cell? ⟨A, 1, none⟩ = some (.int .i64 which) := HBA.out.at 1 _ rfl
       by_cases hn0 : nd = 0 ∧ what ≤ 2
       ·as_aux_lemma =>
        have hw2 := hn0.2
        have hgt3 : decide (0 < nd) = false := by rw [hn0.1]; rfl
        have hgt4 : ¬ (0 : Nat) < nd := by omega
        replace hn0 := Lib.hid hn0
        go_wp2
        go_roundg gn
        case measure => omega
        case rel => exact ⟨_, q + 1, rfl, by go_num, by omega, ow1, ids, L, C, G, T, D, R, sL, sC, HP1.out, HM.out, hD, by omega, by omega⟩
       ·skip
        have HMP := Lib.hid (HP1.out.mid HBA.out HOA.out)
        obtain ⟨N, hN⟩ : ∃ z, plainN L C = z := ⟨_, rfl⟩
        rw [hN] at HMP HM
        have HDL := Lib.hid hD
        have HGT := Lib.hid (And.intro hG hT)
        have HNW2 := Lib.hid (show ¬ (nd = 0 ∧ what ≤ 2) from hn0)
        clear hN HP1 HOA HN1 HNW HFA HAZ hD hG hT hn0
        go_upto_if 133 with (fail)
        go_cut [14] from 133 to 147 (fun s wc => ∃ kk : Nat, s = .int .i64 kk ∧ w1 = wc ∧ (nd ≠ 0 → kk < nd))
        case first =>
         by_cases h0 : nd = 0
         ·as_aux_lemma =>
          have hgt2 : decide (0 < nd) = false := by rw [h0]; rfl
          have hgt3 : ¬ (0 : Nat) < nd := by omega
          have hw2 : ¬ what ≤ 2 := fun h => HNW2.out ⟨h0, h⟩
          replace h0 := Lib.hid h0
          go_wp2_with fail
          go_meet
          case rel => exact ⟨0, rfl, rfl, fun h => absurd h0.out h⟩
         ·as_aux_lemma =>
          have hnp : (0 : Int) < (nd : Int) := by omega
          have q1 := Int.tmod_lt_of_pos which hnp
          have q2 := Int.lt_tmod_of_pos which hnp
          obtain ⟨mm, hmm⟩ : ∃ mm, which.tmod (nd : Int) = mm := ⟨_, rfl⟩
          rw [hmm] at q1 q2
          have q3 := Int.emod_nonneg (mm + nd) (Int.ne_of_gt hnp)
          have q4 := Int.emod_lt_of_pos (mm + nd) hnp
          obtain ⟨kk, hkk⟩ : ∃ kk : Nat, (mm + (nd : Int)) % (nd : Int) = kk := ⟨((mm + (nd : Int)) % (nd : Int)).toNat, by omega⟩
          rw [hkk] at q3 q4
          have hkn : kk < nd := by omega
          have hO0' : ((nd : Int) == 0) = false := by rw [beq_eq_false_iff_ne]; omega
          have hgt3 : (0 : Nat) < nd := by omega
          go_wp2_with fail
          go_meet
          case rel => exact ⟨kk, by rw [hkk], rfl, fun _ => hkn⟩
        case rest =>
         obtain ⟨kk, rfl, hwc, hkn⟩ := hcut
         subst hwc
         have HKN := Lib.hid hkn
         clear hkn
         go_upto_block 4 with fail
         go_cut [15] from 150 to 348 (fun s wc => s = .bool true ∧ PlayT w NBB V (.slice a6 nd c6) (.slice a7 nd c7) nd q wc)
         case first =>
          by_cases e0 : what = 0
          ·skip
           as_aux_lemma =>
           have hb0 : (what == 0) = true := by simp [e0]
           have hnd0 : nd ≠ 0 := fun h => HNW2.out ⟨h, by omega⟩
           clear e0
           have hkn : kk < nd := HKN.out hnd0
           have hkq : (kk : Int) < (nd : Int) := by omega
           have hk0 : (0 : Int) ≤ (kk : Int) := by omega
           have hDL : D.length = nd := HDL.out
           have hkD : kk < D.length := by omega
           obtain ⟨x, hx⟩ : ∃ x, D[kk]? = some x := ⟨D[kk], List.getElem?_eq_getElem hkD⟩
           have HX := Lib.hid hx
           obtain ⟨g6, cc6, hv6, hg6, hl6⟩ := own_at HMP.out.r6 (by omega)
           obtain ⟨g7, cc7, hv7, hg7, hl7⟩ := HMP.out.r7.lies hx
           simp only [Value.slice.injEq] at hv6 hv7
           obtain ⟨rfl, hv8, rfl⟩ := hv6
           clear hv8
           obtain ⟨rfl, hv8, rfl⟩ := hv7
           clear hv8
           have HL6 := Lib.hid (show w1.cell? ⟨g6, kk, none⟩ = some (.pointer (some ⟨(ids kk).1, 0, none⟩)) from hl6 kk _ (by unfold ptrs; simp [hkD]))
           have HL7 := Lib.hid hl7
           have HGB := Lib.hid (And.intro hg6 hg7)
           clear hx hl6 hl7 hg6 hg7 hnd0 hkD hDL
           have HGT0 := HGT.out
           obtain ⟨y, N', R', cn, er, hmt, hc1, hc2⟩ := HMP.out.tryB kk x now HM.out HX.out n6 (by omega) (by omega)
           have HMT := Lib.hid hmt
           have HC1 := Lib.hid hc1
           have HC2 := Lib.hid hc2
           clear hmt hc1 hc2
           obtain ⟨w2, hdw⟩ : ∃ z, w1.drew = z := ⟨_, rfl⟩
           have fdw : Fr [] w1 w2 := by rw [← hdw]; exact (Fr.refl [] w1).drew
           have HDW := Lib.hid hdw
           have HF2 := Lib.hid fdw
           clear hdw fdw
           go_upto_region 32 with fail
           go_cut [16, 17, 18, 19] from 177 to 189 (fun s16 s17 s18 s19 wc => Out32 w1 sL sC R R' y cn er s16 s17 s18 s19 wc)
           case first =>
            refine wp_region_held_drew (S := fun W => LiesAt W g7 (kk * 8) (wD x) ∧ Blk W V 31 (two (slv sL) (slv sC)) ∧ W.cell? ⟨A, 5, none⟩ = some (.int .u64 now)) (by kernel_rfl) (by rw [HDW.out]; exact kept3 (⟨HL7.out, HMP.out.var, HBA.out.at 5 _ rfl⟩ : LiesAt w1 g7 (kk * 8) (wD x) ∧ Blk w1 V 31 (two (slv sL) (slv sC)) ∧ w1.cell? ⟨A, 5, none⟩ = some (.int .u64 now)) HF2.out) (fun hHeld => ?_)
            rw [HDW.out] at hHeld ⊢
            refine tkZ 0 ?_
            refine tkZ 1 ?_
            refine tkZ 2 ?_
            refine tvZ 3 _ rfl (fun w hSw => ldX (load_all aggD sizeD (xs := wD x) rfl hSw.1)) ?_
            refine tvZ 4 _ rfl (fun w hSw => ldX (load_all agg34 size34 (xs := two (slv sL) (slv sC)) rfl hSw.2.1.at)) ?_
            refine tkZ 5 ?_
            refine tvZ 6 (.int .u64 now) rfl ?_ ?_
            ·intro w hSw
             try dsimp only at hSw
             have hc := hSw.2.2
             go_simp
             try with_reducible rfl
            try simp only [Act.put, nrZ]
            refine wpAnyH_ready (rs := [7, 13, 14]) (by kernel_rfl) (by simp) ?_
            refine AllReadyH.cons (o := _) rfl (fun K hK => ?_) (AllReadyH.cons (o := _) rfl (fun K hK => ?_) (AllReadyH.cons (o := _) rfl (fun K hK => ?_) AllReadyH.nil))
            ·skip
             go_simp
             refine (HC1.out _ HF2.out).mono ?_
             rintro e w21 ⟨uL, uC, rfl, fcl, hrf⟩
             have HRF := Lib.hid hrf
             have F_w21 := Lib.hid (HF2.out.step fcl)
             clear hrf
             clear fcl
             refine hK.out _ _ (kept3 (⟨HL7.out, HMP.out.var, HBA.out.at 5 _ rfl⟩ : LiesAt w1 g7 (kk * 8) (wD x) ∧ Blk w1 V 31 (two (slv sL) (slv sC)) ∧ w1.cell? ⟨A, 5, none⟩ = some (.int .u64 now)) F_w21.out) (fun hHeld => ?_)
             clear hK K
             try simp only [Act.put, nrZ]
             refine tkZ 8 ?_
             refine tkZ 9 ?_
             refine tkZ 10 ?_
             refine tkZ 11 ?_
             refine tkZ 12 ?_
             refine wpAnyH_ready (rs := [13, 14]) (by kernel_rfl) (by simp) ?_
             refine AllReadyH.cons (o := _) rfl (fun K hK => ?_) (AllReadyH.cons (o := _) rfl (fun K hK => ?_) AllReadyH.nil)
             ·skip
              go_simp
              obtain ⟨E16, hE_⟩ : ∃ z, w21.heap.size = z := ⟨_, rfl⟩
              obtain ⟨w22, hx_⟩ : ∃ z, w21.alloc (.cells #[.string ⟨#[]⟩, .int .i64 0, .int .i64 0, .int .u64 0, .int .i64 0, .int .i64 0, .int .i64 0, .int .i64 0] 46) = z := ⟨_, rfl⟩
              have hb_ : Blk w22 E16 46 wDz := by rw [← hx_, ← hE_]; exact Blk.made w21 46 wDz
              have fz : Fr [] w21 w22 := by rw [← hx_]; exact (Fr.refl [] w21).alloc _
              rw [hx_]
              simp only [hE_]
              have E16_ := Lib.hid (show w1.heap.size ≤ E16 by rw [← hE_]; exact F_w21.out.size)
              have B16_w22 := Lib.hid hb_
              have F_w22 := Lib.hid (F_w21.out.step fz)
              have P0 := Lib.hid fz
              have S16_ := Lib.hid (show E16 < w2.heap.size ∨ w21.heap.size ≤ E16 from .inr (by rw [← hE_]; exact Nat.le_refl _))
              clear hx_ hE_ hb_ fz
              refine hK.out _ _ (kept3 (⟨HL7.out, HMP.out.var, HBA.out.at 5 _ rfl⟩ : LiesAt w1 g7 (kk * 8) (wD x) ∧ Blk w1 V 31 (two (slv sL) (slv sC)) ∧ w1.cell? ⟨A, 5, none⟩ = some (.int .u64 now)) F_w22.out) (fun hHeld => ?_)
              clear hK K
              try simp only [Act.put, nrZ]
              refine rdZ 14 (fun K hK => ?_)
              go_simp
              obtain ⟨E17, hE_⟩ : ∃ z, w22.heap.size = z := ⟨_, rfl⟩
              obtain ⟨w23, hx_⟩ : ∃ z, w22.alloc (.cells #[.slice none 0 0, .slice none 0 0] 31) = z := ⟨_, rfl⟩
              have hb_ : Blk w23 E17 31 zNt := by rw [← hx_, ← hE_]; exact Blk.made w22 31 zNt
              have fz : Fr [] w22 w23 := by rw [← hx_]; exact (Fr.refl [] w22).alloc _
              rw [hx_]
              simp only [hE_]
              have E17_ := Lib.hid (show w1.heap.size ≤ E17 by rw [← hE_]; exact F_w22.out.size)
              have B17_w23 := Lib.hid hb_
              have F_w23 := Lib.hid (F_w22.out.step fz)
              have B16_w23 := Lib.hid (B16_w22.out.keep fz (by simp))
              have P1 := Lib.hid fz
              have S17_ := Lib.hid (show E17 < w2.heap.size ∨ w21.heap.size ≤ E17 from .inr (by rw [← hE_]; exact P0.out.size))
              clear hx_ hE_ hb_ fz
              refine hK.out _ _ (kept3 (⟨HL7.out, HMP.out.var, HBA.out.at 5 _ rfl⟩ : LiesAt w1 g7 (kk * 8) (wD x) ∧ Blk w1 V 31 (two (slv sL) (slv sC)) ∧ w1.cell? ⟨A, 5, none⟩ = some (.int .u64 now)) F_w23.out) (fun hHeld => ?_)
              clear hK K
              try simp only [Act.put, nrZ]
              have HN67 := Lib.hid (show E16 ≠ E17 from Blk.apart B16_w23.out B17_w23.out (by decide))
              have FE := Lib.hid (Fr.refl [E16, E17] w21)
              replace FE := Lib.hid (FE.out.trans P0.out (fun x hx => by cases hx))
              replace FE := Lib.hid (FE.out.trans P1.out (fun x hx => by cases hx))
              refine rdZ 15 (fun K hK => ?_)
              obtain ⟨wa, hst, hb_, hf_⟩ := store_all (t := 46) (wD y) sizeD rfl (wD_one y) B16_w23.out rfl
              split
              rotate_left
              ·rename_i hno
               exact absurd rfl hno
              refine stY hst ?_
              clear hst
              have BA16 := Lib.hid hb_
              have FA := Lib.hid (Fr.onto F_w23.out hf_ (fun z hz => by rw [List.mem_singleton] at hz; rw [hz]; exact E16_.out))
              have BA17 := Lib.hid (B17_w23.out.keep hf_ (fun h => HN67.out (List.mem_singleton.1 h).symm))
              replace FE := Lib.hid (FE.out.trans hf_ (fun x hx _ => by rw [List.mem_singleton] at hx; simp [hx]))
              clear hb_ hf_
              refine hK.out _ _ (kept3 (⟨HL7.out, HMP.out.var, HBA.out.at 5 _ rfl⟩ : LiesAt w1 g7 (kk * 8) (wD x) ∧ Blk w1 V 31 (two (slv sL) (slv sC)) ∧ w1.cell? ⟨A, 5, none⟩ = some (.int .u64 now)) FA.out) (fun hHeld => ?_)
              clear hK K
              try simp only [Act.put, nrZ]
              refine rdZ 16 (fun K hK => ?_)
              obtain ⟨wb, hst, hb_, hf_⟩ := store_all (t := 31) (two (slv uL) (slv uC)) size34 rfl (two_one _ _) BA17.out rfl
              split
              rotate_left
              ·rename_i hno
               exact absurd rfl hno
              refine stY hst ?_
              clear hst
              have BB17 := Lib.hid hb_
              have BB16 := Lib.hid (BA16.out.keep hf_ (fun h => HN67.out (List.mem_singleton.1 h)))
              have FB := Lib.hid (Fr.onto FA.out hf_ (fun z hz => by rw [List.mem_singleton] at hz; rw [hz]; exact E17_.out))
              replace FE := Lib.hid (FE.out.trans hf_ (fun x hx _ => by rw [List.mem_singleton] at hx; simp [hx]))
              have HR32 := Lib.hid ((HRF.out.far2 FE.out (fun z hz => by
               simp only [List.mem_cons, List.not_mem_nil, or_false] at hz
               rcases hz with rfl | rfl
               ·exact S16_.out
               ·exact S17_.out)).base (show w1.heap.size ≤ w2.heap.size from HF2.out.size))
              clear hb_ hf_
              refine hK.out _ _ (kept3 (⟨HL7.out, HMP.out.var, HBA.out.at 5 _ rfl⟩ : LiesAt w1 g7 (kk * 8) (wD x) ∧ Blk w1 V 31 (two (slv sL) (slv sC)) ∧ w1.cell? ⟨A, 5, none⟩ = some (.int .u64 now)) FB.out) (fun hHeld => ?_)
              clear hK K
              try simp only [Act.put, nrZ]
              refine tkZ 17 ?_
              refine tkZ 18 ?_
              refine wpAnyH_done (by kernel_rfl) ?_ _
              go_wp2
              go_meet
              exact ⟨E16, E17, uL, uC, rfl, rfl, rfl, rfl, FB.out, HR32.out, BB16.out, BB17.out, E16_.out, E17_.out⟩
             ·skip
              go_simp
              obtain ⟨E17, hE_⟩ : ∃ z, w21.heap.size = z := ⟨_, rfl⟩
              obtain ⟨w24, hx_⟩ : ∃ z, w21.alloc (.cells #[.slice none 0 0, .slice none 0 0] 31) = z := ⟨_, rfl⟩
              have hb_ : Blk w24 E17 31 zNt := by rw [← hx_, ← hE_]; exact Blk.made w21 31 zNt
              have fz : Fr [] w21 w24 := by rw [← hx_]; exact (Fr.refl [] w21).alloc _
              rw [hx_]
              simp only [hE_]
              have E17_ := Lib.hid (show w1.heap.size ≤ E17 by rw [← hE_]; exact F_w21.out.size)
              have B17_w24 := Lib.hid hb_
              have F_w24 := Lib.hid (F_w21.out.step fz)
              have P0 := Lib.hid fz
              have S17_ := Lib.hid (show E17 < w2.heap.size ∨ w21.heap.size ≤ E17 from .inr (by rw [← hE_]; exact Nat.le_refl _))
              clear hx_ hE_ hb_ fz
              refine hK.out _ _ (kept3 (⟨HL7.out, HMP.out.var, HBA.out.at 5 _ rfl⟩ : LiesAt w1 g7 (kk * 8) (wD x) ∧ Blk w1 V 31 (two (slv sL) (slv sC)) ∧ w1.cell? ⟨A, 5, none⟩ = some (.int .u64 now)) F_w24.out) (fun hHeld => ?_)
              clear hK K
              try simp only [Act.put, nrZ]
              refine rdZ 13 (fun K hK => ?_)
              go_simp
              obtain ⟨E16, hE_⟩ : ∃ z, w24.heap.size = z := ⟨_, rfl⟩
              obtain ⟨w25, hx_⟩ : ∃ z, w24.alloc (.cells #[.string ⟨#[]⟩, .int .i64 0, .int .i64 0, .int .u64 0, .int .i64 0, .int .i64 0, .int .i64 0, .int .i64 0] 46) = z := ⟨_, rfl⟩
              have hb_ : Blk w25 E16 46 wDz := by rw [← hx_, ← hE_]; exact Blk.made w24 46 wDz
              have fz : Fr [] w24 w25 := by rw [← hx_]; exact (Fr.refl [] w24).alloc _
              rw [hx_]
              simp only [hE_]
              have E16_ := Lib.hid (show w1.heap.size ≤ E16 by rw [← hE_]; exact F_w24.out.size)
              have B16_w25 := Lib.hid hb_
              have F_w25 := Lib.hid (F_w24.out.step fz)
              have B17_w25 := Lib.hid (B17_w24.out.keep fz (by simp))
              have P1 := Lib.hid fz
              have S16_ := Lib.hid (show E16 < w2.heap.size ∨ w21.heap.size ≤ E16 from .inr (by rw [← hE_]; exact P0.out.size))
              clear hx_ hE_ hb_ fz
              refine hK.out _ _ (kept3 (⟨HL7.out, HMP.out.var, HBA.out.at 5 _ rfl⟩ : LiesAt w1 g7 (kk * 8) (wD x) ∧ Blk w1 V 31 (two (slv sL) (slv sC)) ∧ w1.cell? ⟨A, 5, none⟩ = some (.int .u64 now)) F_w25.out) (fun hHeld => ?_)
              clear hK K
              try simp only [Act.put, nrZ]
              have HN67 := Lib.hid (show E16 ≠ E17 from Blk.apart B16_w25.out B17_w25.out (by decide))
              have FE := Lib.hid (Fr.refl [E16, E17] w21)
              replace FE := Lib.hid (FE.out.trans P0.out (fun x hx => by cases hx))
              replace FE := Lib.hid (FE.out.trans P1.out (fun x hx => by cases hx))
              refine rdZ 15 (fun K hK => ?_)
              obtain ⟨wa, hst, hb_, hf_⟩ := store_all (t := 46) (wD y) sizeD rfl (wD_one y) B16_w25.out rfl
              split
              rotate_left
              ·rename_i hno
               exact absurd rfl hno
              refine stY hst ?_
              clear hst
              have BA16 := Lib.hid hb_
              have FA := Lib.hid (Fr.onto F_w25.out hf_ (fun z hz => by rw [List.mem_singleton] at hz; rw [hz]; exact E16_.out))
              have BA17 := Lib.hid (B17_w25.out.keep hf_ (fun h => HN67.out (List.mem_singleton.1 h).symm))
              replace FE := Lib.hid (FE.out.trans hf_ (fun x hx _ => by rw [List.mem_singleton] at hx; simp [hx]))
              clear hb_ hf_
              refine hK.out _ _ (kept3 (⟨HL7.out, HMP.out.var, HBA.out.at 5 _ rfl⟩ : LiesAt w1 g7 (kk * 8) (wD x) ∧ Blk w1 V 31 (two (slv sL) (slv sC)) ∧ w1.cell? ⟨A, 5, none⟩ = some (.int .u64 now)) FA.out) (fun hHeld => ?_)
              clear hK K
              try simp only [Act.put, nrZ]
              refine rdZ 16 (fun K hK => ?_)
              obtain ⟨wb, hst, hb_, hf_⟩ := store_all (t := 31) (two (slv uL) (slv uC)) size34 rfl (two_one _ _) BA17.out rfl
              split
              rotate_left
              ·rename_i hno
               exact absurd rfl hno
              refine stY hst ?_
              clear hst
              have BB17 := Lib.hid hb_
              have BB16 := Lib.hid (BA16.out.keep hf_ (fun h => HN67.out (List.mem_singleton.1 h)))
              have FB := Lib.hid (Fr.onto FA.out hf_ (fun z hz => by rw [List.mem_singleton] at hz; rw [hz]; exact E17_.out))
              replace FE := Lib.hid (FE.out.trans hf_ (fun x hx _ => by rw [List.mem_singleton] at hx; simp [hx]))
              have HR32 := Lib.hid ((HRF.out.far2 FE.out (fun z hz => by
               simp only [List.mem_cons, List.not_mem_nil, or_false] at hz
               rcases hz with rfl | rfl
               ·exact S16_.out
               ·exact S17_.out)).base (show w1.heap.size ≤ w2.heap.size from HF2.out.size))
              clear hb_ hf_
              refine hK.out _ _ (kept3 (⟨HL7.out, HMP.out.var, HBA.out.at 5 _ rfl⟩ : LiesAt w1 g7 (kk * 8) (wD x) ∧ Blk w1 V 31 (two (slv sL) (slv sC)) ∧ w1.cell? ⟨A, 5, none⟩ = some (.int .u64 now)) FB.out) (fun hHeld => ?_)
              clear hK K
              try simp only [Act.put, nrZ]
              refine tkZ 17 ?_
              refine tkZ 18 ?_
              refine wpAnyH_done (by kernel_rfl) ?_ _
              go_wp2
              go_meet
              exact ⟨E16, E17, uL, uC, rfl, rfl, rfl, rfl, FB.out, HR32.out, BB16.out, BB17.out, E16_.out, E17_.out⟩
            ·skip
             go_simp
             obtain ⟨E16, hE_⟩ : ∃ z, w2.heap.size = z := ⟨_, rfl⟩
             obtain ⟨w26, hx_⟩ : ∃ z, w2.alloc (.cells #[.string ⟨#[]⟩, .int .i64 0, .int .i64 0, .int .u64 0, .int .i64 0, .int .i64 0, .int .i64 0, .int .i64 0] 46) = z := ⟨_, rfl⟩
             have hb_ : Blk w26 E16 46 wDz := by rw [← hx_, ← hE_]; exact Blk.made w2 46 wDz
             have fz : Fr [] w2 w26 := by rw [← hx_]; exact (Fr.refl [] w2).alloc _
             rw [hx_]
             simp only [hE_]
             have E16_ := Lib.hid (show w1.heap.size ≤ E16 by rw [← hE_]; exact HF2.out.size)
             have B16_w26 := Lib.hid hb_
             have F_w26 := Lib.hid (HF2.out.step fz)
             clear hx_ hE_ hb_ fz
             refine hK.out _ _ (kept3 (⟨HL7.out, HMP.out.var, HBA.out.at 5 _ rfl⟩ : LiesAt w1 g7 (kk * 8) (wD x) ∧ Blk w1 V 31 (two (slv sL) (slv sC)) ∧ w1.cell? ⟨A, 5, none⟩ = some (.int .u64 now)) F_w26.out) (fun hHeld => ?_)
             clear hK K
             try simp only [Act.put, nrZ]
             refine wpAnyH_ready (rs := [7, 14]) (by kernel_rfl) (by simp) ?_
             refine AllReadyH.cons (o := _) rfl (fun K hK => ?_) (AllReadyH.cons (o := _) rfl (fun K hK => ?_) AllReadyH.nil)
             ·skip
              go_simp
              refine (HC1.out _ F_w26.out).mono ?_
              rintro e w27 ⟨uL, uC, rfl, fcl, hrf⟩
              have HRF := Lib.hid hrf
              have F_w27 := Lib.hid (F_w26.out.step fcl)
              clear hrf
              have B16_w27 := Lib.hid (B16_w26.out.keep fcl (by simp))
              have S16_ := Lib.hid (show E16 < w26.heap.size ∨ w27.heap.size ≤ E16 from .inl B16_w26.out.lt)
              clear fcl
              refine hK.out _ _ (kept3 (⟨HL7.out, HMP.out.var, HBA.out.at 5 _ rfl⟩ : LiesAt w1 g7 (kk * 8) (wD x) ∧ Blk w1 V 31 (two (slv sL) (slv sC)) ∧ w1.cell? ⟨A, 5, none⟩ = some (.int .u64 now)) F_w27.out) (fun hHeld => ?_)
              clear hK K
              try simp only [Act.put, nrZ]
              refine tkZ 8 ?_
              refine tkZ 9 ?_
              refine tkZ 10 ?_
              refine tkZ 11 ?_
              refine tkZ 12 ?_
              refine rdZ 14 (fun K hK => ?_)
              go_simp
              obtain ⟨E17, hE_⟩ : ∃ z, w27.heap.size = z := ⟨_, rfl⟩
              obtain ⟨w28, hx_⟩ : ∃ z, w27.alloc (.cells #[.slice none 0 0, .slice none 0 0] 31) = z := ⟨_, rfl⟩
              have hb_ : Blk w28 E17 31 zNt := by rw [← hx_, ← hE_]; exact Blk.made w27 31 zNt
              have fz : Fr [] w27 w28 := by rw [← hx_]; exact (Fr.refl [] w27).alloc _
              rw [hx_]
              simp only [hE_]
              have E17_ := Lib.hid (show w1.heap.size ≤ E17 by rw [← hE_]; exact F_w27.out.size)
              have B17_w28 := Lib.hid hb_
              have F_w28 := Lib.hid (F_w27.out.step fz)
              have B16_w28 := Lib.hid (B16_w27.out.keep fz (by simp))
              have P0 := Lib.hid fz
              have S17_ := Lib.hid (show E17 < w26.heap.size ∨ w27.heap.size ≤ E17 from .inr (by rw [← hE_]; exact Nat.le_refl _))
              clear hx_ hE_ hb_ fz
              refine hK.out _ _ (kept3 (⟨HL7.out, HMP.out.var, HBA.out.at 5 _ rfl⟩ : LiesAt w1 g7 (kk * 8) (wD x) ∧ Blk w1 V 31 (two (slv sL) (slv sC)) ∧ w1.cell? ⟨A, 5, none⟩ = some (.int .u64 now)) F_w28.out) (fun hHeld => ?_)
              clear hK K
              try simp only [Act.put, nrZ]
              have HN67 := Lib.hid (show E16 ≠ E17 from Blk.apart B16_w28.out B17_w28.out (by decide))
              have FE := Lib.hid (Fr.refl [E16, E17] w27)
              replace FE := Lib.hid (FE.out.trans P0.out (fun x hx => by cases hx))
              refine rdZ 15 (fun K hK => ?_)
              obtain ⟨wa, hst, hb_, hf_⟩ := store_all (t := 46) (wD y) sizeD rfl (wD_one y) B16_w28.out rfl
              split
              rotate_left
              ·rename_i hno
               exact absurd rfl hno
              refine stY hst ?_
              clear hst
              have BA16 := Lib.hid hb_
              have FA := Lib.hid (Fr.onto F_w28.out hf_ (fun z hz => by rw [List.mem_singleton] at hz; rw [hz]; exact E16_.out))
              have BA17 := Lib.hid (B17_w28.out.keep hf_ (fun h => HN67.out (List.mem_singleton.1 h).symm))
              replace FE := Lib.hid (FE.out.trans hf_ (fun x hx _ => by rw [List.mem_singleton] at hx; simp [hx]))
              clear hb_ hf_
              refine hK.out _ _ (kept3 (⟨HL7.out, HMP.out.var, HBA.out.at 5 _ rfl⟩ : LiesAt w1 g7 (kk * 8) (wD x) ∧ Blk w1 V 31 (two (slv sL) (slv sC)) ∧ w1.cell? ⟨A, 5, none⟩ = some (.int .u64 now)) FA.out) (fun hHeld => ?_)
              clear hK K
              try simp only [Act.put, nrZ]
              refine rdZ 16 (fun K hK => ?_)
              obtain ⟨wb, hst, hb_, hf_⟩ := store_all (t := 31) (two (slv uL) (slv uC)) size34 rfl (two_one _ _) BA17.out rfl
              split
              rotate_left
              ·rename_i hno
               exact absurd rfl hno
              refine stY hst ?_
              clear hst
              have BB17 := Lib.hid hb_
              have BB16 := Lib.hid (BA16.out.keep hf_ (fun h => HN67.out (List.mem_singleton.1 h)))
              have FB := Lib.hid (Fr.onto FA.out hf_ (fun z hz => by rw [List.mem_singleton] at hz; rw [hz]; exact E17_.out))
              replace FE := Lib.hid (FE.out.trans hf_ (fun x hx _ => by rw [List.mem_singleton] at hx; simp [hx]))
              have HR32 := Lib.hid ((HRF.out.far2 FE.out (fun z hz => by
               simp only [List.mem_cons, List.not_mem_nil, or_false] at hz
               rcases hz with rfl | rfl
               ·exact S16_.out
               ·exact S17_.out)).base (show w1.heap.size ≤ w26.heap.size from F_w26.out.size))
              clear hb_ hf_
              refine hK.out _ _ (kept3 (⟨HL7.out, HMP.out.var, HBA.out.at 5 _ rfl⟩ : LiesAt w1 g7 (kk * 8) (wD x) ∧ Blk w1 V 31 (two (slv sL) (slv sC)) ∧ w1.cell? ⟨A, 5, none⟩ = some (.int .u64 now)) FB.out) (fun hHeld => ?_)
              clear hK K
              try simp only [Act.put, nrZ]
              refine tkZ 17 ?_
              refine tkZ 18 ?_
              refine wpAnyH_done (by kernel_rfl) ?_ _
              go_wp2
              go_meet
              exact ⟨E16, E17, uL, uC, rfl, rfl, rfl, rfl, FB.out, HR32.out, BB16.out, BB17.out, E16_.out, E17_.out⟩
             ·skip
              go_simp
              obtain ⟨E17, hE_⟩ : ∃ z, w26.heap.size = z := ⟨_, rfl⟩
              obtain ⟨w29, hx_⟩ : ∃ z, w26.alloc (.cells #[.slice none 0 0, .slice none 0 0] 31) = z := ⟨_, rfl⟩
              have hb_ : Blk w29 E17 31 zNt := by rw [← hx_, ← hE_]; exact Blk.made w26 31 zNt
              have fz : Fr [] w26 w29 := by rw [← hx_]; exact (Fr.refl [] w26).alloc _
              rw [hx_]
              simp only [hE_]
              have E17_ := Lib.hid (show w1.heap.size ≤ E17 by rw [← hE_]; exact F_w26.out.size)
              have B17_w29 := Lib.hid hb_
              have F_w29 := Lib.hid (F_w26.out.step fz)
              have B16_w29 := Lib.hid (B16_w26.out.keep fz (by simp))
              clear hx_ hE_ hb_ fz
              refine hK.out _ _ (kept3 (⟨HL7.out, HMP.out.var, HBA.out.at 5 _ rfl⟩ : LiesAt w1 g7 (kk * 8) (wD x) ∧ Blk w1 V 31 (two (slv sL) (slv sC)) ∧ w1.cell? ⟨A, 5, none⟩ = some (.int .u64 now)) F_w29.out) (fun hHeld => ?_)
              clear hK K
              try simp only [Act.put, nrZ]
              refine rdZ 7 (fun K hK => ?_)
              go_simp
              refine (HC1.out _ F_w29.out).mono ?_
              rintro e w30 ⟨uL, uC, rfl, fcl, hrf⟩
              have HRF := Lib.hid hrf
              have F_w30 := Lib.hid (F_w29.out.step fcl)
              clear hrf
              have B16_w30 := Lib.hid (B16_w29.out.keep fcl (by simp))
              have S16_ := Lib.hid (show E16 < w29.heap.size ∨ w30.heap.size ≤ E16 from .inl B16_w29.out.lt)
              have B17_w30 := Lib.hid (B17_w29.out.keep fcl (by simp))
              have S17_ := Lib.hid (show E17 < w29.heap.size ∨ w30.heap.size ≤ E17 from .inl B17_w29.out.lt)
              clear fcl
              refine hK.out _ _ (kept3 (⟨HL7.out, HMP.out.var, HBA.out.at 5 _ rfl⟩ : LiesAt w1 g7 (kk * 8) (wD x) ∧ Blk w1 V 31 (two (slv sL) (slv sC)) ∧ w1.cell? ⟨A, 5, none⟩ = some (.int .u64 now)) F_w30.out) (fun hHeld => ?_)
              clear hK K
              try simp only [Act.put, nrZ]
              refine tkZ 8 ?_
              refine tkZ 9 ?_
              refine tkZ 10 ?_
              refine tkZ 11 ?_
              refine tkZ 12 ?_
              have HN67 := Lib.hid (show E16 ≠ E17 from Blk.apart B16_w30.out B17_w30.out (by decide))
              have FE := Lib.hid (Fr.refl [E16, E17] w30)
              refine rdZ 15 (fun K hK => ?_)
              obtain ⟨wa, hst, hb_, hf_⟩ := store_all (t := 46) (wD y) sizeD rfl (wD_one y) B16_w30.out rfl
              split
              rotate_left
              ·rename_i hno
               exact absurd rfl hno
              refine stY hst ?_
              clear hst
              have BA16 := Lib.hid hb_
              have FA := Lib.hid (Fr.onto F_w30.out hf_ (fun z hz => by rw [List.mem_singleton] at hz; rw [hz]; exact E16_.out))
              have BA17 := Lib.hid (B17_w30.out.keep hf_ (fun h => HN67.out (List.mem_singleton.1 h).symm))
              replace FE := Lib.hid (FE.out.trans hf_ (fun x hx _ => by rw [List.mem_singleton] at hx; simp [hx]))
              clear hb_ hf_
              refine hK.out _ _ (kept3 (⟨HL7.out, HMP.out.var, HBA.out.at 5 _ rfl⟩ : LiesAt w1 g7 (kk * 8) (wD x) ∧ Blk w1 V 31 (two (slv sL) (slv sC)) ∧ w1.cell? ⟨A, 5, none⟩ = some (.int .u64 now)) FA.out) (fun hHeld => ?_)
              clear hK K
              try simp only [Act.put, nrZ]
              refine rdZ 16 (fun K hK => ?_)
              obtain ⟨wb, hst, hb_, hf_⟩ := store_all (t := 31) (two (slv uL) (slv uC)) size34 rfl (two_one _ _) BA17.out rfl
              split
              rotate_left
              ·rename_i hno
               exact absurd rfl hno
              refine stY hst ?_
              clear hst
              have BB17 := Lib.hid hb_
              have BB16 := Lib.hid (BA16.out.keep hf_ (fun h => HN67.out (List.mem_singleton.1 h)))
              have FB := Lib.hid (Fr.onto FA.out hf_ (fun z hz => by rw [List.mem_singleton] at hz; rw [hz]; exact E17_.out))
              replace FE := Lib.hid (FE.out.trans hf_ (fun x hx _ => by rw [List.mem_singleton] at hx; simp [hx]))
              have HR32 := Lib.hid ((HRF.out.far2 FE.out (fun z hz => by
               simp only [List.mem_cons, List.not_mem_nil, or_false] at hz
               rcases hz with rfl | rfl
               ·exact S16_.out
               ·exact S17_.out)).base (show w1.heap.size ≤ w29.heap.size from F_w29.out.size))
              clear hb_ hf_
              refine hK.out _ _ (kept3 (⟨HL7.out, HMP.out.var, HBA.out.at 5 _ rfl⟩ : LiesAt w1 g7 (kk * 8) (wD x) ∧ Blk w1 V 31 (two (slv sL) (slv sC)) ∧ w1.cell? ⟨A, 5, none⟩ = some (.int .u64 now)) FB.out) (fun hHeld => ?_)
              clear hK K
              try simp only [Act.put, nrZ]
              refine tkZ 17 ?_
              refine tkZ 18 ?_
              refine wpAnyH_done (by kernel_rfl) ?_ _
              go_wp2
              go_meet
              exact ⟨E16, E17, uL, uC, rfl, rfl, rfl, rfl, FB.out, HR32.out, BB16.out, BB17.out, E16_.out, E17_.out⟩
            ·skip
             go_simp
             obtain ⟨E17, hE_⟩ : ∃ z, w2.heap.size = z := ⟨_, rfl⟩
             obtain ⟨w31, hx_⟩ : ∃ z, w2.alloc (.cells #[.slice none 0 0, .slice none 0 0] 31) = z := ⟨_, rfl⟩
             have hb_ : Blk w31 E17 31 zNt := by rw [← hx_, ← hE_]; exact Blk.made w2 31 zNt
             have fz : Fr [] w2 w31 := by rw [← hx_]; exact (Fr.refl [] w2).alloc _
             rw [hx_]
             simp only [hE_]
             have E17_ := Lib.hid (show w1.heap.size ≤ E17 by rw [← hE_]; exact HF2.out.size)
             have B17_w31 := Lib.hid hb_
             have F_w31 := Lib.hid (HF2.out.step fz)
             clear hx_ hE_ hb_ fz
             refine hK.out _ _ (kept3 (⟨HL7.out, HMP.out.var, HBA.out.at 5 _ rfl⟩ : LiesAt w1 g7 (kk * 8) (wD x) ∧ Blk w1 V 31 (two (slv sL) (slv sC)) ∧ w1.cell? ⟨A, 5, none⟩ = some (.int .u64 now)) F_w31.out) (fun hHeld => ?_)
             clear hK K
             try simp only [Act.put, nrZ]
             refine wpAnyH_ready (rs := [7, 13]) (by kernel_rfl) (by simp) ?_
             refine AllReadyH.cons (o := _) rfl (fun K hK => ?_) (AllReadyH.cons (o := _) rfl (fun K hK => ?_) AllReadyH.nil)
             ·skip
              go_simp
              refine (HC1.out _ F_w31.out).mono ?_
              rintro e w32 ⟨uL, uC, rfl, fcl, hrf⟩
              have HRF := Lib.hid hrf
              have F_w32 := Lib.hid (F_w31.out.step fcl)
              clear hrf
              have B17_w32 := Lib.hid (B17_w31.out.keep fcl (by simp))
              have S17_ := Lib.hid (show E17 < w31.heap.size ∨ w32.heap.size ≤ E17 from .inl B17_w31.out.lt)
              clear fcl
              refine hK.out _ _ (kept3 (⟨HL7.out, HMP.out.var, HBA.out.at 5 _ rfl⟩ : LiesAt w1 g7 (kk * 8) (wD x) ∧ Blk w1 V 31 (two (slv sL) (slv sC)) ∧ w1.cell? ⟨A, 5, none⟩ = some (.int .u64 now)) F_w32.out) (fun hHeld => ?_)
              clear hK K
              try simp only [Act.put, nrZ]
              refine tkZ 8 ?_
              refine tkZ 9 ?_
              refine tkZ 10 ?_
              refine tkZ 11 ?_
              refine tkZ 12 ?_
              refine rdZ 13 (fun K hK => ?_)
              go_simp
              obtain ⟨E16, hE_⟩ : ∃ z, w32.heap.size = z := ⟨_, rfl⟩
              obtain ⟨w33, hx_⟩ : ∃ z, w32.alloc (.cells #[.string ⟨#[]⟩, .int .i64 0, .int .i64 0, .int .u64 0, .int .i64 0, .int .i64 0, .int .i64 0, .int .i64 0] 46) = z := ⟨_, rfl⟩
              have hb_ : Blk w33 E16 46 wDz := by rw [← hx_, ← hE_]; exact Blk.made w32 46 wDz
              have fz : Fr [] w32 w33 := by rw [← hx_]; exact (Fr.refl [] w32).alloc _
              rw [hx_]
              simp only [hE_]
              have E16_ := Lib.hid (show w1.heap.size ≤ E16 by rw [← hE_]; exact F_w32.out.size)
              have B16_w33 := Lib.hid hb_
              have F_w33 := Lib.hid (F_w32.out.step fz)
              have B17_w33 := Lib.hid (B17_w32.out.keep fz (by simp))
              have P0 := Lib.hid fz
              have S16_ := Lib.hid (show E16 < w31.heap.size ∨ w32.heap.size ≤ E16 from .inr (by rw [← hE_]; exact Nat.le_refl _))
              clear hx_ hE_ hb_ fz
              refine hK.out _ _ (kept3 (⟨HL7.out, HMP.out.var, HBA.out.at 5 _ rfl⟩ : LiesAt w1 g7 (kk * 8) (wD x) ∧ Blk w1 V 31 (two (slv sL) (slv sC)) ∧ w1.cell? ⟨A, 5, none⟩ = some (.int .u64 now)) F_w33.out) (fun hHeld => ?_)
              clear hK K
              try simp only [Act.put, nrZ]
              have HN67 := Lib.hid (show E16 ≠ E17 from Blk.apart B16_w33.out B17_w33.out (by decide))
              have FE := Lib.hid (Fr.refl [E16, E17] w32)
              replace FE := Lib.hid (FE.out.trans P0.out (fun x hx => by cases hx))
              refine rdZ 15 (fun K hK => ?_)
              obtain ⟨wa, hst, hb_, hf_⟩ := store_all (t := 46) (wD y) sizeD rfl (wD_one y) B16_w33.out rfl
              split
              rotate_left
              ·rename_i hno
               exact absurd rfl hno
              refine stY hst ?_
              clear hst
              have BA16 := Lib.hid hb_
              have FA := Lib.hid (Fr.onto F_w33.out hf_ (fun z hz => by rw [List.mem_singleton] at hz; rw [hz]; exact E16_.out))
              have BA17 := Lib.hid (B17_w33.out.keep hf_ (fun h => HN67.out (List.mem_singleton.1 h).symm))
              replace FE := Lib.hid (FE.out.trans hf_ (fun x hx _ => by rw [List.mem_singleton] at hx; simp [hx]))
              clear hb_ hf_
              refine hK.out _ _ (kept3 (⟨HL7.out, HMP.out.var, HBA.out.at 5 _ rfl⟩ : LiesAt w1 g7 (kk * 8) (wD x) ∧ Blk w1 V 31 (two (slv sL) (slv sC)) ∧ w1.cell? ⟨A, 5, none⟩ = some (.int .u64 now)) FA.out) (fun hHeld => ?_)
              clear hK K
              try simp only [Act.put, nrZ]
              refine rdZ 16 (fun K hK => ?_)
              obtain ⟨wb, hst, hb_, hf_⟩ := store_all (t := 31) (two (slv uL) (slv uC)) size34 rfl (two_one _ _) BA17.out rfl
              split
              rotate_left
              ·rename_i hno
               exact absurd rfl hno
              refine stY hst ?_
              clear hst
              have BB17 := Lib.hid hb_
              have BB16 := Lib.hid (BA16.out.keep hf_ (fun h => HN67.out (List.mem_singleton.1 h)))
              have FB := Lib.hid (Fr.onto FA.out hf_ (fun z hz => by rw [List.mem_singleton] at hz; rw [hz]; exact E17_.out))
              replace FE := Lib.hid (FE.out.trans hf_ (fun x hx _ => by rw [List.mem_singleton] at hx; simp [hx]))
              have HR32 := Lib.hid ((HRF.out.far2 FE.out (fun z hz => by
               simp only [List.mem_cons, List.not_mem_nil, or_false] at hz
               rcases hz with rfl | rfl
               ·exact S16_.out
               ·exact S17_.out)).base (show w1.heap.size ≤ w31.heap.size from F_w31.out.size))
              clear hb_ hf_
              refine hK.out _ _ (kept3 (⟨HL7.out, HMP.out.var, HBA.out.at 5 _ rfl⟩ : LiesAt w1 g7 (kk * 8) (wD x) ∧ Blk w1 V 31 (two (slv sL) (slv sC)) ∧ w1.cell? ⟨A, 5, none⟩ = some (.int .u64 now)) FB.out) (fun hHeld => ?_)
              clear hK K
              try simp only [Act.put, nrZ]
              refine tkZ 17 ?_
              refine tkZ 18 ?_
              refine wpAnyH_done (by kernel_rfl) ?_ _
              go_wp2
              go_meet
              exact ⟨E16, E17, uL, uC, rfl, rfl, rfl, rfl, FB.out, HR32.out, BB16.out, BB17.out, E16_.out, E17_.out⟩
             ·skip
              go_simp
              obtain ⟨E16, hE_⟩ : ∃ z, w31.heap.size = z := ⟨_, rfl⟩
              obtain ⟨w34, hx_⟩ : ∃ z, w31.alloc (.cells #[.string ⟨#[]⟩, .int .i64 0, .int .i64 0, .int .u64 0, .int .i64 0, .int .i64 0, .int .i64 0, .int .i64 0] 46) = z := ⟨_, rfl⟩
              have hb_ : Blk w34 E16 46 wDz := by rw [← hx_, ← hE_]; exact Blk.made w31 46 wDz
              have fz : Fr [] w31 w34 := by rw [← hx_]; exact (Fr.refl [] w31).alloc _
              rw [hx_]
              simp only [hE_]
              have E16_ := Lib.hid (show w1.heap.size ≤ E16 by rw [← hE_]; exact F_w31.out.size)
              have B16_w34 := Lib.hid hb_
              have F_w34 := Lib.hid (F_w31.out.step fz)
              have B17_w34 := Lib.hid (B17_w31.out.keep fz (by simp))
              clear hx_ hE_ hb_ fz
              refine hK.out _ _ (kept3 (⟨HL7.out, HMP.out.var, HBA.out.at 5 _ rfl⟩ : LiesAt w1 g7 (kk * 8) (wD x) ∧ Blk w1 V 31 (two (slv sL) (slv sC)) ∧ w1.cell? ⟨A, 5, none⟩ = some (.int .u64 now)) F_w34.out) (fun hHeld => ?_)
              clear hK K
              try simp only [Act.put, nrZ]
              refine rdZ 7 (fun K hK => ?_)
              go_simp
              refine (HC1.out _ F_w34.out).mono ?_
              rintro e w35 ⟨uL, uC, rfl, fcl, hrf⟩
              have HRF := Lib.hid hrf
              have F_w35 := Lib.hid (F_w34.out.step fcl)
              clear hrf
              have B16_w35 := Lib.hid (B16_w34.out.keep fcl (by simp))
              have S16_ := Lib.hid (show E16 < w34.heap.size ∨ w35.heap.size ≤ E16 from .inl B16_w34.out.lt)
              have B17_w35 := Lib.hid (B17_w34.out.keep fcl (by simp))
              have S17_ := Lib.hid (show E17 < w34.heap.size ∨ w35.heap.size ≤ E17 from .inl B17_w34.out.lt)
              clear fcl
              refine hK.out _ _ (kept3 (⟨HL7.out, HMP.out.var, HBA.out.at 5 _ rfl⟩ : LiesAt w1 g7 (kk * 8) (wD x) ∧ Blk w1 V 31 (two (slv sL) (slv sC)) ∧ w1.cell? ⟨A, 5, none⟩ = some (.int .u64 now)) F_w35.out) (fun hHeld => ?_)
              clear hK K
              try simp only [Act.put, nrZ]
              refine tkZ 8 ?_
              refine tkZ 9 ?_
              refine tkZ 10 ?_
              refine tkZ 11 ?_
              refine tkZ 12 ?_
              have HN67 := Lib.hid (show E16 ≠ E17 from Blk.apart B16_w35.out B17_w35.out (by decide))
              have FE := Lib.hid (Fr.refl [E16, E17] w35)
              refine rdZ 15 (fun K hK => ?_)
              obtain ⟨wa, hst, hb_, hf_⟩ := store_all (t := 46) (wD y) sizeD rfl (wD_one y) B16_w35.out rfl
              split
              rotate_left
              ·rename_i hno
               exact absurd rfl hno
              refine stY hst ?_
              clear hst
              have BA16 := Lib.hid hb_
              have FA := Lib.hid (Fr.onto F_w35.out hf_ (fun z hz => by rw [List.mem_singleton] at hz; rw [hz]; exact E16_.out))
              have BA17 := Lib.hid (B17_w35.out.keep hf_ (fun h => HN67.out (List.mem_singleton.1 h).symm))
              replace FE := Lib.hid (FE.out.trans hf_ (fun x hx _ => by rw [List.mem_singleton] at hx; simp [hx]))
              clear hb_ hf_
              refine hK.out _ _ (kept3 (⟨HL7.out, HMP.out.var, HBA.out.at 5 _ rfl⟩ : LiesAt w1 g7 (kk * 8) (wD x) ∧ Blk w1 V 31 (two (slv sL) (slv sC)) ∧ w1.cell? ⟨A, 5, none⟩ = some (.int .u64 now)) FA.out) (fun hHeld => ?_)
              clear hK K
              try simp only [Act.put, nrZ]
              refine rdZ 16 (fun K hK => ?_)
              obtain ⟨wb, hst, hb_, hf_⟩ := store_all (t := 31) (two (slv uL) (slv uC)) size34 rfl (two_one _ _) BA17.out rfl
              split
              rotate_left
              ·rename_i hno
               exact absurd rfl hno
              refine stY hst ?_
              clear hst
              have BB17 := Lib.hid hb_
              have BB16 := Lib.hid (BA16.out.keep hf_ (fun h => HN67.out (List.mem_singleton.1 h)))
              have FB := Lib.hid (Fr.onto FA.out hf_ (fun z hz => by rw [List.mem_singleton] at hz; rw [hz]; exact E17_.out))
              replace FE := Lib.hid (FE.out.trans hf_ (fun x hx _ => by rw [List.mem_singleton] at hx; simp [hx]))
              have HR32 := Lib.hid ((HRF.out.far2 FE.out (fun z hz => by
               simp only [List.mem_cons, List.not_mem_nil, or_false] at hz
               rcases hz with rfl | rfl
               ·exact S16_.out
               ·exact S17_.out)).base (show w1.heap.size ≤ w34.heap.size from F_w34.out.size))
              clear hb_ hf_
              refine hK.out _ _ (kept3 (⟨HL7.out, HMP.out.var, HBA.out.at 5 _ rfl⟩ : LiesAt w1 g7 (kk * 8) (wD x) ∧ Blk w1 V 31 (two (slv sL) (slv sC)) ∧ w1.cell? ⟨A, 5, none⟩ = some (.int .u64 now)) FB.out) (fun hHeld => ?_)
              clear hK K
              try simp only [Act.put, nrZ]
              refine tkZ 17 ?_
              refine tkZ 18 ?_
              refine wpAnyH_done (by kernel_rfl) ?_ _
              go_wp2
              go_meet
              exact ⟨E16, E17, uL, uC, rfl, rfl, rfl, rfl, FB.out, HR32.out, BB16.out, BB17.out, E16_.out, E17_.out⟩
           case rest =>
            obtain ⟨E16, E17, uL, uC, rfl, rfl, rfl, rfl, hfc, hrf, hb16, hb17, h16, h17⟩ := hcut
            have HM2 := Lib.hid (HMP.out.ref hfc hrf)
            have HB16 := Lib.hid hb16
            have HB17 := Lib.hid hb17
            have HKA := Lib.hid (show KN (fun z => z = A) w1 wc A from .inl rfl)
            have HK16 := Lib.hid (show KN (fun z => z = A) w1 wc E16 from .inr ⟨h16, hb16.lt⟩)
            have HK17 := Lib.hid (show KN (fun z => z = A) w1 wc E17 from .inr ⟨h17, hb17.lt⟩)
            have HA2 := Lib.hid (HBA.out.keep hfc (by simp))
            have HKD := Lib.hid (show kk < D.length by rw [HDL.out]; exact hkn)
            have HKD2 := Lib.hid (show kk < (D.set kk y).length by rw [List.length_set]; exact HKD.out)
            clear hfc hrf hb16 hb17 h16 h17 HMP HBA HL6 HL7 HGB HDW HF2 HC1 HGT0 b0 b1' HX
            obtain ⟨w5, hdw⟩ : ∃ z, wc.drew = z := ⟨_, rfl⟩
            have fdw : Fr [] wc w5 := by rw [← hdw]; exact (Fr.refl [] wc).drew
            have HDW_w5 := Lib.hid hdw
            have FDW_w5 := Lib.hid fdw
            clear hdw fdw
            go_upto_region 33 with fail
            refine wp_region_held_drew (S := fun W => W.cell? ⟨g6, kk, none⟩ = some (.pointer (some ⟨(ids kk).1, 0, none⟩)) ∧ W.cell? ⟨A, 5, none⟩ = some (.int .u64 now)) (by kernel_rfl) (by rw [HDW_w5.out]; exact ⟨(HM2.out.new FDW_w5.out).at6 HKD.out, (HA2.out.keep FDW_w5.out (by simp)).at 5 _ rfl⟩) (fun hHeld => ?_)
            rw [HDW_w5.out] at hHeld ⊢
            refine tkZ 0 ?_
            refine tkZ 1 ?_
            refine tkZ 2 ?_
            refine tvZ 3 (.pointer (some ⟨(ids kk).1, 0, none⟩)) rfl ?_ ?_
            ·intro w hSw
             try dsimp only at hSw
             have hc := hSw.1
             go_simp
             try with_reducible rfl
            try simp only [Act.put, nrZ]
            refine tkZ 4 ?_
            refine tkZ 5 ?_
            refine tvZ 6 (.int .u64 now) rfl ?_ ?_
            ·intro w hSw
             try dsimp only at hSw
             have hc := hSw.2
             go_simp
             try with_reducible rfl
            try simp only [Act.put, nrZ]
            refine tkZ 7 ?_
            refine tkZ 8 ?_
            refine rdZ 9 (fun K hK => ?_)
            go_simp
            refine (HC2.out _ uL uC _ (HM2.out.new FDW_w5.out)).mono ?_
            rintro e w6 ⟨rfl, hm, fk⟩
            have HM6 := Lib.hid hm
            have HA6 := Lib.hid ((HA2.out.keep FDW_w5.out (by simp)).live fk HKA.out)
            have HB16_6 := Lib.hid ((HB16.out.keep FDW_w5.out (by simp)).live fk HK16.out)
            have HB17_6 := Lib.hid ((HB17.out.keep FDW_w5.out (by simp)).live fk HK17.out)
            clear hm fk
            refine hK.out _ _ (⟨HM6.out.at6 HKD2.out, HA6.out.at 5 _ rfl⟩) (fun hHeld => ?_)
            clear hK K
            try simp only [Act.put, nrZ]
            refine tkZ 10 ?_
            refine wpAnyH_done (by kernel_rfl) ?_ _
            clear HM2 HB16 HB17 HA2 HDW_w5 FDW_w5 HC2 hHeld
            obtain ⟨w7, hdw⟩ : ∃ z, w6.drew = z := ⟨_, rfl⟩
            have fdw : Fr [] w6 w7 := by rw [← hdw]; exact (Fr.refl [] w6).drew
            have HDW_w7 := Lib.hid hdw
            have FDW_w7 := Lib.hid fdw
            clear hdw fdw
            have HM7 := Lib.hid (HM6.out.new FDW_w7.out)
            have HB16_7 := Lib.hid (HB16_6.out.keep FDW_w7.out (by simp))
            have HB17_7 := Lib.hid (HB17_6.out.keep FDW_w7.out (by simp))
            clear HM6 HB16_6 HB17_6 HA6
            go_upto_region 34 with fail
            refine wp_region_held_drew (S := fun W => Blk W E16 46 (wD y) ∧ Blk W E17 31 (two (slv uL) (slv uC))) (by kernel_rfl) (by rw [HDW_w7.out]; exact ⟨HB16_7.out, HB17_7.out⟩) (fun hHeld => ?_)
            rw [HDW_w7.out] at hHeld ⊢
            refine tkZ 0 ?_
            refine tkZ 1 ?_
            refine tvZ 2 _ rfl (fun w hSw => ldX (load_all aggD sizeD (xs := wD y) rfl hSw.1.at)) ?_
            refine tvZ 3 _ rfl (fun w hSw => ldX (load_all agg34 size34 (xs := two (slv uL) (slv uC)) rfl hSw.2.at)) ?_
            refine tkZ 4 ?_
            refine rdZ 5 (fun K hK => ?_)
            obtain ⟨w8, hst, hb_, hf_⟩ := WRow.set HM7.out.r7 HDL.out kk hkn y
            split
            rotate_left
            ·rename_i hno
             exact absurd rfl hno
            refine stY hst ?_
            clear hst
            have HMF := Lib.hid (HM7.out.setW (show Fr (Value.slice (some ⟨g7, 0, none⟩) nd c7).ownBlock.toList w7 w8 from hf_) hb_ (by simp))
            have HM8 := Lib.hid HMF.out.1
            have HB16_8 := Lib.hid (HB16_7.out.live HMF.out.2 HK16.out)
            have HB17_8 := Lib.hid (HB17_7.out.live HMF.out.2 HK17.out)
            clear hb_ hf_ HMF
            refine hK.out _ _ (⟨HB16_8.out, HB17_8.out⟩) (fun hHeld => ?_)
            clear hK K
            try simp only [Act.put, nrZ]
            refine rdZ 6 (fun K hK => ?_)
            obtain ⟨w9, hst, hb_, hf_⟩ := store_all (t := 31) (two (slv uL) (slv uC)) size34 rfl (two_one _ _) HM8.out.var rfl
            split
            rotate_left
            ·rename_i hno
             exact absurd rfl hno
            refine stY hst ?_
            clear hst
            have HMF := Lib.hid (HM8.out.setV hf_ hb_)
            have HM9 := Lib.hid HMF.out.1
            have HB16_9 := Lib.hid (HB16_8.out.live HMF.out.2 HK16.out)
            have HB17_9 := Lib.hid (HB17_8.out.live HMF.out.2 HK17.out)
            clear hb_ hf_ HMF
            refine hK.out _ _ (⟨HB16_9.out, HB17_9.out⟩) (fun hHeld => ?_)
            clear hK K
            try simp only [Act.put, nrZ]
            refine wpAnyH_done (by kernel_rfl) ?_ _
            go_wp2
            go_meet
            have HGT0 := HGT.out
            exact ⟨rfl, ids, G + 1, T + 1, D.set kk y, N', R', uL, uC, HM9.out.less (fun z hz => hz.elim), HMT.out, by simp [HDL.out], by omega, by omega⟩
          by_cases e1 : what = 1
          ·skip
           as_aux_lemma =>
           have hb0 : (what == 0) = false := by simp [e0]
           have hb1 : (what == 1) = true := by simp [e1]
           have hnd0 : nd ≠ 0 := fun h => HNW2.out ⟨h, by omega⟩
           clear e0 e1
           have hkn : kk < nd := HKN.out hnd0
           have hkq : (kk : Int) < (nd : Int) := by omega
           have hk0 : (0 : Int) ≤ (kk : Int) := by omega
           have hDL : D.length = nd := HDL.out
           have hkD : kk < D.length := by omega
           obtain ⟨x, hx⟩ : ∃ x, D[kk]? = some x := ⟨D[kk], List.getElem?_eq_getElem hkD⟩
           have HX := Lib.hid hx
           obtain ⟨g6, cc6, hv6, hg6, hl6⟩ := own_at HMP.out.r6 (by omega)
           obtain ⟨g7, cc7, hv7, hg7, hl7⟩ := HMP.out.r7.lies hx
           simp only [Value.slice.injEq] at hv6 hv7
           obtain ⟨rfl, hv8, rfl⟩ := hv6
           clear hv8
           obtain ⟨rfl, hv8, rfl⟩ := hv7
           clear hv8
           have HL6 := Lib.hid (show w1.cell? ⟨g6, kk, none⟩ = some (.pointer (some ⟨(ids kk).1, 0, none⟩)) from hl6 kk _ (by unfold ptrs; simp [hkD]))
           have HL7 := Lib.hid hl7
           have HGB := Lib.hid (And.intro hg6 hg7)
           clear hx hl6 hl7 hg6 hg7 hnd0 hkD hDL
           obtain ⟨y, er, hc1, hc2⟩ := HMP.out.giveB kk x HX.out
           have HC1 := Lib.hid hc1
           have HC2 := Lib.hid hc2
           clear hc1 hc2
           go_upto_region 36 with fail
           refine wp_region_lit ?_
           iterate 3 (refine wpList_plain rfl (fun K hK => ?_); go_simp; refine hK _ _ ?_; clear hK K)
           try simp only [Act.put, nrZ]
           refine ldZ (load_all aggD sizeD (xs := wD x) rfl HL7.out) ?_
           refine wpList_plain rfl (fun K hK => ?_)
           go_simp
           refine (HC1.out _).mono ?_
           rintro e w2 ⟨rfl, f2⟩
           have HF2 := Lib.hid f2
           clear f2
           refine hK _ _ ?_
           clear hK K
           try simp only [Act.put, nrZ]
           iterate 3 (refine wpList_plain rfl (fun K hK => ?_); go_simp; refine hK _ _ ?_; clear hK K)
           try simp only [Act.put, nrZ]
           refine wpList_plain rfl (fun K hK => ?_); go_simp; refine hK _ _ ?_; clear hK K
           try simp only [Act.put, nrZ]
           obtain ⟨E20, hA_⟩ : ∃ A, w2.heap.size = A := ⟨_, rfl⟩
           obtain ⟨w3, hw_⟩ : ∃ z, w2.alloc (.cells #[.string ⟨#[]⟩, .int .i64 0, .int .i64 0, .int .u64 0, .int .i64 0, .int .i64 0, .int .i64 0, .int .i64 0] 46) = z := ⟨_, rfl⟩
           have hB_ : Blk w3 E20 46 [.string ⟨#[]⟩, .int .i64 0, .int .i64 0, .int .u64 0, .int .i64 0, .int .i64 0, .int .i64 0, .int .i64 0] := by rw [← hw_, ← hA_]; exact Blk.made w2 46 _
           have hF_ : Fr [] w2 w3 := by rw [← hw_]; exact (Fr.refl [] w2).alloc _
           rw [hw_]
           simp only [hA_]
           have HE20 := Lib.hid hA_
           have HBE20 := Lib.hid hB_
           have HFw3 := Lib.hid hF_
           clear hA_ hw_ hB_ hF_
           obtain ⟨w4, hst, hb_, hf_⟩ := store_all (t := 46) (wD y) sizeD rfl (wD_one y) HBE20.out rfl
           refine stZ hst ?_
           clear hst
           refine wpList_plain rfl (fun K hK => ?_); go_simp; refine hK _ _ ?_; clear hK K
           refine wpList_nil ?_
           try simp only [Act.put, nrZ]
           have hE20 : w1.heap.size ≤ E20 := by rw [← HE20.out]; exact HF2.out.size
           have HF4 := Lib.hid ((HF2.out.step HFw3.out).onto hf_ (fun z hz => by rw [List.mem_singleton] at hz; rw [hz]; exact hE20))
           have HB20 := Lib.hid hb_
           have HK20 := Lib.hid (show KN (fun z => z = A) w1 w4 E20 from .inr ⟨hE20, hb_.lt⟩)
           have HM4 := Lib.hid (HMP.out.wide HF4.out)
           have HKD := Lib.hid (show kk < D.length by rw [HDL.out]; exact hkn)
           have d6 : w4.cell? ⟨g6, kk, none⟩ = some (.pointer (some ⟨(ids kk).1, 0, none⟩)) := HM4.out.at6 HKD.out
           clear hb_ hf_ hE20 HL6 HL7 HGB b0 b1' HMP HBE20 HE20 HFw3 HF2
           go_upto_region 37 with fail
           refine wp_region_lit ?_
           iterate 4 (refine wpList_plain rfl (fun K hK => ?_); go_simp; refine hK _ _ ?_; clear hK K)
           try simp only [Act.put, nrZ]
           refine wpList_plain rfl (fun K hK => ?_)
           go_simp
           refine (HC2.out _ _ HM4.out).mono ?_
           rintro e w5 ⟨rfl, hm, fk⟩
           have HM5 := Lib.hid hm
           have HB20_5 := Lib.hid (HB20.out.live fk HK20.out)
           clear hm fk d6
           refine hK _ _ ?_
           clear hK K
           try simp only [Act.put, nrZ]
           iterate 3 (refine wpList_plain rfl (fun K hK => ?_); go_simp; refine hK _ _ ?_; clear hK K)
           refine wpList_nil ?_
           try simp only [Act.put, nrZ]
           go_upto_region 38 with fail
           refine wp_region_lit ?_
           iterate 2 (refine wpList_plain rfl (fun K hK => ?_); go_simp; refine hK _ _ ?_; clear hK K)
           try simp only [Act.put, nrZ]
           refine ldZ (load_all aggD sizeD (xs := wD y) rfl HB20_5.out.at) ?_
           refine wpList_plain rfl (fun K hK => ?_); go_simp; refine hK _ _ ?_; clear hK K
           try simp only [Act.put, nrZ]
           obtain ⟨w6, hst, hb_, hf_⟩ := WRow.set HM5.out.r7 HDL.out kk hkn y
           refine stZ hst ?_
           clear hst
           refine wpList_nil ?_
           try simp only [Act.put, nrZ]
           have HM6 := Lib.hid (HM5.out.setW (show Fr (Value.slice (some ⟨g7, 0, none⟩) nd c7).ownBlock.toList w5 w6 from hf_) hb_ (by simp)).1
           clear hb_ hf_
           go_wp2
           go_meet
           have HGT0 := HGT.out
           exact ⟨rfl, ids, G, T + 1, D.set kk y, N, R, sL, sC, HM6.out.less (fun z hz => hz.elim), HM.out, by simp [HDL.out], by omega, by omega⟩
          by_cases e2 : what = 2
          ·skip
           as_aux_lemma =>
           have hb0 : (what == 0) = false := by simp [e0]
           have hb1 : (what == 1) = false := by simp [e1]
           have hb2 : (what == 2) = true := by simp [e2]
           have hnd0 : nd ≠ 0 := fun h => HNW2.out ⟨h, by omega⟩
           clear e0 e1 e2
           have hkn : kk < nd := HKN.out hnd0
           have hkq : (kk : Int) < (nd : Int) := by omega
           have hk0 : (0 : Int) ≤ (kk : Int) := by omega
           have hDL : D.length = nd := HDL.out
           have hkD : kk < D.length := by omega
           obtain ⟨x, hx⟩ : ∃ x, D[kk]? = some x := ⟨D[kk], List.getElem?_eq_getElem hkD⟩
           have HX := Lib.hid hx
           obtain ⟨g6, cc6, hv6, hg6, hl6⟩ := own_at HMP.out.r6 (by omega)
           obtain ⟨g7, cc7, hv7, hg7, hl7⟩ := HMP.out.r7.lies hx
           simp only [Value.slice.injEq] at hv6 hv7
           obtain ⟨rfl, hv8, rfl⟩ := hv6
           clear hv8
           obtain ⟨rfl, hv8, rfl⟩ := hv7
           clear hv8
           have HL6 := Lib.hid (show w1.cell? ⟨g6, kk, none⟩ = some (.pointer (some ⟨(ids kk).1, 0, none⟩)) from hl6 kk _ (by unfold ptrs; simp [hkD]))
           have HL7 := Lib.hid hl7
           have HGB := Lib.hid (And.intro hg6 hg7)
           clear hx hl6 hl7 hg6 hg7 hnd0 hkD hDL
           have HKD := Lib.hid (show kk < D.length by rw [HDL.out]; exact hkn)
           have d6 : w1.cell? ⟨g6, kk, none⟩ = some (.pointer (some ⟨(ids kk).1, 0, none⟩)) := HL6.out
           have HDI := Lib.hid (HMP.out.dial HX.out).1
           go_upto_region 40 with fail
           refine wp_region_lit ?_
           iterate 4 (refine wpList_plain rfl (fun K hK => ?_); go_simp; refine hK _ _ ?_; clear hK K)
           try simp only [Act.put, nrZ]
           refine wpList_plain rfl (fun K hK => ?_)
           go_simp
           refine (dialCopy_ok _ _ _ _ _ _ _ _ _ _ _ HDI.out).mono ?_
           rintro e w2 ⟨b2, rfl, hlb, hdc, f2⟩
           have HF2 := Lib.hid f2
           have HLB := Lib.hid hlb
           have HDC := Lib.hid hdc
           clear f2 hlb hdc d6
           refine hK _ _ ?_
           clear hK K
           try simp only [Act.put, nrZ]
           refine wpList_plain rfl (fun K hK => ?_); go_simp; refine hK _ _ ?_; clear hK K
           refine wpList_nil ?_
           try simp only [Act.put, nrZ]
           have d6 : w2.cell? ⟨g6, kk, none⟩ = some (.pointer (some ⟨(ids kk).1, 0, none⟩)) := HF2.out.keep HL6.out (by simp)
           go_upto_region 41 with fail
           refine wp_region_lit ?_
           iterate 4 (refine wpList_plain rfl (fun K hK => ?_); go_simp; refine hK _ _ ?_; clear hK K)
           try simp only [Act.put, nrZ]
           refine wpList_plain rfl (fun K hK => ?_)
           go_simp
           refine (give_any (HDI.out.new HF2.out)).mono ?_
           rintro e w3 ⟨er, rfl, f3⟩
           have HF3 := Lib.hid f3
           clear f3 d6
           refine hK _ _ ?_
           clear hK K
           try simp only [Act.put, nrZ]
           refine wpList_nil ?_
           try simp only [Act.put, nrZ]
           go_upto_region 42 with fail
           refine wp_region_lit ?_
           iterate 4 (refine wpList_plain rfl (fun K hK => ?_); go_simp; refine hK _ _ ?_; clear hK K)
           try simp only [Act.put, nrZ]
           obtain ⟨w4, hst, hb_, hf_⟩ := own_store (t := 41) (k := kk) [.pointer (some ⟨b2, 0, none⟩)] (.pointer (some ⟨b2, 0, none⟩)) sizePt rfl rfl (by intro u hu; rw [List.mem_singleton] at hu; rw [hu]; rfl) (by have h := HMP.out.r6give HX.out HF2.out HF3.out; rw [HDL.out] at h; exact h) (by omega)
           refine stZ hst ?_
           clear hst
           refine wpList_nil ?_
           try simp only [Act.put, nrZ]
           have hrow : w4.ownsRow w.heap.size 41 1 (.slice (some ⟨g6, 0, none⟩) nd c6) D.length ((ptrs ids D.length).set kk (.pointer (some ⟨b2, 0, none⟩))) := by
            rw [HDL.out, List.set_eq_take_append_cons_drop, if_pos (by unfold ptrs; simp only [List.length_map, List.length_range]; exact hkn)]
            rw [List.append_assoc, List.singleton_append] at hb_
            exact hb_
           have HM4 := Lib.hid (HMP.out.copied HX.out HF2.out HLB.out HDC.out HF3.out (show Fr (Value.slice (some ⟨g6, 0, none⟩) nd c6).ownBlock.toList w3 w4 from hf_) hrow)
           clear hb_ hf_ hrow
           go_wp2
           go_meet
           have HGT0 := HGT.out
           exact ⟨rfl, _, G, T, D, N, R, sL, sC, HM4.out.less (fun z hz => hz.elim), HM.out, HDL.out, by omega, by omega⟩
          by_cases e3 : what = 3
          ·skip
           as_aux_lemma =>
           have hb0 : (what == 0) = false := by simp [e0]
           have hb1 : (what == 1) = false := by simp [e1]
           have hb2 : (what == 2) = false := by simp [e2]
           have hb3 : (what == 3) = true := by simp [e3]
           clear e0 e1 e2 e3
           obtain ⟨N', R', r, s1, p1, er, hmt, hc1, hc2⟩ := HMP.out.listenB as_ ap an HM.out (by omega)
           have HMT := Lib.hid hmt
           have HC1 := Lib.hid hc1
           have HC2 := Lib.hid hc2
           clear hmt hc1 hc2 b0 b1' 
           try clear k0
           try clear k1
           try clear k2
           try clear k3
           try clear k4
           try clear k5
           have k2 : w1.cell? ⟨A, 2, none⟩ = some (.int .i64 an) := HBA.out.at 2 _ rfl
           go_upto_region 45 with fail
           refine wp_region_lit ?_
           refine ldZ (load_all agg34 size34 (xs := two (slv sL) (slv sC)) rfl HMP.out.var.at) ?_
           refine wpList_plain rfl (fun K hK => ?_); go_simp; refine hK _ _ ?_; clear hK K
           try simp only [Act.put, nrZ]
           refine ldZ (load_all agg28 size28 (xs := sp as_ ap) rfl (act_adr HBA.out)) ?_
           iterate 2 (refine wpList_plain rfl (fun K hK => ?_); go_simp; refine hK _ _ ?_; clear hK K)
           try simp only [Act.put, nrZ]
           refine wpList_plain rfl (fun K hK => ?_)
           go_simp
           refine (HC1.out _ (Fr.refl _ _)).mono ?_
           rintro e w2 ⟨uL, uC, rfl, f2, hrf⟩
           have HF2 := Lib.hid f2
           have HRF := Lib.hid hrf
           clear f2 hrf
           refine hK _ _ ?_
           clear hK K
           try simp only [Act.put, nrZ]
           iterate 5 (refine wpList_plain rfl (fun K hK => ?_); go_simp; refine hK _ _ ?_; clear hK K)
           try simp only [Act.put, nrZ]
           refine wpList_plain rfl (fun K hK => ?_); go_simp; refine hK _ _ ?_; clear hK K
           try simp only [Act.put, nrZ]
           obtain ⟨E23, hA_⟩ : ∃ A, w2.heap.size = A := ⟨_, rfl⟩
           obtain ⟨w3, hw_⟩ : ∃ z, w2.alloc (.cells #[.slice none 0 0, .slice none 0 0] 31) = z := ⟨_, rfl⟩
           have hB_ : Blk w3 E23 31 [.slice none 0 0, .slice none 0 0] := by rw [← hw_, ← hA_]; exact Blk.made w2 31 _
           have hF_ : Fr [] w2 w3 := by rw [← hw_]; exact (Fr.refl [] w2).alloc _
           rw [hw_]
           simp only [hA_]
           have HE23 := Lib.hid hA_
           have HBE23 := Lib.hid hB_
           have HFw3 := Lib.hid hF_
           clear hA_ hw_ hB_ hF_
           refine wpList_plain rfl (fun K hK => ?_); go_simp; refine hK _ _ ?_; clear hK K
           try simp only [Act.put, nrZ]
           obtain ⟨E25, hA_⟩ : ∃ A, w3.heap.size = A := ⟨_, rfl⟩
           obtain ⟨w4, hw_⟩ : ∃ z, w3.alloc (.cells #[.string ⟨#[]⟩, .int .i64 0] 36) = z := ⟨_, rfl⟩
           have hB_ : Blk w4 E25 36 [.string ⟨#[]⟩, .int .i64 0] := by rw [← hw_, ← hA_]; exact Blk.made w3 36 _
           have hF_ : Fr [] w3 w4 := by rw [← hw_]; exact (Fr.refl [] w3).alloc _
           rw [hw_]
           simp only [hA_]
           have HE25 := Lib.hid hA_
           have HBE25 := Lib.hid hB_
           have HFw4 := Lib.hid hF_
           clear hA_ hw_ hB_ hF_
           obtain ⟨w5, hst, hb_, hf_⟩ := store_all (t := 31) (two (slv uL) (slv uC)) size34 rfl (two_one _ _) (HBE23.out.keep HFw4.out (by simp)) rfl
           refine stZ hst ?_
           clear hst
           have hE23 : w2.heap.size ≤ E23 := by rw [← HE23.out]; exact Nat.le_refl _
           have hE25 : w2.heap.size ≤ E25 := by rw [← HE25.out]; exact HFw3.out.size
           have HN35 := Lib.hid (show E23 ≠ E25 from fun h => by have := HBE23.out.lt; have := HE25.out; omega)
           have HB23_5 := Lib.hid hb_
           have HB25_5 := Lib.hid ((HBE25.out).keep hf_ (fun h => HN35.out (List.mem_singleton.1 h).symm))
           have HG5 := Lib.hid ((HFw3.out.step HFw4.out).onto hf_ (fun z hz => by rw [List.mem_singleton] at hz; rw [hz]; exact hE23))
           clear hb_ hf_
           refine wpList_plain rfl (fun K hK => ?_); go_simp; refine hK _ _ ?_; clear hK K
           try simp only [Act.put, nrZ]
           obtain ⟨w6, hst, hb_, hf_⟩ := store_all (t := 36) (sp s1 p1) size28 rfl (sp_one _ _) HB25_5.out rfl
           refine stZ hst ?_
           clear hst
           refine wpList_plain rfl (fun K hK => ?_); go_simp; refine hK _ _ ?_; clear hK K
           refine wpList_nil ?_
           try simp only [Act.put, nrZ]
           have HG6 := Lib.hid (HG5.out.onto hf_ (fun z hz => by rw [List.mem_singleton] at hz; rw [hz]; exact hE25))
           have HB25 := Lib.hid hb_
           have HB23 := Lib.hid (HB23_5.out.keep hf_ (fun h => HN35.out (List.mem_singleton.1 h)))
           have HM6 := Lib.hid (HMP.out.ref (HF2.out.step HG6.out) (HRF.out.far2 HG6.out (fun z hz => by cases hz)))
           have HZ := Lib.hid HF2.out.size
           have HK23 := Lib.hid (show KN (fun z => z = A) w1 w6 E23 from .inr ⟨by have := HZ.out; omega, HB23.out.lt⟩)
           have HK25 := Lib.hid (show KN (fun z => z = A) w1 w6 E25 from .inr ⟨by have := HZ.out; omega, HB25.out.lt⟩)
           have HA6 := Lib.hid (HBA.out.keep (HF2.out.step HG6.out) (by simp))
           clear hb_ hf_ hE23 hE25 HG5 HG6 HB23_5 HB25_5 HBE23 HBE25 HE23 HE25 HFw3 HFw4 HRF HC1 HMP HN35 HF2 HZ HBA
           try clear k0
           try clear k1
           try clear k2
           try clear k3
           try clear k4
           try clear k5
           have k2 : w6.cell? ⟨A, 2, none⟩ = some (.int .i64 an) := HA6.out.at 2 _ rfl
           go_upto_region 46 with fail
           refine wp_region_lit ?_
           iterate 2 (refine wpList_plain rfl (fun K hK => ?_); go_simp; refine hK _ _ ?_; clear hK K)
           try simp only [Act.put, nrZ]
           refine ldZ (load_all agg28 size28 (xs := sp as_ ap) rfl (act_adr HA6.out)) ?_
           iterate 2 (refine wpList_plain rfl (fun K hK => ?_); go_simp; refine hK _ _ ?_; clear hK K)
           try simp only [Act.put, nrZ]
           refine wpList_plain rfl (fun K hK => ?_)
           go_simp
           refine (HC2.out _ _ _ _ HM6.out).mono ?_
           rintro e w7 ⟨rfl, hm, fk⟩
           have HM7 := Lib.hid hm
           have HB23_7 := Lib.hid (HB23.out.live fk HK23.out)
           have HB25_7 := Lib.hid (HB25.out.live fk HK25.out)
           clear hm fk k2 HM6 HB23 HB25 HA6 HC2
           refine hK _ _ ?_
           clear hK K
           try simp only [Act.put, nrZ]
           iterate 4 (refine wpList_plain rfl (fun K hK => ?_); go_simp; refine hK _ _ ?_; clear hK K)
           try simp only [Act.put, nrZ]
           refine wpList_plain rfl (fun K hK => ?_); go_simp; refine hK _ _ ?_; clear hK K
           try simp only [Act.put, nrZ]
           obtain ⟨E28, hA_⟩ : ∃ A, w7.heap.size = A := ⟨_, rfl⟩
           obtain ⟨w8, hw_⟩ : ∃ z, w7.alloc (.cells #[.string ⟨#[]⟩, .int .i64 0] 36) = z := ⟨_, rfl⟩
           have hB_ : Blk w8 E28 36 [.string ⟨#[]⟩, .int .i64 0] := by rw [← hw_, ← hA_]; exact Blk.made w7 36 _
           have hF_ : Fr [] w7 w8 := by rw [← hw_]; exact (Fr.refl [] w7).alloc _
           rw [hw_]
           simp only [hA_]
           have HE28 := Lib.hid hA_
           have HBE28 := Lib.hid hB_
           have HFw8 := Lib.hid hF_
           clear hA_ hw_ hB_ hF_
           refine wpList_plain rfl (fun K hK => ?_); go_simp; refine hK _ _ ?_; clear hK K
           try simp only [Act.put, nrZ]
           obtain ⟨w9, hst, hb_, hf_⟩ := store_all (t := 36) (sp s1 p1) size28 rfl (sp_one _ _) HBE28.out rfl
           refine stZ hst ?_
           clear hst
           refine wpList_plain rfl (fun K hK => ?_); go_simp; refine hK _ _ ?_; clear hK K
           refine wpList_nil ?_
           try simp only [Act.put, nrZ]
           have HG9 := Lib.hid (HFw8.out.onto hf_ (fun z hz => by rw [List.mem_singleton] at hz; rw [hz, ← HE28.out]; exact Nat.le_refl _))
           have HB28 := Lib.hid hb_
           have HM9 := Lib.hid (HM7.out.new HG9.out)
           have HB23_9 := Lib.hid (HB23_7.out.keep HG9.out (by simp))
           have HB25_9 := Lib.hid (HB25_7.out.keep HG9.out (by simp))
           clear hb_ hf_ HM7 HB23_7 HB25_7 HG9 HBE28 HE28 HFw8
           go_upto_region 47 with fail
           refine wp_region_lit ?_
           iterate 4 (refine wpList_plain rfl (fun K hK => ?_); go_simp; refine hK _ _ ?_; clear hK K)
           try simp only [Act.put, nrZ]
           refine wpList_want (by rfl) (fun K hK => ?_)
           refine ldY (load_all agg28 size28 (xs := sp s1 p1) rfl HB28.out.at) ?_
           refine hK _ _ ?_
           clear hK K
           try simp only [Act.put, nrZ]
           refine wpList_want (by rfl) (fun K hK => ?_)
           refine ldY (load_all agg28 size28 (xs := sp s1 p1) rfl HB25_9.out.at) ?_
           refine hK _ _ ?_
           clear hK K
           try simp only [Act.put, nrZ]
           refine wpList_want (by rfl) (fun K hK => ?_)
           refine wp_vl (v := .bool true) (w' := w9) ?_ ?_
           ·exact exec_bin rfl rfl rfl (by kernel_rfl) (eqAdT s1 p1 _)
           refine hK _ _ ?_
           clear hK K
           try simp only [Act.put, nrZ]
           iterate 2 (refine wpList_plain rfl (fun K hK => ?_); go_simp; refine hK _ _ ?_; clear hK K)
           try simp only [Act.put, nrZ]
           refine wpList_want (by rfl) (fun K hK => ?_)
           go_simp
           refine hK _ _ ?_
           clear hK K
           refine wpList_want (by rfl) (fun K hK => ?_)
           go_simp
           refine hK _ _ ?_
           clear hK K
           refine wpList_want (by rfl) (fun K hK => ?_)
           go_simp
           refine hK _ _ ?_
           clear hK K
           try simp only [Act.put, nrZ]
           iterate 2 (refine wpList_plain rfl (fun K hK => ?_); go_simp; refine hK _ _ ?_; clear hK K)
           refine wpList_nil ?_
           try simp only [Act.put, nrZ]
           go_upto_region 48 with fail
           refine wp_region_lit ?_
           refine ldZ (load_all agg34 size34 (xs := two (slv uL) (slv uC)) rfl HB23_9.out.at) ?_
           obtain ⟨w10, hst, hb_, hf_⟩ := store_all (t := 31) (two (slv uL) (slv uC)) size34 rfl (two_one _ _) HM9.out.var rfl
           refine stZ hst ?_
           clear hst
           refine wpList_nil ?_
           try simp only [Act.put, nrZ]
           have HM10 := Lib.hid (HM9.out.setV hf_ hb_).1
           clear hb_ hf_
           go_wp2
           go_meet
           have HGT0 := HGT.out
           exact ⟨rfl, ids, G, T, D, N', R', uL, uC, HM10.out.less (fun z hz => hz.elim), HMT.out, HDL.out, by omega, by omega⟩
          by_cases e4 : what = 4
          ·skip
           as_aux_lemma =>
           have hb0 : (what == 0) = false := by simp [e0]
           have hb1 : (what == 1) = false := by simp [e1]
           have hb2 : (what == 2) = false := by simp [e2]
           have hb3 : (what == 3) = false := by simp [e3]
           have hb4 : (what == 4) = true := by simp [e4]
           clear e0 e1 e2 e3 e4
           have HGT0 := HGT.out
           obtain ⟨N', R', k, er, hmt, hc1, hc2⟩ := HMP.out.acceptB an HM.out n3 n4 (by omega)
           have HMT := Lib.hid hmt
           have HC1 := Lib.hid hc1
           have HC2 := Lib.hid hc2
           clear hmt hc1 hc2 b0 b1' HGT0
           try clear k0
           try clear k1
           try clear k2
           try clear k3
           try clear k4
           try clear k5
           have k2 : w1.cell? ⟨A, 2, none⟩ = some (.int .i64 an) := HBA.out.at 2 _ rfl
           go_upto_region 50 with fail
           refine wp_region_lit ?_
           refine ldZ (load_all agg34 size34 (xs := two (slv sL) (slv sC)) rfl HMP.out.var.at) ?_
           iterate 2 (refine wpList_plain rfl (fun K hK => ?_); go_simp; refine hK _ _ ?_; clear hK K)
           try simp only [Act.put, nrZ]
           refine wpList_plain rfl (fun K hK => ?_)
           go_simp
           refine (HC1.out _ (Fr.refl _ _)).mono ?_
           rintro e w2 ⟨uL, uC, rfl, f2, hrf⟩
           have HF2 := Lib.hid f2
           have HRF := Lib.hid hrf
           clear f2 hrf
           refine hK _ _ ?_
           clear hK K
           try simp only [Act.put, nrZ]
           iterate 4 (refine wpList_plain rfl (fun K hK => ?_); go_simp; refine hK _ _ ?_; clear hK K)
           try simp only [Act.put, nrZ]
           refine wpList_plain rfl (fun K hK => ?_); go_simp; refine hK _ _ ?_; clear hK K
           try simp only [Act.put, nrZ]
           obtain ⟨E30, hA_⟩ : ∃ A, w2.heap.size = A := ⟨_, rfl⟩
           obtain ⟨w3, hw_⟩ : ∃ z, w2.alloc (.cells #[.slice none 0 0, .slice none 0 0] 31) = z := ⟨_, rfl⟩
           have hB_ : Blk w3 E30 31 [.slice none 0 0, .slice none 0 0] := by rw [← hw_, ← hA_]; exact Blk.made w2 31 _
           have hF_ : Fr [] w2 w3 := by rw [← hw_]; exact (Fr.refl [] w2).alloc _
           rw [hw_]
           simp only [hA_]
           have HE30 := Lib.hid hA_
           have HBE30 := Lib.hid hB_
           have HFw3 := Lib.hid hF_
           clear hA_ hw_ hB_ hF_
           obtain ⟨w4, hst, hb_, hf_⟩ := store_all (t := 31) (two (slv uL) (slv uC)) size34 rfl (two_one _ _) HBE30.out rfl
           refine stZ hst ?_
           clear hst
           iterate 2 (refine wpList_plain rfl (fun K hK => ?_); go_simp; refine hK _ _ ?_; clear hK K)
           refine wpList_nil ?_
           try simp only [Act.put, nrZ]
           have hEn : w2.heap.size ≤ E30 := by rw [← HE30.out]; exact Nat.le_refl _
           have HG4 := Lib.hid (HFw3.out.onto hf_ (fun z hz => by rw [List.mem_singleton] at hz; rw [hz]; exact hEn))
           have HBN := Lib.hid hb_
           have HM4 := Lib.hid (HMP.out.ref (HF2.out.step HG4.out) (HRF.out.far2 HG4.out (fun z hz => by cases hz)))
           have HZ := Lib.hid HF2.out.size
           have HKN2 := Lib.hid (show KN (fun z => z = A) w1 w4 E30 from .inr ⟨by have := HZ.out; omega, HBN.out.lt⟩)
           have HA4 := Lib.hid (HBA.out.keep (HF2.out.step HG4.out) (by simp))
           clear hb_ hf_ hEn HFw3 HRF HC1 HE30 HBE30
           try clear k0
           try clear k1
           try clear k2
           try clear k3
           try clear k4
           try clear k5
           have k2 : w4.cell? ⟨A, 2, none⟩ = some (.int .i64 an) := HA4.out.at 2 _ rfl
           go_upto_region 51 with fail
           refine wp_region_lit ?_
           iterate 3 (refine wpList_plain rfl (fun K hK => ?_); go_simp; refine hK _ _ ?_; clear hK K)
           try simp only [Act.put, nrZ]
           refine wpList_plain rfl (fun K hK => ?_)
           go_simp
           refine (HC2.out _ _ _ _ HM4.out).mono ?_
           rintro e w5 ⟨rfl, hm, fk⟩
           have HM5 := Lib.hid hm
           have HBN5 := Lib.hid (HBN.out.live fk HKN2.out)
           clear hm fk k2 HM4 HBN HA4 HC2
           refine hK _ _ ?_
           clear hK K
           try simp only [Act.put, nrZ]
           iterate 5 (refine wpList_plain rfl (fun K hK => ?_); go_simp; refine hK _ _ ?_; clear hK K)
           refine wpList_nil ?_
           try simp only [Act.put, nrZ]
           go_upto_region 53 with fail
           refine wp_region_lit ?_
           refine ldZ (load_all agg34 size34 (xs := two (slv uL) (slv uC)) rfl HBN5.out.at) ?_
           obtain ⟨w6, hst, hb_, hf_⟩ := store_all (t := 31) (two (slv uL) (slv uC)) size34 rfl (two_one _ _) HM5.out.var rfl
           refine stZ hst ?_
           clear hst
           refine wpList_nil ?_
           try simp only [Act.put, nrZ]
           have HM6 := Lib.hid (HM5.out.setV hf_ hb_).1
           clear hb_ hf_
           go_wp2
           go_meet
           have HGT0 := HGT.out
           exact ⟨rfl, ids, G, T, D, N', R', uL, uC, HM6.out.less (fun z hz => hz.elim), HMT.out, HDL.out, by omega, by omega⟩
          by_cases e5 : what = 5
          ·skip
           as_aux_lemma =>
           have hb0 : (what == 0) = false := by simp [e0]
           have hb1 : (what == 1) = false := by simp [e1]
           have hb2 : (what == 2) = false := by simp [e2]
           have hb3 : (what == 3) = false := by simp [e3]
           have hb4 : (what == 4) = false := by simp [e4]
           have hb5 : (what == 5) = true := by simp [e5]
           clear e0 e1 e2 e3 e4 e5
           have HGT0 := HGT.out
           obtain ⟨N', R', l, er, hmt, hc1, hc2⟩ := HMP.out.closeB an HM.out n3 n4 (by omega)
           have HMT := Lib.hid hmt
           have HC1 := Lib.hid hc1
           have HC2 := Lib.hid hc2
           clear hmt hc1 hc2 b0 b1' HGT0
           try clear k0
           try clear k1
           try clear k2
           try clear k3
           try clear k4
           try clear k5
           have k2 : w1.cell? ⟨A, 2, none⟩ = some (.int .i64 an) := HBA.out.at 2 _ rfl
           go_upto_region 55 with fail
           refine wp_region_lit ?_
           refine ldZ (load_all agg34 size34 (xs := two (slv sL) (slv sC)) rfl HMP.out.var.at) ?_
           iterate 2 (refine wpList_plain rfl (fun K hK => ?_); go_simp; refine hK _ _ ?_; clear hK K)
           try simp only [Act.put, nrZ]
           refine wpList_plain rfl (fun K hK => ?_)
           go_simp
           refine (HC1.out _ (Fr.refl _ _)).mono ?_
           rintro e w2 ⟨uL, uC, sq, rfl, f2, hrf, hrw, hrb, hll⟩
           have HF2 := Lib.hid f2
           have HRF := Lib.hid hrf
           clear f2 hrf
           have HRW := Lib.hid hrw
           have HRB := Lib.hid hrb
           have HLL := Lib.hid hll
           clear hrw hrb hll
           refine hK _ _ ?_
           clear hK K
           try simp only [Act.put, nrZ]
           iterate 4 (refine wpList_plain rfl (fun K hK => ?_); go_simp; refine hK _ _ ?_; clear hK K)
           try simp only [Act.put, nrZ]
           refine wpList_plain rfl (fun K hK => ?_); go_simp; refine hK _ _ ?_; clear hK K
           try simp only [Act.put, nrZ]
           obtain ⟨E35, hA_⟩ : ∃ A, w2.heap.size = A := ⟨_, rfl⟩
           obtain ⟨w3, hw_⟩ : ∃ z, w2.alloc (.cells #[.slice none 0 0, .slice none 0 0] 31) = z := ⟨_, rfl⟩
           have hB_ : Blk w3 E35 31 [.slice none 0 0, .slice none 0 0] := by rw [← hw_, ← hA_]; exact Blk.made w2 31 _
           have hF_ : Fr [] w2 w3 := by rw [← hw_]; exact (Fr.refl [] w2).alloc _
           rw [hw_]
           simp only [hA_]
           have HE35 := Lib.hid hA_
           have HBE35 := Lib.hid hB_
           have HFw3 := Lib.hid hF_
           clear hA_ hw_ hB_ hF_
           obtain ⟨w4, hst, hb_, hf_⟩ := store_all (t := 31) (two (slv uL) (slv uC)) size34 rfl (two_one _ _) HBE35.out rfl
           refine stZ hst ?_
           clear hst
           iterate 2 (refine wpList_plain rfl (fun K hK => ?_); go_simp; refine hK _ _ ?_; clear hK K)
           refine wpList_nil ?_
           try simp only [Act.put, nrZ]
           have hEn : w2.heap.size ≤ E35 := by rw [← HE35.out]; exact Nat.le_refl _
           have HG4 := Lib.hid (HFw3.out.onto hf_ (fun z hz => by rw [List.mem_singleton] at hz; rw [hz]; exact hEn))
           have HBN := Lib.hid hb_
           have HM4 := Lib.hid (HMP.out.ref (HF2.out.step HG4.out) (HRF.out.far2 HG4.out (fun z hz => by cases hz)))
           have HZ := Lib.hid HF2.out.size
           have HKN2 := Lib.hid (show KN (fun z => z = A) w1 w4 E35 from .inr ⟨by have := HZ.out; omega, HBN.out.lt⟩)
           have HA4 := Lib.hid (HBA.out.keep (HF2.out.step HG4.out) (by simp))
           clear hb_ hf_ hEn HFw3 HRF HC1 HE35 HBE35
           try clear k0
           try clear k1
           try clear k2
           try clear k3
           try clear k4
           try clear k5
           have k2 : w4.cell? ⟨A, 2, none⟩ = some (.int .i64 an) := HA4.out.at 2 _ rfl
           have HRW4 := Lib.hid (RowV.keepB HRW.out HG4.out (fun g _ => by simp))
           have HKR := Lib.hid (show l.length ≠ 0 → ∀ g, (slv sq).ownBlock = some g → KN (fun z => z = A) w1 w4 g from fun h0 g hg => .inr ⟨HRB.out g hg, rowvLt HRW4.out g hg h0⟩)
           clear HRW HRB HG4 HF2 HZ
           go_upto_region 56 with fail
           refine wp_region_lit ?_
           iterate 3 (refine wpList_plain rfl (fun K hK => ?_); go_simp; refine hK _ _ ?_; clear hK K)
           try simp only [Act.put, nrZ]
           refine wpList_plain rfl (fun K hK => ?_)
           go_simp
           refine (HC2.out _ _ _ _ HM4.out).mono ?_
           rintro e w5 ⟨v5, rfl, hv5, hm, fk⟩
           have HM5 := Lib.hid hm
           have HBN5 := Lib.hid (HBN.out.live fk HKN2.out)
           have HR5 := Lib.hid (HRW4.out.ints fk HKR.out HLL.out)
           have HV5 := Lib.hid (hv5 HLL.out)
           clear hm fk hv5 k2 HM4 HBN HA4 HC2 HRW4 HKR
           refine hK _ _ ?_
           clear hK K
           try simp only [Act.put, nrZ]
           iterate 5 (refine wpList_plain rfl (fun K hK => ?_); go_simp; refine hK _ _ ?_; clear hK K)
           refine wpList_nil ?_
           try simp only [Act.put, nrZ]
           go_upto_region 57 with fail
           refine wp_region_lit ?_
           iterate 2 (refine wpList_plain rfl (fun K hK => ?_); go_simp; refine hK _ _ ?_; clear hK K)
           try simp only [Act.put, nrZ]
           refine wpList_plain rfl (fun K hK => ?_)
           go_simp
           refine (ints_t _ _ l _ HV5.out HR5.out).mono ?_
           rintro e w6 ⟨rfl, f6⟩
           have HM6 := Lib.hid (HM5.out.new f6)
           have HBN6 := Lib.hid (HBN5.out.keep f6 (by simp))
           clear f6 HM5 HBN5
           refine hK _ _ ?_
           clear hK K
           try simp only [Act.put, nrZ]
           refine wpList_plain rfl (fun K hK => ?_); go_simp; refine hK _ _ ?_; clear hK K
           try simp only [Act.put, nrZ]
           refine wpList_want (by rfl) (fun K hK => ?_)
           go_simp
           refine hK _ _ ?_
           clear hK K
           refine wpList_want (by rfl) (fun K hK => ?_)
           go_simp
           refine hK _ _ ?_
           clear hK K
           refine wpList_want (by rfl) (fun K hK => ?_)
           go_simp
           refine hK _ _ ?_
           clear hK K
           try simp only [Act.put, nrZ]
           iterate 2 (refine wpList_plain rfl (fun K hK => ?_); go_simp; refine hK _ _ ?_; clear hK K)
           refine wpList_nil ?_
           try simp only [Act.put, nrZ]
           go_upto_region 58 with fail
           refine wp_region_lit ?_
           refine ldZ (load_all agg34 size34 (xs := two (slv uL) (slv uC)) rfl HBN6.out.at) ?_
           obtain ⟨w7, hst, hb_, hf_⟩ := store_all (t := 31) (two (slv uL) (slv uC)) size34 rfl (two_one _ _) HM6.out.var rfl
           refine stZ hst ?_
           clear hst
           refine wpList_nil ?_
           try simp only [Act.put, nrZ]
           have HM7 := Lib.hid (HM6.out.setV hf_ hb_).1
           clear hb_ hf_
           go_wp2
           go_meet
           have HGT0 := HGT.out
           exact ⟨rfl, ids, G, T, D, N', R', uL, uC, HM7.out.less (fun z hz => hz.elim), HMT.out, HDL.out, by omega, by omega⟩
          by_cases e6 : what = 6
          ·skip
           as_aux_lemma =>
           have hb0 : (what == 0) = false := by simp [e0]
           have hb1 : (what == 1) = false := by simp [e1]
           have hb2 : (what == 2) = false := by simp [e2]
           have hb3 : (what == 3) = false := by simp [e3]
           have hb4 : (what == 4) = false := by simp [e4]
           have hb5 : (what == 5) = false := by simp [e5]
           have hb6 : (what == 6) = true := by simp [e6]
           clear e0 e1 e2 e3 e4 e5 e6
           have HGT0 := HGT.out
           obtain ⟨N', R', er, hmt, hc1, hc2⟩ := HMP.out.hangB an HM.out n3 n4 (by omega)
           have HMT := Lib.hid hmt
           have HC1 := Lib.hid hc1
           have HC2 := Lib.hid hc2
           clear hmt hc1 hc2 b0 b1' HGT0
           try clear k0
           try clear k1
           try clear k2
           try clear k3
           try clear k4
           try clear k5
           have k2 : w1.cell? ⟨A, 2, none⟩ = some (.int .i64 an) := HBA.out.at 2 _ rfl
           go_upto_region 60 with fail
           refine wp_region_lit ?_
           refine ldZ (load_all agg34 size34 (xs := two (slv sL) (slv sC)) rfl HMP.out.var.at) ?_
           iterate 2 (refine wpList_plain rfl (fun K hK => ?_); go_simp; refine hK _ _ ?_; clear hK K)
           try simp only [Act.put, nrZ]
           refine wpList_plain rfl (fun K hK => ?_)
           go_simp
           refine (HC1.out _ (Fr.refl _ _)).mono ?_
           rintro e w2 ⟨uL, uC, rfl, f2, hrf⟩
           have HF2 := Lib.hid f2
           have HRF := Lib.hid hrf
           clear f2 hrf
           refine hK _ _ ?_
           clear hK K
           try simp only [Act.put, nrZ]
           iterate 3 (refine wpList_plain rfl (fun K hK => ?_); go_simp; refine hK _ _ ?_; clear hK K)
           try simp only [Act.put, nrZ]
           refine wpList_plain rfl (fun K hK => ?_); go_simp; refine hK _ _ ?_; clear hK K
           try simp only [Act.put, nrZ]
           obtain ⟨E40, hA_⟩ : ∃ A, w2.heap.size = A := ⟨_, rfl⟩
           obtain ⟨w3, hw_⟩ : ∃ z, w2.alloc (.cells #[.slice none 0 0, .slice none 0 0] 31) = z := ⟨_, rfl⟩
           have hB_ : Blk w3 E40 31 [.slice none 0 0, .slice none 0 0] := by rw [← hw_, ← hA_]; exact Blk.made w2 31 _
           have hF_ : Fr [] w2 w3 := by rw [← hw_]; exact (Fr.refl [] w2).alloc _
           rw [hw_]
           simp only [hA_]
           have HE40 := Lib.hid hA_
           have HBE40 := Lib.hid hB_
           have HFw3 := Lib.hid hF_
           clear hA_ hw_ hB_ hF_
           obtain ⟨w4, hst, hb_, hf_⟩ := store_all (t := 31) (two (slv uL) (slv uC)) size34 rfl (two_one _ _) HBE40.out rfl
           refine stZ hst ?_
           clear hst
           refine wpList_plain rfl (fun K hK => ?_); go_simp; refine hK _ _ ?_; clear hK K
           refine wpList_nil ?_
           try simp only [Act.put, nrZ]
           have hEn : w2.heap.size ≤ E40 := by rw [← HE40.out]; exact Nat.le_refl _
           have HG4 := Lib.hid (HFw3.out.onto hf_ (fun z hz => by rw [List.mem_singleton] at hz; rw [hz]; exact hEn))
           have HBN := Lib.hid hb_
           have HM4 := Lib.hid (HMP.out.ref (HF2.out.step HG4.out) (HRF.out.far2 HG4.out (fun z hz => by cases hz)))
           have HZ := Lib.hid HF2.out.size
           have HKN2 := Lib.hid (show KN (fun z => z = A) w1 w4 E40 from .inr ⟨by have := HZ.out; omega, HBN.out.lt⟩)
           have HA4 := Lib.hid (HBA.out.keep (HF2.out.step HG4.out) (by simp))
           clear hb_ hf_ hEn HFw3 HRF HC1 HE40 HBE40
           try clear k0
           try clear k1
           try clear k2
           try clear k3
           try clear k4
           try clear k5
           have k2 : w4.cell? ⟨A, 2, none⟩ = some (.int .i64 an) := HA4.out.at 2 _ rfl
           go_upto_region 61 with fail
           refine wp_region_lit ?_
           iterate 3 (refine wpList_plain rfl (fun K hK => ?_); go_simp; refine hK _ _ ?_; clear hK K)
           try simp only [Act.put, nrZ]
           refine wpList_plain rfl (fun K hK => ?_)
           go_simp
           refine (HC2.out _ _ _ _ HM4.out).mono ?_
           rintro e w5 ⟨rfl, hm, fk⟩
           have HM5 := Lib.hid hm
           have HBN5 := Lib.hid (HBN.out.live fk HKN2.out)
           clear hm fk k2 HM4 HBN HA4 HC2
           refine hK _ _ ?_
           clear hK K
           try simp only [Act.put, nrZ]
           iterate 3 (refine wpList_plain rfl (fun K hK => ?_); go_simp; refine hK _ _ ?_; clear hK K)
           refine wpList_nil ?_
           try simp only [Act.put, nrZ]
           go_upto_region 62 with fail
           refine wp_region_lit ?_
           refine ldZ (load_all agg34 size34 (xs := two (slv uL) (slv uC)) rfl HBN5.out.at) ?_
           obtain ⟨w6, hst, hb_, hf_⟩ := store_all (t := 31) (two (slv uL) (slv uC)) size34 rfl (two_one _ _) HM5.out.var rfl
           refine stZ hst ?_
           clear hst
           refine wpList_nil ?_
           try simp only [Act.put, nrZ]
           have HM6 := Lib.hid (HM5.out.setV hf_ hb_).1
           clear hb_ hf_
           go_wp2
           go_meet
           have HGT0 := HGT.out
           exact ⟨rfl, ids, G, T, D, N', R', uL, uC, HM6.out.less (fun z hz => hz.elim), HMT.out, HDL.out, by omega, by omega⟩
          as_aux_lemma =>
          have hb0 : (what == 0) = false := by simp [e0]
          have hb1 : (what == 1) = false := by simp [e1]
          have hb2 : (what == 2) = false := by simp [e2]
          have hb3 : (what == 3) = false := by simp [e3]
          have hb4 : (what == 4) = false := by simp [e4]
          have hb5 : (what == 5) = false := by simp [e5]
          have hb6 : (what == 6) = false := by simp [e6]
          clear e0 e1 e2 e3 e4 e5 e6
          have HGT0 := HGT.out
          obtain ⟨D', N', m, hl', hc1, hc2, hc3⟩ := HMP.out.allRefN now HM.out n6 HDL.out hnd8 (by omega)
          have HC1 := Lib.hid hc1
          have HC2 := Lib.hid hc2
          have HC3 := Lib.hid hc3
          have HDL2 := Lib.hid hl'
          clear hl' hc1 hc2 hc3 b0 b1' HGT0
          try clear k0
          try clear k1
          try clear k2
          try clear k3
          try clear k4
          try clear k5
          have k5 : w1.cell? ⟨A, 5, none⟩ = some (.int .u64 now) := HBA.out.at 5 _ rfl
          go_upto_region 27 with fail
          refine wp_region_lit ?_
          refine wpList_plain rfl (fun K hK => ?_); go_simp; refine hK _ _ ?_; clear hK K
          try simp only [Act.put, nrZ]
          refine ldZ (load_all agg34 size34 (xs := two (slv sL) (slv sC)) rfl HMP.out.var.at) ?_
          iterate 2 (refine wpList_plain rfl (fun K hK => ?_); go_simp; refine hK _ _ ?_; clear hK K)
          try simp only [Act.put, nrZ]
          refine wpList_plain rfl (fun K hK => ?_)
          go_simp
          refine (HC1.out).mono ?_
          rintro e w2 ⟨uL, uC, R', rfl, hmt, hm, fk⟩
          have HMT := Lib.hid hmt
          have HM2 := Lib.hid hm
          have HA2 := Lib.hid (HBA.out.live fk rfl)
          clear hmt hm fk HC1 k5
          refine hK _ _ ?_
          clear hK K
          try simp only [Act.put, nrZ]
          iterate 3 (refine wpList_plain rfl (fun K hK => ?_); go_simp; refine hK _ _ ?_; clear hK K)
          try simp only [Act.put, nrZ]
          refine wpList_plain rfl (fun K hK => ?_); go_simp; refine hK _ _ ?_; clear hK K
          try simp only [Act.put, nrZ]
          obtain ⟨E42, hA_⟩ : ∃ A, w2.heap.size = A := ⟨_, rfl⟩
          obtain ⟨w3, hw_⟩ : ∃ z, w2.alloc (.cells #[.slice none 0 0, .slice none 0 0] 31) = z := ⟨_, rfl⟩
          have hB_ : Blk w3 E42 31 [.slice none 0 0, .slice none 0 0] := by rw [← hw_, ← hA_]; exact Blk.made w2 31 _
          have hF_ : Fr [] w2 w3 := by rw [← hw_]; exact (Fr.refl [] w2).alloc _
          rw [hw_]
          simp only [hA_]
          have HE42 := Lib.hid hA_
          have HBE42 := Lib.hid hB_
          have HFw3 := Lib.hid hF_
          clear hA_ hw_ hB_ hF_
          obtain ⟨w4, hst, hb_, hf_⟩ := store_all (t := 31) (two (slv uL) (slv uC)) size34 rfl (two_one _ _) HBE42.out rfl
          refine stZ hst ?_
          clear hst
          refine wpList_plain rfl (fun K hK => ?_); go_simp; refine hK _ _ ?_; clear hK K
          refine wpList_nil ?_
          try simp only [Act.put, nrZ]
          have HG4 := Lib.hid (HFw3.out.onto hf_ (fun z hz => by rw [List.mem_singleton] at hz; rw [hz, ← HE42.out]; exact Nat.le_refl _))
          have HBN := Lib.hid hb_
          have HM4 := Lib.hid (HM2.out.wide HG4.out)
          have HKN2 := Lib.hid (show KN (fun z => z = A) w2 w4 E42 from .inr ⟨Nat.le_of_eq HE42.out, HBN.out.lt⟩)
          have HA4 := Lib.hid (HA2.out.keep HG4.out (by simp))
          clear hb_ hf_ HFw3 HM2 HA2 HG4 HBA HMP HBE42
          obtain ⟨w5, hdw⟩ : ∃ z, w4.drew = z := ⟨_, rfl⟩
          have fdw : Fr [] w4 w5 := by rw [← hdw]; exact (Fr.refl [] w4).drew
          have HDW_w5 := Lib.hid hdw
          have FDW_w5 := Lib.hid fdw
          clear hdw fdw
          have HM5 := Lib.hid (HM4.out.new FDW_w5.out)
          have HA5 := Lib.hid (HA4.out.keep FDW_w5.out (by simp))
          have HBN5 := Lib.hid (HBN.out.keep FDW_w5.out (by simp))
          clear HM4 HA4 HBN FDW_w5
          by_cases h0 : nd = 0
          ·as_aux_lemma =>
           obtain ⟨rfl, rfl⟩ := HNL.out h0
           have HN0 := Lib.hid h0
           clear h0 HC2
           go_upto_region 28 with fail
           refine wp_region_held_drew (S := fun W => W.cell? ⟨A, 5, none⟩ = some (.int .u64 now)) (by kernel_rfl) (by rw [HDW_w5.out]; exact HA5.out.at 5 _ rfl) (fun hHeld => ?_)
           rw [HDW_w5.out] at hHeld ⊢
           refine tkZ 0 ?_
           refine tvZ 1 (.slice none 0 0) rfl ?_ ?_
           ·intro w hSw
            try dsimp only at hSw
            rw [HN0.out]
            kernel_rfl
           try simp only [Act.put, nrZ]
           refine tkZ 2 ?_
           refine tkZ 3 ?_
           refine tvZ 4 (.int .u64 now) rfl ?_ ?_
           ·intro w hSw
            try dsimp only at hSw
            have hc := hSw
            go_simp
            try with_reducible rfl
           try simp only [Act.put, nrZ]
           refine rdZ 5 (fun K hK => ?_)
           go_simp
           refine (HC3.out _ _ _ _ _ HM5.out HN0.out).mono ?_
           rintro e w6 ⟨rfl, hm, fk⟩
           have HM6 := Lib.hid hm
           have HA6 := Lib.hid (HA5.out.live fk (.inl rfl))
           have HBN6 := Lib.hid (HBN5.out.live fk HKN2.out)
           clear hm fk
           refine hK.out _ _ (HA6.out.at 5 _ rfl) (fun hHeld => ?_)
           clear hK K
           try simp only [Act.put, nrZ]
           refine tkZ 6 ?_
           refine tkZ 7 ?_
           refine tkZ 8 ?_
           refine tkZ 9 ?_
           refine tkZ 10 ?_
           refine wpAnyH_done (by kernel_rfl) ?_ _
           clear hHeld HM5 HA5 HBN5 HC3
           go_upto_region 30 with fail
           refine wp_region_lit ?_
           refine ldZ (load_all agg34 size34 (xs := two (slv uL) (slv uC)) rfl HBN6.out.at) ?_
           obtain ⟨w7, hst, hb_, hf_⟩ := store_all (t := 31) (two (slv uL) (slv uC)) size34 rfl (two_one _ _) HM6.out.var rfl
           refine stZ hst ?_
           clear hst
           refine wpList_nil ?_
           try simp only [Act.put, nrZ]
           have HM7 := Lib.hid (HM6.out.setV hf_ hb_).1
           clear hb_ hf_
           go_wp2
           go_meet
           have HGT0 := HGT.out
           exact ⟨rfl, ids, G + 20000, T + 1001, D', N', R', uL, uC, HM7.out.less (fun z hz => hz.elim), HMT.out, HDL2.out, by omega, by omega⟩
          ·as_aux_lemma =>
           obtain ⟨g6, cc6, hv6, hg6, hl6⟩ := own_at HM5.out.r6 (by rw [HDL.out]; omega)
           simp only [Value.slice.injEq] at hv6
           obtain ⟨rfl, hv8, rfl⟩ := hv6
           clear hv8 hg6 hl6 HNL HC3
           have HR6 := Lib.hid HM5.out.r6
           rw [HDL.out] at HR6
           go_upto_region 28 with fail
           refine wp_region_held_drew (S := fun W => W.cell? ⟨A, 5, none⟩ = some (.int .u64 now)) (by kernel_rfl) (by rw [HDW_w5.out]; exact HA5.out.at 5 _ rfl) (fun hHeld => ?_)
           rw [HDW_w5.out] at hHeld ⊢
           refine tkZ 0 ?_
           refine tkZ 2 ?_
           refine tkZ 3 ?_
           refine tvZ 4 (.int .u64 now) rfl ?_ ?_
           ·intro w hSw
            try dsimp only at hSw
            have hc := hSw
            go_simp
            try with_reducible rfl
           try simp only [Act.put, nrZ]
           refine rdZ 1 (fun K hK => ?_)
           refine wp_append_loc elemPt _ _ rfl w.heap.size (v := .slice none 0 0) (n := 0) (xs := []) rfl (World.ownsRow_nil _ _ _ _) rfl HR6.out (ptrs_one ids nd) (by omega) (by omega) (by decide) HM5.out.old.size ?_
           intro u6 w6 ho6 fz loc6
           replace fz : Fr [] w5 w6 := fz
           obtain ⟨b6, c6', hv6, hg6, hl6⟩ := own_at ho6 (by omega)
           have HV6 := Lib.hid hv6
           have HM6 := Lib.hid (HM5.out.wide fz)
           have HK6 := Lib.hid (show KN (KN (fun z => z = A) w2 w4) w5 w6 b6 from .inr ⟨by
            rcases loc6 b6 (by rw [hv6]; rfl) with h | h
            ·cases h
            ·omega, hg6.2⟩)
           have HA6 := Lib.hid (HA5.out.keep fz (by simp))
           have HBN6 := Lib.hid (HBN5.out.keep fz (by simp))
           have HL6 := Lib.hid (show ∀ i, i < nd → w6.cell? ⟨b6, i, none⟩ = some (.pointer (some ⟨(ids i).1, 0, none⟩)) from fun i hi => hl6 i _ (by rw [List.nil_append]; unfold ptrs; simp [hi]))
           rw [Nat.zero_add] at HV6
           rw [HV6.out]
           clear ho6 fz loc6 hv6 hg6 hl6
           refine hK.out _ _ (HA6.out.at 5 _ rfl) (fun hHeld => ?_)
           clear hK K
           try simp only [Act.put, nrZ]
           refine rdZ 5 (fun K hK => ?_)
           go_simp
           have HGT0 := HGT.out
           refine (HC2.out _ _ _ _ _ _ _ HM6.out HK6.out HL6.out (by omega)).mono ?_
           rintro e w7 ⟨rfl, hm, fk⟩
           have HM7 := Lib.hid hm
           have HA7 := Lib.hid (HA6.out.live fk (.inl (.inl rfl)))
           have HBN7 := Lib.hid (HBN6.out.live fk (.inl HKN2.out))
           clear hm fk HGT0
           refine hK.out _ _ (HA7.out.at 5 _ rfl) (fun hHeld => ?_)
           clear hK K
           try simp only [Act.put, nrZ]
           refine tkZ 6 ?_
           refine tkZ 7 ?_
           refine tkZ 8 ?_
           refine tkZ 9 ?_
           refine tkZ 10 ?_
           refine wpAnyH_done (by kernel_rfl) ?_ _
           clear hHeld HM5 HA5 HBN5 HC2 HM6 HA6 HBN6 HK6 HL6
           go_upto_region 30 with fail
           refine wp_region_lit ?_
           refine ldZ (load_all agg34 size34 (xs := two (slv uL) (slv uC)) rfl HBN7.out.at) ?_
           obtain ⟨w8, hst, hb_, hf_⟩ := store_all (t := 31) (two (slv uL) (slv uC)) size34 rfl (two_one _ _) HM7.out.var rfl
           refine stZ hst ?_
           clear hst
           refine wpList_nil ?_
           try simp only [Act.put, nrZ]
           have HM8 := Lib.hid (HM7.out.setV hf_ hb_).1
           clear hb_ hf_
           go_wp2
           go_meet
           have HGT0 := HGT.out
           exact ⟨rfl, ids, G + 20000, T + 1001, D', N', R', uL, uC, HM8.out.less (fun z hz => hz.elim), HMT.out, HDL2.out, by omega, by omega⟩
         case rest =>
          as_aux_lemma =>
          clear HMP HM HDL HGT HBA b0 b1' HNW2 HKN HNL
          obtain ⟨rfl, ids2, G2, T2, D2, N2, R2, tL, tC, hm, hmt, hd, hg, ht⟩ := hcut
          have HM := Lib.hid hm
          have HMT := Lib.hid hmt
          have HDL := Lib.hid hd
          have HGT := Lib.hid (And.intro hg ht)
          have HQ := Lib.hid (show G2 ≤ 1000000 by have : q < 25 := (by omega); omega)
          clear hm hmt hd hg ht
          obtain ⟨w5, hdw⟩ : ∃ z, wc.drew = z := ⟨_, rfl⟩
          have fdw : Fr [] wc w5 := by rw [← hdw]; exact (Fr.refl [] wc).drew
          have HDW_w5 := Lib.hid hdw
          have FDW_w5 := Lib.hid fdw
          clear hdw fdw
          have HM5 := Lib.hid (HM.out.new FDW_w5.out)
          clear HM FDW_w5
          go_upto_region 63 with fail
          refine wp_region_held_drew (S := fun W => W.cell? ⟨V, 0, none⟩ = some (slv tL) ∧ W.cell? ⟨V, 1, none⟩ = some (slv tC)) (by kernel_rfl) (by rw [HDW_w5.out]; exact ⟨HM5.out.var.at 0 _ rfl, HM5.out.var.at 1 _ rfl⟩) (fun hHeld => ?_)
          rw [HDW_w5.out] at hHeld ⊢
          refine tkZ 0 ?_
          refine tkZ 1 ?_
          refine tkZ 2 ?_
          refine tkZ 3 ?_
          refine tkZ 5 ?_
          refine tvZ 6 (slv tL) rfl ?_ ?_
          ·intro w hSw
           try dsimp only at hSw
           have hc := hSw.1
           go_simp
           try with_reducible rfl
          try simp only [Act.put, nrZ]
          refine rdZ 4 (fun K hK => ?_)
          go_simp
          refine (listeners_l R2.L HM5.out.live HMT.out.1 HQ.out).mono ?_
          rintro e w6 ⟨v6_, rfl, hr, fz⟩
          have HM6 := Lib.hid (HM5.out.new fz)
          have HR1 := Lib.hid hr
          clear hr
          clear fz
          refine hK.out _ _ (⟨HM6.out.var.at 0 _ rfl, HM6.out.var.at 1 _ rfl⟩) (fun hHeld => ?_)
          clear hK K
          try simp only [Act.put, nrZ]
          refine rdZ 7 (fun K hK => ?_)
          go_simp
          refine (listeners_t _ _ R2.L _ HR1.out HM6.out.rows.1 (by have := (HM6.out.fit HMT.out).nl; omega) (HM6.out.fit HMT.out).q).mono ?_
          rintro e w7 ⟨rfl, fz⟩
          have HM7 := Lib.hid (HM6.out.new fz)
          clear fz
          refine hK.out _ _ (⟨HM7.out.var.at 0 _ rfl, HM7.out.var.at 1 _ rfl⟩) (fun hHeld => ?_)
          clear hK K
          try simp only [Act.put, nrZ]
          refine tkZ 8 ?_
          refine tkZ 9 ?_
          refine tkZ 10 ?_
          refine tkZ 11 ?_
          refine tkZ 13 ?_
          refine tvZ 14 (slv tC) rfl ?_ ?_
          ·intro w hSw
           try dsimp only at hSw
           have hc := hSw.2
           go_simp
           try with_reducible rfl
          try simp only [Act.put, nrZ]
          refine rdZ 12 (fun K hK => ?_)
          go_simp
          refine (conns_l R2.C HM7.out.live HMT.out.2).mono ?_
          rintro e w8 ⟨v7_, rfl, hr, fz⟩
          have HM8 := Lib.hid (HM7.out.new fz)
          have HR2 := Lib.hid hr
          clear hr
          clear fz
          refine hK.out _ _ (⟨HM8.out.var.at 0 _ rfl, HM8.out.var.at 1 _ rfl⟩) (fun hHeld => ?_)
          clear hK K
          try simp only [Act.put, nrZ]
          refine rdZ 15 (fun K hK => ?_)
          go_simp
          refine (conns_t _ _ (R2.C.map emb) _ HR2.out HM8.out.rows.2 (by have := (HM8.out.fit HMT.out).nc; simp only [List.length_map]; omega)).mono ?_
          rintro e w9 ⟨rfl, fz⟩
          have HM9 := Lib.hid (HM8.out.new fz)
          clear fz
          refine hK.out _ _ (⟨HM9.out.var.at 0 _ rfl, HM9.out.var.at 1 _ rfl⟩) (fun hHeld => ?_)
          clear hK K
          try simp only [Act.put, nrZ]
          refine tkZ 16 ?_
          refine tkZ 17 ?_
          refine wpAnyH_done (by kernel_rfl) ?_ _
          clear hHeld HM5 HM6 HM7 HM8 HR1 HR2
          go_wp2_with fail
          go_loopw [46] (fun i wr => ∃ (wz : World) (j : Nat), wz = wr ∧ i = .int .i64 j ∧ j ≤ nd ∧ Fr [] w9 wr) (fun i _ => nd - (intOf i).toNat)
          case atStart => exact ⟨_, 0, rfl, rfl, by omega, Fr.refl _ _⟩
          case round =>
           obtain ⟨wr, j, hwz, rfl, hj, hfr⟩ := hrel
           subst hwz
           have HMJ := Lib.hid (HM9.out.new hfr)
           have HFJ := Lib.hid hfr
           clear hfr
           by_cases hlj : j < nd
           ·as_aux_lemma =>
            have hkn : (j : Int) < (nd : Int) := by omega
            have hk0 : (0 : Int) ≤ (j : Int) := by omega
            have hjD : j < D2.length := by rw [HDL.out]; exact hlj
            obtain ⟨x, hx⟩ : ∃ x, D2[j]? = some x := ⟨D2[j], List.getElem?_eq_getElem hjD⟩
            obtain ⟨g6, cc6, hv6, _, _⟩ := own_at HMJ.out.r6 (by omega)
            obtain ⟨g7, cc7, hv7, _, _⟩ := HMJ.out.r7.lies hx
            simp only [Value.slice.injEq] at hv6 hv7
            obtain ⟨rfl, hv8, rfl⟩ := hv6
            clear hv8
            obtain ⟨rfl, hv8, rfl⟩ := hv7
            clear hv8
            have HX := Lib.hid hx
            have HJD := Lib.hid hjD
            clear hx hjD
            obtain ⟨w10, hdw⟩ : ∃ z, wr.drew = z := ⟨_, rfl⟩
            have fdw : Fr [] wr w10 := by rw [← hdw]; exact (Fr.refl [] wr).drew
            have HDW_w10 := Lib.hid hdw
            have FDW_w10 := Lib.hid fdw
            clear hdw fdw
            have HMK := Lib.hid (HMJ.out.new FDW_w10.out)
            go_upto_region 68 with fail
            refine wp_region_held_drew (S := fun W => W.cell? ⟨g6, j, none⟩ = some (.pointer (some ⟨(ids2 j).1, 0, none⟩)) ∧ LiesAt W g7 (j * 8) (wD x)) (by kernel_rfl) (by rw [HDW_w10.out]; exact ⟨HMK.out.at6 HJD.out, HMK.out.at7 HX.out⟩) (fun hHeld => ?_)
            rw [HDW_w10.out] at hHeld ⊢
            refine tkZ 0 ?_
            refine tkZ 1 ?_
            refine tkZ 2 ?_
            refine tvZ 3 (.pointer (some ⟨(ids2 j).1, 0, none⟩)) rfl ?_ ?_
            ·intro w hSw
             try dsimp only at hSw
             have hc := hSw.1
             go_simp
             try with_reducible rfl
            try simp only [Act.put, nrZ]
            refine tkZ 4 ?_
            refine tkZ 5 ?_
            refine tkZ 6 ?_
            refine tvZ 7 _ rfl (fun w hSw => ldX (load_all aggD sizeD (xs := wD x) rfl hSw.2)) ?_
            refine rdZ 8 (fun K hK => ?_)
            go_simp
            refine (is_same (HMK.out.dial HX.out).1).mono ?_
            rintro e w11 ⟨rfl, fz⟩
            have HML := Lib.hid (HMK.out.new fz)
            have HFL := Lib.hid ((HFJ.out.step FDW_w10.out).step fz)
            clear fz
            refine hK.out _ _ (⟨HML.out.at6 HJD.out, HML.out.at7 HX.out⟩) (fun hHeld => ?_)
            clear hK K
            try simp only [Act.put, nrZ]
            refine tkZ 9 ?_
            refine wpAnyH_done (by kernel_rfl) ?_ _
            clear hHeld
            go_wp2_with fail
            go_roundw
            case rel => exact ⟨_, j + 1, rfl, by go_num, by omega, HFL.out⟩
            case measure => simp [intOf]; omega
           ·as_aux_lemma =>
            obtain rfl : j = nd := by omega
            have HGT0 := HGT.out
            obtain ⟨own, L, C, hp, hpl⟩ := HMJ.out.end
            have hmt := HMT.out
            rw [← hpl] at hmt
            have HPE := Lib.hid (show PlayE w NBB V (.slice a6 j c6) (.slice a7 j c7) j (q + 1) wr from ⟨own, ids2, L, C, G2, T2, D2, R2, tL, tC, hp, hmt, HDL.out, by omega, by omega⟩)
            clear hp hpl hmt HGT0
            go_wp2_with fail
            go_roundg gn
            case measure => omega
            case rel => exact ⟨_, q + 1, rfl, by go_num, by omega, HPE.out⟩
     ·as_aux_lemma =>
      have hqn : q = nl := by omega
      obtain ⟨own, ids, L, C, G, T, D, R, sL, sC, hP, hM, hD, hG, hT⟩ := HE.out
      have HFR := Lib.hid hP.fr
      clear hP hM hD hG hT HE
      go_wp2_with fail
      refine (known_true _).mono ?_
      rintro e w2 ⟨rfl, f2⟩
      go_wp2_with fail
      go_ret
      exact ⟨rfl, HFR.out.step f2⟩
end Go.Proofs.YtgbmenfmaphciaaGreat
