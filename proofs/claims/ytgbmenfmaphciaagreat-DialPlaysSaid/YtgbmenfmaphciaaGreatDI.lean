/- DialPlays: what holds between two calls: the program's net and dialings, the reference's beside them. -/
/- DialPlays: a dialing copied; the dialings made. -/
/- DialPlays: one call of either net or dialing, at what holds between calls. -/
/- DialPlays: one call of both, side by side. -/
/- DialPlays: small laws of the walk. -/
import Derived.Test.YtgbmenfmaphciaaGreatDC
import Derived.Test.YtgbmenfmaphciaaGreatGLS
import Derived.Test.YtgbmenfmaphciaaGreatHd3
import Derived.Test.YtgbmenfmaphciaaGreatG9
import Derived.Test.YtgbmenfmaphciaaGreatFew
import Derived.Test.YtgbmenfmaphciaaGreatAll2
namespace Go.Proofs.YtgbmenfmaphciaaGreat
set_option linter.unusedVariables false
set_option linter.unusedSimpArgs false
set_option linter.unusedSectionVars false
open Go.RowKit
open Go.Maps (Keyed)
set_option linter.unusedVariables false
set_option linter.unusedSectionVars false
set_option linter.unusedSimpArgs false
set_option maxRecDepth 100000
set_option maxHeartbeats 8000000
section
variable {w w' : World} {own own' : Nat → Nat} {B : NB} {L : List LB} {C : List CB} {G : Nat} {R : PN.Net}
theorem NetW.live (h : NetW w own B L C G) : Live (fun _ => False) B (plainN L C) G w := ⟨own, L, C, h, rfl, fun z hz => hz.elim⟩
theorem NetW.ok (h : NetW w own B L C G) : PN.Ok (plainN L C) := by
 refine ⟨h.live.inv, fun x hx => ?_⟩
 obtain ⟨y, hy, rfl⟩ := List.mem_map.1 hx
 have := h.ls y hy
 exact ⟨by simpa [LB.pl] using this.len, this.most.2⟩
theorem NetW.wnd (h : NetW w own B L C G) : (PN.waitsOf (plainN L C).L).Nodup := by
 show (PN.waitsOf (L.map LB.pl)).Nodup
 rw [waitsOf_qs]
 exact h.vals
theorem NetW.adrR (h : NetW w own B L C G) (hm : PN.Match (plainN L C) R) : AdrFit R.L := by
 refine ⟨fun y hy => ?_, ?_, by rw [hm.1.len]; simpa [plainN] using h.nl⟩
 ·obtain ⟨x, hx, rfl⟩ := List.mem_map.1 (hm.1.mem.1 hy)
  have := h.ls x hx
  exact ⟨this.sz, this.adr, by have := this.port; simpa [LB.pl] using this⟩
 ·have h1 : (plainN L C).L.Pairwise (fun a b => ¬ (a.s = b.s ∧ a.p = b.p)) := List.pairwise_map.2 h.adrs
  exact (hm.1.1.pairwise_iff (fun {a b} hab hc => hab ⟨hc.1.symm, hc.2.symm⟩)).2 h1
theorem Blk.nobody {b : Nat} {t : TypeId} {xs : List Value} (h : Blk w b t xs) (hb : own b = 4) (f : FrO own allO w w') : Blk w' b t xs := by
 obtain ⟨S, f1, f2⟩ := f.list
 refine h.keep f1 (fun hm => ?_)
 have := (f2 b hm).2
 rw [hb] at this
 unfold allO netO at this
 omega
end
def KK (own : Nat → Nat) (V : Nat) (v6 v7 : Value) (z : Nat) : Prop := own z = 4 ∧ z ≠ V ∧ v6.ownBlock ≠ some z ∧ v7.ownBlock ≠ some z
theorem frK_of {own : Nat → Nat} {V : Nat} {v6 v7 : Value} {w w' : World} (f : FrO own allO w w') : FrK (KK own V v6 v7) w w' := by
 obtain ⟨S, f1, f2⟩ := f.list
 refine ⟨S, f1, fun x hx _ hk => ?_⟩
 have := (f2 x hx).2
 rw [hk.1] at this
 unfold allO netO at this
 omega
abbrev Pend (own : Nat → Nat) (V : Nat) (v6 v7 : Value) (w : World) (sL sC : Sli) (R : PN.Net) : Prop := Stay (KK own V v6 v7) w sL sC R
theorem Pend.call {own own' : Nat → Nat} {V : Nat} {v6 v7 : Value} {w w' : World} {sL sC : Sli} {R : PN.Net} (h : Pend own V v6 v7 w sL sC R) (he : Ext w own own') (f : FrO own allO w w') : Pend own' V v6 v7 w' sL sC R := by
 have h1 : Stay (fun z => z < w.heap.size ∧ KK own V v6 v7 z) w sL sC R := fun w'' f' => h w'' (f'.mono (fun x hx hk => ⟨hx, hk⟩))
 have f2 := frK_of (V := V) (v6 := v6) (v7 := v7) f
 have h2 : Stay (fun z => z < w.heap.size ∧ KK own V v6 v7 z) w' sL sC R := h1.step (f2.mono (fun x _ hx => hx.2))
 exact h2.grow (fun z _ hz => ⟨(he z hz.1).trans hz.2.1, hz.2.2⟩)
theorem stay_newP {K : Nat → Prop} {B : Nat} {w : World} {sL sC : Sli} {R : PN.Net} (h1 : LRp (fun g => B ≤ g) w (slv sL) R.L) (h2 : CRp (fun g => B ≤ g) w (slv sC) R.C) (hk : ∀ z, B ≤ z → z < w.heap.size → K z) : Stay K w sL sC R := fun w' f => by
 obtain ⟨S, fS, hS⟩ := f.list
 have kp : ∀ {v : Value} {n sz : Nat} {xs : List Value}, RowV w v n sz xs → (∀ g, v.ownBlock = some g → B ≤ g) → RowV w' v n sz xs := fun hv hb => by
  refine ⟨hv.1, hv.2.imp id ?_⟩
  rintro ⟨g, off, c, rfl, hg, hc⟩
  exact ⟨g, off, c, rfl, Nat.lt_of_lt_of_le hg fS.size, fun j u hj => fS.keep (hc j u hj) (hS g (hk g (hb g rfl) hg))⟩
 obtain ⟨Xs, a1, a2, a3⟩ := h1
 obtain ⟨⟨Ys, r1, r2⟩, r3⟩ := h2
 refine ⟨⟨Xs, a1.mono (fun X y ⟨q, e1, e2, e3⟩ => ⟨q, e1, kp e2 e3⟩), kp a2 a3⟩, ⟨Ys, ⟨r1.len, r1.sz, r1.one, fun i X y hX hy => ?_⟩, kp r2 r3⟩⟩
 obtain ⟨q, e1, e2⟩ := r1.el i X y hX hy
 rw [List.getElem?_map] at hy
 obtain ⟨y0, hy0, rfl⟩ := Option.map_eq_some_iff.1 hy
 exact ⟨q, e1, emb_any e2⟩
structure PlayR (w0 : World) (B : NB) (V : Nat) (v6 v7 : Value) (w : World) (own : Nat → Nat) (ids : Nat → Nat × Nat) (L : List LB) (C : List CB) (G T : Nat) (D E : List PN.PD) (R : PN.Net) (sL sC : Sli) : Prop where
 net : NetW w own B L C G
 dials : DialsW w own ids D
 r6 : w.ownsRow w0.heap.size 41 1 v6 D.length (ptrs ids D.length)
 r7 : WRow w w0.heap.size v7 E
 len : E.length = D.length
 var : Blk w V 31 (two (slv sL) (slv sC))
 oV : own V = 4 ∧ w0.heap.size ≤ V
 o6 : ∀ g, v6.ownBlock = some g → own g = 4
 o7 : ∀ g, v7.ownBlock = some g → own g = 4
 ref : Pend own V v6 v7 w sL sC R
 old : ∀ z, z < w0.heap.size → own z = 4
 fr : Fr [] w0 w
 trs : ∀ x ∈ D, x.tr ≤ T
section
variable {w0 w w1 w2 w' : World} {B : NB} {V : Nat} {v6 v7 : Value} {own own' : Nat → Nat} {ids : Nat → Nat × Nat} {L L' : List LB} {C C' : List CB} {G G' T T' : Nat} {D D' E E' : List PN.PD} {R R' : PN.Net} {sL sC uL uC : Sli}
theorem rowLt {e : TypeId} {sz n B0 : Nat} {v : Value} {xs : List Value} (h : w.ownsRow B0 e sz v n xs) : ∀ g, v.ownBlock = some g → g < w.heap.size := fun g hg => (h.lt g hg).2
theorem wrowLt {B0 : Nat} {v : Value} (h : WRow w B0 v E) : ∀ g, v.ownBlock = some g → B0 ≤ g ∧ g < w.heap.size := fun g hg => by
 obtain ⟨Xs, _, q⟩ := h
 exact q.lt g hg
theorem PlayR.new (h : PlayR w0 B V v6 v7 w own ids L C G T D E R sL sC) (f : Fr [] w w1) : PlayR w0 B V v6 v7 w1 own ids L C G T D E R sL sC :=
 ⟨h.net.new f, h.dials.new f, rowFr' h.r6 f (fun g _ => by simp), h.r7.fr f (fun g _ => by simp), h.len, h.var.keep f (by simp), h.oV, h.o6, h.o7, h.ref.step (FrK.new f), h.old, h.fr.step f, h.trs⟩
theorem PlayR.ext (h : PlayR w0 B V v6 v7 w own ids L C G T D E R sL sC) (he : Ext w own own') : PlayR w0 B V v6 v7 w own' ids L C G T D E R sL sC :=
 ⟨h.net.ext he, h.dials.ext he, h.r6, h.r7, h.len, h.var, ⟨(he V h.var.lt).trans h.oV.1, h.oV.2⟩, fun g hg => (he g (rowLt h.r6 g hg)).trans (h.o6 g hg), fun g hg => (he g (wrowLt h.r7 g hg).2).trans (h.o7 g hg), by
  have h1 : Stay (fun z => z < w.heap.size ∧ KK own V v6 v7 z) w sL sC R := fun w'' f' => h.ref w'' (f'.mono (fun x hx hk => ⟨hx, hk⟩))
  exact h1.grow (fun z _ hz => ⟨(he z hz.1).trans hz.2.1, hz.2.2⟩), fun z hz => (he z (Nat.lt_of_lt_of_le hz h.fr.size)).trans (h.old z hz), h.fr, h.trs⟩
theorem PlayR.rows (h : PlayR w0 B V v6 v7 w own ids L C G T D E R sL sC) : LRow w (slv sL) R.L ∧ CRow w (slv sC) (R.C.map emb) := h.ref.now
theorem PlayR.pend (h : PlayR w0 B V v6 v7 w own ids L C G T D E R sL sC) (f : Fr [] w w1) (ho : RefP w sL sC R R' uL uC w1) (hn : ∀ z, w.heap.size ≤ z → own z = 4) : Pend own V v6 v7 w1 uL uC R' := by
 rcases ho with ⟨rfl, rfl, rfl⟩ | ⟨o1, o2⟩
 ·exact h.ref.step (FrK.new f)
 ·refine stay_newP o1 o2 (fun z hz _ => ⟨hn z hz, fun he => ?_, fun he => ?_, fun he => ?_⟩)
  ·have := h.var.lt; omega
  ·have := rowLt h.r6 z he; omega
  ·have := (wrowLt h.r7 z he).2; omega
theorem PlayR.fro (h : PlayR w0 B V v6 v7 w own ids L C G T D E R sL sC) (f : FrO own allO w w') : ∃ S, Fr S w w' ∧ ∀ x ∈ S, own x ≠ 4 := by
 obtain ⟨S, f1, f2⟩ := f.list
 refine ⟨S, f1, fun x hx he => ?_⟩
 have := (f2 x hx).2
 rw [he] at this
 unfold allO netO at this
 omega
theorem PlayR.call (h : PlayR w0 B V v6 v7 w own ids L C G T D E R sL sC) (hn : NetW w' own' B L' C' G') (hd : DialsW w' own' ids D') (hl : D'.length = D.length) (he : Ext w own own') (hf : FrO own allO w w') (ht : ∀ x ∈ D', x.tr ≤ T') :
  PlayR w0 B V v6 v7 w' own' ids L' C' G' T' D' E R sL sC := by
 obtain ⟨S, f1, f2⟩ := h.fro hf
 refine ⟨hn, hd, ?_, h.r7.fr f1 (fun g hg hm => f2 g hm (h.o7 g hg)), h.len.trans hl.symm, h.var.nobody h.oV.1 hf, ⟨(he V h.var.lt).trans h.oV.1, h.oV.2⟩, fun g hg => (he g (rowLt h.r6 g hg)).trans (h.o6 g hg), fun g hg => (he g (wrowLt h.r7 g hg).2).trans (h.o7 g hg), h.ref.call he hf, fun z hz => (he z (Nat.lt_of_lt_of_le hz h.fr.size)).trans (h.old z hz), frOld h.fr h.old hf, ht⟩
 rw [hl]
 exact rowFr' h.r6 f1 (fun g hg hm => f2 g hm (h.o6 g hg))
theorem PlayR.netCall (h : PlayR w0 B V v6 v7 w own ids L C G T D E R sL sC) (hn : NetW w' own' B L' C' G') (he : Ext w own own') (hf : FrO own netO w w') : PlayR w0 B V v6 v7 w' own' ids L' C' G' T D E R sL sC :=
 h.call hn (dialsNet h.dials he hf) rfl he (hf.mono (fun c hc => .inl hc)) h.trs
theorem PlayR.dial (h : PlayR w0 B V v6 v7 w own ids L C G T D E R sL sC) {k : Nat} {x x' : PN.PD} (hx : D[k]? = some x) (hn : NetW w' own' B L' C' G') (hd : DialW w' own' k (ids k).1 (ids k).2 x') (he : Ext w own own') (hf : FrO own (tryO k) w w') (hG : G ≤ G') (ht : x'.tr ≤ T + 1) :
  PlayR w0 B V v6 v7 w' own' ids L' C' G' (T + 1) (D.set k x') E R sL sC := by
 obtain ⟨hk, rfl⟩ := List.getElem?_eq_some_iff.1 hx
 have hDk : D = D.take k ++ D[k] :: D.drop (k + 1) := by rw [List.getElem_cons_drop, List.take_append_drop]
 have hlk : (D.take k).length = k := by simp; omega
 have hset : D.set k x' = D.take k ++ x' :: D.drop (k + 1) := List.set_eq_take_append_cons_drop.trans (if_pos hk)
 have hds : DialsW w' own' ids (D.set k x') := by
  rw [hset]
  have h0 := h.dials
  rw [hDk] at h0
  exact DialsW.set h0 (by rw [hlk]; exact hd) he (by rw [hlk]; exact hf)
 refine h.call hn hds (by simp) he (hf.mono (fun c hc => tryO_all hc)) (fun y hy => ?_)
 rcases List.mem_or_eq_of_mem_set hy with hy | rfl
 ·have := h.trs y hy; omega
 ·exact ht
theorem PlayR.more (h : PlayR w0 B V v6 v7 w own ids L C G T D E R sL sC) (hG : G ≤ G') (hT : T ≤ T') : PlayR w0 B V v6 v7 w own ids L C G' T' D E R sL sC :=
 ⟨h.net.mono hG, h.dials, h.r6, h.r7, h.len, h.var, h.oV, h.o6, h.o7, h.ref, h.old, h.fr, fun x hx => by have := h.trs x hx; omega⟩
theorem notOld (h : PlayR w0 B V v6 v7 w own ids L C G T D E R sL sC) {b : Nat} (hb : own b = 4) : (∀ z ∈ [b], ¬ netO (own z)) ∧ ∀ z ∈ [b], own z % 4 ≠ 3 := by
 refine ⟨fun z hz => ?_, fun z hz => ?_⟩ <;> (rw [List.mem_singleton] at hz; subst hz; rw [hb])
 ·unfold netO; omega
 ·omega
theorem PlayR.setV (h : PlayR w0 B V v6 v7 w own ids L C G T D E R sL sC) (hp : Pend own V v6 v7 w uL uC R') (f : Fr [V] w w') (hb : Blk w' V 31 (two (slv uL) (slv uC))) : PlayR w0 B V v6 v7 w' own ids L C G T D E R' uL uC := by
 obtain ⟨n1, n2⟩ := notOld h h.oV.1
 refine ⟨h.net.keep f n1, h.dials.keep f n2, rowFr' h.r6 f (fun g hg hm => ?_), h.r7.fr f (fun g hg hm => ?_), h.len, hb, h.oV, h.o6, h.o7, hp.step ⟨[V], f, fun x hx _ hk => hk.2.1 (by simpa using hx)⟩, h.old, h.fr.trans f (fun x hx hl => by rw [List.mem_singleton] at hx; have := h.oV.2; omega), h.trs⟩
 ·rw [List.mem_singleton] at hm
  subst hm
  exact blkNe h.var h.r6 (by decide) hg
 ·rw [List.mem_singleton] at hm
  subst hm
  obtain ⟨Xs, _, q⟩ := h.r7
  exact blkNe h.var q (by decide) hg
theorem PlayR.setW (h : PlayR w0 B V v6 v7 w own ids L C G T D E R sL sC) (f : Fr v7.ownBlock.toList w w') (hr : WRow w' w0.heap.size v7 E') (hl : E'.length = E.length) : PlayR w0 B V v6 v7 w' own ids L C G T D E' R sL sC := by
 have h7 : ∀ z ∈ v7.ownBlock.toList, v7.ownBlock = some z := fun z hz => by simpa using hz
 obtain ⟨Xs, _, q⟩ := h.r7
 refine ⟨h.net.keep f (fun z hz => ?_), h.dials.keep f (fun z hz => ?_), rowFr' h.r6 f (fun g hg hm => rowApart q h.r6 (by decide) g hg (h7 g hm)), hr, hl.trans h.len, h.var.keep f (fun hm => blkNe h.var q (by decide) (h7 V hm)), h.oV, h.o6, h.o7, h.ref.step ⟨_, f, fun x hx _ hk => hk.2.2.2 (h7 x hx)⟩, h.old, h.fr.trans f (fun x hx hl => by have := (wrowLt h.r7 x (h7 x hx)).1; omega), h.trs⟩
 ·rw [h.o7 z (h7 z hz)]; unfold netO; omega
 ·rw [h.o7 z (h7 z hz)]; omega
end
theorem ptrs_set (ids : Nat → Nat × Nat) (n k : Nat) (p : Nat × Nat) : ptrs (fun i => if i = k then p else ids i) n = (ptrs ids n).set k (.pointer (some ⟨p.1, 0, none⟩)) := by
 apply List.ext_getElem?
 intro i
 unfold ptrs
 by_cases hik : k = i
 ·subst hik
  by_cases hk : k < n
  ·rw [List.getElem?_set_self (by simpa using hk), List.getElem?_map, List.getElem?_range hk]
   simp
  ·rw [List.getElem?_eq_none (by simp; omega), List.getElem?_eq_none (by simp; omega)]
 ·rw [List.getElem?_set_ne hik, List.getElem?_map, List.getElem?_map]
  by_cases hi : i < n
  ·rw [List.getElem?_range hi]
   simp [Ne.symm hik]
  ·rw [List.getElem?_eq_none (by simp; omega)]
   rfl
section
variable {w0 w w1 w2 w3 : World} {B : NB} {V : Nat} {v6 v7 : Value} {own : Nat → Nat} {ids : Nat → Nat × Nat} {L : List LB} {C : List CB} {G T : Nat} {D E : List PN.PD} {R : PN.Net} {sL sC : Sli}
theorem PlayR.copied (h : PlayR w0 B V v6 v7 w own ids L C G T D E R sL sC) {k b : Nat} {x : PN.PD} (hx : D[k]? = some x) (f1 : Fr [] w w1) (hb : w.heap.size ≤ b)
  (hc : DialIs w1 b (ids k).2 x.s x.p x.c x.un x.st x.conn x.er x.tr) (f2 : Fr [(ids k).1] w1 w2) (f3 : Fr v6.ownBlock.toList w2 w3)
  (hr : w3.ownsRow w0.heap.size 41 1 v6 D.length ((ptrs ids D.length).set k (.pointer (some ⟨b, 0, none⟩)))) :
  PlayR w0 B V v6 v7 w3 (ownNew w own (4 * k + 3)) (fun i => if i = k then (b, (ids k).2) else ids i) L C G T D E R sL sC ∧ Fr ((ids k).1 :: v6.ownBlock.toList) w w3 := by
 have he : Ext w own (ownNew w own (4 * k + 3)) := Ext.new _ _ _
 have h1 := (h.ext he).new f1
 have hk := h1.dials k x hx
 have hd0 := h.dials k x hx
 have ld : (ids k).1 < w.heap.size := cell_lt hd0.cells.c0
 have lu : (ids k).2 < w.heap.size := cell_lt hd0.cells.cu
 have h6 : ∀ z ∈ v6.ownBlock.toList, v6.ownBlock = some z := fun z hz => by simpa using hz
 have l6 : ∀ z ∈ v6.ownBlock.toList, z < w.heap.size ∧ own z = 4 := fun z hz => ⟨rowLt h.r6 z (h6 z hz), h.o6 z (h6 z hz)⟩
 have o6 : ∀ z ∈ v6.ownBlock.toList, ownNew w own (4 * k + 3) z = 4 := fun z hz => (he z (l6 z hz).1).trans (l6 z hz).2
 have n2 : ∀ z ∈ [(ids k).1], ownNew w own (4 * k + 3) z = 4 * k + 3 := fun z hz => by rw [List.mem_singleton] at hz; rw [hz]; exact hk.own.1
 have hfr : Fr ((ids k).1 :: v6.ownBlock.toList) w w3 := ((f1.mono (T := (ids k).1 :: v6.ownBlock.toList) (fun x hx => by cases hx)).trans f2 (fun x hx _ => by rw [List.mem_singleton] at hx; rw [hx]; exact List.mem_cons_self)).trans f3 (fun x hx _ => List.mem_cons_of_mem _ hx)
 have ne7 : ∀ g, v7.ownBlock = some g → g ∉ [(ids k).1] ∧ g ∉ v6.ownBlock.toList := fun g hg => by
  refine ⟨fun hm => ?_, fun hm => ?_⟩
  ·have h3 := n2 g hm
   rw [h1.o7 g hg] at h3
   omega
  ·obtain ⟨Xs, _, q⟩ := h1.r7
   exact rowApart h1.r6 q (by decide) g hg (h6 g hm)
 refine ⟨⟨(h1.net.keep f2 (fun z hz => ?_)).keep f3 (fun z hz => ?_), ?_, ?_, (h1.r7.fr f2 (fun g hg => (ne7 g hg).1)).fr f3 (fun g hg => (ne7 g hg).2), h.len, (h1.var.keep f2 (fun hm => ?_)).keep f3 (fun hm => ?_), h1.oV, h1.o6, h1.o7, ?_, h1.old, (h1.fr.trans f2 (fun x hx hl => ?_)).trans f3 (fun x hx hl => ?_), h.trs⟩, hfr⟩
 ·rw [n2 z hz]; unfold netO; omega
 ·rw [o6 z hz]; unfold netO; omega
 ·intro i y hi
  by_cases hik : i = k
  ·subst hik
   rw [hx] at hi
   cases hi
   simp only [if_true]
   have hw1 : DialW w1 (ownNew w own (4 * i + 3)) i b (ids i).2 x := ⟨hc, ⟨ownNew_ge hb, hk.own.2⟩, hk.adr, hk.sz, hk.cap, hk.tr⟩
   refine ⟨(hc.keep f2 (fun hm => ?_) (fun hm => ?_)).keep f3 (fun hm => ?_) (fun hm => ?_), hw1.own, hk.adr, hk.sz, hk.cap, hk.tr⟩
   ·rw [List.mem_singleton] at hm; omega
   ·rw [List.mem_singleton] at hm; exact hd0.cells.ne hm.symm
   ·have := (l6 b hm).1; omega
   ·have h3 := o6 _ hm
    rw [hk.own.2] at h3
    omega
  ·simp only [if_neg hik]
   have hy := h1.dials i y hi
   refine (hy.keep f2 (fun z hz => ?_)).keep f3 (fun z hz => ?_)
   ·rw [n2 z hz]; omega
   ·rw [o6 z hz]; omega
 ·rw [ptrs_set]
  exact hr
 ·have h3 := n2 V hm
  rw [h1.oV.1] at h3
  omega
 ·exact blkNe h1.var h1.r6 (by decide) (h6 V hm)
 ·refine (h1.ref.step ⟨_, f2, fun x hx _ hkk => ?_⟩).step ⟨_, f3, fun x hx _ hkk => hkk.2.2.1 (h6 x hx)⟩
  have := n2 x hx
  rw [hkk.1] at this
  omega
 ·have h3 := n2 x hx
  rw [h1.old x hl] at h3
  omega
 ·have := (h.r6.lt x (h6 x hx)).1
  omega
end
structure MadeP (w0 : World) (own0 : Nat → Nat) (B : NB) (V k : Nat) (w : World) (own : Nat → Nat) (ids : Nat → Nat × Nat) (D : List PN.PD) (v6 v7 : Value) : Prop where
 len : D.length ≤ k
 net : NetW w own B [] [] 0
 dials : DialsW w own ids D
 fresh : ∀ x ∈ D, x.st = 0 ∧ x.tr = 0
 r6 : w.ownsRow w0.heap.size 41 1 v6 D.length (ptrs ids D.length)
 r7 : WRow w w0.heap.size v7 D
 var : Blk w V 31 zNt
 oV : own V = 4 ∧ w0.heap.size ≤ V
 o6 : ∀ g, v6.ownBlock = some g → own g = 4
 o7 : ∀ g, v7.ownBlock = some g → own g = 4
 old : ∀ z, z < w0.heap.size → own z = 4
 fr : Fr [] w0 w
 nil : D.length = 0 → v6 = .slice none 0 0
section
variable {w0 wr w3 w4 w5 : World} {own0 own : Nat → Nat} {B : NB} {V k : Nat} {ids : Nat → Nat × Nat} {D : List PN.PD} {v6 v7 u6 u7 : Value}
theorem MadeP.skip (h : MadeP w0 own0 B V k wr own ids D v6 v7) (f : Fr [] wr w3) : MadeP w0 own0 B V (k + 1) w3 own ids D v6 v7 :=
 ⟨by have := h.len; omega, h.net.new f, h.dials.new f, h.fresh, rowFr' h.r6 f (fun g _ => by simp), h.r7.fr f (fun g _ => by simp), h.var.keep f (by simp), h.oV, h.o6, h.o7, h.old, h.fr.step f, h.nil⟩
theorem MadeP.step (h : MadeP w0 own0 B V k wr own ids D v6 v7) {s : ByteArray} {p un : Int} {c d u : Nat} (hd : DialIs w3 d u s p c un 0 0 0 0) (ld : wr.heap.size ≤ d) (lu : wr.heap.size ≤ u) (f3 : Fr [] wr w3)
  (hv : addrB s.data.toList p = true) (hs : s.size ≤ 1000000) (hc : c ≤ 4096)
  (F4 : Fr v6.ownBlock.toList w3 w4) (h6 : w4.ownsRow w0.heap.size 41 1 u6 (D.length + 1) (ptrs ids D.length ++ [.pointer (some ⟨d, 0, none⟩)])) (a6 : ∀ g, u6.ownBlock = some g → v6.ownBlock = some g ∨ w3.heap.size ≤ g)
  (F5 : Fr v7.ownBlock.toList w4 w5) (h7 : WRow w5 w0.heap.size u7 (D ++ [⟨s, p, c, un, 0, 0, 0, 0⟩])) (a7 : ∀ g, u7.ownBlock = some g → v7.ownBlock = some g ∨ w3.heap.size ≤ g) :
  ∃ own' ids', MadeP w0 own0 B V (k + 1) w5 own' ids' (D ++ [⟨s, p, c, un, 0, 0, 0, 0⟩]) u6 u7 := by
 have z3 := f3.size
 have e1 : Ext wr own (ownNew w3 (ownNew wr own (4 * D.length + 3)) 4) := (Ext.new wr own _).step (Ext.new w3 _ 4) z3
 obtain ⟨own', ho'⟩ : ∃ o, ownNew w3 (ownNew wr own (4 * D.length + 3)) 4 = o := ⟨_, rfl⟩
 rw [ho'] at e1
 have m6 : ∀ z ∈ v6.ownBlock.toList, v6.ownBlock = some z := fun z hz => by simpa using hz
 have m7 : ∀ z ∈ v7.ownBlock.toList, v7.ownBlock = some z := fun z hz => by simpa using hz
 have c6 : ∀ z ∈ v6.ownBlock.toList, own' z = 4 := fun z hz => (e1 z (rowLt h.r6 z (m6 z hz))).trans (h.o6 z (m6 z hz))
 have c7 : ∀ z ∈ v7.ownBlock.toList, own' z = 4 := fun z hz => (e1 z (wrowLt h.r7 z (m7 z hz)).2).trans (h.o7 z (m7 z hz))
 have cn : ∀ z, w3.heap.size ≤ z → own' z = 4 := fun z hz => by rw [← ho']; exact ownNew_ge hz
 have cd : ∀ z, wr.heap.size ≤ z → z < w3.heap.size → own' z = 4 * D.length + 3 := fun z h1 h2 => by
  rw [← ho', Ext.new w3 _ 4 z h2]
  exact ownNew_ge h1
 have n0 : ∀ z, own' z = 4 → ¬ netO (own' z) := fun z hz hn => by rw [hz] at hn; unfold netO at hn; omega
 have dz := cell_lt hd.c0
 have uz := cell_lt hd.cu
 have r63 := rowFr' h.r6 f3 (fun g _ => by simp)
 obtain ⟨Ys, hY1, hY2⟩ := h7
 refine ⟨own', fun j => if j = D.length then (d, u) else ids j, ⟨by have := h.len; simp; omega, ?_, ?_, ?_, ?_, ⟨Ys, hY1, hY2⟩, ?_, ⟨(e1 V h.var.lt).trans h.oV.1, h.oV.2⟩, ?_, ?_, fun z hz => (e1 z (Nat.lt_of_lt_of_le hz h.fr.size)).trans (h.old z hz), ?_, fun hz => by simp at hz⟩⟩
 ·exact (((h.net.ext e1).new f3).keep F4 (fun z hz => n0 z (c6 z hz))).keep F5 (fun z hz => n0 z (c7 z hz))
 ·intro i y hi
  by_cases hl : i < D.length
  ·rw [List.getElem?_append_left hl] at hi
   simp only [Nat.ne_of_lt hl, if_false]
   refine ((((h.dials i y hi).ext e1).keep f3 (fun z hz => by cases hz)).keep F4 (fun z hz => ?_)).keep F5 (fun z hz => ?_)
   ·rw [c6 z hz]; omega
   ·rw [c7 z hz]; omega
  ·have hil := (List.getElem?_eq_some_iff.1 hi).1
   simp only [List.length_append, List.length_cons, List.length_nil] at hil
   obtain rfl : i = D.length := by omega
   rw [List.getElem?_append_right (Nat.le_refl _)] at hi
   simp at hi
   subst hi
   simp only [if_true]
   have hw3 : DialW w3 own' D.length d u ⟨s, p, c, un, 0, 0, 0, 0⟩ := ⟨hd, ⟨cd d ld dz, cd u lu uz⟩, hv, hs, hc, Int.le_refl _⟩
   refine (hw3.keep F4 (fun z hz => ?_)).keep F5 (fun z hz => ?_)
   ·rw [c6 z hz]; omega
   ·rw [c7 z hz]; omega
 ·intro y hy
  rcases List.mem_append.1 hy with hy | hy
  ·exact h.fresh y hy
  ·simp only [List.mem_singleton] at hy
   subst hy
   exact ⟨rfl, rfl⟩
 ·have hp : ptrs (fun j => if j = D.length then (d, u) else ids j) (D ++ [(⟨s, p, c, un, 0, 0, 0, 0⟩ : PN.PD)]).length = ptrs ids D.length ++ [.pointer (some ⟨d, 0, none⟩)] := by
   simp only [ptrs, List.length_append, List.length_cons, List.length_nil, List.range_succ, List.map_append, List.map_cons, List.map_nil, if_true]
   congr 1
   refine List.map_congr_left fun i hi => ?_
   have := List.mem_range.1 hi
   simp [Nat.ne_of_lt this]
  rw [hp]
  have hq := rowFr' h6 F5 (fun g hg hm => by
   rcases a6 g hg with h1 | h1
   ·obtain ⟨Xs, _, q⟩ := h.r7
    exact rowApart h.r6 q (by decide) g (m7 g hm) h1
   ·have := (wrowLt h.r7 g (m7 g hm)).2
    omega)
  simpa using hq
 ·refine ((h.var.keep f3 (by simp)).keep F4 (fun hm => blkNe h.var h.r6 (by decide) (m6 V hm))).keep F5 (fun hm => ?_)
  obtain ⟨Xs, _, q⟩ := h.r7
  exact blkNe h.var q (by decide) (m7 V hm)
 ·intro g hg
  rcases a6 g hg with h1 | h1
  ·exact c6 g (by simp [h1])
  ·exact cn g h1
 ·intro g hg
  rcases a7 g hg with h1 | h1
  ·exact c7 g (by simp [h1])
  ·exact cn g h1
 ·have g1 : Fr [] w0 w4 := (h.fr.step f3).trans F4 (fun x hx hl => by have := (h.r6.lt x (m6 x hx)).1; omega)
  exact g1.trans F5 (fun x hx hl => by have := (wrowLt h.r7 x (m7 x hx)).1; omega)
theorem MadeP.play (h : MadeP w0 own0 B V k wr own ids D v6 v7) : PlayR w0 B V v6 v7 wr own ids [] [] 0 0 D D ⟨[], []⟩ (none, 0, 0) (none, 0, 0) :=
 ⟨h.net, h.dials, h.r6, h.r7, rfl, h.var, h.oV, h.o6, h.o7, fun w' _ => ⟨RowR.nil _ _ _, RowR.nil _ _ _⟩, h.old, h.fr, fun x hx => Int.le_of_eq (h.fresh x hx).2⟩
end
theorem Blk.apart {w : World} {b b' : Nat} {t t' : TypeId} {xs ys : List Value} (h : Blk w b t xs) (h' : Blk w b' t' ys) (hne : t ≠ t') : b ≠ b' := fun he => by
 subst he
 unfold Blk at h h'
 rw [h] at h'
 simp only [Option.some.injEq, Obj.cells.injEq] at h'
 exact hne h'.2.1
theorem Blk.live {K : Nat → Prop} {w w' : World} {b : Nat} {t : TypeId} {xs : List Value} (h : Blk w b t xs) (f : FrK K w w') (hb : K b) : Blk w' b t xs := by
 obtain ⟨S, f1, f2⟩ := f.list
 exact h.keep f1 (f2 b hb)
def KN (K : Nat → Prop) (w w1 : World) (z : Nat) : Prop := K z ∨ w.heap.size ≤ z ∧ z < w1.heap.size
structure MidP (w0 : World) (B : NB) (V : Nat) (v6 v7 : Value) (K : Nat → Prop) (ids : Nat → Nat × Nat) (G T : Nat) (D E : List PN.PD) (N R : PN.Net) (sL sC : Sli) (R' : PN.Net) (uL uC : Sli) (w : World) : Prop where
 ex : ∃ own L C, PlayR w0 B V v6 v7 w own ids L C G T D E R sL sC ∧ plainN L C = N ∧ Pend own V v6 v7 w uL uC R' ∧ ∀ z, K z → z < w.heap.size ∧ KK own V v6 v7 z
section
variable {w0 w w1 w2 w' : World} {B : NB} {V A : Nat} {v6 v7 : Value} {K K' : Nat → Prop} {ids ids' : Nat → Nat × Nat} {G G' T T' : Nat} {D D' E E' : List PN.PD} {N R R' R2 : PN.Net} {sL sC uL uC tL tC : Sli}
theorem PlayR.mid {own : Nat → Nat} {L : List LB} {C : List CB} (h : PlayR w0 B V v6 v7 w own ids L C G T D E R sL sC) {b : Nat} {xs : List Value} (ha : Blk w b 48 xs) (ho : own b = 4) : MidP w0 B V v6 v7 (fun z => z = b) ids G T D E (plainN L C) R sL sC R sL sC w := by
 obtain ⟨Xs, _, q⟩ := h.r7
 refine ⟨⟨own, L, C, h, rfl, h.ref, fun z hz => ?_⟩⟩
 rw [hz]
 exact ⟨ha.lt, ho, Blk.apart ha h.var (by decide), blkNe ha h.r6 (by decide), blkNe ha q (by decide)⟩
theorem MidP.new (h : MidP w0 B V v6 v7 K ids G T D E N R sL sC R' uL uC w) (f : Fr [] w w1) : MidP w0 B V v6 v7 K ids G T D E N R sL sC R' uL uC w1 := by
 obtain ⟨⟨own, L, C, h1, h2, h3, h4⟩⟩ := h
 exact ⟨⟨own, L, C, h1.new f, h2, h3.step (FrK.new f), fun z hz => ⟨Nat.lt_of_lt_of_le (h4 z hz).1 f.size, (h4 z hz).2⟩⟩⟩
theorem MidP.more (h : MidP w0 B V v6 v7 K ids G T D E N R sL sC R' uL uC w) (hG : G ≤ G') (hT : T ≤ T') : MidP w0 B V v6 v7 K ids G' T' D E N R sL sC R' uL uC w := by
 obtain ⟨⟨own, L, C, h1, h2, h3, h4⟩⟩ := h
 exact ⟨⟨own, L, C, h1.more hG hT, h2, h3, h4⟩⟩
theorem MidP.less (h : MidP w0 B V v6 v7 K ids G T D E N R sL sC R' uL uC w) (hk : ∀ z, K' z → K z) : MidP w0 B V v6 v7 K' ids G T D E N R sL sC R' uL uC w := by
 obtain ⟨⟨own, L, C, h1, h2, h3, h4⟩⟩ := h
 exact ⟨⟨own, L, C, h1, h2, h3, fun z hz => h4 z (hk z hz)⟩⟩
theorem MidP.wide (h : MidP w0 B V v6 v7 K ids G T D E N R sL sC R' uL uC w) (f : Fr [] w w1) : MidP w0 B V v6 v7 (KN K w w1) ids G T D E N R sL sC R' uL uC w1 := by
 obtain ⟨⟨own, L, C, h1, h2, h3, h4⟩⟩ := h
 have he : Ext w own (ownNew w own 4) := Ext.new _ _ _
 have h5 := h1.ext he
 have h6 : Pend (ownNew w own 4) V v6 v7 w uL uC R' := h3.call he (FrO.new (Fr.refl [] w))
 obtain ⟨Xs, _, q⟩ := h1.r7
 refine ⟨⟨_, L, C, h5.new f, h2, h6.step (FrK.new f), fun z hz => ?_⟩⟩
 rcases hz with hz | ⟨hz, hz'⟩
 ·obtain ⟨k1, k2, k3⟩ := h4 z hz
  exact ⟨Nat.lt_of_lt_of_le k1 f.size, (he z k1).trans k2, k3⟩
 ·exact ⟨hz', ownNew_ge hz, fun hv => by have := h1.var.lt; omega, fun hv => by have := rowLt h1.r6 z hv; omega, fun hv => by have := rowLt q z hv; omega⟩
theorem MidP.ref (h : MidP w0 B V v6 v7 K ids G T D E N R sL sC R sL sC w) (f : Fr [] w w1) (ho : RefP w sL sC R R' uL uC w1) : MidP w0 B V v6 v7 (KN K w w1) ids G T D E N R sL sC R' uL uC w1 := by
 obtain ⟨⟨own, L, C, h1, h2, h3, h4⟩⟩ := h
 have he : Ext w own (ownNew w own 4) := Ext.new _ _ _
 have h5 := h1.ext he
 obtain ⟨Xs, _, q⟩ := h1.r7
 refine ⟨⟨_, L, C, h5.new f, h2, h5.pend f ho (fun z hz => ownNew_ge hz), fun z hz => ?_⟩⟩
 rcases hz with hz | ⟨hz, hz'⟩
 ·obtain ⟨k1, k2, k3⟩ := h4 z hz
  exact ⟨Nat.lt_of_lt_of_le k1 f.size, (he z k1).trans k2, k3⟩
 ·exact ⟨hz', ownNew_ge hz, fun hv => by have := h1.var.lt; omega, fun hv => by have := rowLt h1.r6 z hv; omega, fun hv => by have := rowLt q z hv; omega⟩
theorem MidP.rows (h : MidP w0 B V v6 v7 K ids G T D E N R sL sC R' uL uC w) : LRow w (slv sL) R.L ∧ CRow w (slv sC) (R.C.map emb) := by
 obtain ⟨⟨own, L, C, h1, _⟩⟩ := h
 exact h1.rows
theorem MidP.var (h : MidP w0 B V v6 v7 K ids G T D E N R sL sC R' uL uC w) : Blk w V 31 (two (slv sL) (slv sC)) := by
 obtain ⟨⟨own, L, C, h1, _⟩⟩ := h
 exact h1.var
theorem MidP.r6 (h : MidP w0 B V v6 v7 K ids G T D E N R sL sC R' uL uC w) : w.ownsRow w0.heap.size 41 1 v6 D.length (ptrs ids D.length) := by
 obtain ⟨⟨own, L, C, h1, _⟩⟩ := h
 exact h1.r6
theorem MidP.r7 (h : MidP w0 B V v6 v7 K ids G T D E N R sL sC R' uL uC w) : WRow w w0.heap.size v7 E := by
 obtain ⟨⟨own, L, C, h1, _⟩⟩ := h
 exact h1.r7
theorem MidP.len (h : MidP w0 B V v6 v7 K ids G T D E N R sL sC R' uL uC w) : E.length = D.length := by
 obtain ⟨⟨own, L, C, h1, _⟩⟩ := h
 exact h1.len
theorem MidP.old (h : MidP w0 B V v6 v7 K ids G T D E N R sL sC R' uL uC w) : Fr [] w0 w := by
 obtain ⟨⟨own, L, C, h1, _⟩⟩ := h
 exact h1.fr
theorem MidP.ok (h : MidP w0 B V v6 v7 K ids G T D E N R sL sC R' uL uC w) : PN.Ok N := by
 obtain ⟨⟨own, L, C, h1, rfl, _⟩⟩ := h
 exact h1.net.ok
theorem MidP.wnd (h : MidP w0 B V v6 v7 K ids G T D E N R sL sC R' uL uC w) : (PN.waitsOf N.L).Nodup := by
 obtain ⟨⟨own, L, C, h1, rfl, _⟩⟩ := h
 exact h1.net.wnd
theorem MidP.live (h : MidP w0 B V v6 v7 K ids G T D E N R sL sC R' uL uC w) : Live (fun _ => False) B N G w := by
 obtain ⟨⟨own, L, C, h1, rfl, _⟩⟩ := h
 exact h1.net.live
theorem MidP.adr (h : MidP w0 B V v6 v7 K ids G T D E N R sL sC R' uL uC w) (hm : PN.Match N R) : AdrFit R.L := by
 obtain ⟨⟨own, L, C, h1, rfl, _⟩⟩ := h
 exact h1.net.adrR hm
theorem MidP.fit (h : MidP w0 B V v6 v7 K ids G T D E N R sL sC R' uL uC w) (hm : PN.Match N R) : RFit R := ok_fit hm h.ok
theorem MidP.dial (h : MidP w0 B V v6 v7 K ids G T D E N R sL sC R' uL uC w) {k : Nat} {x : PN.PD} (hx : D[k]? = some x) : DialIs w (ids k).1 (ids k).2 x.s x.p x.c x.un x.st x.conn x.er x.tr ∧ addrB x.s.data.toList x.p = true ∧ x.s.size ≤ 1000000 ∧ x.c ≤ 4096 ∧ 0 ≤ x.tr ∧ x.tr ≤ T := by
 obtain ⟨⟨own, L, C, h1, _⟩⟩ := h
 have hd := h1.dials k x hx
 exact ⟨hd.cells, hd.adr, hd.sz, hd.cap, hd.tr, h1.trs x (List.mem_of_getElem? hx)⟩
theorem frKK {own : Nat → Nat} (h4 : ∀ z, K z → z < w.heap.size ∧ KK own V v6 v7 z) (f : FrO own allO w w') : FrK K w w' := (frK_of (V := V) (v6 := v6) (v7 := v7) f).mono (fun z _ hz => (h4 z hz).2)
theorem stillKK {own own' : Nat → Nat} (h4 : ∀ z, K z → z < w.heap.size ∧ KK own V v6 v7 z) (he : Ext w own own') (hs : w.heap.size ≤ w'.heap.size) : ∀ z, K z → z < w'.heap.size ∧ KK own' V v6 v7 z := fun z hz => by
 obtain ⟨k1, k2, k3⟩ := h4 z hz
 exact ⟨Nat.lt_of_lt_of_le k1 hs, (he z k1).trans k2, k3⟩
theorem MidP.netw {own own' : Nat → Nat} {L L' : List LB} {C C' : List CB} (h1 : PlayR w0 B V v6 v7 w own ids L C G T D E R sL sC) (h3 : Pend own V v6 v7 w uL uC R') (h4 : ∀ z, K z → z < w.heap.size ∧ KK own V v6 v7 z)
  (hp : plainN L' C' = N) (hn : NetW w' own' B L' C' G) (hx : Ext w own own') (hf : FrO own netO w w') : MidP w0 B V v6 v7 K ids G T D E N R sL sC R' uL uC w' ∧ FrK K w w' :=
 have hfa : FrO own allO w w' := hf.mono (fun c hc => .inl hc)
 ⟨⟨⟨own', L', C', h1.netCall hn hx hf, hp, h3.call hx hfa, stillKK h4 hx hf.size⟩⟩, frKK h4 hfa⟩
theorem MidP.listen (s : ByteArray) (p most : Int) (h : MidP w0 B V v6 v7 K ids G T D E N R sL sC R' uL uC w) (hs : s.size ≤ 1000000) :
  Calls Tryz.prog 15 #[.pointer (some ⟨B.n, 0, none⟩), .agg #[.string s, .int .i64 p], .int .i64 most] w fun e w' => e = .returned (.tuple #[.int .i64 (PN.listen N s p most (addrB s.data.toList p)).2.1, .agg #[.string (PN.listen N s p most (addrB s.data.toList p)).2.2.1.1, .int .i64 (PN.listen N s p most (addrB s.data.toList p)).2.2.1.2], .int .i64 (PN.listen N s p most (addrB s.data.toList p)).2.2.2]) ∧ MidP w0 B V v6 v7 K ids G T D E ((PN.listen N s p most (addrB s.data.toList p)).1) R sL sC R' uL uC w' ∧ FrK K w w' := by
 obtain ⟨⟨own, L, C, h1, rfl, h3, h4⟩⟩ := h
 refine (netListen_w s p most w h1.net hs).mono ?_
 rintro e w' ⟨own', L', he, hp, hn, hx, hf⟩
 exact ⟨he, MidP.netw h1 h3 h4 hp hn hx hf⟩
theorem MidP.accept (r : Int) (h : MidP w0 B V v6 v7 K ids G T D E N R sL sC R' uL uC w) (hr : -9223372036854775808 ≤ r) (hr' : r ≤ 9223372036854775807) (hG : G ≤ 1000000) :
  Calls Tryz.prog 17 #[.pointer (some ⟨B.n, 0, none⟩), .int .i64 r] w fun e w' => e = .returned (.tuple #[.int .i64 (PN.accept N r).2.1, .int .i64 (PN.accept N r).2.2]) ∧ MidP w0 B V v6 v7 K ids G T D E ((PN.accept N r).1) R sL sC R' uL uC w' ∧ FrK K w w' := by
 obtain ⟨⟨own, L, C, h1, rfl, h3, h4⟩⟩ := h
 refine (netAccept_w r w h1.net hr hr' (by omega)).mono ?_
 rintro e w' ⟨L', he, hp, hn, hf⟩
 exact ⟨he, MidP.netw h1 h3 h4 hp hn (Ext.refl _ _) hf⟩
theorem MidP.hang (r en : Int) (h : MidP w0 B V v6 v7 K ids G T D E N R sL sC R' uL uC w) (hr : -9223372036854775808 ≤ r) (hr' : r ≤ 9223372036854775807) (hG : G ≤ 1000000) :
  Calls Tryz.prog 22 #[.pointer (some ⟨B.n, 0, none⟩), .int .i64 r, .int .i64 en] w fun e w' => e = .returned (.int .i64 (PN.hangN N r en).2) ∧ MidP w0 B V v6 v7 K ids G T D E ((PN.hangN N r en).1) R sL sC R' uL uC w' ∧ FrK K w w' := by
 obtain ⟨⟨own, L, C, h1, rfl, h3, h4⟩⟩ := h
 refine (netHang_w w r en h1.net (by omega) hr hr').mono ?_
 rintro e w' ⟨own', C', he, hp, hn, hx, hf⟩
 exact ⟨he, MidP.netw h1 h3 h4 hp hn hx hf⟩
theorem MidP.close (r : Int) (h : MidP w0 B V v6 v7 K ids G T D E N R sL sC R' uL uC w) (hr : -9223372036854775808 ≤ r) (hr' : r ≤ 9223372036854775807) (hG : G ≤ 1000000) :
  Calls Tryz.prog 19 #[.pointer (some ⟨B.n, 0, none⟩), .int .i64 r] w fun e w' => ∃ v, e = .returned (.tuple #[v, .int .i64 (PN.close N r).2.2]) ∧ RowOf w' w.heap.size v ((PN.close N r).2.1.map (Value.int .i64)) ∧ MidP w0 B V v6 v7 K ids G T D E (PN.close N r).1 R sL sC R' uL uC w' ∧ FrK K w w' := by
 obtain ⟨⟨own, L, C, h1, rfl, h3, h4⟩⟩ := h
 refine (netClose_w r w h1.net hr hr' (by omega)).mono ?_
 rintro e w' ⟨v, own', L', C', he, hv, hp, hn, hx, hf⟩
 exact ⟨v, he, hv, MidP.netw h1 h3 h4 hp hn hx hf⟩
theorem MidP.tried (k : Nat) (x : PN.PD) (now : Int) (h : MidP w0 B V v6 v7 K ids G T D E N R sL sC R' uL uC w) (hx : D[k]? = some x) (hG : G ≤ 1000000) (hT : T ≤ 1000000) :
  Calls Tryz.prog 42 #[.pointer (some ⟨(ids k).1, 0, none⟩), .pointer (some ⟨B.n, 0, none⟩), .int .u64 now] w fun e w' =>
   e = .returned (.tuple #[.int .i64 (PN.tryD now x N).2.2.1, .int .i64 (PN.tryD now x N).2.2.2]) ∧ MidP w0 B V v6 v7 K ids (G + 1) (T + 1) (D.set k (PN.tryD now x N).1) E (PN.tryD now x N).2.1 R sL sC R' uL uC w' ∧ FrK K w w' := by
 obtain ⟨⟨own, L, C, h1, rfl, h3, h4⟩⟩ := h
 have hT' := h1.trs x (List.mem_of_getElem? hx)
 refine (dialTry_w now w h1.net (h1.dials k x hx) (by omega) (by omega)).mono ?_
 rintro e w' ⟨own', L', C', he, hp, hn, hd, hx', hf⟩
 have hfa := hf.mono (fun c hc => tryO_all hc)
 have ht := tryD_tr now x (plainN L C)
 exact ⟨he, ⟨⟨own', L', C', h1.dial hx hn hd hx' hf (by omega) (by omega), hp, h3.call hx' hfa, stillKK h4 hx' hf.size⟩⟩, frKK h4 hfa⟩
theorem MidP.give (k : Nat) (x : PN.PD) (h : MidP w0 B V v6 v7 K ids G T D E N R sL sC R' uL uC w) (hx : D[k]? = some x) :
  Calls Tryz.prog 12 #[.pointer (some ⟨(ids k).1, 0, none⟩)] w fun e w' =>
   e = .returned (.int .i64 (giveD x).2) ∧ MidP w0 B V v6 v7 K ids G (T + 1) (D.set k (giveD x).1) E N R sL sC R' uL uC w' ∧ FrK K w w' := by
 obtain ⟨⟨own, L, C, h1, rfl, h3, h4⟩⟩ := h
 have hT' := h1.trs x (List.mem_of_getElem? hx)
 have hd := h1.dials k x hx
 unfold giveD
 by_cases hst : x.st = 0
 ·rw [if_neg (by simp [hst])]
  have hc := hd.cells
  rw [hst] at hc
  refine (dialGive_ok _ _ _ _ _ _ _ _ _ _ hc).mono ?_
  rintro e w' ⟨he, hd', f⟩
  have n1 : ∀ z ∈ [(ids k).1], own z = 4 * k + 3 := fun z hz => by rw [List.mem_singleton] at hz; rw [hz]; exact hd.own.1
  have hf : FrO own (tryO k) w w' := FrO.of f (fun z hz => .inr (n1 z hz))
  have hfa := hf.mono (fun c hc => tryO_all hc)
  have hn : NetW w' own B L C G := h1.net.keep f (fun z hz => by rw [n1 z hz]; unfold netO; omega)
  exact ⟨he, ⟨⟨own, L, C, h1.dial hx hn ⟨hd', hd.own, hd.adr, hd.sz, hd.cap, hd.tr⟩ (Ext.refl _ _) hf (Nat.le_refl _) (by show x.tr ≤ _; omega), rfl, h3.call (Ext.refl _ _) hfa, stillKK h4 (Ext.refl _ _) hf.size⟩⟩, frKK h4 hfa⟩
 ·rw [if_pos hst]
  refine (dialGive_state _ _ _ _ _ _ _ _ _ _ _ hd.cells hst).mono ?_
  rintro e w' ⟨he, rfl⟩
  refine ⟨he, ⟨⟨own, L, C, ?_, rfl, h3, h4⟩⟩, FrK.refl⟩
  obtain ⟨hk, rfl⟩ := List.getElem?_eq_some_iff.1 hx
  rw [List.set_getElem_self hk]
  exact h1.more (Nat.le_refl _) (by omega)
theorem MidP.setV (h : MidP w0 B V v6 v7 K ids G T D E N R sL sC R' uL uC w) (f : Fr [V] w w') (hb : Blk w' V 31 (two (slv uL) (slv uC))) : MidP w0 B V v6 v7 K ids G T D E N R' uL uC R' uL uC w' ∧ FrK K w w' := by
 obtain ⟨⟨own, L, C, h1, h2, h3, h4⟩⟩ := h
 have h5 := h1.setV h3 f hb
 exact ⟨⟨⟨own, L, C, h5, h2, h5.ref, stillKK h4 (Ext.refl _ _) f.size⟩⟩, ⟨_, f, fun x hx _ hk => (h4 x hk).2.2.1 (by simpa using hx)⟩⟩
theorem MidP.setW (h : MidP w0 B V v6 v7 K ids G T D E N R sL sC R' uL uC w) (f : Fr v7.ownBlock.toList w w') (hr : WRow w' w0.heap.size v7 E') (hl : E'.length = E.length) : MidP w0 B V v6 v7 K ids G T D E' N R sL sC R' uL uC w' ∧ FrK K w w' := by
 obtain ⟨⟨own, L, C, h1, h2, h3, h4⟩⟩ := h
 have h7 : ∀ z ∈ v7.ownBlock.toList, v7.ownBlock = some z := fun z hz => by simpa using hz
 exact ⟨⟨⟨own, L, C, h1.setW f hr hl, h2, h3.step ⟨_, f, fun x hx _ hk => hk.2.2.2 (h7 x hx)⟩, stillKK h4 (Ext.refl _ _) f.size⟩⟩, ⟨_, f, fun x hx _ hk => (h4 x hk).2.2.2.2 (h7 x hx)⟩⟩
theorem MidP.copied (h : MidP w0 B V v6 v7 K ids G T D E N R sL sC R sL sC w) {k b : Nat} {x : PN.PD} (hx : D[k]? = some x) (f1 : Fr [] w w1) (hb : w.heap.size ≤ b)
  (hc : DialIs w1 b (ids k).2 x.s x.p x.c x.un x.st x.conn x.er x.tr) (f2 : Fr [(ids k).1] w1 w2) (f3 : Fr v6.ownBlock.toList w2 w')
  (hr : w'.ownsRow w0.heap.size 41 1 v6 D.length ((ptrs ids D.length).set k (.pointer (some ⟨b, 0, none⟩)))) :
  MidP w0 B V v6 v7 (fun _ => False) (fun i => if i = k then (b, (ids k).2) else ids i) G T D E N R sL sC R sL sC w' := by
 obtain ⟨⟨own, L, C, h1, h2, h3, h4⟩⟩ := h
 obtain ⟨h5, h6⟩ := h1.copied hx f1 hb hc f2 f3 hr
 exact ⟨⟨_, L, C, h5, h2, h5.ref, fun z hz => hz.elim⟩⟩
end
theorem allD_len (now : Int) : ∀ (f : Nat) (D : List PN.PD) (N : PN.Net), (PN.allD now f D N).1.length = D.length
 | 0, D, N => rfl
 | f + 1, D, N => by
  unfold PN.allD
  split
  ·exact round_len now D N
  ·simp only
   rw [allD_len now f, round_len now D N]
def RefA (sL sC : Sli) (R R' : PN.Net) (rs : List Value) (e : Ending) (w1 w' : World) : Prop :=
 ∃ uL uC : Sli, e = .returned (.tuple (.agg (two (slv uL) (slv uC)).toArray :: rs).toArray) ∧ Fr [] w1 w' ∧ RefP w1 sL sC R R' uL uC w'
theorem RefQ.a {W : World} {sL sC : Sli} {R R' : PN.Net} {rs : List Value} {e : Ending} {w' : World} (h : RefQ W sL sC R R' rs e w') : RefA sL sC R R' rs e W w' := h
section
variable {w0 w w1 w2 w' : World} {B : NB} {V A : Nat} {v6 v7 : Value} {K K' : Nat → Prop} {ids ids' : Nat → Nat × Nat} {G G' T T' : Nat} {D D' E E' : List PN.PD} {N R R' R2 : PN.Net} {sL sC uL uC tL tC : Sli}
theorem MidP.listenB (s : ByteArray) (p most : Int) (h : MidP w0 B V v6 v7 K ids G T D E N R sL sC R sL sC w) (hm : PN.Match N R) (hs : s.size ≤ 1000000) : ∃ (N' R' : PN.Net) (r : Int) (s1 : ByteArray) (p1 er : Int), PN.Match N' R' ∧
  (∀ W, Fr [] w W → Calls Tryz.prog 14 #[.agg (two (slv sL) (slv sC)).toArray, .agg #[.string s, .int .i64 p], .int .i64 most] W fun e w' => RefA sL sC R R' [.int .i64 r, .agg #[.string s1, .int .i64 p1], .int .i64 er] e W w') ∧
  (∀ K uL uC W, MidP w0 B V v6 v7 K ids G T D E N R sL sC R' uL uC W → Calls Tryz.prog 15 #[.pointer (some ⟨B.n, 0, none⟩), .agg #[.string s, .int .i64 p], .int .i64 most] W fun e w' => e = .returned (.tuple #[.int .i64 r, .agg #[.string s1, .int .i64 p1], .int .i64 er]) ∧ MidP w0 B V v6 v7 K ids G T D E N' R sL sC R' uL uC w' ∧ FrK K W w') := by
 have hm' := PN.match_listen hm s p most (addrB s.data.toList p)
 have ha := h.adr hm
 have hr := h.ok
 have hw := h.wnd
 refine ⟨_, _, (PN.listen N s p most (addrB s.data.toList p)).2.1, (PN.listen N s p most (addrB s.data.toList p)).2.2.1.1, (PN.listen N s p most (addrB s.data.toList p)).2.2.1.2, (PN.listen N s p most (addrB s.data.toList p)).2.2.2, hm'.2, fun W f => ?_, fun K uL uC W hk => ?_⟩
 ·rw [← hm'.1]
  have hx := h.new f
  exact (refListen hx.rows.1 hx.rows.2 (h.fit hm) s p most ha hs).mono (fun e w' q => RefQ.a q)
 ·exact MidP.listen s p most hk hs
theorem MidP.acceptB (r : Int) (h : MidP w0 B V v6 v7 K ids G T D E N R sL sC R sL sC w) (hm : PN.Match N R) (hr1 : -9223372036854775808 ≤ r) (hr2 : r ≤ 9223372036854775807) (hG : G ≤ 1000000) : ∃ (N' R' : PN.Net) (k er : Int), PN.Match N' R' ∧
  (∀ W, Fr [] w W → Calls Tryz.prog 16 #[.agg (two (slv sL) (slv sC)).toArray, .int .i64 r] W fun e w' => RefA sL sC R R' [.int .i64 k, .int .i64 er] e W w') ∧
  (∀ K uL uC W, MidP w0 B V v6 v7 K ids G T D E N R sL sC R' uL uC W → Calls Tryz.prog 17 #[.pointer (some ⟨B.n, 0, none⟩), .int .i64 r] W fun e w' => e = .returned (.tuple #[.int .i64 k, .int .i64 er]) ∧ MidP w0 B V v6 v7 K ids G T D E N' R sL sC R' uL uC w' ∧ FrK K W w') := by
 have hm' := PN.match_accept hm h.ok.inv r
 have ha := h.adr hm
 have hr := h.ok
 have hw := h.wnd
 refine ⟨_, _, (PN.accept N r).2.1, (PN.accept N r).2.2, hm'.2, fun W f => ?_, fun K uL uC W hk => ?_⟩
 ·rw [← hm'.1]
  have hx := h.new f
  exact (refAccept hx.rows.1 hx.rows.2 (h.fit hm) r).mono (fun e w' q => RefQ.a q)
 ·exact MidP.accept r hk hr1 hr2 hG
theorem MidP.hangB (r : Int) (h : MidP w0 B V v6 v7 K ids G T D E N R sL sC R sL sC w) (hm : PN.Match N R) (hr1 : -9223372036854775808 ≤ r) (hr2 : r ≤ 9223372036854775807) (hG : G ≤ 1000000) : ∃ (N' R' : PN.Net) (er : Int), PN.Match N' R' ∧
  (∀ W, Fr [] w W → Calls Tryz.prog 21 #[.agg (two (slv sL) (slv sC)).toArray, .int .i64 r, .int .i64 0] W fun e w' => RefA sL sC R R' [.int .i64 er] e W w') ∧
  (∀ K uL uC W, MidP w0 B V v6 v7 K ids G T D E N R sL sC R' uL uC W → Calls Tryz.prog 22 #[.pointer (some ⟨B.n, 0, none⟩), .int .i64 r, .int .i64 0] W fun e w' => e = .returned (.int .i64 er) ∧ MidP w0 B V v6 v7 K ids G T D E N' R sL sC R' uL uC w' ∧ FrK K W w') := by
 have hm' := PN.match_hang hm h.ok.inv r 0
 have ha := h.adr hm
 have hr := h.ok
 have hw := h.wnd
 refine ⟨_, _, (PN.hangN N r 0).2, hm'.2, fun W f => ?_, fun K uL uC W hk => ?_⟩
 ·rw [← hm'.1]
  have hx := h.new f
  exact ((refHang hx.rows.1 hx.rows.2 (h.fit hm) r 0 (.inl rfl)).mono (fun e w' q => RefOut.q q)).mono (fun e w' q => RefQ.a q)
 ·exact MidP.hang r 0 hk hr1 hr2 hG
theorem MidP.closeB (r : Int) (h : MidP w0 B V v6 v7 K ids G T D E N R sL sC R sL sC w) (hm : PN.Match N R) (hr1 : -9223372036854775808 ≤ r) (hr2 : r ≤ 9223372036854775807) (hG : G ≤ 1000000) : ∃ (N' R' : PN.Net) (l : List Int) (er : Int), PN.Match N' R' ∧
  (∀ W, Fr [] w W → Calls Tryz.prog 18 #[.agg (two (slv sL) (slv sC)).toArray, .int .i64 r] W fun e w' => ∃ uL uC sq : Sli, e = .returned (.tuple #[.agg (two (slv uL) (slv uC)).toArray, slv sq, .int .i64 er]) ∧ Fr [] W w' ∧ RefP W sL sC R R' uL uC w' ∧ RowV w' (slv sq) l.length 1 (intsV l) ∧ (∀ g, (slv sq).ownBlock = some g → W.heap.size ≤ g) ∧ l.length ≤ 1000000) ∧
  (∀ K uL uC W, MidP w0 B V v6 v7 K ids G T D E N R sL sC R' uL uC W → Calls Tryz.prog 19 #[.pointer (some ⟨B.n, 0, none⟩), .int .i64 r] W fun e w' => ∃ v, e = .returned (.tuple #[v, .int .i64 er]) ∧ (l.length ≤ 1000000 → IntRow w' v l) ∧ MidP w0 B V v6 v7 K ids G T D E N' R sL sC R' uL uC w' ∧ FrK K W w') := by
 have hm' := PN.match_close hm h.ok.inv h.wnd r
 have hq := h.ok.q
 refine ⟨_, _, (PN.close N r).2.1, (PN.close N r).2.2, hm'.2, fun W f => ?_, fun K uL uC W hk => ?_⟩
 ·rw [← hm'.1]
  have hx := h.new f
  refine (refClose hx.rows.1 hx.rows.2 (h.fit hm) r).mono ?_
  rintro e w' ⟨uL, uC, sq, h1, h2, h3, h4, h5⟩
  refine ⟨uL, uC, sq, h1, h4, h5, h2, h3, ?_⟩
  rw [hm'.1]
  unfold PN.close
  cases e : PN.byRef N.L r with
  | none => simp
  | some x =>
   have := hq x (List.mem_of_find?_eq_some e)
   simp only
   omega
 ·refine (MidP.close r hk hr1 hr2 hG).mono ?_
  rintro e w' ⟨v, h1, h2, h3⟩
  refine ⟨v, h1, fun hl => ?_, h3⟩
  rcases h2 with ⟨q1, rfl⟩ | ⟨g, cap, rfl, q1, q2, q3⟩
  ·exact .inl ⟨List.map_eq_nil_iff.1 q1, none, 0, rfl⟩
  ·refine .inr ⟨g, 0, cap, by rw [List.length_map], by unfold maxLen; omega, fun i x hx => ?_⟩
   rw [Nat.zero_add]
   exact q3 i _ (by rw [List.getElem?_map, hx]; rfl)
theorem MidP.tryB (k : Nat) (x : PN.PD) (now : Int) (h : MidP w0 B V v6 v7 K ids G T D E N R sL sC R sL sC w) (hm : PN.Match N R) (hx : D[k]? = some x) (hnow : now ≤ 18446744073709551615) (hG : G ≤ 1000000) (hT : T ≤ 1000000) : ∃ (y : PN.PD) (N' R' : PN.Net) (cn er : Int), PN.Match N' R' ∧
  (∀ W, Fr [] w W → Calls Tryz.prog 9 #[.agg (wD x).toArray, .agg (two (slv sL) (slv sC)).toArray, .int .u64 now] W fun e w' => ∃ uL uC : Sli, e = .returned (.tuple #[.agg (wD y).toArray, .agg (two (slv uL) (slv uC)).toArray, .int .i64 cn, .int .i64 er]) ∧ Fr [] W w' ∧ RefP W sL sC R R' uL uC w') ∧
  (∀ K uL uC W, MidP w0 B V v6 v7 K ids G T D E N R sL sC R' uL uC W → Calls Tryz.prog 10 #[.pointer (some ⟨(ids k).1, 0, none⟩), .pointer (some ⟨B.n, 0, none⟩), .int .u64 now, .int .i64 cn, .int .i64 er] W fun e w' => e = .returned (.bool true) ∧ MidP w0 B V v6 v7 K ids (G + 1) (T + 1) (D.set k y) E N' R sL sC R' uL uC w' ∧ FrK K W w') := by
 obtain ⟨m1, m2, m3⟩ := match_try hm h.ok.inv now x hnow
 obtain ⟨hd, ha, hs, hc, ht0, ht1⟩ := h.dial hx
 refine ⟨(PN.tryD now x N).1, _, _, (PN.tryD now x N).2.2.1, (PN.tryD now x N).2.2.2, m2, fun W f => ?_, fun K uL uC W hk => ?_⟩
 ·rw [← m3, ← m1]
  have hr := (h.new f).rows
  refine (refTry x sL sC R now W hr.1 hr.2 (h.fit hm) hs ha hc ⟨ht0, by omega⟩).mono ?_
  rintro e w' ⟨uL, uC, h1, h2, h3⟩
  exact ⟨uL, uC, h1, h2, h3⟩
 ·refine (tries_any now _ _ _ _ _ _ (MidP.tried k x now hk hx hG hT)).mono ?_
  rintro e w' ⟨rfl, h1⟩
  exact ⟨by simp, h1⟩
theorem MidP.giveB (k : Nat) (x : PN.PD) (h : MidP w0 B V v6 v7 K ids G T D E N R sL sC R sL sC w) (hx : D[k]? = some x) : ∃ (y : PN.PD) (er : Int),
  (∀ W, Calls Tryz.prog 11 #[.agg (wD x).toArray] W fun e w' => e = .returned (.tuple #[.agg (wD y).toArray, .int .i64 er]) ∧ Fr [] W w') ∧
  (∀ K W, MidP w0 B V v6 v7 K ids G T D E N R sL sC R sL sC W → Calls Tryz.prog 12 #[.pointer (some ⟨(ids k).1, 0, none⟩)] W fun e w' => e = .returned (.int .i64 er) ∧ MidP w0 B V v6 v7 K ids G (T + 1) (D.set k y) E N R sL sC R sL sC w' ∧ FrK K W w') :=
 ⟨_, _, fun W => refGive x W, fun K W hk => MidP.give k x hk hx⟩
theorem MidP.allRef {a7 : Option Addr} {c7 : Nat} (now : Int) (h : MidP w0 B V v6 (.slice a7 D.length c7) K ids G T D D N R sL sC R sL sC w) (hm : PN.Match N R) (hnow : now ≤ 18446744073709551615) (hn : D.length ≤ 8) (hT : T ≤ 1000000) :
  Calls Tryz.prog 23 #[.slice a7 D.length c7, .agg (two (slv sL) (slv sC)).toArray, .int .u64 now] w fun e w' => ∃ (uL uC : Sli) (R' : PN.Net), e = .returned (.tuple #[.agg (two (slv uL) (slv uC)).toArray, .int .i64 (PN.allD now (PN.trying D + 1) D N).2.2]) ∧ PN.Match (PN.allD now (PN.trying D + 1) D N).2.1 R' ∧ MidP w0 B V v6 (.slice a7 D.length c7) K ids G T D (PN.allD now (PN.trying D + 1) D N).1 N R sL sC R' uL uC w' ∧ FrK K w w' := by
 obtain ⟨⟨own, L, C, h1, h2, h3, h4⟩⟩ := h
 have hok : PN.Ok N := by rw [← h2]; exact h1.net.ok
 have he : Ext w own (ownNew w own 4) := Ext.new _ _ _
 have h5 := h1.ext he
 have l7 := (wrowLt h5.r7)
 have m7 : ∀ z ∈ (Value.slice a7 D.length c7).ownBlock.toList, (Value.slice a7 D.length c7).ownBlock = some z := fun z hz => by simpa using hz
 refine (refAll a7 c7 w0.heap.size D sL sC N R now T w h1.r7 (fun w' f => h1.ref w' ⟨_, f, fun x hx hl hk => ?_⟩) hm hok (fun x hx => ?_) (fun x hx => ?_) (by omega) (by omega) hnow).mono ?_
 ·rcases List.mem_cons.1 hx with hx | hx
  ·omega
  ·exact hk.2.2.2 (m7 x hx)
 ·obtain ⟨i, hi⟩ := List.getElem?_of_mem hx
  have hd := h1.dials i x hi
  exact ⟨hd.sz, hd.adr, hd.cap⟩
 ·obtain ⟨i, hi⟩ := List.getElem?_of_mem hx
  exact ⟨(h1.dials i x hi).tr, h1.trs x hx⟩
 ·rintro e w' ⟨uL, uC, R', rfl, hrow, hm', hok', hrp, f⟩
  have h6 := h5.setW f hrow (allD_len _ _ _ _)
  have fk : FrK (KK (ownNew w own 4) V v6 (.slice a7 D.length c7)) w w' := ⟨_, f, fun x hx _ hk => hk.2.2.2 (m7 x hx)⟩
  have hk4 := stillKK h4 he (Nat.le_refl _)
  refine ⟨uL, uC, R', rfl, hm', ⟨⟨_, L, C, h6, h2, ?_, stillKK hk4 (Ext.refl _ _) f.size⟩⟩, ⟨_, f, fun x hx _ hk => (h4 x hk).2.2.2.2 (m7 x hx)⟩⟩
  rcases hrp with ⟨rfl, rfl, rfl⟩ | ⟨o1, o2⟩
  ·exact h5.ref.step fk
  ·refine stay_newP o1 o2 (fun z hz _ => ⟨ownNew_ge hz, fun hv => ?_, fun hv => ?_, fun hv => ?_⟩)
   ·have := h1.var.lt; omega
   ·have := rowLt h1.r6 z hv; omega
   ·have := (l7 z hv).2; omega
theorem trying_le (D : List PN.PD) : PN.trying D ≤ D.length := by
 unfold PN.trying
 exact List.length_filter_le _ _
theorem MidP.allP (b cap : Nat) (now : Int) (h : MidP w0 B V v6 v7 K ids G T D E N R sL sC R' uL uC w) (hb : K b) (hc : ∀ i, i < D.length → w.cell? ⟨b, i, none⟩ = some (.pointer (some ⟨(ids i).1, 0, none⟩))) (hn : D.length ≤ 8) (hG : G ≤ 1000000) (hT : T ≤ 1000000) :
  Calls Tryz.prog 24 #[.slice (some ⟨b, 0, none⟩) D.length cap, .pointer (some ⟨B.n, 0, none⟩), .int .u64 now] w fun e w' => e = .returned (.tuple #[.int .i64 (PN.allD now (PN.trying D + 1) D N).2.2, .int .i64 0]) ∧ MidP w0 B V v6 v7 K ids (G + 20000) (T + 1001) (PN.allD now (PN.trying D + 1) D N).1 E (PN.allD now (PN.trying D + 1) D N).2.1 R sL sC R' uL uC w' ∧ FrK K w w' := by
 obtain ⟨⟨own, L, C, h1, rfl, h3, h4⟩⟩ := h
 obtain ⟨k1, k2, k3⟩ := h4 b hb
 have htl := trying_le D
 refine (all_w (G := G) (T0 := T) b cap now w h1.net h1.dials (by omega) (by omega) h1.trs (by omega) hc ⟨by omega, by omega⟩ k1).mono ?_
 rintro e w' ⟨own', L', C', D', r, rfl, rfl, rfl, h5, h6, h7, h8, h9, hx, hf⟩
 exact ⟨rfl, ⟨⟨own', L', C', h1.call (h7.mono (by omega)) h8 h6 hx hf (fun x hx => by have := h9 x hx; omega), h5, h3.call hx hf, stillKK h4 hx hf.size⟩⟩, frKK h4 hf⟩
theorem MidP.allNil (now : Int) (h : MidP w0 B V v6 v7 K ids G T D E N R sL sC R' uL uC w) (hD : D = []) :
  Calls Tryz.prog 24 #[.slice none 0 0, .pointer (some ⟨B.n, 0, none⟩), .int .u64 now] w fun e w' => e = .returned (.tuple #[.int .i64 (PN.allD now (PN.trying D + 1) D N).2.2, .int .i64 0]) ∧ MidP w0 B V v6 v7 K ids (G + 20000) (T + 1001) (PN.allD now (PN.trying D + 1) D N).1 E (PN.allD now (PN.trying D + 1) D N).2.1 R sL sC R' uL uC w' ∧ FrK K w w' := by
 subst hD
 have h' := h
 obtain ⟨⟨own, L, C, h1, h2, h3, h4⟩⟩ := h
 refine (all_empty now w h1.net.net).mono ?_
 rintro e w' ⟨rfl, f⟩
 refine ⟨rfl, ?_, FrK.new f⟩
 exact (h'.new f).more (by omega) (by omega)
end
theorem own_at {w : World} {lo n : Nat} {e : TypeId} {v : Value} {xs : List Value} (h : w.ownsRow lo e 1 v n xs) (hn : 0 < n) :
  ∃ g cap, v = .slice (some ⟨g, 0, none⟩) n cap ∧ (lo ≤ g ∧ g < w.heap.size) ∧ (∀ j u, xs[j]? = some u → w.cell? ⟨g, j, none⟩ = some u) := by
 have hlt := h.lt
 obtain ⟨hl, h0 | ⟨g, cap, cur, hv, hb, hh, h1, h2, h3, h4⟩⟩ := h
 ·omega
 ·refine ⟨g, cap, hv, hlt g (by rw [hv]; rfl), fun j u hj => ?_⟩
  have := World.ownsRow.cells (w := w) (base := lo) (e := e) (size := 1) (v := v) (n := n) (xs := xs) ⟨hl, .inr ⟨g, cap, cur, hv, hb, hh, h1, h2, h3, h4⟩⟩ (g := g) (by rw [hv]; rfl) j u hj
  simpa [Addr.add_lit] using this
section
variable {w w' w1 w2 : World} {S : List Nat}
theorem kept3 {g o V : Nat} {xs ys : List Value} {t : TypeId} {p q : Nat} {v : Value} (h : LiesAt w g o xs ∧ Blk w V t ys ∧ w.cell? ⟨p, q, none⟩ = some v) (f : Fr [] w w') : LiesAt w' g o xs ∧ Blk w' V t ys ∧ w'.cell? ⟨p, q, none⟩ = some v :=
 ⟨h.1.keep f (by simp), h.2.1.keep f (by simp), f.keep h.2.2 (by simp)⟩
theorem Fr.onto (h : Fr [] w w1) (k : Fr S w1 w2) (hS : ∀ z ∈ S, w.heap.size ≤ z) : Fr [] w w2 := h.trans k (fun x hx hl => by have := hS x hx; omega)
theorem RefP.far2 {W : World} {sL sC uL uC : Sli} {R R' : PN.Net} (h : RefP W sL sC R R' uL uC w1) (f : Fr S w1 w2) (hS : ∀ z ∈ S, z < W.heap.size ∨ w1.heap.size ≤ z) : RefP W sL sC R R' uL uC w2 := by
 rcases h with h | ⟨h1, h2⟩
 ·exact .inl h
 ·have kp : ∀ {v : Value} {n sz : Nat} {xs : List Value}, RowV w1 v n sz xs → (∀ g, v.ownBlock = some g → W.heap.size ≤ g) → RowV w2 v n sz xs := fun hv hb => by
   refine ⟨hv.1, hv.2.imp id ?_⟩
   rintro ⟨g, off, c, rfl, hg, hc⟩
   refine ⟨g, off, c, rfl, Nat.lt_of_lt_of_le hg f.size, fun j u hj => f.keep (hc j u hj) (fun hm => ?_)⟩
   have := hb g rfl
   rcases hS g hm with h | h <;> omega
  obtain ⟨Xs, a1, a2, a3⟩ := h1
  obtain ⟨⟨Ys, r1, r2⟩, r3⟩ := h2
  refine .inr ⟨⟨Xs, a1.mono (fun X y ⟨q, e1, e2, e3⟩ => ⟨q, e1, kp e2 e3, e3⟩), kp a2 a3, a3⟩, ⟨⟨Ys, ⟨r1.len, r1.sz, r1.one, fun i X y hX hy => ?_⟩, kp r2 r3⟩, r3⟩⟩
  obtain ⟨q, e1, e2⟩ := r1.el i X y hX hy
  rw [List.getElem?_map] at hy
  obtain ⟨y0, hy0, rfl⟩ := Option.map_eq_some_iff.1 hy
  exact ⟨q, e1, emb_any e2⟩
end
def Out32 (w1 : World) (sL sC : Sli) (R R' : PN.Net) (y : PN.PD) (cn er : Int) (s16 s17 s18 s19 : Value) (wc : World) : Prop :=
 ∃ (E16 E17 : Nat) (uL uC : Sli), s16 = .pointer (some ⟨E16, 0, none⟩) ∧ s17 = .pointer (some ⟨E17, 0, none⟩) ∧ s18 = .int .i64 cn ∧ s19 = .int .i64 er ∧ Fr [] w1 wc ∧ RefP w1 sL sC R R' uL uC wc ∧
  Blk wc E16 46 (wD y) ∧ Blk wc E17 31 (two (slv uL) (slv uC)) ∧ w1.heap.size ≤ E16 ∧ w1.heap.size ≤ E17
def PlayT (w0 : World) (B : NB) (V : Nat) (v6 v7 : Value) (n q : Nat) (w : World) : Prop :=
 ∃ (ids : Nat → Nat × Nat) (G T : Nat) (D : List PN.PD) (N R : PN.Net) (sL sC : Sli), MidP w0 B V v6 v7 (fun _ => False) ids G T D D N R sL sC R sL sC w ∧ PN.Match N R ∧ D.length = n ∧ G ≤ 20000 * (q + 1) ∧ T ≤ 1100 * (q + 1)
theorem eqAdT (s : ByteArray) (p : Int) : ∀ w : World, (binOp .eql 36 (.agg (sp s p).toArray) (.agg (sp s p).toArray)).run Tryz.prog w = .ok (.bool true) w := fun w => by
 have h := eqAdr s s p p w
 rw [decide_eq_true (And.intro rfl rfl)] at h
 exact h
theorem exec_bin {P : Program} {o : Oper} {a : Act} {w w' : World} {v : Value} {b : BinOp} {t r : TypeId} {x y : Operand} {X Y : Value} (ho : o.op = .binOp b t x y r) (hx : a.eval x = X) (hy : a.eval y = Y) (hg : (eqGuard b t x y X Y).run P w = .ok () w) (hrun : (binOp b t X Y).run P w = .ok v w') : (execOp a.eval o).run P w = .ok (.value v) w' := by
 simp [execOp, ho, hx, hy, hg, hrun]
section
variable {w w' w1 w2 : World}
theorem RowV.ints {K : Nat → Prop} {v : Value} {l : List Int} (h : RowV w v l.length 1 (intsV l)) (f : FrK K w w') (hk : l.length ≠ 0 → ∀ g, v.ownBlock = some g → K g) (hl : l.length ≤ 1000000) : IntRow w' v l := by
 obtain ⟨S, f1, f2⟩ := f.list
 rcases h.2 with ⟨h0, a, c, rfl⟩ | ⟨g, off, c, rfl, hg, hc⟩
 ·have : l = [] := List.eq_nil_of_length_eq_zero h0
  subst this
  exact .inl ⟨rfl, a, c, rfl⟩
 ·refine .inr ⟨g, off, c, rfl, by unfold maxLen; omega, fun i x hx => f1.keep (hc i _ ?_) (f2 g (hk (fun h0 => ?_) g rfl))⟩
  rotate_left
  ·rw [List.eq_nil_of_length_eq_zero h0] at hx
   cases hx
  unfold intsV
  rw [List.getElem?_map, hx]
  rfl
theorem give_any {d u : Nat} {s : ByteArray} {p c un st conn er tr : Int} (h : DialIs w d u s p c un st conn er tr) :
  Calls Tryz.prog 12 #[.pointer (some ⟨d, 0, none⟩)] w fun e w' => ∃ x, e = .returned (.int .i64 x) ∧ Fr [d] w w' := by
 by_cases hst : st = 0
 ·subst hst
  refine (dialGive_ok _ _ _ _ _ _ _ _ _ _ h).mono ?_
  rintro e w' ⟨rfl, _, f⟩
  exact ⟨_, rfl, f⟩
 ·refine (dialGive_state _ _ _ _ _ _ _ _ _ _ _ h hst).mono ?_
  rintro e w' ⟨rfl, rfl⟩
  exact ⟨_, rfl, Fr.refl _ _⟩
variable {w0 : World} {B : NB} {V : Nat} {v6 v7 : Value} {K K' : Nat → Prop} {ids : Nat → Nat × Nat} {G T : Nat} {D E : List PN.PD} {N R R' : PN.Net} {sL sC uL uC : Sli}
theorem MidP.at6 {g6 n c6 : Nat} (h : MidP w0 B V (.slice (some ⟨g6, 0, none⟩) n c6) v7 K ids G T D E N R sL sC R' uL uC w) {k : Nat} (hk : k < D.length) : w.cell? ⟨g6, k, none⟩ = some (.pointer (some ⟨(ids k).1, 0, none⟩)) := by
 obtain ⟨g, c, hv, _, hl⟩ := own_at h.r6 (by omega)
 simp only [Value.slice.injEq, Option.some.injEq, Addr.mk.injEq, and_true] at hv
 obtain ⟨rfl, _, _⟩ := hv
 exact hl k _ (by unfold ptrs; simp [hk])
theorem MidP.at7 {g7 n c7 : Nat} (h : MidP w0 B V v6 (.slice (some ⟨g7, 0, none⟩) n c7) K ids G T D E N R sL sC R' uL uC w) {k : Nat} {x : PN.PD} (hx : E[k]? = some x) : LiesAt w g7 (k * 8) (wD x) := by
 obtain ⟨g, c, hv, _, hl⟩ := h.r7.lies hx
 simp only [Value.slice.injEq, Option.some.injEq, Addr.mk.injEq, and_true] at hv
 obtain ⟨rfl, _, _⟩ := hv
 exact hl
theorem MidP.r6give (h : MidP w0 B V v6 v7 K ids G T D E N R sL sC R' uL uC w) {k : Nat} {x : PN.PD} (hx : D[k]? = some x) (f1 : Fr [] w w1) (f2 : Fr [(ids k).1] w1 w2) : w2.ownsRow w0.heap.size 41 1 v6 D.length (ptrs ids D.length) := by
 obtain ⟨⟨own, L, C, h1, _⟩⟩ := h
 refine rowFr' (rowFr' h1.r6 f1 (fun g _ => by simp)) f2 (fun g hg hm => ?_)
 rw [List.mem_singleton] at hm
 have h3 := h1.o6 g hg
 rw [hm, (h1.dials k x hx).own.1] at h3
 omega
theorem MidP.end (h : MidP w0 B V v6 v7 K ids G T D D N R sL sC R sL sC w) : ∃ (own : Nat → Nat) (L : List LB) (C : List CB), PlayR w0 B V v6 v7 w own ids L C G T D D R sL sC ∧ plainN L C = N := by
 obtain ⟨⟨own, L, C, h1, h2, _⟩⟩ := h
 exact ⟨own, L, C, h1, h2⟩
theorem MidP.allRefN {a7 : Option Addr} {c7 n : Nat} (now : Int) (h : MidP w0 B V v6 (.slice a7 n c7) K ids G T D D N R sL sC R sL sC w) (hm : PN.Match N R) (hnow : now ≤ 18446744073709551615) (hl : D.length = n) (hn : n ≤ 8) (hT : T ≤ 1000000) : ∃ (D' : List PN.PD) (N' : PN.Net) (m : Int), D'.length = n ∧
  (Calls Tryz.prog 23 #[.slice a7 n c7, .agg (two (slv sL) (slv sC)).toArray, .int .u64 now] w fun e w' => ∃ (uL uC : Sli) (R' : PN.Net), e = .returned (.tuple #[.agg (two (slv uL) (slv uC)).toArray, .int .i64 m]) ∧ PN.Match N' R' ∧ MidP w0 B V v6 (.slice a7 n c7) K ids G T D D' N R sL sC R' uL uC w' ∧ FrK K w w') ∧
  (∀ K b c R' uL uC W, MidP w0 B V v6 (.slice a7 n c7) K ids G T D D' N R sL sC R' uL uC W → K b → (∀ i, i < n → W.cell? ⟨b, i, none⟩ = some (.pointer (some ⟨(ids i).1, 0, none⟩))) → G ≤ 1000000 → Calls Tryz.prog 24 #[.slice (some ⟨b, 0, none⟩) n c, .pointer (some ⟨B.n, 0, none⟩), .int .u64 now] W fun e w' => e = .returned (.tuple #[.int .i64 m, .int .i64 0]) ∧ MidP w0 B V v6 (.slice a7 n c7) K ids (G + 20000) (T + 1001) D' D' N' R sL sC R' uL uC w' ∧ FrK K W w') ∧
  (∀ K R' uL uC W, MidP w0 B V v6 (.slice a7 n c7) K ids G T D D' N R sL sC R' uL uC W → n = 0 → Calls Tryz.prog 24 #[.slice none 0 0, .pointer (some ⟨B.n, 0, none⟩), .int .u64 now] W fun e w' => e = .returned (.tuple #[.int .i64 m, .int .i64 0]) ∧ MidP w0 B V v6 (.slice a7 n c7) K ids (G + 20000) (T + 1001) D' D' N' R sL sC R' uL uC w' ∧ FrK K W w') := by
 subst hl
 exact ⟨_, _, _, allD_len _ _ _ _, MidP.allRef now h hm hnow hn hT, fun K b c R' uL uC W hk hb hc hG => MidP.allP b c now hk hb hc hn hG hT, fun K R' uL uC W hk h0 => MidP.allNil now hk (List.eq_nil_of_length_eq_zero h0)⟩
end
theorem sizePt : ∀ w, (sizeOf 41).run Tryz.prog w = .ok 1 w := fun w => by kernel_rfl
theorem ptrs_one (ids : Nat → Nat × Nat) (n : Nat) : ∀ u ∈ ptrs ids n, u.oneCell' = true := by
 intro u hu
 obtain ⟨i, _, rfl⟩ := List.mem_map.1 hu
 rfl
theorem rowvLt {w : World} {v : Value} {n sz : Nat} {xs : List Value} (h : RowV w v n sz xs) (g : Nat) (hg : v.ownBlock = some g) (hn : n ≠ 0) : g < w.heap.size := by
 rcases h.2 with ⟨h0, _⟩ | ⟨g', off, c, rfl, hl, _⟩
 ·exact absurd h0 hn
 ·simp only [Value.ownBlock, Option.some.injEq] at hg
  rw [← hg]
  exact hl
theorem is_same {w : World} {d u : Nat} {x : PN.PD} (h : DialIs w d u x.s x.p x.c x.un x.st x.conn x.er x.tr) :
  Calls Tryz.prog 29 #[.pointer (some ⟨d, 0, none⟩), .agg (wD x).toArray] w fun e w' => e = .returned (.bool true) ∧ Fr [] w w' := by
 refine (is_any d u x.s x.s x.p x.c x.un x.st x.conn x.er x.tr x.p x.c x.un x.st x.conn x.er x.tr w h).mono ?_
 rintro e w' ⟨rfl, f⟩
 exact ⟨by simp, f⟩
end Go.Proofs.YtgbmenfmaphciaaGreat
