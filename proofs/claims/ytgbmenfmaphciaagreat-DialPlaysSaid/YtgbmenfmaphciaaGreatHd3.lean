/- DialHolds: the dialings are made. -/
/- DialHolds: one more dialing, as a plain law of the world. -/
/- DialHolds: what holds between two calls. -/
import Derived.Test.YtgbmenfmaphciaaGreatFew
import Derived.Test.YtgbmenfmaphciaaGreatAll2
import Derived.Test.YtgbmenfmaphciaaGreatG9
import Derived.Deep.AppendLies
import Derived.Deep.RegionLaw
namespace Go.Proofs.YtgbmenfmaphciaaGreat
set_option linter.unusedVariables false
set_option linter.unusedSimpArgs false
set_option linter.unusedSectionVars false
open Go.RowKit
open Go.Maps (Keyed)
set_option linter.unusedVariables false
set_option maxRecDepth 100000
set_option maxHeartbeats 8000000
theorem rowFr {S : List Nat} {w w' : World} {base : Nat} {e : TypeId} {size : Nat} {v : Value} {n : Nat} {xs : List Value} (h : w.ownsRow base e size v n xs) (hf : Fr S w w') (hS : ∀ g, v.ownBlock = some g → g ∉ S) : w'.ownsRow base e size v n xs := by
 refine ⟨h.1, h.2.imp id ?_⟩
 rintro ⟨g, cap, cur, rfl, h2, h3, h4⟩
 exact ⟨g, cap, cur, rfl, h2, (hf.block g (Array.getElem?_eq_some_iff.1 h3).1 (hS g rfl)).trans h3, h4⟩
theorem ownNe {w : World} {base b : Nat} {e : TypeId} {size : Nat} {v : Value} {n : Nat} {xs : List Value} (h : w.ownsRow base e size v n xs) (hb : b < base) : b ∉ v.ownBlock.toList := by
 rcases h.2 with ⟨rfl, _⟩ | ⟨g, cap, cur, rfl, h2, h3, h4⟩
 ·simp [Value.ownBlock]
 ·simp [Value.ownBlock]; omega
theorem ownApart {w : World} {base base' : Nat} {e e' : TypeId} {size size' : Nat} {v v' : Value} {n n' : Nat} {xs xs' : List Value} (h : w.ownsRow base e size v n xs) (h' : w.ownsRow base' e' size' v' n' xs') (hne : e ≠ e') : ∀ g, v'.ownBlock = some g → g ∉ v.ownBlock.toList := by
 intro g hg hm
 rcases h.2 with ⟨rfl, _⟩ | ⟨g1, cap, cur, rfl, h2, h3, h4⟩
 ·simp [Value.ownBlock] at hm
 ·rcases h'.2 with ⟨rfl, _⟩ | ⟨g2, cap', cur', rfl, h2', h3', h4'⟩
  ·simp [Value.ownBlock] at hg
  ·simp [Value.ownBlock] at hg hm
   subst hg
   subst hm
   rw [h3] at h3'
   simp only [Option.some.injEq, Obj.cells.injEq] at h3'
   exact hne h3'.2.1
theorem ownLt {w : World} {base : Nat} {e : TypeId} {size : Nat} {v : Value} {n : Nat} {xs : List Value} (h : w.ownsRow base e size v n xs) : ∀ g, v.ownBlock = some g → g < w.heap.size := by
 intro g hg
 rcases h.2 with ⟨rfl, _⟩ | ⟨g1, cap, cur, rfl, h2, h3, h4⟩
 ·simp [Value.ownBlock] at hg
 ·simp [Value.ownBlock] at hg
  subst hg
  exact (Array.getElem?_eq_some_iff.1 h3).1
def ptrs (ids : Nat → Nat × Nat) (n : Nat) : List Value := (List.range n).map fun i => .pointer (some ⟨(ids i).1, 0, none⟩)
def cellsOfSt (x : St) : List Value := [.string x.s, .int .i64 x.p, .int .i64 x.c, .int .u64 x.un]
structure MadeR (w0 : World) (own0 : Nat → Nat) (B : NB) (base k : Nat) (w : World) (own : Nat → Nat) (ids : Nat → Nat × Nat) (D : List PN.PD) (O : List St) (v6 v7 : Value) : Prop where
 len : D.length ≤ k ∧ O.length = D.length
 net : NetW w own B [] [] 0
 dials : DialsW w own ids D
 fresh : ∀ x ∈ D, x.st = 0 ∧ x.tr = 0
 same : ∀ i (h : i < D.length) (h' : i < O.length), (D[i]).s = (O[i]).s ∧ (D[i]).p = (O[i]).p ∧ (D[i]).un = (O[i]).un
 r6 : w.ownsRow base 41 1 v6 D.length (ptrs ids D.length)
 r7 : w.ownsRow base 40 4 v7 D.length (O.flatMap cellsOfSt)
 nil : D.length = 0 → v6 = .slice none 0 0 ∧ v7 = .slice none 0 0
 o6 : ∀ g, v6.ownBlock = some g → own g = 4
 o7 : ∀ g, v7.ownBlock = some g → own g = 4
 ext : Ext w0 own0 own
 fr : Fr [] w0 w
set_option maxHeartbeats 4000000
def newPD (s : ByteArray) (p : Int) (c : Nat) (un : Int) : PN.PD := ⟨s, p, c, un, 0, 0, 0, 0⟩
theorem MadeR.step {w0 : World} {own0 : Nat → Nat} {B : NB} {k : Nat} {wr w3 w4 w5 : World} {own : Nat → Nat} {ids : Nat → Nat × Nat} {D : List PN.PD} {O : List St} {x6 x7 : Value} {s : ByteArray} {p un : Int} {c d u g6 cap6 g7 cap7 : Nat}
  (h : MadeR w0 own0 B w0.heap.size k wr own ids D O x6 x7) (hd : DialIs w3 d u s p c un 0 0 0 0) (ld : wr.heap.size ≤ d) (lu : wr.heap.size ≤ u) (f3 : Fr [] wr w3) (F4 : Fr x6.ownBlock.toList w3 w4) (F5 : Fr x7.ownBlock.toList w4 w5)
  (hv : addrB s.data.toList p = true) (hs : s.size ≤ 1000000) (hc : c ≤ 4096)
  (hown6 : w4.ownsRow w0.heap.size 41 1 (.slice (some ⟨g6, 0, none⟩) (D.length + 1) cap6) (D.length + 1) (ptrs ids D.length ++ [.pointer (some ⟨d, 0, none⟩)]))
  (hown7 : w5.ownsRow w0.heap.size 40 4 (.slice (some ⟨g7, 0, none⟩) (D.length + 1) cap7) (D.length + 1) (O.flatMap cellsOfSt ++ [.string s, .int .i64 p, .int .i64 (c : Int), .int .u64 un]))
  (hat6 : x6.ownBlock = some g6 ∨ w3.heap.size ≤ g6) (hat7 : x7.ownBlock = some g7 ∨ w3.heap.size ≤ g7) :
  ∃ own' ids', MadeR w0 own0 B w0.heap.size (k + 1) w5 own' ids' (D ++ [newPD s p c un]) (O ++ [⟨s, p, c, un⟩]) (.slice (some ⟨g6, 0, none⟩) (D.length + 1) cap6) (.slice (some ⟨g7, 0, none⟩) (D.length + 1) cap7) := by
 have z0 := h.fr.size
 have z3 := f3.size
 have e1 : Ext wr own (ownNew w3 (ownNew wr own (4 * D.length + 3)) 4) := (Ext.new wr own _).step (Ext.new w3 _ 4) z3
 obtain ⟨own', ho'⟩ : ∃ o, ownNew w3 (ownNew wr own (4 * D.length + 3)) 4 = o := ⟨_, rfl⟩
 have c6 : ∀ z ∈ x6.ownBlock.toList, own' z = 4 := fun z hz => by
  have hz' : x6.ownBlock = some z := by simpa using hz
  rw [← ho', e1 z (ownLt h.r6 z hz')]
  exact h.o6 z hz'
 have c7 : ∀ z ∈ x7.ownBlock.toList, own' z = 4 := fun z hz => by
  have hz' : x7.ownBlock = some z := by simpa using hz
  rw [← ho', e1 z (ownLt h.r7 z hz')]
  exact h.o7 z hz'
 have cn : ∀ z, w3.heap.size ≤ z → own' z = 4 := fun z hz => by rw [← ho']; exact ownNew_ge hz
 have cd : ∀ z, wr.heap.size ≤ z → z < w3.heap.size → own' z = 4 * D.length + 3 := fun z h1 h2 => by
  rw [← ho', Ext.new w3 _ 4 z h2]
  exact ownNew_ge h1
 have n0 : ∀ z, own' z = 4 → ¬ netO (own' z) := fun z hz hn => by rw [hz] at hn; unfold netO at hn; omega
 have no6 : ∀ g, x6.ownBlock = some g → g ∉ ([] : List Nat) := fun g _ => by simp
 have no7 : ∀ g, x7.ownBlock = some g → g ∉ ([] : List Nat) := fun g _ => by simp
 have r73 := rowFr h.r7 f3 no7
 have r74 := rowFr r73 F4 (ownApart h.r6 h.r7 (by decide))
 have hE : Ext wr own own' := by rw [← ho']; exact e1
 have dz := cell_lt hd.c0
 have uz := cell_lt hd.cu
 refine ⟨own', fun j => if j = D.length then (d, u) else ids j, ⟨⟨by have := h.len.1; simp; omega, by have := h.len.2; simp; omega⟩, ?_, ?_, ?_, ?_, ?_, ?_, (fun h => by simp at h), ?_, ?_, h.ext.step hE z0, ?_⟩⟩
 ·exact (((h.net.ext hE).new f3).keep F4 (fun z hz => n0 z (c6 z hz))).keep F5 (fun z hz => n0 z (c7 z hz))
 ·intro i y hi
  by_cases hl : i < D.length
  ·rw [List.getElem?_append_left hl] at hi
   simp only [Nat.ne_of_lt hl, if_false]
   refine ((((h.dials i y hi).ext hE).keep f3 (fun z hz => by cases hz)).keep F4 (fun z hz => ?_)).keep F5 (fun z hz => ?_)
   ·rw [c6 z hz]; omega
   ·rw [c7 z hz]; omega
  ·have hil := (List.getElem?_eq_some_iff.1 hi).1
   simp only [List.length_append, List.length_cons, List.length_nil] at hil
   obtain rfl : i = D.length := by omega
   rw [List.getElem?_append_right (Nat.le_refl _)] at hi
   simp at hi
   subst hi
   simp only [if_true]
   have hw3 : DialW w3 own' D.length d u (newPD s p c un) := ⟨hd, ⟨cd d ld dz, cd u lu uz⟩, hv, hs, hc, Int.le_refl _⟩
   refine (hw3.keep F4 (fun z hz => ?_)).keep F5 (fun z hz => ?_)
   ·rw [c6 z hz]; omega
   ·rw [c7 z hz]; omega
 ·intro y hy
  rcases List.mem_append.1 hy with hy | hy
  ·exact h.fresh y hy
  ·simp only [List.mem_singleton] at hy
   subst hy
   exact ⟨rfl, rfl⟩
 ·intro i h1 h2
  by_cases hl : i < D.length
  ·have hl2 : i < O.length := by have := h.len.2; omega
   rw [List.getElem_append_left hl, List.getElem_append_left hl2]
   exact h.same i hl hl2
  ·simp only [List.length_append, List.length_cons, List.length_nil] at h1
   obtain rfl : i = D.length := by omega
   have := h.len.2
   rw [List.getElem_append_right (Nat.le_refl _), List.getElem_append_right (by omega)]
   simp [newPD]
 ·have hp : ptrs (fun j => if j = D.length then (d, u) else ids j) (D ++ [newPD s p c un]).length = ptrs ids D.length ++ [.pointer (some ⟨d, 0, none⟩)] := by
   simp only [ptrs, List.length_append, List.length_cons, List.length_nil, List.range_succ, List.map_append, List.map_cons, List.map_nil, if_true]
   congr 1
   refine List.map_congr_left fun i hi => ?_
   have := List.mem_range.1 hi
   simp [Nat.ne_of_lt this]
  rw [hp]
  have := rowFr hown6 F5 (fun g hg hm => by
   simp [Value.ownBlock] at hg
   subst hg
   exact ownApart r74 hown6 (by decide) g6 rfl hm)
  simpa using this
 ·simpa [cellsOfSt] using hown7
 ·intro g hg
  simp [Value.ownBlock] at hg
  subst hg
  rcases hat6 with h6 | h6
  ·exact c6 g6 (by simp [h6])
  ·exact cn g6 h6
 ·intro g hg
  simp [Value.ownBlock] at hg
  subst hg
  rcases hat7 with h7 | h7
  ·exact c7 g7 (by simp [h7])
  ·exact cn g7 h7
 ·have g1 : Fr [] w0 w4 := (h.fr.step f3).trans F4 (fun x hx hl => absurd hx (ownNe h.r6 hl))
  exact g1.trans F5 (fun x hx hl => absurd hx (ownNe h.r7 hl))
theorem MadeR.skip {w0 : World} {own0 : Nat → Nat} {B : NB} {k : Nat} {wr w3 : World} {own : Nat → Nat} {ids : Nat → Nat × Nat} {D : List PN.PD} {O : List St} {x6 x7 : Value}
  (h : MadeR w0 own0 B w0.heap.size k wr own ids D O x6 x7) (f3 : Fr [] wr w3) : MadeR w0 own0 B w0.heap.size (k + 1) w3 own ids D O x6 x7 :=
 ⟨⟨by have := h.len.1; omega, h.len.2⟩, h.net.new f3, h.dials.new f3, h.fresh, h.same, rowFr h.r6 f3 (fun g _ => by simp), rowFr h.r7 f3 (fun g _ => by simp), h.nil, h.o6, h.o7, h.ext, h.fr.step f3⟩
def SlOf (v : Value) (n g : Nat) : Prop := (v = .slice none 0 0 ∧ n = 0) ∨ n ≠ 0 ∧ ∃ cap, v = .slice (some ⟨g, 0, none⟩) n cap
theorem SlOf.len {v : Value} {n g : Nat} {t e : TypeId} (ht : Tryz.prog.underlying t = some (.slice e)) (h : SlOf v n g) (W : World) : (Builtin.len_ #[t] 3 #[v]).run Tryz.prog W = .ok (.int .i64 n) W := by
 rcases h with ⟨rfl, rfl⟩ | ⟨_, cap, rfl⟩
 ·simp [Builtin.len_, run_underlying ht, goInt]
 ·simp [Builtin.len_, run_underlying ht, goInt]
structure HoldR (w0 : World) (B : NB) (ids : Nat → Nat × Nat) (O : List St) (g6 g7 : Nat) (w : World) (own : Nat → Nat) (L : List LB) (C : List CB) (G T : Nat) (D : List PN.PD) : Prop where
 net : NetW w own B L C G
 dials : DialsW w own ids D
 len : D.length = O.length
 same : ∀ i (h : i < D.length) (h' : i < O.length), (D[i]).s = (O[i]).s ∧ (D[i]).p = (O[i]).p ∧ (D[i]).un = (O[i]).un
 c6 : ∀ i, i < O.length → w.cell? ⟨g6, i, none⟩ = some (.pointer (some ⟨(ids i).1, 0, none⟩))
 c7 : ∀ i (h : i < O.length), w.cell? ⟨g7, i * 4, none⟩ = some (.string (O[i]).s) ∧ w.cell? ⟨g7, i * 4 + 1, none⟩ = some (.int .i64 (O[i]).p) ∧ w.cell? ⟨g7, i * 4 + 2, none⟩ = some (.int .i64 (O[i]).c) ∧ w.cell? ⟨g7, i * 4 + 3, none⟩ = some (.int .u64 (O[i]).un)
 o6 : O.length ≠ 0 → own g6 = 4 ∧ own g7 = 4
 old : ∀ z, z < w0.heap.size → own z = 4
 fr : Fr [] w0 w
 trs : ∀ x ∈ D, x.tr ≤ T
section
variable {w0 w w' : World} {B : NB} {ids : Nat → Nat × Nat} {O : List St} {g6 g7 : Nat} {own own' : Nat → Nat} {L L' : List LB} {C C' : List CB} {G G' T T' : Nat} {D D' : List PN.PD}
theorem HoldR.new (h : HoldR w0 B ids O g6 g7 w own L C G T D) (hf : Fr [] w w') : HoldR w0 B ids O g6 g7 w' own L C G T D :=
 ⟨h.net.new hf, h.dials.new hf, h.len, h.same, fun i hi => hf.keep (h.c6 i hi) (by simp), fun i hi => by
  obtain ⟨h1, h2, h3, h4⟩ := h.c7 i hi
  exact ⟨hf.keep h1 (by simp), hf.keep h2 (by simp), hf.keep h3 (by simp), hf.keep h4 (by simp)⟩, h.o6, h.old, h.fr.step hf, h.trs⟩
theorem frOld (h : Fr [] w0 w) (hold : ∀ z, z < w0.heap.size → own z = 4) (hf : FrO own allO w w') : Fr [] w0 w' := by
 obtain ⟨S, f1, f2⟩ := hf.list
 refine h.trans f1 (fun x hx hl => ?_)
 have := (f2 x hx).2
 rw [hold x hl] at this
 unfold allO netO at this
 omega
theorem cellOwn {b o : Nat} {v : Value} (hc : w.cell? ⟨b, o, none⟩ = some v) (hb : own b = 4) (hf : FrO own allO w w') : w'.cell? ⟨b, o, none⟩ = some v := by
 obtain ⟨S, f1, f2⟩ := hf.list
 refine f1.keep hc (fun hm => ?_)
 have := (f2 b hm).2
 rw [hb] at this
 unfold allO netO at this
 omega
theorem HoldR.call (h : HoldR w0 B ids O g6 g7 w own L C G T D) (hn : NetW w' own' B L' C' G') (hd : DialsW w' own' ids D') (hl : D'.length = D.length) (hs : ∀ i (h : i < D.length) (h' : i < D'.length), (D'[i]).s = (D[i]).s ∧ (D'[i]).p = (D[i]).p ∧ (D'[i]).un = (D[i]).un)
  (he : Ext w own own') (hf : FrO own allO w w') (ht : ∀ x ∈ D', x.tr ≤ T') : HoldR w0 B ids O g6 g7 w' own' L' C' G' T' D' :=
 ⟨hn, hd, hl.trans h.len, fun i h1 h2 => by
  obtain ⟨a1, a2, a3⟩ := hs i (by omega) h1
  obtain ⟨b1, b2, b3⟩ := h.same i (by omega) h2
  exact ⟨a1.trans b1, a2.trans b2, a3.trans b3⟩, fun i hi => cellOwn (h.c6 i hi) (h.o6 (by omega)).1 hf, fun i hi => by
  obtain ⟨h1, h2, h3, h4⟩ := h.c7 i hi
  have o7 := (h.o6 (by omega)).2
  exact ⟨cellOwn h1 o7 hf, cellOwn h2 o7 hf, cellOwn h3 o7 hf, cellOwn h4 o7 hf⟩, fun hO => by
  obtain ⟨h1, h2⟩ := h.o6 hO
  exact ⟨(he _ (cell_lt (h.c6 0 (by omega)))).trans h1, (he _ (cell_lt (h.c7 0 (by omega)).1)).trans h2⟩, fun z hz => (he z (Nat.lt_of_lt_of_le hz h.fr.size)).trans (h.old z hz), frOld h.fr h.old hf, ht⟩
theorem dialsNet (h : DialsW w own ids D) (he : Ext w own own') (hf : FrO own netO w w') : DialsW w' own' ids D := by
 obtain ⟨S, f1, f2⟩ := hf.list
 refine (h.ext he).keep f1 (fun z hz h3 => ?_)
 obtain ⟨hl, hn⟩ := f2 z hz
 rw [he z hl] at h3
 unfold netO at hn
 omega
theorem HoldR.netCall (h : HoldR w0 B ids O g6 g7 w own L C G T D) (hn : NetW w' own' B L' C' G') (he : Ext w own own') (hf : FrO own netO w w') : HoldR w0 B ids O g6 g7 w' own' L' C' G' T D :=
 h.call hn (dialsNet h.dials he hf) rfl (fun i h1 h2 => ⟨rfl, rfl, rfl⟩) he (hf.mono (fun c hc => .inl hc)) h.trs
theorem HoldR.tried {k : Nat} {now : Int} (h : HoldR w0 B ids O g6 g7 w own L C G T D) (hk : k < D.length) (hn : NetW w' own' B L' C' G') (hd : DialW w' own' k (ids k).1 (ids k).2 (PN.tryD now D[k] (plainN L C)).1) (he : Ext w own own') (hf : FrO own (tryO k) w w') :
  HoldR w0 B ids O g6 g7 w' own' L' C' G' (T + 1) (D.set k (PN.tryD now D[k] (plainN L C)).1) := by
 have hDk : D = D.take k ++ D[k] :: D.drop (k + 1) := by
  rw [List.getElem_cons_drop, List.take_append_drop]
 have hlk : (D.take k).length = k := by simp; omega
 have hset : D.set k (PN.tryD now D[k] (plainN L C)).1 = D.take k ++ (PN.tryD now D[k] (plainN L C)).1 :: D.drop (k + 1) := List.set_eq_take_append_cons_drop.trans (if_pos hk)
 have hds : DialsW w' own' ids (D.set k (PN.tryD now D[k] (plainN L C)).1) := by
  rw [hset]
  have h0 := h.dials
  rw [hDk] at h0
  exact DialsW.set h0 (by rw [hlk]; exact hd) he (by rw [hlk]; exact hf)
 refine h.call hn hds (by simp) (fun i h1 h2 => ?_) he (hf.mono (fun c hc => tryO_all hc)) (fun x hx => ?_)
 ·by_cases hik : i = k
  ·subst hik
   obtain ⟨a1, a2, a3, a4⟩ := PN.tryD_fix now D[i] (plainN L C)
   simp only [List.getElem_set_self]
   exact ⟨a1, a2, a4⟩
  ·simp only [List.getElem_set_ne (Ne.symm hik)]
   exact ⟨trivial, trivial, trivial⟩
 ·rcases List.mem_or_eq_of_mem_set hx with hx | rfl
  ·have := h.trs x hx; omega
  ·have := (tryD_tr now D[k] (plainN L C)).2
   have := h.trs D[k] (List.getElem_mem hk)
   omega
end
end Go.Proofs.YtgbmenfmaphciaaGreat
