/- DialHolds: one more dialing, as a plain law of the world. -/
import Derived.Test.YtgbmenfmaphciaaHd1
namespace Go.Proofs.Ytgbmenfmaphciaa
open Go.RowKit
open Go.Maps (Keyed)
set_option linter.unusedVariables false
set_option maxRecDepth 100000
set_option maxHeartbeats 4000000

def newPD (s : ByteArray) (p : Int) (c : Nat) (un : Int) : PN.PD := ⟨s, p, c, un, 0, 0, 0, 0⟩
theorem MadeR.step {w0 : World} {own0 : Nat → Nat} {B : NB} {k : Nat} {wr w3 w4 w5 : World} {own : Nat → Nat} {ids : Nat → Nat × Nat} {D : List PN.PD} {O : List St} {x6 x7 : Value} {s : ByteArray} {p un : Int} {c d u g6 cap6 g7 cap7 : Nat}
    (h : MadeR w0 own0 B w0.heap.size k wr own ids D O x6 x7) (hd : DialIs w3 d u s p c un 0 0 0 0) (ld : wr.heap.size ≤ d) (lu : wr.heap.size ≤ u) (f3 : Fr [] wr w3) (F4 : Fr x6.ownBlock.toList w3 w4) (F5 : Fr x7.ownBlock.toList w4 w5)
    (hv : addrB s.data.toList p = true) (hs : s.size ≤ 1000000) (hc : c ≤ 4096)
    (hown6 : w4.ownsRow w0.heap.size 31 1 (.slice (some ⟨g6, 0, none⟩) (D.length + 1) cap6) (D.length + 1) (ptrs ids D.length ++ [.pointer (some ⟨d, 0, none⟩)]))
    (hown7 : w5.ownsRow w0.heap.size 27 4 (.slice (some ⟨g7, 0, none⟩) (D.length + 1) cap7) (D.length + 1) (O.flatMap cellsOfSt ++ [.string s, .int .i64 p, .int .i64 (c : Int), .int .u64 un]))
    (hat6 : x6.ownBlock = some g6 ∨ w3.heap.size ≤ g6) (hat7 : x7.ownBlock = some g7 ∨ w3.heap.size ≤ g7) :
    ∃ own' ids', MadeR w0 own0 B w0.heap.size (k + 1) w5 own' ids' (D ++ [newPD s p c un]) (O ++ [⟨s, p, c, un⟩]) (.slice (some ⟨g6, 0, none⟩) (D.length + 1) cap6) (.slice (some ⟨g7, 0, none⟩) (D.length + 1) cap7) := by
  have z0 := h.fr.size
  have z3 := f3.size
  have e1 : Ext wr own (ownNew w3 (ownNew wr own (4 * D.length + 3)) 4) := (Ext.new wr own _).step (Ext.new w3 _ 4) z3
  obtain ⟨own', ho'⟩ : ∃ o, ownNew w3 (ownNew wr own (4 * D.length + 3)) 4 = o := ⟨_, rfl⟩
  have c6 : ∀ z ∈ x6.ownBlock.toList, own' z = 4 := fun z hz => by
    have hz' : x6.ownBlock = some z := by simpa using hz
    rw [← ho', e1 z (ownLt h.r6 z hz')]
    exact h.o6 z hz'
  have c7 : ∀ z ∈ x7.ownBlock.toList, own' z = 4 := fun z hz => by
    have hz' : x7.ownBlock = some z := by simpa using hz
    rw [← ho', e1 z (ownLt h.r7 z hz')]
    exact h.o7 z hz'
  have cn : ∀ z, w3.heap.size ≤ z → own' z = 4 := fun z hz => by rw [← ho']; exact ownNew_ge hz
  have cd : ∀ z, wr.heap.size ≤ z → z < w3.heap.size → own' z = 4 * D.length + 3 := fun z h1 h2 => by
    rw [← ho', Ext.new w3 _ 4 z h2]
    exact ownNew_ge h1
  have n0 : ∀ z, own' z = 4 → ¬ netO (own' z) := fun z hz hn => by rw [hz] at hn; unfold netO at hn; omega
  have no6 : ∀ g, x6.ownBlock = some g → g ∉ ([] : List Nat) := fun g _ => by simp
  have no7 : ∀ g, x7.ownBlock = some g → g ∉ ([] : List Nat) := fun g _ => by simp
  have r73 := rowFr h.r7 f3 no7
  have r74 := rowFr r73 F4 (ownApart h.r6 h.r7 (by decide))
  have hE : Ext wr own own' := by rw [← ho']; exact e1
  have dz := cell_lt hd.c0
  have uz := cell_lt hd.cu
  refine ⟨own', fun j => if j = D.length then (d, u) else ids j, ⟨⟨by have := h.len.1; simp; omega, by have := h.len.2; simp; omega⟩, ?_, ?_, ?_, ?_, ?_, ?_, (fun h => by simp at h), ?_, ?_, h.ext.step hE z0, ?_⟩⟩
  · exact (((h.net.ext hE).new f3).keep F4 (fun z hz => n0 z (c6 z hz))).keep F5 (fun z hz => n0 z (c7 z hz))
  · intro i y hi
    by_cases hl : i < D.length
    · rw [List.getElem?_append_left hl] at hi
      simp only [Nat.ne_of_lt hl, if_false]
      refine ((((h.dials i y hi).ext hE).keep f3 (fun z hz => by cases hz)).keep F4 (fun z hz => ?_)).keep F5 (fun z hz => ?_)
      · rw [c6 z hz]; omega
      · rw [c7 z hz]; omega
    · have hil := (List.getElem?_eq_some_iff.1 hi).1
      simp only [List.length_append, List.length_cons, List.length_nil] at hil
      obtain rfl : i = D.length := by omega
      rw [List.getElem?_append_right (Nat.le_refl _)] at hi
      simp at hi
      subst hi
      simp only [if_true]
      have hw3 : DialW w3 own' D.length d u (newPD s p c un) := ⟨hd, ⟨cd d ld dz, cd u lu uz⟩, hv, hs, hc, Int.le_refl _⟩
      refine (hw3.keep F4 (fun z hz => ?_)).keep F5 (fun z hz => ?_)
      · rw [c6 z hz]; omega
      · rw [c7 z hz]; omega
  · intro y hy
    rcases List.mem_append.1 hy with hy | hy
    · exact h.fresh y hy
    · simp only [List.mem_singleton] at hy
      subst hy
      exact ⟨rfl, rfl⟩
  · intro i h1 h2
    by_cases hl : i < D.length
    · have hl2 : i < O.length := by have := h.len.2; omega
      rw [List.getElem_append_left hl, List.getElem_append_left hl2]
      exact h.same i hl hl2
    · simp only [List.length_append, List.length_cons, List.length_nil] at h1
      obtain rfl : i = D.length := by omega
      have := h.len.2
      rw [List.getElem_append_right (Nat.le_refl _), List.getElem_append_right (by omega)]
      simp [newPD]
  · have hp : ptrs (fun j => if j = D.length then (d, u) else ids j) (D ++ [newPD s p c un]).length = ptrs ids D.length ++ [.pointer (some ⟨d, 0, none⟩)] := by
      simp only [ptrs, List.length_append, List.length_cons, List.length_nil, List.range_succ, List.map_append, List.map_cons, List.map_nil, if_true]
      congr 1
      refine List.map_congr_left fun i hi => ?_
      have := List.mem_range.1 hi
      simp [Nat.ne_of_lt this]
    rw [hp]
    have := rowFr hown6 F5 (fun g hg hm => by
      simp [Value.ownBlock] at hg
      subst hg
      exact ownApart r74 hown6 (by decide) g6 rfl hm)
    simpa using this
  · simpa [cellsOfSt] using hown7
  · intro g hg
    simp [Value.ownBlock] at hg
    subst hg
    rcases hat6 with h6 | h6
    · exact c6 g6 (by simp [h6])
    · exact cn g6 h6
  · intro g hg
    simp [Value.ownBlock] at hg
    subst hg
    rcases hat7 with h7 | h7
    · exact c7 g7 (by simp [h7])
    · exact cn g7 h7
  · have g1 : Fr [] w0 w4 := (h.fr.step f3).trans F4 (fun x hx hl => absurd hx (ownNe h.r6 hl))
    exact g1.trans F5 (fun x hx hl => absurd hx (ownNe h.r7 hl))
theorem MadeR.skip {w0 : World} {own0 : Nat → Nat} {B : NB} {k : Nat} {wr w3 : World} {own : Nat → Nat} {ids : Nat → Nat × Nat} {D : List PN.PD} {O : List St} {x6 x7 : Value}
    (h : MadeR w0 own0 B w0.heap.size k wr own ids D O x6 x7) (f3 : Fr [] wr w3) : MadeR w0 own0 B w0.heap.size (k + 1) w3 own ids D O x6 x7 :=
  ⟨⟨by have := h.len.1; omega, h.len.2⟩, h.net.new f3, h.dials.new f3, h.fresh, h.same, rowFr h.r6 f3 (fun g _ => by simp), rowFr h.r7 f3 (fun g _ => by simp), h.nil, h.o6, h.o7, h.ext, h.fr.step f3⟩
end Go.Proofs.Ytgbmenfmaphciaa
