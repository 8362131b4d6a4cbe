/- Two nets with bytes in one world, and blocks of a third that both keep; Restore over a net under way. -/
/- The law's own map of those who wait: rows of numbers that may begin within a block. -/
/- The law's own map of those who wait, in memory: looked up, appended to, cut, deleted from. -/
/- The law's own waits: whether a number stands in any row of the map. -/
/- The law's slice of calls in memory, and the contract of few. -/
/- The law ListenerHolds: what holds between its calls. -/
/- The law ListenerHolds: each of its calls, over both nets. -/
/- The law ListenerHolds: each of its calls, over both nets, with what it makes of those who wait. -/
import Derived.Test.YtmdhlodafjpnmaaGreatN18
import Derived.Test.YtmdhlodafjpnmaaGreatNQ
import Derived.ArgAppend
import Derived.Test.YtmdhlodafjpnmaaGreatRange
import Derived.Test.YtmdhlodafjpnmaaGreatLn1
set_option linter.unusedSectionVars false
namespace Go.Proofs.YtmdhlodafjpnmaaGreat
open Go.RowKit
open Go.Maps (Keyed)
set_option linter.unusedVariables false
set_option maxRecDepth 100000
set_option maxHeartbeats 4000000

/-- One net, that keeps the blocks of Q. -/
def OneG (Q : Nat → Prop) (B : NB) (N : NG) (G : Nat) (w : World) : Prop := ∃ K, LiveG K B N G w ∧ ∀ z, Q z → K z
/-- Two nets, that keep each other's blocks and those of Q. -/
def Two (Q : Nat → Prop) (B : NB) (N : NG) (G : Nat) (B2 : NB) (N2 : NG) (G2 : Nat) (w : World) : Prop :=
  ∃ K1 K2, LiveG K1 B N G w ∧ LiveG K2 B2 N2 G2 w ∧ (∀ z, z < w.heap.size → K1 z ∨ K2 z) ∧ ∀ z, Q z → K1 z ∧ K2 z
section
variable {Q Q' : Nat → Prop} {B B2 : NB} {N N2 N' : NG} {G G2 G' : Nat} {w w' : World}
theorem FrK.split {K : Nat → Prop} (h : FrK K w w') : ∃ S, Fr S w w' ∧ ∀ x ∈ S, x < w.heap.size ∧ ¬ K x := by
  obtain ⟨S, h1, h2⟩ := h
  refine ⟨S.filter (fun x => decide (x < w.heap.size)), h1.mono (fun x hx hl => List.mem_filter.2 ⟨hx, by simpa using hl⟩), fun x hx => ?_⟩
  obtain ⟨hx1, hx2⟩ := List.mem_filter.1 hx
  exact ⟨of_decide_eq_true hx2, h2 x hx1 (of_decide_eq_true hx2)⟩
theorem LiveG.lt {K : Nat → Prop} (h : LiveG K B N G w) {z : Nat} (hz : K z) : z < w.heap.size := by
  obtain ⟨own, L, C, _, _, h3⟩ := h
  exact (h3 z hz).1
theorem Two.swap (h : Two Q B N G B2 N2 G2 w) : Two Q B2 N2 G2 B N G w := by
  obtain ⟨K1, K2, h1, h2, h3, h4⟩ := h
  exact ⟨K2, K1, h2, h1, fun z hz => (h3 z hz).symm, fun z hz => ⟨(h4 z hz).2, (h4 z hz).1⟩⟩
theorem Two.one (h : Two Q B N G B2 N2 G2 w) : OneG Q B N G w := by
  obtain ⟨K1, K2, h1, h2, h3, h4⟩ := h
  exact ⟨K1, h1, fun z hz => (h4 z hz).1⟩
/-- A call of the first. -/
theorem Two.call {fn : FuncId} {args : Array Value} {P : Ending → World → Prop} (h : Two Q B N G B2 N2 G2 w) (hc : ∀ K, LiveG K B N G w → Calls Tryz.prog fn args w fun e w' => P e w' ∧ LiveG K B N' G' w' ∧ FrK K w w') :
    Calls Tryz.prog fn args w fun e w' => P e w' ∧ Two Q B N' G' B2 N2 G2 w' ∧ FrK Q w w' := by
  obtain ⟨K1, K2, h1, h2, h3, h4⟩ := h
  refine (hc K1 h1).mono ?_
  rintro e w' ⟨hp, hl, hf⟩
  obtain ⟨S, f1, f2⟩ := hf.split
  refine ⟨hp, ⟨K1, _, hl, h2.moreS f1 (fun x hx hl => (h3 x hl).resolve_left (f2 x hx).2), fun z hz => ?_, fun z hz => ⟨(h4 z hz).1, .inl (h4 z hz).2⟩⟩, hf.mono (fun x _ hx => (h4 x hx).1)⟩
  by_cases hl : z < w.heap.size
  · exact (h3 z hl).imp id .inl
  · exact .inr (.inr ⟨by omega, hz⟩)
/-- What does not belong to them turns. -/
theorem Two.turn {S : List Nat} (h : Two Q B N G B2 N2 G2 w) (hf : Fr S w w') (hS : ∀ x ∈ S, x < w.heap.size → Q x) (hQ : ∀ z, Q' z → Q z ∨ w.heap.size ≤ z ∧ z < w'.heap.size) : Two Q' B N G B2 N2 G2 w' := by
  obtain ⟨K1, K2, h1, h2, h3, h4⟩ := h
  refine ⟨_, _, h1.moreS hf (fun x hx hl => (h4 x (hS x hx hl)).1), h2.moreS hf (fun x hx hl => (h4 x (hS x hx hl)).2), fun z hz => ?_, fun z hz => ?_⟩
  · by_cases hl : z < w.heap.size
    · exact (h3 z hl).imp .inl .inl
    · exact .inl (.inr ⟨by omega, hz⟩)
  · rcases hQ z hz with h | h
    · exact ⟨.inl (h4 z h).1, .inl (h4 z h).2⟩
    · exact ⟨.inr h, .inr h⟩
theorem Two.new (h : Two Q B N G B2 N2 G2 w) (hf : Fr [] w w') : Two Q B N G B2 N2 G2 w' := h.turn hf (fun x hx => by cases hx) (fun z hz => .inl hz)
theorem Two.lt (h : Two Q B N G B2 N2 G2 w) {z : Nat} (hz : Q z) : z < w.heap.size := by
  obtain ⟨K1, K2, h1, h2, h3, h4⟩ := h
  exact h1.lt (h4 z hz).1
theorem OneG.turn {S : List Nat} (h : OneG Q B N G w) (hf : Fr S w w') (hS : ∀ x ∈ S, x < w.heap.size → Q x) (hQ : ∀ z, Q' z → Q z ∨ w.heap.size ≤ z ∧ z < w'.heap.size) : OneG Q' B N G w' := by
  obtain ⟨K, h1, h2⟩ := h
  exact ⟨_, h1.moreS hf (fun x hx hl => h2 x (hS x hx hl)), fun z hz => (hQ z hz).imp (h2 z) id⟩
theorem OneG.new (h : OneG Q B N G w) (hf : Fr [] w w') : OneG Q B N G w' := h.turn hf (fun x hx => by cases hx) (fun z hz => .inl hz)
theorem OneG.less (h : OneG Q B N G w) (hq : ∀ z, Q' z → Q z) : OneG Q' B N G w := by
  obtain ⟨K, h1, h2⟩ := h
  exact ⟨K, h1, fun z hz => h2 z (hq z hz)⟩
/-- A net that is made of new blocks beside the first. -/
theorem OneG.two (h : OneG Q B N G w) (hf : Fr [] w w') (h2 : LiveG (fun z => z < w.heap.size) B2 N2 G2 w') : Two Q B N G B2 N2 G2 w' := by
  obtain ⟨K, h1, h3⟩ := h
  refine ⟨_, _, h1.more hf, h2, fun z hz => ?_, fun z hz => ⟨.inl (h3 z hz), h1.lt (h3 z hz)⟩⟩
  by_cases hl : z < w.heap.size
  · exact .inr hl
  · exact .inl (.inr ⟨by omega, hz⟩)
theorem restore_lg (vL vC : Value) (D : List PN.PL) (C : List PG) (w : World) (hL : LRow w vL D) (hC : CRow w vC C) (hg : GoodG ⟨D, C⟩) (hcs : C.Pairwise fun a b => a.ref < b.ref) (hls : D.Pairwise fun a b => a.ref < b.ref) (hcr : ∀ y ∈ C, y.ref < 128) (hlr : ∀ x ∈ D, x.ref < 128) :
    Calls Tryz.prog 29 #[vL, vC] w fun e w' => ∃ B : NB, e = .returned (.tuple #[.pointer (some ⟨B.n, 0, none⟩), .int .i64 0]) ∧ LiveG (fun z => z < w.heap.size) B ⟨D, C⟩ 200 w' ∧ Fr [] w w' := by
  refine (netRestore_any vL vC D C w hL hC hg hcs hls hcr hlr).mono ?_
  rintro e w' ⟨B, own, L', C', rfl, h⟩
  refine ⟨B, rfl, ⟨own, L', C', h.net, ?_, fun z hz => ⟨Nat.lt_of_lt_of_le hz h.fr.size, h.old z hz⟩⟩, h.fr⟩
  unfold plainG
  rw [h.pl, h.pc, List.take_of_length_le (Nat.le_refl _)]
end
/-- A connection that is read at its end 0 through a copy: nothing that was there turns. -/
theorem ext_max (own : Nat → Nat) : ∀ n : Nat, ∃ m, ∀ z, z < n → own z < m
  | 0 => ⟨0, fun z hz => by omega⟩
  | n + 1 => by
    obtain ⟨m, hm⟩ := ext_max own n
    refine ⟨max m (own n + 1), fun z hz => ?_⟩
    rcases Nat.lt_or_ge z n with h | h
    · have := hm z h
      omega
    · obtain rfl : z = n := by omega
      omega
theorem copy_lg {w : World} {own : Nat → Nat} {c d : Nat} {x : CC} (h : DupB w own c d x) :
    Calls Tryz.prog 37 #[.pointer (some ⟨d, 0, none⟩)] w fun e w' => ∃ (d2 c2 : Nat) (own' : Nat → Nat), e = .returned (.pointer (some ⟨d2, 0, none⟩)) ∧ DupB w' own' c2 d2 x ∧ c2 % 4 = 1 ∧ Fr [] w w' ∧ ∀ z, z < w.heap.size → own' z ≠ c2 ∧ own' z ≠ c2 + 4 ∧ own' z ≠ c2 + 8 := by
  obtain ⟨m, hm⟩ := ext_max own w.heap.size
  refine (dupCopyB h (4 * m + 1)).mono ?_
  rintro e w' ⟨d2, own', rfl, hd, hx, hf, hl⟩
  refine ⟨d2, _, own', rfl, hd, by omega, hf, fun z hz => ?_⟩
  have h1 := hm z hz
  rw [hx z hz]
  omega
end Go.Proofs.YtmdhlodafjpnmaaGreat
namespace Go.Proofs.YtmdhlodafjpnmaaGreat
open Go.RowKit
open Go.Maps (Keyed)
set_option linter.unusedVariables false
set_option linter.unusedSimpArgs false
set_option maxRecDepth 100000
set_option maxHeartbeats 4000000

/-- A slice of integers of one's own: its room can be written. -/
def IRow (w : World) (v : Value) (l : List Int) : Prop :=
  (v = .slice none 0 0 ∧ l = []) ∨ ∃ g off cap, v = .slice (some ⟨g, off, none⟩) l.length cap ∧ l.length ≤ cap ∧ cap ≤ maxLen ∧ g < w.heap.size ∧
    (∀ j, j < cap → (w.cell? ⟨g, off + j, none⟩).isSome = true ∧ w.frozen? ⟨g, off + j, none⟩ = false) ∧ ∀ j x, l[j]? = some x → w.cell? ⟨g, off + j, none⟩ = some (.int .i64 x)
theorem frozen_block {w w' : World} {g : Nat} (h : w'.heap[g]? = w.heap[g]?) (o : Nat) : w'.frozen? ⟨g, o, none⟩ = w.frozen? ⟨g, o, none⟩ := by
  unfold World.frozen?
  rw [h]
theorem cell_block {w w' : World} {g : Nat} (h : w'.heap[g]? = w.heap[g]?) (o : Nat) : w'.cell? ⟨g, o, none⟩ = w.cell? ⟨g, o, none⟩ := by
  unfold World.cell?
  rw [h]
theorem IRow.keep {S : List Nat} {w w' : World} {v : Value} {l : List Int} (h : IRow w v l) (f : Fr S w w') (hS : ∀ g, v.ownBlock = some g → g ∉ S) : IRow w' v l := by
  rcases h with h | ⟨g, off, cap, rfl, h1, h2, h3, h4, h5⟩
  · exact .inl h
  · have hb := f.block g h3 (hS g rfl)
    exact .inr ⟨g, off, cap, rfl, h1, h2, Nat.lt_of_lt_of_le h3 f.size, fun j hj => by rw [cell_block hb, frozen_block hb]; exact h4 j hj, fun j x hx => by rw [cell_block hb]; exact h5 j x hx⟩
theorem IRow.new {w w' : World} {v : Value} {l : List Int} (h : IRow w v l) (f : Fr [] w w') : IRow w' v l := h.keep f (fun g _ hm => by cases hm)
theorem IRow.row {w : World} {v : Value} {l : List Int} (h : IRow w v l) : IntRow w v l := by
  rcases h with ⟨rfl, rfl⟩ | ⟨g, off, cap, rfl, h1, h2, h3, h4, h5⟩
  · exact .inl ⟨rfl, _, _, rfl⟩
  · exact .inr ⟨g, off, cap, rfl, by omega, h5⟩
theorem IRow.lt {w : World} {v : Value} {l : List Int} (h : IRow w v l) {g : Nat} (hg : v.ownBlock = some g) : g < w.heap.size := by
  rcases h with ⟨rfl, rfl⟩ | ⟨g', off, cap, rfl, h1, h2, h3, h4, h5⟩
  · cases hg
  · simp only [Value.ownBlock, Option.some.injEq] at hg
    omega
theorem IRow.of_own {w : World} {base : Nat} {v : Value} {l : List Int} (h : w.ownsRow base 3 1 v l.length (intsV l)) : IRow w v l := by
  rcases h with ⟨hl, ⟨rfl, h0⟩ | ⟨g, cap, cur, rfl, hb, hg, hn, hm, hs, ht⟩⟩
  · refine .inl ⟨?_, List.eq_nil_of_length_eq_zero h0⟩
    first | rfl | simp [h0]
  · have hc : ∀ j, w.cell? ⟨g, j, none⟩ = cur[j]? := fun j => by simp [World.cell?, hg]
    have hfz : ∀ j, w.frozen? ⟨g, j, none⟩ = false := fun j => by simp [World.frozen?, hg]
    refine .inr ⟨g, 0, cap, rfl, hn, hm, (Array.getElem?_eq_some_iff.1 hg).1, fun j hj => ⟨?_, hfz _⟩, fun j x hx => ?_⟩
    · rw [Nat.zero_add, hc, Array.getElem?_eq_getElem (by omega)]
      rfl
    · have hj := (List.getElem?_eq_some_iff.1 hx).1
      have h2 : (cur.toList.take (l.length * 1))[j]? = some (.int .i64 x) := by rw [ht]; simp [intsV, hx]
      rw [List.getElem?_take_of_lt (by omega)] at h2
      rw [Nat.zero_add, hc, ← Array.getElem?_toList]
      exact h2
theorem intsV_snoc (l : List Int) (k : Int) : intsV (l ++ [k]) = intsV l ++ [.int .i64 k] := by simp [intsV]
/-- One number more. -/
theorem IRow.push {w : World} {v : Value} {l : List Int} (h : IRow w v l) (k : Int) (g0 : Nat) (hk : w.cell? ⟨g0, 0, none⟩ = some (.int .i64 k)) (hl : l.length ≤ 100000) (T : TypeId) :
    ∃ v' w', (Builtin.append_ #[75, 75] T #[v, .slice (some ⟨g0, 0, none⟩) 1 1]).run Tryz.prog w = .ok v' w' ∧ IRow w' v' (l ++ [k]) ∧ Fr v.ownBlock.toList w w' ∧ (v'.ownBlock = v.ownBlock ∨ ∃ g, v'.ownBlock = some g ∧ w.heap.size ≤ g) := by
  obtain ⟨i, z, hi, hz, h2, h3, h4⟩ := elemInt.hi
  have hg0 := cell_lt hk
  have hnews : ∀ j u, ([.int .i64 k] : List Value)[j]? = some u → w.cell? ((⟨g0, 0, none⟩ : Addr).add j) = some u := fun j u hj => by
    cases j with
    | zero => simp only [List.getElem?_cons_zero, Option.some.injEq] at hj; subst hj; exact hk
    | succ j => simp at hj
  rcases h with ⟨rfl, rfl⟩ | ⟨g, off, cap, rfl, h5, h6, h7, h8, h9⟩
  · obtain ⟨v', w', hrun, ho, hg, _⟩ := run_append_own (P := Tryz.prog) w w.heap.size 75 T 3 i z 1 8 elemInt.ht hi hz h2 h3 h4 (by omega) (.slice none 0 0) 0 [] (World.ownsRow_nil _ _ _ _) ⟨g0, 0, none⟩ 1 1 [.int .i64 k] rfl hnews (by simp [Value.oneCell']) (by simp [maxLen]) (by omega) (Nat.le_refl _)
    refine ⟨v', w', hrun, IRow.of_own (base := w.heap.size) (l := [k]) (by simpa [intsV] using ho), grownFr' hg, ?_⟩
    cases hb : v'.ownBlock with
    | none => exact .inl rfl
    | some g => exact .inr ⟨g, rfl, (ho.lt g hb).1⟩
  · by_cases hroom : l.length + 1 ≤ cap
    · have hc := h8 l.length (by omega)
      have hrun := run_append_room_cells (P := Tryz.prog) w 75 T 3 i elemInt.ht hi g off l.length cap ⟨g0, 0, none⟩ 1 1 [.int .i64 k] (by rw [h2]; rfl) hnews (by simp [Value.oneCell']) hroom
        (fun j hj => by simp at hj; subst hj; rw [h2]; simpa using hc.1) (fun j hj => by simp at hj; subst hj; rw [h2]; simpa using hc.2)
      rw [h2, Nat.mul_one] at hrun
      refine ⟨_, _, hrun, .inr ⟨g, off, cap, by simp, by simpa using hroom, h6, ?_, fun j hj => ?_, fun j x hx => ?_⟩, ?_, .inl rfl⟩
      · simpa [World.setCells, World.setCell] using h7
      · refine ⟨?_, by rw [World.frozen?_setCells]; exact (h8 j hj).2⟩
        simp only [World.setCells]
        by_cases hjl : j = l.length
        · subst hjl
          obtain ⟨u, hu⟩ := Option.isSome_iff_exists.1 hc.1
          rw [World.cell?_setCell_same _ _ _ hu]
          rfl
        · rw [World.cell?_setCell_other _ _ _ _ (by simp <;> omega)]
          exact (h8 j hj).1
      · simp only [World.setCells]
        by_cases hjl : j = l.length
        · subst hjl
          obtain ⟨u, hu⟩ := Option.isSome_iff_exists.1 hc.1
          rw [World.cell?_setCell_same _ _ _ hu]
          simp at hx
          rw [hx]
        · have hj := (List.getElem?_eq_some_iff.1 hx).1
          simp only [List.length_append, List.length_singleton] at hj
          rw [List.getElem?_append_left (by omega)] at hx
          rw [World.cell?_setCell_other _ _ _ _ (by simp <;> omega)]
          exact h9 j x hx
      · simp only [World.setCells, Value.ownBlock, Option.toList_some]
        exact (Fr.refl [g] w).setCell (fun _ => List.mem_singleton.2 rfl) _
    · obtain ⟨v', w', hrun, ho, hg⟩ := run_append_arg_grows (P := Tryz.prog) w 75 T 3 i z 1 8 elemInt.ht hi hz h2 h3 h4 (by omega) ⟨g, off, none⟩ l.length cap (intsV l) (by simp [intsV]) (fun j u hu => by
        rw [Addr.add_lit]
        unfold intsV at hu
        rw [List.getElem?_map] at hu
        obtain ⟨x, hx, rfl⟩ := Option.map_eq_some_iff.1 hu
        exact h9 j x hx) ⟨g0, 0, none⟩ 1 1 [.int .i64 k] rfl hnews (by omega) (by simp only [maxLen]; omega) (by omega)
      refine ⟨v', w', hrun, IRow.of_own (base := w.heap.size) (by rw [intsV_snoc, List.length_append]; exact ho), (grownFr' hg).mono (fun x hx => by cases hx), ?_⟩
      cases hb : v'.ownBlock with
      | none =>
        rcases ho.2 with ⟨_, h0⟩ | ⟨g', c', cur', rfl, _⟩
        · omega
        · cases hb
      | some g' => exact .inr ⟨g', rfl, (ho.lt g' hb).1⟩
/-- All but the first. -/
theorem IRow.tail {w : World} {v : Value} {x : Int} {l : List Int} (h : IRow w v (x :: l)) :
    ∃ v', (∀ W : World, (Instr.slice 75 v (some (.int .i64 1)) none none).run Tryz.prog W = .ok v' W) ∧ IRow w v' l ∧ v'.ownBlock = v.ownBlock := by
  have ht : Tryz.prog.underlying 75 = some (.slice (Tryz.prog.elem 75)) := by kernel_rfl
  have hsz : ∀ W : World, (sizeOf (Tryz.prog.elem 75)).run Tryz.prog W = .ok 1 W := fun W => by kernel_rfl
  rcases h with ⟨_, h0⟩ | ⟨g, off, cap, rfl, h5, h6, h7, h8, h9⟩
  · cases h0
  simp only [List.length_cons] at h5 ⊢
  refine ⟨.slice (if cap = 1 then some ⟨g, off, none⟩ else some ⟨g, off + 1, none⟩) l.length (cap - 1), fun W => ?_, ?_, ?_⟩
  · rw [run_slice_l W 75 (some ⟨g, off, none⟩) (l.length + 1) cap ht .i64 1 (by omega) (by omega), hsz]
    simp only [Result.andThen, sliced]
    by_cases hc : cap = 1
    · subst hc
      simp
    · simp [hc, Addr.add_lit, Addr.add]
  · by_cases hc : cap = 1
    · subst hc
      have : l = [] := List.eq_nil_of_length_eq_zero (by omega)
      subst this
      exact .inr ⟨g, off, 0, by simp, by simp, by simp [maxLen], h7, fun j hj => by omega, fun j x hx => by simp at hx⟩
    · rw [if_neg hc]
      refine .inr ⟨g, off + 1, cap - 1, rfl, by omega, by omega, h7, fun j hj => ?_, fun j y hy => ?_⟩
      · have := h8 (j + 1) (by omega)
        rwa [show off + (j + 1) = off + 1 + j by omega] at this
      · have := h9 (j + 1) y (by simpa using hy)
        rwa [show off + (j + 1) = off + 1 + j by omega] at this
  · by_cases hc : cap = 1
    · rw [if_pos hc]; rfl
    · rw [if_neg hc]; rfl
end Go.Proofs.YtmdhlodafjpnmaaGreat
namespace Go.Proofs.YtmdhlodafjpnmaaGreat
open Go.RowKit
open Go.Maps (Keyed)
set_option linter.unusedVariables false
set_option linter.unusedSimpArgs false
set_option maxRecDepth 100000
set_option maxHeartbeats 4000000

/-- A key, its slice, what that holds. -/
structure WE where
  k : Int
  v : Value
  l : List Int
def WE.ent (x : WE) : Value × Value := (.int .i64 x.k, x.v)
/-- What the map holds at a key. -/
def Wf (f : List WE) (r : Int) : List Int := match f.find? (fun x => decide (x.k = r)) with
  | none => []
  | some x => x.l
structure WaitIs (w : World) (mp : Nat) (f : List WE) : Prop where
  map : MapIs Tryz.prog 3 w mp (f.map WE.ent)
  rows : ∀ x ∈ f, IRow w x.v x.l
  far : ∀ x ∈ f, ∀ g, x.v.ownBlock = some g → g ≠ mp
  sep : f.Pairwise fun x y => ∀ g, x.v.ownBlock = some g → y.v.ownBlock ≠ some g
  len : ∀ x ∈ f, x.l.length ≤ 100000
/-- Its blocks. -/
def WQ (mp : Nat) (f : List WE) (z : Nat) : Prop := z = mp ∨ ∃ x ∈ f, x.v.ownBlock = some z
section
variable {w w' : World} {mp : Nat} {f : List WE}
theorem WaitIs.keep {S : List Nat} (h : WaitIs w mp f) (hf : Fr S w w') (hS : ∀ z ∈ S, ¬ WQ mp f z) : WaitIs w' mp f :=
  ⟨h.map.keep hf (fun hm => hS _ hm (.inl rfl)), fun x hx => (h.rows x hx).keep hf (fun g hg hm => hS _ hm (.inr ⟨x, hx, hg⟩)), h.far, h.sep, h.len⟩
theorem WaitIs.new (h : WaitIs w mp f) (hf : Fr [] w w') : WaitIs w' mp f := h.keep hf (fun z hz => by cases hz)
theorem WaitIs.lt (h : WaitIs w mp f) {z : Nat} (hz : WQ mp f z) : z < w.heap.size := by
  rcases hz with rfl | ⟨x, hx, hg⟩
  · exact h.map.lt
  · exact (h.rows x hx).lt hg
theorem WaitIs.made (w : World) : WaitIs (w.alloc (.map #[] 0)) w.heap.size [] :=
  ⟨MapIs.made _ _ w, (fun x hx => by cases hx), (fun x hx => by cases hx), List.Pairwise.nil, (fun x hx => by cases hx)⟩
theorem WaitIs.keys (h : WaitIs w mp f) : (f.map (·.k)).Nodup := by
  have := h.map.nodup
  rw [List.map_map] at this
  have h2 : f.map ((fun x : Value × Value => x.1) ∘ WE.ent) = (f.map (·.k)).map (Value.int .i64) := by rw [List.map_map]; rfl
  rw [h2] at this
  exact (List.pairwise_map.1 this).imp (fun h he => h (by rw [he]))
theorem Wf_at (hn : (f.map (·.k)).Nodup) {x : WE} (hx : x ∈ f) : Wf f x.k = x.l := by
  unfold Wf
  cases hf : f.find? (fun y => decide (y.k = x.k)) with
  | none => exact absurd (List.find?_eq_none.1 hf x hx) (by simp)
  | some y =>
    have h1 := List.mem_of_find?_eq_some hf
    have h2 : y.k = x.k := by simpa using List.find?_some hf
    rw [nodup_inj (f := WE.k) hn y h1 x hx h2]
/-- A key is there, or it is not. -/
theorem Wf_cases (f : List WE) (r : Int) : (∃ f1 x f2, f = f1 ++ x :: f2 ∧ x.k = r) ∨ ((∀ x ∈ f, x.k ≠ r) ∧ Wf f r = []) := by
  cases hf : f.find? (fun y => decide (y.k = r)) with
  | none =>
    refine .inr ⟨fun x hx he => ?_, by unfold Wf; rw [hf]⟩
    exact absurd (List.find?_eq_none.1 hf x hx) (by simp [he])
  | some y =>
    obtain ⟨f1, f2, rfl⟩ := List.append_of_mem (List.mem_of_find?_eq_some hf)
    exact .inl ⟨f1, y, f2, rfl, by simpa using List.find?_some hf⟩
theorem Wf_mid {f1 f2 : List WE} {x : WE} (hn : ((f1 ++ x :: f2).map (·.k)).Nodup) (l : List Int) (v : Value) (q : Int) : Wf (f1 ++ ⟨x.k, v, l⟩ :: f2) q = if q = x.k then l else Wf (f1 ++ x :: f2) q := by
  have hn' : ((f1 ++ (⟨x.k, v, l⟩ : WE) :: f2).map (·.k)).Nodup := by simpa using hn
  by_cases hq : q = x.k
  · rw [if_pos hq, hq]
    exact Wf_at hn' (x := ⟨x.k, v, l⟩) (by simp)
  · rw [if_neg hq]
    unfold Wf
    rw [List.find?_append, List.find?_append, List.find?_cons, List.find?_cons]
    rw [decide_eq_false (show ¬ (x.k = q) from fun h => hq h.symm)]
theorem lookupSl (h : WaitIs w mp f) (r : Int) (h0 : -9223372036854775808 ≤ r) (h1 : r ≤ 9223372036854775807) :
    ∃ v, (Instr.lookup 70 (.map (some mp)) (.int .i64 r) false).run Tryz.prog w = .ok v w ∧ IRow w v (Wf f r) ∧ (∀ g, v.ownBlock = some g → WQ mp f g) ∧ (Wf f r).length ≤ 100000 := by
  rcases Wf_cases f r with ⟨f1, x, f2, rfl, rfl⟩ | ⟨hno, he⟩
  · have hx : x ∈ f1 ++ x :: f2 := by simp
    have := h.map.hit keyInt (t := 70) (e := 75) Tryz.underlying70 (x := .int .i64 x.k) (v := x.v) (List.mem_map.2 ⟨x, hx, rfl⟩) false
    simp only [Bool.false_eq_true, if_false] at this
    exact ⟨x.v, this, by rw [Wf_at h.keys hx]; exact h.rows x hx, fun g hg => .inr ⟨x, hx, hg⟩, by rw [Wf_at h.keys hx]; exact h.len x hx⟩
  · have := h.map.miss keyInt (t := 70) (e := 75) Tryz.underlying70 (keyInt_of r h0 h1) (z := .slice none 0 0) (fun p hp hpe => by
      obtain ⟨x, hx, rfl⟩ := List.mem_map.1 hp
      simp only [WE.ent, Value.int.injEq, true_and] at hpe
      exact hno x hx hpe) (by kernel_rfl) false
    simp only [Bool.false_eq_true, if_false] at this
    exact ⟨_, this, by rw [he]; exact .inl ⟨rfl, rfl⟩, (fun g hg => by cases hg), by rw [he]; simp⟩
/-- The value at a key is changed (or made). -/
theorem WaitIs.put (h : WaitIs w mp f) (r : Int) (h0 : -9223372036854775808 ≤ r) (h1 : r ≤ 9223372036854775807) {S : List Nat} {w1 : World} {v' : Value} {l' : List Int} (hf : Fr S w w1) (hS : ∀ z ∈ S, ∃ x ∈ f, x.k = r ∧ x.v.ownBlock = some z) (hr : IRow w1 v' l') (hb : ∀ g, v'.ownBlock = some g → (∃ x ∈ f, x.k = r ∧ x.v.ownBlock = some g) ∨ w.heap.size ≤ g) (hl : l'.length ≤ 100000) :
    ∃ w2 f', (Instr.mapUpdate 70 (.map (some mp)) (.int .i64 r) v').run Tryz.prog w1 = .ok () w2 ∧ WaitIs w2 mp f' ∧ Fr [mp] w1 w2 ∧ (∀ q, Wf f' q = if q = r then l' else Wf f q) ∧ ∀ z, WQ mp f' z → WQ mp f z ∨ w.heap.size ≤ z ∧ z < w2.heap.size := by
  have hmS : mp ∉ S := fun hm => by
    obtain ⟨x, hx, _, hg⟩ := hS _ hm
    exact h.far x hx _ hg rfl
  have hm1 := h.map.keep hf hmS
  have hvm : ∀ g, v'.ownBlock = some g → g ≠ mp := fun g hg he => by
    rcases hb g hg with ⟨x, hx, _, hxg⟩ | hge
    · exact h.far x hx g hxg he
    · have := h.map.lt
      omega
  rcases Wf_cases f r with ⟨f1, x, f2, rfl, rfl⟩ | ⟨hno, he⟩
  · have hk := h.keys
    have uniq : ∀ y ∈ f1 ++ x :: f2, y.k = x.k → y = x := fun y hy hyk => nodup_inj (f := WE.k) hk y hy x (by simp) hyk
    have hsep := h.sep
    rw [List.pairwise_append, List.pairwise_cons] at hsep
    obtain ⟨s1, ⟨s2, s3⟩, s4⟩ := hsep
    have hbx : ∀ g, v'.ownBlock = some g → x.v.ownBlock = some g ∨ w.heap.size ≤ g := fun g hg => (hb g hg).imp (fun ⟨y, hy, hyk, hyg⟩ => by rw [← uniq y hy hyk]; exact hyg) id
    have hSx : ∀ z ∈ S, x.v.ownBlock = some z := fun z hz => by
      obtain ⟨y, hy, hyk, hyg⟩ := hS z hz
      rw [← uniq y hy hyk]; exact hyg
    have hm2 : MapIs Tryz.prog 3 w1 mp (f1.map WE.ent ++ (.int .i64 x.k, x.v) :: f2.map WE.ent) := by simpa [WE.ent] using hm1
    obtain ⟨w2, hrun, hm3, f3⟩ := hm2.set keyInt (t := 70) (e := 75) Tryz.underlying70 v'
    have oth : ∀ y, y ∈ f1 ∨ y ∈ f2 → ∀ g, y.v.ownBlock = some g → x.v.ownBlock ≠ some g ∧ g < w.heap.size := fun y hy g hg => by
      refine ⟨?_, (h.rows y (by rcases hy with hy | hy <;> simp [hy])).lt hg⟩
      rcases hy with hy | hy
      · exact s4 y hy x List.mem_cons_self g hg
      · exact fun hx => s2 y hy g hx hg
    refine ⟨w2, f1 ++ ⟨x.k, v', l'⟩ :: f2, hrun, ⟨by simpa [WE.ent] using hm3, fun y hy => ?_, fun y hy g hg => ?_, ?_, fun y hy => ?_⟩, f3, Wf_mid hk l' v', fun z hz => ?_⟩
    · have kp : ∀ y, y ∈ f1 ∨ y ∈ f2 → IRow w2 y.v y.l := fun y hy => (((h.rows y (by rcases hy with hy | hy <;> simp [hy])).keep hf (fun g hg hm => (oth y hy g hg).1 (hSx g hm))).keep f3 (fun g hg hm => by
        rw [List.mem_singleton] at hm
        exact h.far y (by rcases hy with hy | hy <;> simp [hy]) g hg hm))
      rcases List.mem_append.1 hy with hy | hy
      · exact kp y (.inl hy)
      · rcases List.mem_cons.1 hy with rfl | hy
        · exact hr.keep f3 (fun g hg hm => hvm g hg (by simpa using hm))
        · exact kp y (.inr hy)
    · rcases List.mem_append.1 hy with hy | hy
      · exact h.far y (by simp [hy]) g hg
      · rcases List.mem_cons.1 hy with rfl | hy
        · exact hvm g hg
        · exact h.far y (by simp [hy]) g hg
    · rw [List.pairwise_append, List.pairwise_cons]
      refine ⟨s1, ⟨fun y hy g hg hyg => ?_, s3⟩, fun a ha b hb g hg hbg => ?_⟩
      · rcases hbx g hg with hx | hge
        · exact (oth y (.inr hy) g hyg).1 hx
        · have := (oth y (.inr hy) g hyg).2
          omega
      · rcases List.mem_cons.1 hb with rfl | hb
        · rcases hbx g hbg with hx | hge
          · exact (oth a (.inl ha) g hg).1 hx
          · have := (oth a (.inl ha) g hg).2
            omega
        · exact s4 a ha b (List.mem_cons_of_mem _ hb) g hg hbg
    · rcases List.mem_append.1 hy with hy | hy
      · exact h.len y (by simp [hy])
      · rcases List.mem_cons.1 hy with rfl | hy
        · exact hl
        · exact h.len y (by simp [hy])
    · rcases hz with rfl | ⟨y, hy, hyz⟩
      · exact .inl (.inl rfl)
      · rcases List.mem_append.1 hy with hy | hy
        · exact .inl (.inr ⟨y, by simp [hy], hyz⟩)
        · rcases List.mem_cons.1 hy with rfl | hy
          · rcases hbx z hyz with hx | hge
            · exact .inl (.inr ⟨x, by simp, hx⟩)
            · exact .inr ⟨hge, Nat.lt_of_lt_of_le (hr.lt hyz) f3.size⟩
          · exact .inl (.inr ⟨y, by simp [hy], hyz⟩)
  · have hS0 : ∀ z ∈ S, False := fun z hz => by
      obtain ⟨x, hx, hxk, _⟩ := hS z hz
      exact hno x hx hxk
    have hb0 : ∀ g, v'.ownBlock = some g → w.heap.size ≤ g := fun g hg => (hb g hg).elim (fun ⟨x, hx, hxk, _⟩ => absurd hxk (hno x hx)) id
    obtain ⟨w2, hrun, hm3, f3⟩ := hm1.put keyInt (t := 70) (e := 75) Tryz.underlying70 (keyInt_of r h0 h1) (fun p hp hpe => by
      obtain ⟨x, hx, rfl⟩ := List.mem_map.1 hp
      simp only [WE.ent, Value.int.injEq, true_and] at hpe
      exact hno x hx hpe) v'
    refine ⟨w2, f ++ [⟨r, v', l'⟩], hrun, ⟨by simpa [WE.ent] using hm3, fun y hy => ?_, fun y hy g hg => ?_, ?_, fun y hy => ?_⟩, f3, fun q => ?_, fun z hz => ?_⟩
    · rcases List.mem_append.1 hy with hy | hy
      · exact ((h.rows y hy).keep hf (fun g hg hm => hS0 g hm)).keep f3 (fun g hg hm => by
          rw [List.mem_singleton] at hm
          exact h.far y hy g hg hm)
      · rw [List.mem_singleton] at hy
        subst hy
        exact hr.keep f3 (fun g hg hm => hvm g hg (by simpa using hm))
    · rcases List.mem_append.1 hy with hy | hy
      · exact h.far y hy g hg
      · rw [List.mem_singleton] at hy
        subst hy
        exact hvm g hg
    · rw [List.pairwise_append]
      refine ⟨h.sep, List.pairwise_singleton _ _, fun a ha b hb g hg hbg => ?_⟩
      rw [List.mem_singleton] at hb
      subst hb
      have h1 := hb0 g hbg
      have h2 := (h.rows a ha).lt hg
      omega
    · rcases List.mem_append.1 hy with hy | hy
      · exact h.len y hy
      · rw [List.mem_singleton] at hy
        subst hy
        exact hl
    · unfold Wf
      rw [List.find?_append]
      by_cases hq : q = r
      · rw [if_pos hq, hq]
        have : f.find? (fun x => decide (x.k = r)) = none := List.find?_eq_none.2 fun x hx => by simpa using hno x hx
        rw [this]
        simp
      · rw [if_neg hq]
        cases hfq : f.find? (fun x => decide (x.k = q)) with
        | some y => rfl
        | none => simp [Ne.symm hq]
    · rcases hz with rfl | ⟨y, hy, hyz⟩
      · exact .inl (.inl rfl)
      · rcases List.mem_append.1 hy with hy | hy
        · exact .inl (.inr ⟨y, hy, hyz⟩)
        · rw [List.mem_singleton] at hy
          subst hy
          exact .inr ⟨hb0 z hyz, Nat.lt_of_lt_of_le (hr.lt hyz) f3.size⟩
/-- A key is deleted, whether it is there or not. -/
theorem WaitIs.del (h : WaitIs w mp f) (r : Int) (h0 : -9223372036854775808 ≤ r) (h1 : r ≤ 9223372036854775807) (T : TypeId) :
    ∃ w2 f', (Builtin.delete_ #[70, 3] T #[.map (some mp), .int .i64 r]).run Tryz.prog w = .ok (.tuple #[]) w2 ∧ WaitIs w2 mp f' ∧ Fr [mp] w w2 ∧ (∀ q, Wf f' q = if q = r then [] else Wf f q) ∧ ∀ z, WQ mp f' z → WQ mp f z := by
  rcases Wf_cases f r with ⟨f1, x, f2, rfl, rfl⟩ | ⟨hno, he⟩
  · have hk := h.keys
    have hm2 : MapIs Tryz.prog 3 w mp (f1.map WE.ent ++ (.int .i64 x.k, x.v) :: f2.map WE.ent) := by simpa [WE.ent] using h.map
    obtain ⟨w2, hrun, hm3, f3⟩ := hm2.del (T := T) keyInt (t := 70) (e := 75) Tryz.underlying70
    have hmem : ∀ y ∈ f1 ++ f2, y ∈ f1 ++ x :: f2 := fun y hy => by rcases List.mem_append.1 hy with hy | hy <;> simp [hy]
    refine ⟨w2, f1 ++ f2, hrun, ⟨by simpa using hm3, fun y hy => (h.rows y (hmem y hy)).keep f3 (fun g hg hm => by rw [List.mem_singleton] at hm; exact h.far y (hmem y hy) g hg hm), fun y hy => h.far y (hmem y hy), h.sep.sublist (List.Sublist.append (List.Sublist.refl _) (List.sublist_cons_self _ _)), fun y hy => h.len y (hmem y hy)⟩, f3, fun q => ?_, fun z hz => ?_⟩
    · rw [List.map_append, List.map_cons, List.nodup_append, List.nodup_cons] at hk
      obtain ⟨k1, ⟨k2, k3⟩, k4⟩ := hk
      by_cases hq : q = x.k
      · rw [if_pos hq]
        rcases Wf_cases (f1 ++ f2) q with ⟨g1, y, g2, he, hy⟩ | ⟨_, he⟩
        · have hyf : y ∈ f1 ++ f2 := by rw [he]; simp
          rcases List.mem_append.1 hyf with hyf | hyf
          · exact absurd (hy.trans hq) (k4 y.k (List.mem_map.2 ⟨y, hyf, rfl⟩) x.k List.mem_cons_self)
          · exact absurd (List.mem_map.2 ⟨y, hyf, hy.trans hq⟩) k2
        · exact he
      · rw [if_neg hq]
        unfold Wf
        rw [List.find?_append, List.find?_append, List.find?_cons, decide_eq_false (show ¬ (x.k = q) from fun h => hq h.symm)]
    · rcases hz with rfl | ⟨y, hy, hyz⟩
      · exact .inl rfl
      · exact .inr ⟨y, hmem y hy, hyz⟩
  · have hrun : ∃ w2, (Builtin.delete_ #[70, 3] T #[.map (some mp), .int .i64 r]).run Tryz.prog w = .ok (.tuple #[]) w2 ∧ MapIs Tryz.prog 3 w2 mp (f.map WE.ent) ∧ Fr [mp] w w2 := by
      obtain ⟨es, clock, hb, hs, hk, hf⟩ := h.map
      have hlx := keyInt_of r h0 h1
      rcases keyInt.find w hlx es.toList hk with ⟨hrun, _⟩ | ⟨j, e1, hrun, hj, heq⟩
      · refine ⟨_, ?_, ⟨es, clock, setBlock_at hb, hs, hk, hf⟩, fr_setBlock w mp _⟩
        simp [Builtin.delete_, run_underlying Tryz.underlying70, run_getObj_map hb, keyInt.check w _ hlx, hrun, run_setObj_map hb]
      · have hm : (e1.key, e1.val) ∈ f.map WE.ent := by rw [← hf]; exact List.mem_map.2 ⟨e1, List.mem_of_getElem? hj, rfl⟩
        obtain ⟨x, hx, hxe⟩ := List.mem_map.1 hm
        have := congrArg Prod.fst hxe
        simp only [WE.ent] at this
        rw [heq] at this
        simp only [Value.int.injEq, true_and] at this
        exact absurd this (hno x hx)
    obtain ⟨w2, hrun, hm2, f3⟩ := hrun
    refine ⟨w2, f, hrun, ⟨hm2, fun y hy => (h.rows y hy).keep f3 (fun g hg hm => by rw [List.mem_singleton] at hm; exact h.far y hy g hg hm), h.far, h.sep, h.len⟩, f3, fun q => ?_, fun z hz => hz⟩
    by_cases hq : q = r
    · rw [if_pos hq, hq]; exact he
    · rw [if_neg hq]
end
end Go.Proofs.YtmdhlodafjpnmaaGreat
namespace Go.Proofs.YtmdhlodafjpnmaaGreat
open Go.RowKit
open Go.Maps (Keyed)
set_option linter.unusedVariables false
set_option linter.unusedSimpArgs false
set_option maxRecDepth 100000
set_option maxHeartbeats 8000000

/-- What has come has not k. -/
def NoW (f : List WE) (done : List (Value × Value)) (k : Int) : Prop := ∀ x ∈ f, x.ent ∈ done → k ∉ x.l
theorem ent_injW {f : List WE} (hr : (f.map (·.k)).Nodup) {x y : WE} (hx : x ∈ f) (hy : y ∈ f) (h : x.ent = y.ent) : x = y := by
  simp only [WE.ent, Prod.mk.injEq, Value.int.injEq, true_and] at h
  exact nodup_inj (f := WE.k) hr x hx y hy h.1
theorem waitsL_any {mp : Nat} {f : List WE} (k : Int) (w : World) (h : WaitIs w mp f) :
    Calls Tryz.prog 39 #[.map (some mp), .int .i64 k] w fun e w' => e = .returned (.bool (decide (∃ x ∈ f, k ∈ x.l))) ∧ Fr [] w w' := by
  have hM := h.map
  have HH := Lib.hid h
  clear h
  obtain ⟨fe, hf⟩ : ∃ fe, f.map WE.ent = fe := ⟨_, rfl⟩
  rw [hf] at hM
  have HF := Lib.hid hf
  clear hf
  go_enter Tryz.func39, Tryz.ntmps39
  go_wp2_with (first
    | (at_range; refine wpList_range_l _ rfl _ 70 rfl 75 Tryz.underlying70 rfl hM ?_; intro w0 hrg0 hg0 hs0)
    | go_in)
  go_frame
  have HRG0 := Lib.hid hrg0
  clear hrg0 hM
  go_loopw [6] (fun _ wr => ∃ done, RangeL Tryz.prog 3 wr mp w.heap.size fe done ∧ NoW f done k ∧ Fr [] w wr) (fun _ wr => wr.rangeLeft mp w.heap.size)
  case atStart => exact ⟨[], HRG0.out, (fun x _ hx => absurd hx List.not_mem_nil), hg0⟩
  case round =>
    obtain ⟨done, hrg, hno, fr⟩ := hrel
    have HNO := Lib.hid hno
    have FR := Lib.hid fr
    clear hno fr
    go_wp2_with (first
      | (at_next; refine wpList_next_l _ rfl _ rfl rfl hrg ?_ ?_)
      | go_in)
    · intro hall
      have HA := Lib.hid hall
      clear hall
      go_wp2
      go_ret
      refine ⟨?_, FR.out⟩
      have : ¬ ∃ x ∈ f, k ∈ x.l := fun ⟨x, hx, hkx⟩ => HNO.out x hx (HA.out _ _ (by rw [← HF.out]; exact List.mem_map.2 ⟨x, hx, rfl⟩)) hkx
      rw [decide_eq_false this]
      rfl
    · intro kk vv w1 hin hnd hrg1 hf1 hs1 hlt hen
      rw [← HF.out] at hin
      obtain ⟨x, hx, he⟩ := List.mem_map.1 hin
      have he' := he
      simp only [WE.ent, Prod.mk.injEq] at he
      obtain ⟨rfl, rfl⟩ := he
      have F1 : Fr [] w w1 := FR.out.trans hf1 (fun z hz hl => by simp at hz; omega)
      have HQ := Lib.hid ((HH.out.rows x hx).new F1).row
      have HEN := Lib.hid (And.intro hin (And.intro hnd (And.intro hx he')))
      have HXL := Lib.hid (HH.out.len x hx)
      obtain ⟨n, hn⟩ : ∃ n, x.l.length = n := ⟨_, rfl⟩
      have HN := Lib.hid hn
      have hn1 : n ≤ 100000 := by have := HXL.out; omega
      obtain ⟨a0, c0, hva⟩ : ∃ a c, x.v = .slice a n c := by
        rcases HQ.out with ⟨hl0, a, c, hv⟩ | ⟨g, off, cap, hv, _, _⟩
        · exact ⟨a, c, by rw [hv, ← hn, hl0]; rfl⟩
        · exact ⟨_, _, by rw [hv, hn]⟩
      have HV := Lib.hid hva
      rw [hva] at hen
      clear hin hnd hx he' hn hva
      try rw [HV.out]
      go_wp2_with go_in
      go_loopw [7] (fun i wq => ∃ q : Nat, i = .int .i64 q ∧ q ≤ n ∧ (∀ j, j < q → x.l[j]? ≠ some k) ∧ w1 = wq) (fun i _ => n - (intOf i).toNat)
      case atStart => exact ⟨0, rfl, by omega, fun j hj => by omega, rfl⟩
      case round =>
        obtain ⟨q, rfl, hq, hnq, hwq⟩ := hrel
        subst hwq
        have HNQ := Lib.hid hnq
        clear hnq
        by_cases hlt : q < n
        · have hxq := List.getElem?_eq_getElem (l := x.l) (i := q) (by rw [HN.out]; exact hlt)
          obtain ⟨y, hye⟩ : ∃ y, x.l[q]'(by rw [HN.out]; exact hlt) = y := ⟨_, rfl⟩
          rw [hye] at hxq
          have HXQ := Lib.hid hxq
          obtain ⟨g, off, rfl, hcq⟩ : ∃ g off, a0 = some ⟨g, off, none⟩ ∧ w1.cell? ⟨g, off + q, none⟩ = some (.int .i64 y) := by
            rcases HQ.out with ⟨hl0, a, c, hv⟩ | ⟨g, off, cap, hv, _, hc⟩
            · have := HN.out
              rw [hl0] at this
              simp at this
              omega
            · rw [HV.out] at hv
              simp only [Value.slice.injEq] at hv
              exact ⟨g, off, hv.1, hc q y hxq⟩
          clear hxq hye
          by_cases hyk : y = k
          · have hyb : (y == k) = true := by simp [hyk]
            go_wp2
            go_ret
            obtain ⟨_, _, hx, _⟩ := HEN.out
            exact ⟨by rw [decide_eq_true (⟨x, hx, by rw [← hyk]; exact List.mem_of_getElem? HXQ.out⟩ : ∃ x ∈ f, k ∈ x.l)] <;> rfl, F1⟩
          · have hyb : (y == k) = false := by simp [hyk]
            go_wp2
            go_roundw
            case rel => exact ⟨q + 1, by go_num, by omega, fun j hj => by
              by_cases hjq : j = q
              · subst hjq
                rw [HXQ.out]
                simp [hyk]
              · exact HNQ.out j (by omega), (by first | rfl | trivial)⟩
            case measure => simp [intOf]; omega
        · obtain rfl : q = n := by omega
          have hk : k ∉ x.l := fun hm => by
            obtain ⟨j, hj⟩ := List.getElem?_of_mem hm
            have := (List.getElem?_eq_some_iff.1 hj).1
            exact HNQ.out j (by have := HN.out; omega) hj
          obtain ⟨_, _, hx, he'⟩ := HEN.out
          have hno' : NoW f (x.ent :: done) k := fun y hy hm => by
            rcases List.mem_cons.1 hm with hm | hm
            · rw [ent_injW HH.out.keys hy hx hm]
              exact hk
            · exact HNO.out y hy hm
          go_wp2
          go_roundw
          case rel => exact ⟨_, by first | exact hrg1 | (rw [HV.out] at hrg1; exact hrg1), hno', F1⟩
          case measure => omega
end Go.Proofs.YtmdhlodafjpnmaaGreat
namespace Go.Proofs.YtmdhlodafjpnmaaGreat
open Go.RowKit
set_option linter.unusedVariables false
set_option maxRecDepth 100000
set_option maxHeartbeats 4000000

structure A19 where
  what : Int
  s : ByteArray
  p : Int
  ref : Int
  en : Int
  n : Int
  d : Sli
def a19C (x : A19) : List Value := [.int .i64 x.what, .string x.s, .int .i64 x.p, .int .i64 x.ref, .int .i64 x.en, .int .i64 x.n, slv x.d]
theorem a19C_one (x : A19) : ∀ u ∈ a19C x, u.oneCell' = true := by
  intro u hu
  simp only [a19C, List.mem_cons, List.not_mem_nil, or_false] at hu
  rcases hu with rfl | rfl | rfl | rfl | rfl | rfl | rfl <;> rfl
def A19Row (w : World) (sa : Option Addr) (n : Nat) (g : Nat → A19) : Prop :=
  n = 0 ∨ ∃ b off, sa = some ⟨b, off, none⟩ ∧ b < w.heap.size ∧ ∀ i, i < n → LiesAt w b (off + i * 7) (a19C (g i))
def I64 (x : Int) : Prop := -9223372036854775808 ≤ x ∧ x ≤ 9223372036854775807
def FewL (nl : Nat) (g : Nat → A19) (w : World) (e : Ending) (w' : World) : Prop :=
  ∃ r : Bool, e = .returned (.bool r) ∧ w = w' ∧ (r = true → nl ≤ 25 ∧ ∀ i, i < nl → (g i).s.size ≤ 100)
theorem fewL_any (la : Option Addr) (nl lc : Nat) (g : Nat → A19) (w : World) (hl : A19Row w la nl g) (h2 : nl ≤ maxLen) :
    Calls Tryz.prog 27 #[.slice la nl lc, .int .i64 25] w (FewL nl g w) := by
  unfold maxLen at h2
  have HL := Lib.hid hl
  clear hl
  go_enter Tryz.func27, Tryz.ntmps27
  go_wp2
  go_loop [5] (fun i => ∃ k : Nat, i = .int .i64 k ∧ k ≤ nl ∧ k ≤ 25 ∧ ∀ j, j < k → (g j).s.size ≤ 100) (fun i => 25 - (intOf i).toNat)
  case atStart => exact ⟨0, rfl, by omega, by omega, fun j hj => by omega⟩
  case round =>
    obtain ⟨k, rfl, hk1, hk2, hsz⟩ := hrel
    have HZ := Lib.hid hsz
    clear hsz
    by_cases hlt : k < nl ∧ k < 25
    · obtain ⟨a1, a2⟩ := hlt
      rcases HL.out with h0 | ⟨b, off, rfl, hb, hc⟩
      · omega
      · have hc := hc k a1
        have c0 : w.cell? ⟨b, off + k * 7 + 1, none⟩ = some (.string (g k).s) := hc 1 _ rfl
        have c1 : w.cell? ⟨b, off + k * 7 + 6, none⟩ = some (.slice (g k).d.1 (g k).d.2.1 (g k).d.2.2) := hc 6 _ rfl
        clear hc
        by_cases hbig : (g k).s.size ≤ 100
        · by_cases hbd : (g k).d.2.1 ≤ 100
          · go_wp2
            go_round
            case rel => exact ⟨k + 1, by go_num, by omega, by omega, fun j hj => by
              rcases Nat.lt_or_ge j k with h | h
              · exact HZ.out j h
              · obtain rfl : j = k := by omega
                exact hbig⟩
            case measure => simp [intOf]; omega
          · go_wp2
            go_ret
            exact ⟨false, rfl, rfl, fun h => by cases h⟩
        · go_wp2
          go_ret
          exact ⟨false, rfl, rfl, fun h => by cases h⟩
    · by_cases hk : k < nl
      all_goals go_wp2
      all_goals go_ret
      all_goals (
        refine ⟨_, rfl, rfl, fun h => ?_⟩
        first
          | (cases h; done)
          | (have h' := of_decide_eq_true h
             exact ⟨by omega, fun i hi => HZ.out i (by omega)⟩))
end Go.Proofs.YtmdhlodafjpnmaaGreat
namespace Go.Proofs.YtmdhlodafjpnmaaGreat
open Go.RowKit
open Go.Maps (Keyed)
set_option linter.unusedVariables false
set_option linter.unusedSimpArgs false
set_option maxRecDepth 100000
set_option maxHeartbeats 4000000

theorem GoodG.near {M N : NG} (g : GoodG N) (h : Near M N) : GoodG M := by
  have hw : (PN.waitsOf M.L).Perm (PN.waitsOf N.L) := h.L.flatMap_right _
  refine ⟨(h.L.map _).nodup_iff.2 g.lr, (h.C.map _).nodup_iff.2 g.cr, ?_, fun k hk => ?_, hw.nodup_iff.2 g.va, fun y hy => g.op y (h.C.mem_iff.1 hy), fun y hy => g.ok y (h.C.mem_iff.1 hy), by rw [h.L.length_eq]; exact g.nl, by rw [h.C.length_eq]; exact g.nc, fun x hx => g.ls x (h.L.mem_iff.1 hx)⟩
  · exact (List.Perm.pairwise_iff (R := fun x y : PN.PL => ¬ (x.s = y.s ∧ x.p = y.p)) (fun {x y} hxy hyx => hxy ⟨hyx.1.symm, hyx.2.symm⟩) h.L).2 g.ad
  · obtain ⟨y, hy, h1, h2⟩ := g.qu k (hw.mem_iff.1 hk)
    exact ⟨y, h.C.mem_iff.2 hy, h1, h2⟩
theorem Near.symm {M N : NG} (h : Near M N) : Near N M := ⟨h.L.symm, h.C.symm⟩
theorem OneG.good {Q : Nat → Prop} {B : NB} {N : NG} {G : Nat} {w : World} (h : OneG Q B N G w) : GoodG N := by
  obtain ⟨K, h1, _⟩ := h
  exact h1.good
theorem Two.good {Q : Nat → Prop} {B B2 : NB} {N N2 : NG} {G G2 : Nat} {w : World} (h : Two Q B N G B2 N2 G2 w) : GoodG N := h.one.good
/-- A call of the first that leaves a row to its caller. -/
theorem Two.callR {Q : Nat → Prop} {B B2 : NB} {N N2 N' : NG} {G G2 G' : Nat} {w : World} {fn : FuncId} {args : Array Value} {P : Value → Ending → World → Prop} (h : Two Q B N G B2 N2 G2 w)
    (hc : ∀ K, LiveG K B N G w → Calls Tryz.prog fn args w fun e w' => ∃ v, P v e w' ∧ (∀ g, v.ownBlock = some g → w.heap.size ≤ g ∧ g < w'.heap.size) ∧ LiveG (fun z => K z ∨ v.ownBlock = some z) B N' G' w' ∧ FrK K w w') :
    Calls Tryz.prog fn args w fun e w' => ∃ v, P v e w' ∧ Two (fun z => Q z ∨ v.ownBlock = some z) B N' G' B2 N2 G2 w' ∧ FrK Q w w' := by
  obtain ⟨K1, K2, h1, h2, h3, h4⟩ := h
  refine (hc K1 h1).mono ?_
  rintro e w' ⟨v, hp, hr, hl, hf⟩
  obtain ⟨S, f1, f2⟩ := hf.split
  refine ⟨v, hp, ⟨_, _, hl, h2.moreS f1 (fun x hx hl => (h3 x hl).resolve_left (f2 x hx).2), fun z hz => ?_, fun z hz => ?_⟩, hf.mono (fun x _ hx => (h4 x hx).1)⟩
  · by_cases hlt : z < w.heap.size
    · exact (h3 z hlt).imp .inl .inl
    · exact .inr (.inr ⟨by omega, hz⟩)
  · rcases hz with hz | hz
    · exact ⟨.inl (h4 z hz).1, .inl (h4 z hz).2⟩
    · exact ⟨.inr hz, .inr (hr z hz)⟩

/-- The law's own blocks. -/
def HQ (w0 : World) (mp : Nat) (f : List WE) (z : Nat) : Prop := z < w0.heap.size ∨ WQ mp f z
/-- Between two rounds. -/
structure HolS (w0 w : World) (mp : Nat) (f : List WE) (B : NB) (N : NG) (G : Nat) : Prop where
  one : OneG (HQ w0 mp f) B N G w
  wt : WaitIs w mp f
  sm : SmallG N
  eq : ∀ r, Wf f r = N.wait r
  fr : Fr [] w0 w
  far : ∀ z, WQ mp f z → w0.heap.size ≤ z
/-- Within a round: both nets, the map, the call's own block, and what else is kept. -/
structure HolT (w0 w : World) (mp : Nat) (f : List WE) (E : Nat) (x : A19) (X : Nat → Prop) (B : NB) (N : NG) (G : Nat) (B2 : NB) (N2 : NG) (G2 : Nat) : Prop where
  two : Two (fun z => HQ w0 mp f z ∨ z = E ∨ X z) B N G B2 N2 G2 w
  wt : WaitIs w mp f
  eb : Blk w E 68 (a19C x)
  fr : Fr [] w0 w
  far : ∀ z, WQ mp f z → w0.heap.size ≤ z
  ne : ¬ WQ mp f E
section
variable {w0 w w' : World} {mp E : Nat} {f f' : List WE} {x : A19} {X X' : Nat → Prop} {B B2 : NB} {N N2 N' : NG} {G G2 G' : Nat}
theorem HolT.frK {W : World} {fb : List WE} (hwt : WaitIs w mp fb) (heb : Blk w E 68 (a19C x)) (hfr : Fr [] w0 w) (k : FrK (fun z => HQ w0 mp fb z ∨ z = E ∨ X z) w W) : WaitIs W mp fb ∧ Blk W E 68 (a19C x) ∧ Fr [] w0 W := by
  obtain ⟨S, f1, f2⟩ := k.list
  exact ⟨hwt.keep f1 (fun z hz hq => f2 z (.inl (.inr hq)) hz), heb.keep f1 (fun hm => f2 E (.inr (.inl rfl)) hm), k.old hfr (fun z hz => .inl (.inl hz))⟩
theorem HolT.swap (h : HolT w0 w mp f E x X B N G B2 N2 G2) : HolT w0 w mp f E x X B2 N2 G2 B N G := ⟨h.two.swap, h.wt, h.eb, h.fr, h.far, h.ne⟩
theorem HolT.new (h : HolT w0 w mp f E x X B N G B2 N2 G2) (hf : Fr [] w w') : HolT w0 w' mp f E x X B N G B2 N2 G2 :=
  ⟨h.two.new hf, h.wt.new hf, h.eb.keep hf (by simp), h.fr.step hf, h.far, h.ne⟩
/-- What is new is kept, too. -/
theorem HolT.newX (h : HolT w0 w mp f E x X B N G B2 N2 G2) (hf : Fr [] w w') : HolT w0 w' mp f E x (fun z => X z ∨ w.heap.size ≤ z ∧ z < w'.heap.size) B N G B2 N2 G2 :=
  ⟨h.two.turn hf (fun z hz => by cases hz) (fun z hz => by
    rcases hz with hz | hz | hz | hz
    · exact .inl (.inl hz)
    · exact .inl (.inr (.inl hz))
    · exact .inl (.inr (.inr hz))
    · exact .inr hz), h.wt.new hf, h.eb.keep hf (by simp), h.fr.step hf, h.far, h.ne⟩
theorem HolT.less (h : HolT w0 w mp f E x X B N G B2 N2 G2) (hx : ∀ z, X' z → X z) : HolT w0 w mp f E x X' B N G B2 N2 G2 := by
  refine ⟨?_, h.wt, h.eb, h.fr, h.far, h.ne⟩
  obtain ⟨K1, K2, h1, h2, h3, h4⟩ := h.two
  exact ⟨K1, K2, h1, h2, h3, fun z hz => h4 z (hz.imp id (Or.imp id (hx z)))⟩
theorem HolT.call {fn : FuncId} {args : Array Value} {P : Ending → World → Prop} (h : HolT w0 w mp f E x X B N G B2 N2 G2) (hc : ∀ K, LiveG K B N G w → Calls Tryz.prog fn args w fun e w' => P e w' ∧ LiveG K B N' G' w' ∧ FrK K w w') :
    Calls Tryz.prog fn args w fun e w' => P e w' ∧ HolT w0 w' mp f E x X B N' G' B2 N2 G2 ∧ FrK X w w' := by
  refine (h.two.call hc).mono ?_
  rintro e w' ⟨hp, ht, hk⟩
  obtain ⟨a1, a2, a3⟩ := HolT.frK h.wt h.eb h.fr hk
  exact ⟨hp, ⟨ht, a1, a2, a3, h.far, h.ne⟩, hk.mono (fun z _ hz => .inr (.inr hz))⟩
theorem HolT.callR {fn : FuncId} {args : Array Value} {P : Value → Ending → World → Prop} (h : HolT w0 w mp f E x X B N G B2 N2 G2) (hc : ∀ K, LiveG K B N G w → Calls Tryz.prog fn args w fun e w' => ∃ v, P v e w' ∧ (∀ g, v.ownBlock = some g → w.heap.size ≤ g ∧ g < w'.heap.size) ∧ LiveG (fun z => K z ∨ v.ownBlock = some z) B N' G' w' ∧ FrK K w w') :
    Calls Tryz.prog fn args w fun e w' => ∃ v, P v e w' ∧ HolT w0 w' mp f E x (fun z => v.ownBlock = some z) B N' G' B2 N2 G2 := by
  refine (h.two.callR hc).mono ?_
  rintro e w' ⟨v, hp, ht, hk⟩
  obtain ⟨a1, a2, a3⟩ := HolT.frK h.wt h.eb h.fr hk
  refine ⟨v, hp, ?_, a1, a2, a3, h.far, h.ne⟩
  obtain ⟨K1, K2, h1, h2, h3, h4⟩ := ht
  exact ⟨K1, K2, h1, h2, h3, fun z hz => h4 z (by
    rcases hz with hz | hz | hz
    · exact .inl (.inl hz)
    · exact .inl (.inr (.inl hz))
    · exact .inr hz)⟩
/-- The map turns. -/
theorem HolT.turn {S : List Nat} (h : HolT w0 w mp f E x X B N G B2 N2 G2) (hf : Fr S w w') (hS : ∀ z ∈ S, z < w.heap.size → WQ mp f z) (hw : WaitIs w' mp f') (hq : ∀ z, WQ mp f' z → WQ mp f z ∨ w.heap.size ≤ z ∧ z < w'.heap.size) : HolT w0 w' mp f' E x X B N G B2 N2 G2 := by
  have hEl := h.eb.lt
  have hwl := h.fr.size
  refine ⟨h.two.turn hf (fun z hz hl => .inl (.inr (hS z hz hl))) (fun z hz => ?_), hw, h.eb.keep hf (fun hm => h.ne (hS E hm hEl)), h.fr.trans hf (fun z hz hl => ?_), fun z hz => ?_, fun hE => ?_⟩
  · rcases hz with (hz | hz) | hz
    · exact .inl (.inl (.inl hz))
    · exact (hq z hz).imp (fun hh => .inl (.inr hh)) id
    · exact .inl (.inr hz)
  · have := h.far z (hS z hz (by omega))
    omega
  · rcases hq z hz with hh | hh
    · exact h.far z hh
    · omega
  · rcases hq E hE with hh | hh
    · exact h.ne hh
    · omega
end
end Go.Proofs.YtmdhlodafjpnmaaGreat
namespace Go.Proofs.YtmdhlodafjpnmaaGreat
open Go.RowKit
open Go.Maps (Keyed)
set_option linter.unusedVariables false
set_option linter.unusedSimpArgs false
set_option maxRecDepth 100000
set_option maxHeartbeats 4000000

theorem IntRow.keepB {w w' : World} {v : Value} {xs : List Int} (h : IntRow w v xs) (hf : FrK (fun z => v.ownBlock = some z) w w') : IntRow w' v xs := by
  rcases h with h | ⟨g, off, cap, rfl, h1, h2⟩
  · exact .inl h
  · exact .inr ⟨g, off, cap, rfl, h1, fun i x hx => hf.cell (h2 i x hx) rfl⟩
theorem IntRow.newF {w w' : World} {v : Value} {xs : List Int} (h : IntRow w v xs) (hf : Fr [] w w') : IntRow w' v xs := h.keepB (FrK.new hf)
theorem IntRow.ofRowH {w : World} {lo : Nat} {v : Value} {xs : List Int} (h : RowOf w lo v (xs.map (Value.int .i64))) (hl : xs.length ≤ 100000) : IntRow w v xs := by
  rcases h with ⟨h1, rfl⟩ | ⟨g, cap, rfl, h1, h2, h3⟩
  · exact .inl ⟨by simpa using h1, _, _, rfl⟩
  · refine .inr ⟨g, 0, cap, by simp, by unfold maxLen; omega, fun i x hx => ?_⟩
    rw [Nat.zero_add]
    exact h3 i _ (by simp [hx])
section
variable {w0 w : World} {mp E : Nat} {f : List WE} {x : A19} {X : Nat → Prop} {B B2 : NB} {N N2 N' : NG} {G G2 : Nat}
theorem c_listen (h : HolT w0 w mp f E x X B N G B2 N2 G2) (s : ByteArray) (p most : Int) (hs : s.size ≤ 1000000) :
    Calls Tryz.prog 30 #[.pointer (some ⟨B.n, 0, none⟩), .agg #[.string s, .int .i64 p], .int .i64 most] w fun e w' =>
      e = .returned (.tuple #[.int .i64 (N.listen s p most (addrB s.data.toList p)).2.1, .agg #[.string (N.listen s p most (addrB s.data.toList p)).2.2.1.1, .int .i64 (N.listen s p most (addrB s.data.toList p)).2.2.1.2], .int .i64 (N.listen s p most (addrB s.data.toList p)).2.2.2]) ∧ HolT w0 w' mp f E x X B (N.listen s p most (addrB s.data.toList p)).1 G B2 N2 G2 :=
  (h.call (fun K hl => listen_lg s p most hl hs)).mono fun _ _ ⟨a, b, _⟩ => ⟨a, b⟩
theorem c_listens (h : HolT w0 w mp f E x X B N G B2 N2 G2) (s : ByteArray) (p most : Int) (hs : s.size ≤ 1000000) :
    Calls Tryz.prog 10 #[.pointer (some ⟨B2.n, 0, none⟩), .agg #[.string s, .int .i64 p], .int .i64 most, .int .i64 (N2.listen s p most (addrB s.data.toList p)).2.1, .agg #[.string (N2.listen s p most (addrB s.data.toList p)).2.2.1.1, .int .i64 (N2.listen s p most (addrB s.data.toList p)).2.2.1.2], .int .i64 (N2.listen s p most (addrB s.data.toList p)).2.2.2] w fun e w' =>
      e = .returned (.bool true) ∧ HolT w0 w' mp f E x X B N G B2 (N2.listen s p most (addrB s.data.toList p)).1 G2 :=
  listens_t (fun w' => HolT w0 w' mp f E x X B N G B2 (N2.listen s p most (addrB s.data.toList p)).1 G2) w s p most _ _ _ _ (fun W hf => by
    refine ((h.newX hf).swap.call (fun K hl => listen_lg s p most hl hs)).mono ?_
    rintro e w' ⟨he, ht, hk⟩
    exact ⟨he, ht.swap.less (fun z hz => .inl hz), hk.mono (fun z _ hz => .inr hz)⟩) (fun W W' hq hf => hq.new hf)
theorem c_connect (h : HolT w0 w mp f E x X B N G B2 N2 G2) (s : ByteArray) (p c : Int) (hs : s.size ≤ 1000000) (hG : G ≤ 1000000) :
    Calls Tryz.prog 31 #[.pointer (some ⟨B.n, 0, none⟩), .agg #[.string s, .int .i64 p], .int .i64 c] w fun e w' =>
      e = .returned (.tuple #[.int .i64 (N.connectA s p c).2.1, .int .i64 (N.connectA s p c).2.2]) ∧ HolT w0 w' mp f E x X B (N.connectA s p c).1 (G + 1) B2 N2 G2 :=
  (h.call (fun K hl => connect_lg s p c hl hs hG)).mono fun _ _ ⟨a, b, _⟩ => ⟨a, b⟩
theorem c_connects (h : HolT w0 w mp f E x X B N G B2 N2 G2) (s : ByteArray) (p c : Int) (hs : s.size ≤ 1000000) (hG : G2 ≤ 1000000) :
    Calls Tryz.prog 16 #[.pointer (some ⟨B2.n, 0, none⟩), .agg #[.string s, .int .i64 p], .int .i64 c, .int .i64 (N2.connectA s p c).2.1, .int .i64 (N2.connectA s p c).2.2] w fun e w' =>
      e = .returned (.bool true) ∧ HolT w0 w' mp f E x X B N G B2 (N2.connectA s p c).1 (G2 + 1) :=
  connects_t (fun w' => HolT w0 w' mp f E x X B N G B2 (N2.connectA s p c).1 (G2 + 1)) w s p c _ _ (fun W hf => by
    refine ((h.new hf).swap.call (fun K hl => connect_lg s p c hl hs hG)).mono ?_
    rintro e w' ⟨he, ht, hk⟩
    exact ⟨he, ht.swap⟩)
theorem c_pair (h : HolT w0 w mp f E x X B N G B2 N2 G2) (c : Int) :
    Calls Tryz.prog 33 #[.pointer (some ⟨B.n, 0, none⟩), .int .i64 c] w fun e w' =>
      e = .returned (.tuple #[.int .i64 (N.pairA c).2.1, .int .i64 (N.pairA c).2.2]) ∧ HolT w0 w' mp f E x X B (N.pairA c).1 G B2 N2 G2 :=
  (h.call (fun K hl => pair_lg c hl)).mono fun _ _ ⟨a, b, _⟩ => ⟨a, b⟩
theorem c_pairs (h : HolT w0 w mp f E x X B N G B2 N2 G2) (c : Int) :
    Calls Tryz.prog 14 #[.pointer (some ⟨B2.n, 0, none⟩), .int .i64 c, .int .i64 (N2.pairA c).2.1, .int .i64 (N2.pairA c).2.2] w fun e w' =>
      e = .returned (.bool true) ∧ HolT w0 w' mp f E x X B N G B2 (N2.pairA c).1 G2 :=
  pairs_t (fun w' => HolT w0 w' mp f E x X B N G B2 (N2.pairA c).1 G2) w c _ _ ((h.swap.call (fun K hl => pair_lg c hl)).mono fun _ _ ⟨a, b, _⟩ => ⟨a, b.swap⟩)
theorem c_accept (h : HolT w0 w mp f E x X B N G B2 N2 G2) (r : Int) (hr : I64 r) (hG : G ≤ 1000000) :
    Calls Tryz.prog 34 #[.pointer (some ⟨B.n, 0, none⟩), .int .i64 r] w fun e w' =>
      e = .returned (.tuple #[.int .i64 (N.accept r).2.1, .int .i64 (N.accept r).2.2]) ∧ HolT w0 w' mp f E x X B (N.accept r).1 G B2 N2 G2 :=
  (h.call (fun K hl => accept_lg r hl hr.1 hr.2 hG)).mono fun _ _ ⟨a, b, _⟩ => ⟨a, b⟩
theorem c_accepts (h : HolT w0 w mp f E x X B N G B2 N2 G2) (r : Int) (hr : I64 r) (hG : G2 ≤ 1000000) :
    Calls Tryz.prog 21 #[.pointer (some ⟨B2.n, 0, none⟩), .int .i64 r, .int .i64 (N2.accept r).2.1, .int .i64 (N2.accept r).2.2] w fun e w' =>
      e = .returned (.bool true) ∧ HolT w0 w' mp f E x X B N G B2 (N2.accept r).1 G2 :=
  accepts_t (fun w' => HolT w0 w' mp f E x X B N G B2 (N2.accept r).1 G2) w r _ _ ((h.swap.call (fun K hl => accept_lg r hl hr.1 hr.2 hG)).mono fun _ _ ⟨a, b, _⟩ => ⟨a, b.swap⟩)
theorem c_hang (h : HolT w0 w mp f E x X B N G B2 N2 G2) (r en : Int) (hr : I64 r) (hG : G ≤ 1000000) :
    Calls Tryz.prog 18 #[.pointer (some ⟨B.n, 0, none⟩), .int .i64 r, .int .i64 en] w fun e w' =>
      e = .returned (.int .i64 (N.hang r en).2) ∧ HolT w0 w' mp f E x X B (N.hang r en).1 G B2 N2 G2 :=
  (h.call (fun K hl => hang_lg r en hl hG hr.1 hr.2)).mono fun _ _ ⟨a, b, _⟩ => ⟨a, b⟩
theorem close_len {N : NG} (g : GoodG N) (r : Int) : (N.close r).2.1.length ≤ 128 := by
  unfold NG.close
  cases hat : PN.byRef N.L r with
  | none => simp
  | some y =>
    have := g.ls y (List.mem_of_find?_eq_some hat)
    show y.l.length ≤ 128
    omega
theorem c_close (h : HolT w0 w mp f E x X B N G B2 N2 G2) (r : Int) (hr : I64 r) (hG : G ≤ 1000000) :
    Calls Tryz.prog 35 #[.pointer (some ⟨B.n, 0, none⟩), .int .i64 r] w fun e w' => ∃ v,
      (e = .returned (.tuple #[v, .int .i64 (N.close r).2.2]) ∧ IntRow w' v (N.close r).2.1) ∧ HolT w0 w' mp f E x (fun z => v.ownBlock = some z) B (N.close r).1 G B2 N2 G2 :=
  h.callR (P := fun v e w' => e = .returned (.tuple #[v, .int .i64 (N.close r).2.2]) ∧ IntRow w' v (N.close r).2.1) (fun K hl => by
    refine (close_lg r hl hr.1 hr.2 hG).mono ?_
    rintro e w' ⟨v, he, hv, hl2, hk⟩
    refine ⟨v, ⟨he, IntRow.ofRowH hv (by have := close_len hl.good r; omega)⟩, fun g hg => ?_, hl2, hk⟩
    rcases hv with ⟨_, rfl⟩ | ⟨g', cap, rfl, h1, h2, _⟩
    · cases hg
    · simp only [Value.ownBlock, Option.some.injEq] at hg
      subst hg
      exact ⟨h1, h2⟩)
theorem c_closes {v : Value} {xs : List Int} (h : HolT w0 w mp f E x (fun z => v.ownBlock = some z) B N G B2 N2 G2) (hv : IntRow w v xs) (r : Int) (hr : I64 r) (hG : G2 ≤ 1000000) (hx : (N2.close r).2.1 = xs) :
    Calls Tryz.prog 22 #[.pointer (some ⟨B2.n, 0, none⟩), .int .i64 r, v, .int .i64 (N2.close r).2.2] w fun e w' =>
      e = .returned (.bool true) ∧ HolT w0 w' mp f E x (fun z => v.ownBlock = some z) B N G B2 (N2.close r).1 G2 ∧ IntRow w' v xs :=
  closes_t (fun w' => HolT w0 w' mp f E x (fun z => v.ownBlock = some z) B N G B2 (N2.close r).1 G2 ∧ IntRow w' v xs) w r _ v xs (by
    refine (h.swap.call (P := fun e w' => ∃ u, e = .returned (.tuple #[u, .int .i64 (N2.close r).2.2]) ∧ IntRow w' u xs) (N' := (N2.close r).1) (G' := G2) (fun K hl => ?_)).mono ?_
    · refine (close_lg r hl hr.1 hr.2 hG).mono ?_
      rintro e w' ⟨u, he, hu, hl2, hk⟩
      rw [hx] at hu
      exact ⟨⟨u, he, IntRow.ofRowH hu (by have := close_len hl.good r; rw [hx] at this; omega)⟩, hl2.less (fun z hz => .inl hz), hk⟩
    · rintro e w' ⟨⟨u, he, hu⟩, ht, hk⟩
      exact ⟨u, he, hu, hv.keepB hk, ht.swap, hv.keepB hk⟩) (fun W W' hq hf => ⟨hq.1.new hf, hq.2.newF hf⟩)
end
end Go.Proofs.YtmdhlodafjpnmaaGreat
namespace Go.Proofs.YtmdhlodafjpnmaaGreat
open Go.RowKit
open Go.Maps (Keyed)
set_option linter.unusedVariables false
set_option linter.unusedSimpArgs false
set_option maxRecDepth 100000
set_option maxHeartbeats 4000000

theorem bslI (k : Int) (w : World) : (Instr.buildSlice 75 1 #[(0, .int .i64 k)]).run Tryz.prog w = .ok (.slice (some ⟨w.heap.size, 0, none⟩) 1 1) (w.alloc (.cells #[.int .i64 k] 3)) := by kernel_rfl
theorem exec_slice1 {P : Program} {o : Oper} {a : Act} {w w' : World} {v : Value} {t : TypeId} {x y : Operand} {V U : Value} (ho : o.op = .slice t x (some y) none none) (hx : a.eval x = V) (hy : a.eval y = U) (ht : P.underlying t = some (.slice (P.elem t))) (hrun : (Instr.slice t V (some U) none none).run P w = .ok v w') : (execOp a.eval o).run P w = .ok (.value v) w' := by
  simp [execOp, ho, hx, hy, run_sliceAt_slice (P := P) w t V (some U) none none ht, hrun]
theorem wpList_appendI {P : Program} {ops : Array Oper} {rest : List Oper} {o : Oper} {a : Act} {w w' : World} {Q : Exit → Act → World → Prop} {t : TypeId} (hgd : o.guard = none) (s x : Operand)
    (ho : o.op = .call { callee := .builtin .append, args := #[s, x], argTypes := #[t, t] }) {v X v' : Value} (hs : a.eval s = v) (hX : a.eval x = X) (hrun : (Builtin.append_ #[t, t] o.type #[v, X]).run P w = .ok v' w')
    (h : wpList P ops Q rest (a.put o.dst v') w') : wpList P ops Q (o :: rest) a w := by
  refine wpList_plain hgd fun K hK => ?_
  unfold Oper.wp
  simp [execOp, ho, resolve, invoke, builtin, hs, hX, hrun, Result.andThen]
  exact hK _ _ h
theorem lookup_is {w : World} {mp : Nat} {f : List WE} (h : WaitIs w mp f) (r : Int) (h0 : -9223372036854775808 ≤ r) (h1 : r ≤ 9223372036854775807) :
    ∃ v, (∀ w', WaitIs w' mp f → (Instr.lookup 70 (.map (some mp)) (.int .i64 r) false).run Tryz.prog w' = .ok v w') ∧ (∀ g, v.ownBlock = some g → ∃ x ∈ f, x.k = r ∧ x.v.ownBlock = some g) := by
  rcases Wf_cases f r with ⟨f1, x, f2, rfl, rfl⟩ | ⟨hno, he⟩
  · have hx : x ∈ f1 ++ x :: f2 := by simp
    refine ⟨x.v, fun w' h' => ?_, fun g hg => ⟨x, hx, rfl, hg⟩⟩
    have := h'.map.hit keyInt (t := 70) (e := 75) Tryz.underlying70 (x := .int .i64 x.k) (v := x.v) (List.mem_map.2 ⟨x, hx, rfl⟩) false
    simpa only [Bool.false_eq_true, if_false] using this
  · refine ⟨.slice none 0 0, fun w' h' => ?_, fun g hg => by cases hg⟩
    have := h'.map.miss keyInt (t := 70) (e := 75) Tryz.underlying70 (keyInt_of r h0 h1) (z := .slice none 0 0) (fun p hp hpe => by
      obtain ⟨x, hx, rfl⟩ := List.mem_map.1 hp
      simp only [WE.ent, Value.int.injEq, true_and] at hpe
      exact hno x hx hpe) (by kernel_rfl) false
    simpa only [Bool.false_eq_true, if_false] using this
theorem lookupSl_own {w : World} {mp : Nat} {f : List WE} (h : WaitIs w mp f) (r : Int) (h0 : -9223372036854775808 ≤ r) (h1 : r ≤ 9223372036854775807) {v : Value} (hlk : (Instr.lookup 70 (.map (some mp)) (.int .i64 r) false).run Tryz.prog w = .ok v w) {g : Nat} (hg : v.ownBlock = some g) : ∃ x ∈ f, x.k = r ∧ x.v.ownBlock = some g := by
  obtain ⟨u, h2, h3⟩ := lookup_is h r h0 h1
  rw [h2 w h] at hlk
  cases hlk
  exact h3 g hg
theorem lookup_same {w w' : World} {mp : Nat} {f : List WE} (h : WaitIs w mp f) (hf : Fr [] w w') (r : Int) (h0 : -9223372036854775808 ≤ r) (h1 : r ≤ 9223372036854775807) {v : Value} (hlk : (Instr.lookup 70 (.map (some mp)) (.int .i64 r) false).run Tryz.prog w = .ok v w) : (Instr.lookup 70 (.map (some mp)) (.int .i64 r) false).run Tryz.prog w' = .ok v w' := by
  obtain ⟨u, h2, h3⟩ := lookup_is h r h0 h1
  rw [h2 w h] at hlk
  cases hlk
  exact h2 w' (h.new hf)
theorem wait_len {N : NG} (g : GoodG N) (r : Int) : (N.wait r).length ≤ 128 := by
  unfold NG.wait
  cases hat : PN.byRef N.L r with
  | none => simp
  | some y =>
    have := g.ls y (byRef_mem hat).1
    show y.l.length ≤ 128
    omega
theorem wpList_deleteI {P : Program} {ops : Array Oper} {rest : List Oper} {o : Oper} {a : Act} {w w' : World} {Q : Exit → Act → World → Prop} {t u : TypeId} (hgd : o.guard = none) (s x : Operand)
    (ho : o.op = .call { callee := .builtin .delete, args := #[s, x], argTypes := #[t, u] }) {v X v' : Value} (hs : a.eval s = v) (hX : a.eval x = X) (hrun : (Builtin.delete_ #[t, u] o.type #[v, X]).run P w = .ok v' w')
    (h : wpList P ops Q rest (a.put o.dst v') w') : wpList P ops Q (o :: rest) a w := by
  refine wpList_plain hgd fun K hK => ?_
  unfold Oper.wp
  simp [execOp, ho, resolve, invoke, builtin, hs, hX, hrun, Result.andThen]
  exact hK _ _ h
/-- A copy of a connection that is closed at its end 1 and holds nothing, read at its end 0. -/
def ShutRd (w : World) (e : Ending) (w' : World) : Prop := ∃ (va : Option Addr) (vc : Nat) (er : Int), e = .returned (.tuple #[.slice va 0 vc, .int .i64 er]) ∧ (er = 13 ∨ er = 14) ∧ Fr [] w w'
theorem read_copy {w0 w : World} {own : Nat → Nat} {c d : Nat} {x : CC} (h : DupB w own c d x) (hc : c % 4 = 1) (ok : CcOk x) (he : Emp x) (ha : x.a1 = true) (f0 : Fr [] w0 w) (hn : ∀ z, z < w0.heap.size → own z ≠ c ∧ own z ≠ c + 4 ∧ own z ≠ c + 8) :
    Calls Tryz.prog 38 #[.pointer (some ⟨d, 0, none⟩), .int .i64 0, .int .i64 1] w (ShutRd w0) := by
  obtain ⟨h1, h2⟩ := read_shut ok he ha
  refine (dupRead_0 h hc 1).mono ?_
  rintro e w' ⟨s, rfl, hs, own', hx, hd, S, f1, f2⟩
  rw [h1] at hs
  obtain ⟨a, c', hv⟩ := (RowV.of_own hs).val
  refine ⟨a, c', _, by rw [hv]; rfl, h2, f0.trans f1 (fun z hz hl => ?_)⟩
  have h3 := f2 z hz (Nat.lt_of_lt_of_le hl f0.size)
  have h4 := hn z hl
  omega
theorem HolT.monoG {w0 w : World} {mp E : Nat} {f : List WE} {x : A19} {X : Nat → Prop} {B B2 : NB} {N N2 : NG} {G G2 G' G2' : Nat} (h : HolT w0 w mp f E x X B N G B2 N2 G2) (h1 : G ≤ G') (h2 : G2 ≤ G2') : HolT w0 w mp f E x X B N G' B2 N2 G2' := by
  refine ⟨?_, h.wt, h.eb, h.fr, h.far, h.ne⟩
  obtain ⟨K1, K2, k1, k2, k3, k4⟩ := h.two
  exact ⟨K1, K2, k1.mono h1, k2.mono h2, k3, k4⟩
/-- Between a round's calls and its end. -/
def HolU (w0 w : World) (mp E : Nat) (x : A19) (B B2 : NB) (G : Nat) : Prop :=
  ∃ (f : List WE) (X : Nat → Prop) (N N2 : NG), HolT w0 w mp f E x X B N G B2 N2 300 ∧ Near N N2 ∧ SmallG N ∧ ∀ r, Wf f r = N.wait r
section
variable (w0 : World) (mp E : Nat) (f : List WE) (x : A19) (X : Nat → Prop) (B B2 : NB) {N N2 : NG} {G G2 : Nat} (near : Near N N2) (gd : GoodG N) (sm : SmallG N) (hG : G ≤ 1000) (hG2 : G2 ≤ 1000)
include near gd sm hG hG2
theorem b_listen (hs : x.s.size ≤ 1000000) : ∃ (N' N2' : NG) (r : Int) (s1 : ByteArray) (p1 e0 : Int),
    (∀ W, HolT w0 W mp f E x X B N G B2 N2 G2 → Calls Tryz.prog 30 #[.pointer (some ⟨B.n, 0, none⟩), .agg #[.string x.s, .int .i64 x.p], .int .i64 x.n] W fun e w' => e = .returned (.tuple #[.int .i64 r, .agg #[.string s1, .int .i64 p1], .int .i64 e0]) ∧ HolT w0 w' mp f E x X B N' G B2 N2 G2) ∧
    (∀ W, HolT w0 W mp f E x X B N' G B2 N2 G2 → Calls Tryz.prog 10 #[.pointer (some ⟨B2.n, 0, none⟩), .agg #[.string x.s, .int .i64 x.p], .int .i64 x.n, .int .i64 r, .agg #[.string s1, .int .i64 p1], .int .i64 e0] W fun e w' => e = .returned (.bool true) ∧ HolT w0 w' mp f E x X B N' G B2 N2' G2) ∧
    Near N' N2' ∧ SmallG N' ∧ (∀ q, N'.wait q = N.wait q) ∧ (e0 = 0 → N.wait r = []) ∧ 0 ≤ r ∧ r ≤ 1000 := by
  obtain ⟨k1, k2⟩ := near.listen gd x.s x.p x.n (addrB x.s.data.toList x.p)
  obtain ⟨s1, s2, s3⟩ := sm.listen gd x.s x.p x.n (addrB x.s.data.toList x.p)
  refine ⟨(N.listen x.s x.p x.n (addrB x.s.data.toList x.p)).1, (N2.listen x.s x.p x.n (addrB x.s.data.toList x.p)).1, (N.listen x.s x.p x.n (addrB x.s.data.toList x.p)).2.1, (N.listen x.s x.p x.n (addrB x.s.data.toList x.p)).2.2.1.1, (N.listen x.s x.p x.n (addrB x.s.data.toList x.p)).2.2.1.2, (N.listen x.s x.p x.n (addrB x.s.data.toList x.p)).2.2.2, fun W h => c_listen h _ _ _ hs, fun W h => ?_, k1, s1, s2, s3, ?_⟩
  · rw [k2]
    exact c_listens h _ _ _ hs
  · unfold NG.listen
    split
    · simp
    · split
      · simp
      · split
        · simp
        · have hf := (PN.free_spec (N.L.map (·.ref))).2.2
          rw [List.length_map] at hf
          have := gd.nl
          simp only
          omega
theorem b_connect (hs : x.s.size ≤ 1000000) : ∃ (N' N2' : NG) (k e0 : Int),
    (∀ W, HolT w0 W mp f E x X B N G B2 N2 G2 → Calls Tryz.prog 31 #[.pointer (some ⟨B.n, 0, none⟩), .agg #[.string x.s, .int .i64 x.p], .int .i64 x.n] W fun e w' => e = .returned (.tuple #[.int .i64 k, .int .i64 e0]) ∧ HolT w0 w' mp f E x X B N' (G + 1) B2 N2 G2) ∧
    (∀ W, HolT w0 W mp f E x X B N' (G + 1) B2 N2 G2 → Calls Tryz.prog 16 #[.pointer (some ⟨B2.n, 0, none⟩), .agg #[.string x.s, .int .i64 x.p], .int .i64 x.n, .int .i64 k, .int .i64 e0] W fun e w' => e = .returned (.bool true) ∧ HolT w0 w' mp f E x X B N' (G + 1) B2 N2' (G2 + 1)) ∧
    (∀ W, HolT w0 W mp f E x X B N' (G + 1) B2 N2' (G2 + 1) → Calls Tryz.prog 32 #[.pointer (some ⟨B.n, 0, none⟩), .agg #[.string x.s, .int .i64 x.p]] W fun e w' => ∃ r c : Int, e = .returned (.tuple #[.int .i64 r, .int .i64 c]) ∧ Fr [] W w' ∧
      (e0 = 0 → c = 0 ∧ 0 ≤ r ∧ r ≤ 1000 ∧ ∀ q, N'.wait q = if q = r then N.wait q ++ [k] else N.wait q)) ∧
    Near N' N2' ∧ SmallG N' ∧ (e0 ≠ 0 → ∀ q, N'.wait q = N.wait q) ∧ I64 k := by
  have k1 : Near (N.connectA x.s x.p x.n).1 (N2.connectA x.s x.p x.n).1 ∧ (N.connectA x.s x.p x.n).2 = (N2.connectA x.s x.p x.n).2 := by
    unfold NG.connectA
    split
    · exact ⟨near, rfl⟩
    · exact near.connect gd _ _ _
  obtain ⟨k1, k2⟩ := k1
  obtain ⟨s1, s2⟩ := sm.connect gd x.s x.p x.n
  refine ⟨(N.connectA x.s x.p x.n).1, (N2.connectA x.s x.p x.n).1, (N.connectA x.s x.p x.n).2.1, (N.connectA x.s x.p x.n).2.2, fun W h => c_connect h _ _ _ hs (by omega), fun W h => ?_, fun W h => ?_, k1, s1, fun h0 => ?_, ?_⟩
  · rw [k2]
    exact c_connects h _ _ _ hs (by omega)
  · obtain ⟨K1, K2, h1, _⟩ := h.two
    refine (findA_lg x.s x.p h1 hs).mono ?_
    rintro e w' ⟨v, c, rfl, hv, hf⟩
    refine ⟨v, c, rfl, hf, fun h0 => ?_⟩
    rw [if_pos h0] at s2
    obtain ⟨a1, a2, a3, a4, a5⟩ := s2
    obtain ⟨v1, v2⟩ := hv a2
    have a6 := a4 _ a5
    rw [a6] at v1 v2
    refine ⟨by rw [v2]; exact a1, ?_, ?_, by rw [v1]; exact a3⟩
    · rw [v1]
      unfold NG.find
      split <;> simp
    · rw [v1]
      unfold NG.find
      split
      · simp
      · rename_i y hy
        have := sm.lr y (List.mem_of_find?_eq_some hy)
        simp only
        omega
  · rw [if_neg h0] at s2
    exact s2
  · unfold NG.connectA NG.connect I64
    have hf := (PN.free_spec (N.C.map (·.ref))).2.2
    rw [List.length_map] at hf
    have := gd.nc
    repeat' split
    all_goals (simp only; omega)
theorem b_pair : ∃ (N' N2' : NG) (k e0 : Int),
    (∀ W, HolT w0 W mp f E x X B N G B2 N2 G2 → Calls Tryz.prog 33 #[.pointer (some ⟨B.n, 0, none⟩), .int .i64 x.n] W fun e w' => e = .returned (.tuple #[.int .i64 k, .int .i64 e0]) ∧ HolT w0 w' mp f E x X B N' G B2 N2 G2) ∧
    (∀ W, HolT w0 W mp f E x X B N' G B2 N2 G2 → Calls Tryz.prog 14 #[.pointer (some ⟨B2.n, 0, none⟩), .int .i64 x.n, .int .i64 k, .int .i64 e0] W fun e w' => e = .returned (.bool true) ∧ HolT w0 w' mp f E x X B N' G B2 N2' G2) ∧
    Near N' N2' ∧ SmallG N' ∧ (∀ q, N'.wait q = N.wait q) := by
  have k1 : Near (N.pairA x.n).1 (N2.pairA x.n).1 ∧ (N.pairA x.n).2 = (N2.pairA x.n).2 := by
    unfold NG.pairA
    split
    · exact ⟨near, rfl⟩
    · exact near.pair _
  obtain ⟨k1, k2⟩ := k1
  obtain ⟨s1, s2⟩ := sm.pair gd x.n
  refine ⟨(N.pairA x.n).1, (N2.pairA x.n).1, (N.pairA x.n).2.1, (N.pairA x.n).2.2, fun W h => c_pair h _, fun W h => ?_, k1, s1, s2⟩
  rw [k2]
  exact c_pairs h _
theorem b_accept (hr : I64 x.ref) : ∃ (N' N2' : NG) (k e0 : Int),
    (∀ W, HolT w0 W mp f E x X B N G B2 N2 G2 → Calls Tryz.prog 34 #[.pointer (some ⟨B.n, 0, none⟩), .int .i64 x.ref] W fun e w' => e = .returned (.tuple #[.int .i64 k, .int .i64 e0]) ∧ HolT w0 w' mp f E x X B N' G B2 N2 G2) ∧
    (∀ W, HolT w0 W mp f E x X B N' G B2 N2 G2 → Calls Tryz.prog 21 #[.pointer (some ⟨B2.n, 0, none⟩), .int .i64 x.ref, .int .i64 k, .int .i64 e0] W fun e w' => e = .returned (.bool true) ∧ HolT w0 w' mp f E x X B N' G B2 N2' G2) ∧
    Near N' N2' ∧ SmallG N' ∧ (e0 = 0 → N.wait x.ref = k :: N'.wait x.ref ∧ ∀ q, q ≠ x.ref → N'.wait q = N.wait q) ∧ (e0 ≠ 0 → ∀ q, N'.wait q = N.wait q) := by
  obtain ⟨k1, k2⟩ := near.accept gd x.ref
  obtain ⟨s1, s2⟩ := sm.accept gd x.ref
  refine ⟨(N.accept x.ref).1, (N2.accept x.ref).1, (N.accept x.ref).2.1, (N.accept x.ref).2.2, fun W h => c_accept h _ hr (by omega), fun W h => ?_, k1, s1, fun h0 => ?_, fun h0 => ?_⟩
  · rw [k2]
    exact c_accepts h _ hr (by omega)
  · rw [if_pos h0] at s2
    exact s2
  · rw [if_neg h0] at s2
    exact s2
theorem b_close (hr : I64 x.ref) : ∃ (N' N2' : NG) (l : List Int) (e0 : Int),
    (∀ W, HolT w0 W mp f E x X B N G B2 N2 G2 → Calls Tryz.prog 35 #[.pointer (some ⟨B.n, 0, none⟩), .int .i64 x.ref] W fun e w' => ∃ v, (e = .returned (.tuple #[v, .int .i64 e0]) ∧ IntRow w' v l) ∧ HolT w0 w' mp f E x (fun z => v.ownBlock = some z) B N' G B2 N2 G2) ∧
    (∀ W v, IntRow W v l → HolT w0 W mp f E x (fun z => v.ownBlock = some z) B N' G B2 N2 G2 → Calls Tryz.prog 22 #[.pointer (some ⟨B2.n, 0, none⟩), .int .i64 x.ref, v, .int .i64 e0] W fun e w' => e = .returned (.bool true) ∧ HolT w0 w' mp f E x (fun z => v.ownBlock = some z) B N' G B2 N2' G2 ∧ IntRow w' v l) ∧
    Near N' N2' ∧ SmallG N' ∧ l = N.wait x.ref ∧ (∀ q, N'.wait q = if q = x.ref then [] else N.wait q) ∧ (∀ k ∈ l, ∀ y, byG N'.C k = some y → y.c.a1 = true) ∧ l.length ≤ 128 ∧ ∀ k ∈ l, I64 k := by
  obtain ⟨k1, k2⟩ := near.close gd x.ref
  obtain ⟨s1, s2, s3, s4⟩ := sm.close gd x.ref
  refine ⟨(N.close x.ref).1, (N2.close x.ref).1, (N.close x.ref).2.1, (N.close x.ref).2.2, fun W h => c_close h _ hr (by omega), fun W v hv h => ?_, k1, s1, s2, s3, s4, close_len gd _, fun k hk => ?_⟩
  · rw [k2] at hv ⊢
    exact c_closes h hv _ hr (by omega) rfl
  · rw [s2] at hk
    have hw : k ∈ PN.waitsOf N.L := by
      unfold NG.wait at hk
      cases hat : PN.byRef N.L x.ref with
      | none => rw [hat] at hk; cases hk
      | some y =>
        rw [hat] at hk
        exact List.mem_flatMap.2 ⟨y, (byRef_mem hat).1, hk⟩
    obtain ⟨y, hy, h1, _⟩ := gd.qu k hw
    have := sm.cr y hy
    unfold I64
    omega
theorem b_hang (hr : I64 x.ref) : ∃ (N' N2' : NG) (e0 : Int),
    (∀ W, HolT w0 W mp f E x X B N G B2 N2 G2 → Calls Tryz.prog 18 #[.pointer (some ⟨B.n, 0, none⟩), .int .i64 x.ref, .int .i64 x.en] W fun e w' => e = .returned (.int .i64 e0) ∧ HolT w0 w' mp f E x X B N' G B2 N2 G2) ∧
    (∀ W, HolT w0 W mp f E x X B N' G B2 N2 G2 → Calls Tryz.prog 18 #[.pointer (some ⟨B2.n, 0, none⟩), .int .i64 x.ref, .int .i64 x.en] W fun e w' => e = .returned (.int .i64 e0) ∧ HolT w0 w' mp f E x X B N' G B2 N2' G2) ∧
    Near N' N2' ∧ SmallG N' ∧ (∀ q, N'.wait q = N.wait q) ∧ (x.en = 1 → ∀ r, x.ref ∈ N.wait r → e0 = 8) := by
  obtain ⟨k1, k2⟩ := near.hang gd x.ref x.en
  obtain ⟨s1, s2⟩ := sm.hang x.ref x.en
  refine ⟨(N.hang x.ref x.en).1, (N2.hang x.ref x.en).1, (N.hang x.ref x.en).2, fun W h => c_hang h _ _ hr (by omega), fun W h => ?_, k1, s1, s2, fun he r hk => ?_⟩
  · rw [k2]
    refine (c_hang h.swap _ _ hr (by omega)).mono ?_
    rintro e w' ⟨he, ht⟩
    exact ⟨he, ht.swap⟩
  · rw [he]
    exact hang_waits gd _ r hk
end
end Go.Proofs.YtmdhlodafjpnmaaGreat
