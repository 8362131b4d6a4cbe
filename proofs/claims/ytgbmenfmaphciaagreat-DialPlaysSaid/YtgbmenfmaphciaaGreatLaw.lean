/- Lemmas of no program: the end of a law's proof (it returned true and nothing that was there has turned), and a slice of structs opened cell by cell. -/
import Derived.WalkKit
import Derived.ProofKit
import Derived.OpenShut
import Derived.Carry
import Derived.Deep.Slices
namespace Go.Proofs.YtgbmenfmaphciaaGreat.laws
open Go.ChangeShapes Go.WideShapes Go.ChangeAt Go.RowKit
theorem trodAll_stays {H : Type} {enc : TypeId × Value → H} {P : Program} (hl : laidOutB P = true) {W W' : World} (hb : Below W.heap.size W W') :
  ∀ (ts : List TypeId) (vs : List Value) (ds : List (DataW H)) (ps : List MemPlace), ts.all (fun t => P.readableRec t && decide (t < P.types.size)) = true →
   DataW.TrodAll enc P W 0 (fun _ => true) true ts vs ds ps → (∀ x ∈ ps, x.block < W.heap.size) → DataW.TrodAll enc P W' 0 (fun b => decide (b < W.heap.size)) true ts vs ds ps := by
 intro ts
 induction ts with
 | nil =>
  intro vs ds ps _ h _
  cases vs <;> cases ds <;> first | exact h | (simp [DataW.TrodAll] at h)
 | cons t ts ih =>
  intro vs ds ps ha h hlt
  obtain ⟨v0, vs0, d0, ds0, p0, q0, rfl, rfl, rfl, h0, r0⟩ := trodAll_cons h
  simp only [List.all_cons, Bool.and_eq_true, decide_eq_true_eq] at ha
  obtain ⟨⟨hr, hrow⟩, ha'⟩ := ha
  exact trodAll_cons_mk (Below.trod hl hr hrow h0 hb (fun x hx => hlt x (List.mem_append_left _ hx))) (ih _ _ _ ha' r0 (fun x hx => hlt x (List.mem_append_right _ hx)))
theorem law_post {H : Type} {enc : TypeId × Value → H} {P : Program} {fn : Func} {s : ChangeSpec} {W W' : World} {args : Array Value} {ds gs : List (DataW H)} {before : List MemPlace} {tb : TypeId}
  (hl : laidOutB P = true) (hts : fn.params.toList.all (fun t => P.readableRec t && decide (t < P.types.size)) = true) (hvars : s.vars = []) (hres : fn.resultTypes = #[tb]) (hbt : P.underlying tb = some .bool)
  (hW : DataW.Whole enc P fn.params.toList s.vars false W args.toList ds gs before)
  (hs : s.fn H (ds ++ gs) = { results := [.lit (.bool true)], args := ds }) (hb : Below W.heap.size W W') :
  s.post enc P fn false true false false W args (.bool true) W' := by
 have hW' := hW
 obtain ⟨p, q, hA, hV, hpq, hfz, hnd⟩ := hW
 refine ⟨ds, gs, before, [], p, [], hW', ?_, ?_, ?_, hb.frame _, fun h => by cases h⟩
 ·rw [hs, hres]
  exact trodAll_cons_mk (shut_bool hbt _) trodAll_mk0
 ·rw [hs]
  exact trodAll_stays hl hb _ _ _ _ hts hA (fun x hx => hW'.lt x (by rw [hpq]; exact List.mem_append_left _ hx))
 ·rw [hs, hvars]
  rfl
theorem open_rows {H : Type} {enc : TypeId × Value → H} {P : Program} {w : World} {t e : TypeId} {C fuel : Nat} {sa : Option Addr} {slen scap : Nat} {x : DataW H × List MemPlace} (ht : P.underlying t = some (.slice e)) (hC : P.cellsOf e = C) (hC0 : 0 < C)
  (h : DataW.trod enc P w 0 (fun _ => true) true fuel t [.slice sa slen scap] = some x) :
  (sa = none ∧ slen = 0 ∧ scap = 0) ∨ slen ≤ scap ∧ scap ≤ maxLen ∧ ∃ a : Addr, sa = some a ∧ (slen = 0 ∨ ∃ b off, a = ⟨b, off, none⟩ ∧ ∀ i, i < slen → ∃ (cs : List Value) (n : Nat) (y : DataW H × List MemPlace), cs.length = C ∧ (∀ j, j < C → w.cell? ⟨b, off + i * C + j, none⟩ = cs[j]?) ∧ DataW.trod enc P w 0 (fun _ => true) true n e cs = some y) := by
 rcases Deep.open_slice ht h with ⟨h0, _⟩ | ⟨a, len, cap, m, n, D, Pl, h0, hb, hl, hm, hmm, _, hx⟩
 ·simp only [List.cons.injEq, Value.slice.injEq, and_true] at h0
  exact .inl h0
 ·simp only [List.cons.injEq, Value.slice.injEq, and_true] at h0
  obtain ⟨rfl, rfl, rfl⟩ := h0
  refine .inr ⟨hl, hm, a, rfl, ?_⟩
  simp only [if_true] at hmm
  subst hmm
  by_cases hz : slen = 0
  ·exact .inl hz
  ·refine .inr ?_
   obtain ⟨cs0, hc0, _⟩ := hx 0 (by omega)
   obtain ⟨_, hl0, hr0⟩ := World.cells?_some hc0
   have hsp : a.spot = none := by
    have h1 := hr0 0 (by rw [hC]; exact hC0)
    have h2 : ((a.add (0 * P.cellsOf e)).add 0) = a := by simp [Addr.add]
    rw [h2] at h1
    rcases hcell : w.cell? a with _ | v
    ·rw [hcell] at h1
     have := List.getElem?_eq_getElem (l := cs0) (i := 0) (by rw [hl0, hC]; exact hC0)
     rw [this] at h1
     cases h1
    ·exact World.cell?_spot hcell
   obtain ⟨b, off, spot⟩ := a
   simp only at hsp
   subst hsp
   refine ⟨b, off, rfl, fun i hi => ?_⟩
   obtain ⟨cs, hc, hy⟩ := hx i (by omega)
   obtain ⟨_, hl1, hr1⟩ := World.cells?_some hc
   refine ⟨cs, n, _, by rw [hl1, hC], fun j hj => ?_, hy⟩
   have h1 := hr1 j (by rw [hC]; exact hj)
   rw [Go.WideShapes.add_plain, Go.WideShapes.add_plain, hC] at h1
   exact h1
end Go.Proofs.YtgbmenfmaphciaaGreat.laws
