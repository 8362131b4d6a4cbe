/- 'range' over a map in memory, as a list of its keys and values: what has come, and what is still to come. -/
import Derived.Test.YtemihaijhcpnfaaGreatDoorMap
import Derived.Maps.RangeWalk
namespace Go.Proofs.YtemihaijhcpnfaaGreatDoor
open Go.RowKit Go.MapKept
open Go.Maps (Keyed)
set_option linter.unusedVariables false

/-- A range over the map b, with its iterator in r, under way: 'done' has come. -/
def RangeL (P : Program) (kt : TypeId) (w : World) (b r : Nat) (f done : List (Value × Value)) : Prop :=
  ∃ es clock since seen c0, w.heap[b]? = some (.map es clock) ∧ Stamped es clock ∧ (∀ e ∈ es.toList, ∃ l, keyOf P kt e.key = some l) ∧ es.toList.map (fun e => (e.key, e.val)) = f ∧
    w.heap[r]? = some (.mapIter (some b) since seen c0) ∧ (∀ x ∈ es.toList, x.born < since) ∧ since ≤ c0 ∧ since ≤ clock ∧ ∀ x ∈ es.toList, seen.contains x.born = true ↔ (x.key, x.val) ∈ done

section
variable {P : Program} {kt : TypeId} {w : World} {b r : Nat} {f done : List (Value × Value)}
theorem RangeL.map (h : RangeL P kt w b r f done) : MapIs P kt w b f := by
  obtain ⟨es, clock, _, _, _, h1, h2, h3, h4, _⟩ := h
  exact ⟨es, clock, h1, h2, h3, h4⟩
theorem RangeL.lt (h : RangeL P kt w b r f done) : r < w.heap.size := by
  obtain ⟨es, clock, _, _, _, _, _, _, _, hr, _⟩ := h
  exact (Array.getElem?_eq_some_iff.1 hr).1
theorem RangeL.keep {S : List Nat} {w' : World} (h : RangeL P kt w b r f done) (hf : Fr S w w') (hb : b ∉ S) (hr' : r ∉ S) : RangeL P kt w' b r f done := by
  have h1 := h.map.lt
  have h2 := h.lt
  obtain ⟨es, clock, since, seen, c0, hb', h3, h4, h5, hr, h6⟩ := h
  exact ⟨es, clock, since, seen, c0, (hf.block b h1 hb).trans hb', h3, h4, h5, (hf.block r h2 hr').trans hr, h6⟩
theorem RangeL.start (h : MapIs P kt w b f) : ∃ since c0, RangeL P kt (w.alloc (.mapIter (some b) since #[] c0)) b w.heap.size f [] ∧ ∀ t e, P.underlying t = some (.map kt e) → (Instr.range t (.map (some b))).run P w = .ok (.pointer (some ⟨w.heap.size, 0, none⟩)) (w.alloc (.mapIter (some b) since #[] c0)) := by
  obtain ⟨es, clock, hb, hs, hk, hf⟩ := h
  have hlt := (Array.getElem?_eq_some_iff.1 hb).1
  obtain ⟨h1, h2, h3⟩ := (stamped_iff es clock).1 hs
  refine ⟨clock, clock, ⟨es, clock, clock, #[], clock, (heap_alloc_old w _ hlt).trans hb, hs, hk, hf, heap_alloc_new w _, ?_, Nat.le_refl _, Nat.le_refl _, fun x hx => by simp⟩, fun t e ht => ?_⟩
  · exact h1
  · exact run_range_map w t kt e b es clock ht hb
theorem RangeL.left_eq (h : RangeL P kt w b r f done) : ∃ es seen, w.rangeLeft b r = (leftOf es seen).size ∧ True := by
  obtain ⟨es, clock, since, seen, c0, hb, _, _, _, hr, _⟩ := h
  exact ⟨es, seen, by simp only [World.rangeLeft, hb, hr], trivial⟩
theorem setBlock_fr (w w1 : World) (r : Nat) (o : Obj) (h : w1 = w ∨ w1 = w.drew) : Fr [r] w (Go.ChangeMaps.setBlock w1 r o) ∧ (Go.ChangeMaps.setBlock w1 r o).heap.size = w.heap.size := by
  have h1 : Fr [r] w1 (Go.ChangeMaps.setBlock w1 r o) := ⟨rfl, rfl, rfl, by simp [Go.ChangeMaps.setBlock], fun x hx hn => by
    simp only [List.mem_singleton] at hn
    simp [Go.ChangeMaps.setBlock, Ne.symm hn]⟩
  have h2 : (Go.ChangeMaps.setBlock w1 r o).heap.size = w1.heap.size := by simp [Go.ChangeMaps.setBlock]
  rcases h with rfl | rfl
  · exact ⟨h1, h2⟩
  · exact ⟨((Fr.refl [r] w).drew).trans h1 (fun x hx _ => hx), h2⟩
theorem RangeL.next (h : RangeL P kt w b r f done) (ty : TypeId) :
    ((∀ x ∈ f, x ∈ done) ∧ (Instr.next (.pointer (some ⟨r, 0, none⟩)) false ty).run P w = .ok (.tuple #[.bool false]) w) ∨
    ∃ k v w', (k, v) ∈ f ∧ (k, v) ∉ done ∧ (Instr.next (.pointer (some ⟨r, 0, none⟩)) false ty).run P w = .ok (.tuple #[.bool true, k, v]) w' ∧ RangeL P kt w' b r f ((k, v) :: done) ∧ Fr [r] w w' ∧ w'.heap.size = w.heap.size ∧ w'.rangeLeft b r < w.rangeLeft b r ∧
      (Instr.entry (.pointer (some ⟨r, 0, none⟩))).run P w' = .ok (.tuple #[k, v]) w' := by
  obtain ⟨es, clock, since, seen, c0, hb, hs, hk, hf, hr, hold, hsc, hcl, hd⟩ := h
  obtain ⟨s1, s2, s3⟩ := (stamped_iff es clock).1 hs
  have hrb : r ≠ b := fun e => by rw [e, hb] at hr; cases hr
  have hrl := (Array.getElem?_eq_some_iff.1 hr).1
  have hbl := (Array.getElem?_eq_some_iff.1 hb).1
  rcases run_next_at (P := P) w ty r b since c0 seen es clock hr hb hold hsc with ⟨h0, hrun⟩ | ⟨e, he, w1, hw1, hrun⟩
  · refine .inl ⟨fun x hx => ?_, hrun⟩
    rw [← hf] at hx
    obtain ⟨y, hy, rfl⟩ := List.mem_map.1 hx
    exact (hd y hy).1 (all_seen es seen h0 y hy)
  · obtain ⟨m1, m2⟩ := mem_left he
    obtain ⟨g1, g2⟩ := setBlock_fr w w1 r (.mapIter (some b) since (seen.push e.born) clock) hw1
    have hb1 : w1.heap[b]? = some (.map es clock) := by rcases hw1 with rfl | rfl <;> exact hb
    have hr1 : r < w1.heap.size := by rcases hw1 with rfl | rfl <;> exact hrl
    have hb' : (Go.ChangeMaps.setBlock w1 r (.mapIter (some b) since (seen.push e.born) clock)).heap[b]? = some (.map es clock) := (g1.block b hbl (by simpa using Ne.symm hrb)).trans hb
    have hr' : (Go.ChangeMaps.setBlock w1 r (.mapIter (some b) since (seen.push e.born) clock)).heap[r]? = some (.mapIter (some b) since (seen.push e.born) clock) := by simp [Go.ChangeMaps.setBlock, hr1]
    refine .inr ⟨e.key, e.val, _, ?_, ?_, hrun, ⟨es, clock, since, seen.push e.born, clock, hb', hs, hk, hf, hr', hold, hcl, hcl, fun x hx => ?_⟩, g1, g2, ?_, ?_⟩
    · rw [← hf]
      exact List.mem_map.2 ⟨e, m1, rfl⟩
    · intro hm
      have := (hd e m1).2 hm
      rw [m2] at this
      cases this
    · rw [contains_push, Bool.or_eq_true, beq_iff_eq, List.mem_cons, hd x hx]
      constructor
      · rintro (h | h)
        · exact .inr h
        · exact .inl (by rw [born_inj s2 hx m1 h])
      · rintro (h | h)
        · simp only [Prod.mk.injEq] at h
          exact .inr (by rw [Go.entry_eq_of_key s3 hx m1 h.1])
        · exact .inl h
    · simp only [World.rangeLeft, hb, hr, hb', hr']
      exact left_shrinks es seen e he
    · exact run_entry_at _ r b since seen es clock e hr' hb' m1 s2
end

section
variable {P : Program} {kt : TypeId} {b r : Nat} {f done : List (Value × Value)} (w : World) {ops : Array Oper} {rest : List Oper} {o : Oper} {a : Act} {Q : Exit → Act → World → Prop}
/-- 'range m'. -/
theorem wpList_range_l (hg : o.guard = none) (m : Operand) (t : TypeId) (hop : o.op = Op.range t m) (e : TypeId) (ht : P.underlying t = some (.map kt e)) (hm : a.eval m = .map (some b)) (h : MapIs P kt w b f)
    (hK : ∀ w', RangeL P kt w' b w.heap.size f [] → Fr [] w w' → w'.heap.size = w.heap.size + 1 → wpList P ops Q rest (a.put o.dst (.pointer (some ⟨w.heap.size, 0, none⟩))) w') :
    wpList P ops Q (o :: rest) a w := by
  refine wpList_plain hg fun K' hK' => ?_
  obtain ⟨since, c0, h1, h2⟩ := RangeL.start h
  unfold Oper.wp
  simp [execOp, hop, hm, h2 t e ht, Result.andThen]
  exact hK' _ _ (hK _ h1 ((Fr.refl [] w).alloc _) (by simp))
/-- Its step. -/
theorem wpList_next_l (hg : o.guard = none) (it : Operand) (hop : o.op = Op.next it false) (hit : a.eval it = .pointer (some ⟨r, 0, none⟩)) (h : RangeL P kt w b r f done)
    (hDone : (∀ x ∈ f, x ∈ done) → wpList P ops Q rest (a.put o.dst (.tuple #[.bool false])) w)
    (hMore : ∀ k v w', (k, v) ∈ f → (k, v) ∉ done → RangeL P kt w' b r f ((k, v) :: done) → Fr [r] w w' → w'.heap.size = w.heap.size → w'.rangeLeft b r < w.rangeLeft b r → (Instr.entry (.pointer (some ⟨r, 0, none⟩))).run P w' = .ok (.tuple #[k, v]) w' → wpList P ops Q rest (a.put o.dst (.tuple #[.bool true, k, v])) w') :
    wpList P ops Q (o :: rest) a w := by
  refine wpList_plain hg fun K' hK' => ?_
  unfold Oper.wp
  rcases h.next o.type with ⟨hl, hrun⟩ | ⟨k, v, w', h1, h2, hrun, h3, h4, h5, h6, h7⟩
  · simp [execOp, hop, hit, hrun, Result.andThen]
    exact hK' _ _ (hDone hl)
  · simp [execOp, hop, hit, hrun, Result.andThen]
    exact hK' _ _ (hMore k v w' h1 h2 h3 h4 h5 h6 h7)
end
end Go.Proofs.YtemihaijhcpnfaaGreatDoor
