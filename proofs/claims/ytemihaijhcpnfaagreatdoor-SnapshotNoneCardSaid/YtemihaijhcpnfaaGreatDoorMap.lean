/- Lemmas of no program: a map's block as a list of its keys and values ('MapIs'), and what look-up, store, delete and len do to it. -/
import Derived.Test.YtemihaijhcpnfaaGreatDoorFr
import Derived.Maps.Keyed
import Derived.MapKept
import Derived.Carry
namespace Go.Proofs.YtemihaijhcpnfaaGreatDoor
open Go.RowKit Go.MapKept
open Go.Maps (Keyed)
set_option linter.unusedVariables false

/-- Block b is a map that holds just the pairs f. -/
def MapIs (P : Program) (kt : TypeId) (w : World) (b : Nat) (f : List (Value × Value)) : Prop :=
  ∃ es clock, w.heap[b]? = some (.map es clock) ∧ Stamped es clock ∧ (∀ e ∈ es.toList, ∃ l, keyOf P kt e.key = some l) ∧ es.toList.map (fun e => (e.key, e.val)) = f

theorem map_eraseIdx' {α β : Type} (g : α → β) : ∀ (l : List α) (i : Nat), (l.eraseIdx i).map g = (l.map g).eraseIdx i
  | [], i => by simp
  | x :: r, 0 => rfl
  | x :: r, i + 1 => by simp [List.eraseIdx, map_eraseIdx' g r i]

section
variable {P : Program} {kt : TypeId} {w : World} {b : Nat} {f : List (Value × Value)}

theorem MapIs.lt (h : MapIs P kt w b f) : b < w.heap.size := by
  obtain ⟨es, clock, hb, _⟩ := h
  exact (Array.getElem?_eq_some_iff.1 hb).1
theorem MapIs.made (P : Program) (kt : TypeId) (w : World) : MapIs P kt (w.alloc (.map #[] 0)) w.heap.size [] :=
  ⟨#[], 0, (MapKept.heap_alloc w _).1, stamped_empty 0, by simp, rfl⟩
theorem MapIs.keep {S : List Nat} {w' : World} (h : MapIs P kt w b f) (hf : Fr S w w') (hn : b ∉ S) : MapIs P kt w' b f := by
  have hlt := h.lt
  obtain ⟨es, clock, hb, r⟩ := h
  exact ⟨es, clock, (hf.block b hlt hn).trans hb, r⟩
theorem MapIs.drewN (h : MapIs P kt w b f) (n : Nat) : MapIs P kt (w.drewN n) b f := h

/-- The keys are different. -/
theorem MapIs.nodup (h : MapIs P kt w b f) : (f.map (·.1)).Nodup := by
  obtain ⟨es, clock, _, hs, _, hf⟩ := h
  obtain ⟨_, _, h3⟩ := (stamped_iff es clock).1 hs
  rw [← hf, List.map_map]
  exact List.pairwise_map.2 h3

theorem run_getObj_map {es : Array MapEntry} {clock : Nat} (hb : w.heap[b]? = some (.map es clock)) : (getObj b).run P w = .ok (.map es clock) w := by
  simp [getObj, Sem.run, hb]

theorem MapIs.len {t : TypeId} {e : TypeId} (h : MapIs P kt w b f) (ht : P.underlying t = some (.map kt e)) : (Builtin.len_ #[t] 3 #[.map (some b)]).run P w = .ok (.int .i64 f.length) w := by
  obtain ⟨es, clock, hb, _, _, rfl⟩ := h
  simp [Builtin.len_, run_underlying ht, run_getObj_map hb, goInt]

/-- 'v, ok := m[k]' where k is there. -/
theorem MapIs.hit {t e : TypeId} (h : MapIs P kt w b f) (K : Keyed P kt) (ht : P.underlying t = some (.map kt e)) {x v : Value} (hx : (x, v) ∈ f) (ok : Bool) :
    (Instr.lookup t (.map (some b)) x ok).run P w = .ok (if ok then .tuple #[v, .bool true] else v) w := by
  obtain ⟨es, clock, hb, hs, hk, rfl⟩ := h
  obtain ⟨e0, he0, h0⟩ := List.mem_map.1 hx
  simp only [Prod.mk.injEq] at h0
  obtain ⟨rfl, rfl⟩ := h0
  obtain ⟨lx, hlx⟩ := hk e0 he0
  obtain ⟨_, _, h3⟩ := (stamped_iff es clock).1 hs
  rcases K.find w hlx es.toList hk with ⟨_, hno⟩ | ⟨j, e1, hrun, hj, heq⟩
  · exact absurd rfl (hno e0 he0)
  · have he1 : e1 = e0 := by
      have hm1 : e1 ∈ es.toList := List.mem_of_getElem? hj
      rcases List.mem_iff_getElem?.1 he0 with ⟨i, hi⟩
      rcases Nat.lt_trichotomy i j with hij | hij | hij
      · have := (List.pairwise_iff_getElem.1 h3) i j (List.getElem?_eq_some_iff.1 hi).1 (List.getElem?_eq_some_iff.1 hj).1 hij
        rw [(List.getElem?_eq_some_iff.1 hi).2, (List.getElem?_eq_some_iff.1 hj).2] at this
        exact absurd heq.symm this
      · subst hij
        rw [hi] at hj
        exact (Option.some.inj hj).symm
      · have := (List.pairwise_iff_getElem.1 h3) j i (List.getElem?_eq_some_iff.1 hj).1 (List.getElem?_eq_some_iff.1 hi).1 hij
        rw [(List.getElem?_eq_some_iff.1 hi).2, (List.getElem?_eq_some_iff.1 hj).2] at this
        exact absurd heq this
    subst he1
    cases ok <;> simp [Instr.lookup, run_underlying ht, run_getObj_map hb, K.check w _ hlx, hrun]

/-- .. where it is not. -/
theorem MapIs.miss {t e : TypeId} (h : MapIs P kt w b f) (K : Keyed P kt) (ht : P.underlying t = some (.map kt e)) {x z : Value} {lx : Lit} (hlx : keyOf P kt x = some lx) (hx : ∀ p ∈ f, p.1 ≠ x) (hz : (zeroValue e).run P w = .ok z w) (ok : Bool) :
    (Instr.lookup t (.map (some b)) x ok).run P w = .ok (if ok then .tuple #[z, .bool false] else z) w := by
  obtain ⟨es, clock, hb, hs, hk, rfl⟩ := h
  rcases K.find w hlx es.toList hk with ⟨hrun, _⟩ | ⟨j, e1, hrun, hj, heq⟩
  · cases ok <;> simp [Instr.lookup, run_underlying ht, run_getObj_map hb, K.check w _ hlx, hrun, hz]
  · exact absurd heq (hx (e1.key, e1.val) (List.mem_map.2 ⟨e1, List.mem_of_getElem? hj, rfl⟩))

theorem fr_setBlock (w : World) (b : Nat) (o : Obj) : Fr [b] w { w with heap := w.heap.setIfInBounds b o } :=
  ⟨rfl, rfl, rfl, by simp, fun k hk hn => by
    have : b ≠ k := fun e => hn (by simp [e])
    simp [this]⟩
theorem setBlock_at {w : World} {b : Nat} {o o' : Obj} (h : w.heap[b]? = some o) : ({ w with heap := w.heap.setIfInBounds b o' } : World).heap[b]? = some o' := by
  have hlt : b < w.heap.size := (Array.getElem?_eq_some_iff.1 h).1
  simp [hlt]
theorem run_setObj_map {es es' : Array MapEntry} {clock clock' : Nat} (hb : w.heap[b]? = some (.map es clock)) : (setObj b (.map es' clock')).run P w = .ok () { w with heap := w.heap.setIfInBounds b (.map es' clock') } := by
  simp [setObj, Sem.run, hb]

/-- 'm[k] = v' where k is not there. -/
theorem MapIs.put {t e : TypeId} (h : MapIs P kt w b f) (K : Keyed P kt) (ht : P.underlying t = some (.map kt e)) {x : Value} {lx : Lit} (hlx : keyOf P kt x = some lx) (hx : ∀ p ∈ f, p.1 ≠ x) (v : Value) :
    ∃ w', (Instr.mapUpdate t (.map (some b)) x v).run P w = .ok () w' ∧ MapIs P kt w' b (f ++ [(x, v)]) ∧ Fr [b] w w' := by
  obtain ⟨es, clock, hb, hs, hk, rfl⟩ := h
  rcases K.find w hlx es.toList hk with ⟨hrun, hno⟩ | ⟨j, e1, hrun, hj, heq⟩
  · refine ⟨_, ?_, ⟨es.push { key := x, val := v, born := clock }, clock + 1, setBlock_at hb, stamped_push hs hno, ?_, by simp⟩, fr_setBlock w b _⟩
    · simp [Instr.mapUpdate, run_underlying ht, run_getObj_map hb, K.check w _ hlx, hrun, run_setObj_map hb]
    · intro e he
      simp only [Array.toList_push, List.mem_append, List.mem_singleton] at he
      rcases he with he | rfl
      · exact hk e he
      · exact ⟨lx, hlx⟩
  · exact absurd heq (hx (e1.key, e1.val) (List.mem_map.2 ⟨e1, List.mem_of_getElem? hj, rfl⟩))

/-- .. where it is. -/
theorem MapIs.set {t e : TypeId} {f1 f2 : List (Value × Value)} {x v0 : Value} (h : MapIs P kt w b (f1 ++ (x, v0) :: f2)) (K : Keyed P kt) (ht : P.underlying t = some (.map kt e)) (v : Value) :
    ∃ w', (Instr.mapUpdate t (.map (some b)) x v).run P w = .ok () w' ∧ MapIs P kt w' b (f1 ++ (x, v) :: f2) ∧ Fr [b] w w' := by
  have hnd := h.nodup
  obtain ⟨es, clock, hb, hs, hk, hf⟩ := h
  have hi : (es.toList.map (fun e => (e.key, e.val)))[f1.length]? = some (x, v0) := by rw [hf]; simp
  rw [List.getElem?_map, Option.map_eq_some_iff] at hi
  obtain ⟨e0, hi0, h0⟩ := hi
  simp only [Prod.mk.injEq] at h0
  obtain ⟨h0, h0'⟩ := h0
  obtain ⟨lx, hlx⟩ := hk e0 (List.mem_of_getElem? hi0)
  rw [h0] at hlx
  rcases K.find w hlx es.toList hk with ⟨_, hno⟩ | ⟨j, e1, hrun, hj, heq⟩
  · exact absurd h0 (hno e0 (List.mem_of_getElem? hi0))
  · have hjf : j = f1.length := by
      have e1' : (f1 ++ (x, v0) :: f2).map (·.1) = es.toList.map (·.key) := by rw [← hf, List.map_map]; rfl
      have g1 : ((f1 ++ (x, v0) :: f2).map (·.1))[j]? = some x := by rw [e1', List.getElem?_map, hj]; simp [heq]
      have g2 : ((f1 ++ (x, v0) :: f2).map (·.1))[f1.length]? = some x := by simp
      exact (List.getElem?_inj (List.getElem?_eq_some_iff.1 g1).1 hnd).1 (g1.trans g2.symm)
    subst hjf
    have hj' : es[f1.length]? = some e1 := by rw [← Array.getElem?_toList]; exact hj
    refine ⟨_, ?_, ⟨es.modify f1.length (fun e => { e with key := x, val := v }), clock, setBlock_at hb, ?_, ?_, ?_⟩, fr_setBlock w b _⟩
    · simp [Instr.mapUpdate, run_underlying ht, run_getObj_map hb, K.check w _ hlx, hrun, hj', heq, K.stays w hlx, run_setObj_map hb]
    · refine stamped_modify hs _ _ (fun _ _ => rfl) (fun e' _ he' => ?_)
      rw [hj'] at he'
      rw [← Option.some.inj he']
      exact heq.symm
    · intro e' he'
      rw [Array.mem_toList_iff, Array.mem_iff_getElem?] at he'
      obtain ⟨i, hi'⟩ := he'
      rw [Array.getElem?_modify] at hi'
      split at hi'
      · rw [Option.map_eq_some_iff] at hi'
        obtain ⟨_, _, rfl⟩ := hi'
        exact ⟨lx, hlx⟩
      · exact hk e' (List.mem_of_getElem? (by rw [Array.getElem?_toList]; exact hi'))
    · apply List.ext_getElem?
      intro i
      have hfi : (es.toList.map (fun e => (e.key, e.val)))[i]? = (f1 ++ (x, v0) :: f2)[i]? := by rw [hf]
      rw [List.getElem?_map, Array.getElem?_toList] at hfi ⊢
      rw [Array.getElem?_modify]
      by_cases hii : f1.length = i
      · subst hii
        rw [if_pos rfl, hj']
        simp
      · rw [if_neg hii, hfi]
        rcases Nat.lt_or_ge i f1.length with hlt | hge
        · rw [List.getElem?_append_left hlt, List.getElem?_append_left hlt]
        · rw [List.getElem?_append_right hge, List.getElem?_append_right hge]
          obtain ⟨d, hd⟩ : ∃ d, i - f1.length = d + 1 := ⟨i - f1.length - 1, by omega⟩
          rw [hd]
          rfl

/-- delete(m, k) where k is there. -/
theorem MapIs.del {t e T : TypeId} {f1 f2 : List (Value × Value)} {x v0 : Value} (h : MapIs P kt w b (f1 ++ (x, v0) :: f2)) (K : Keyed P kt) (ht : P.underlying t = some (.map kt e)) :
    ∃ w', (Builtin.delete_ #[t, kt] T #[.map (some b), x]).run P w = .ok (.tuple #[]) w' ∧ MapIs P kt w' b (f1 ++ f2) ∧ Fr [b] w w' := by
  have hnd := h.nodup
  obtain ⟨es, clock, hb, hs, hk, hf⟩ := h
  have hi : (es.toList.map (fun e => (e.key, e.val)))[f1.length]? = some (x, v0) := by rw [hf]; simp
  rw [List.getElem?_map, Option.map_eq_some_iff] at hi
  obtain ⟨e0, hi0, h0⟩ := hi
  simp only [Prod.mk.injEq] at h0
  obtain ⟨h0, h0'⟩ := h0
  obtain ⟨lx, hlx⟩ := hk e0 (List.mem_of_getElem? hi0)
  rw [h0] at hlx
  rcases K.find w hlx es.toList hk with ⟨_, hno⟩ | ⟨j, e1, hrun, hj, heq⟩
  · exact absurd h0 (hno e0 (List.mem_of_getElem? hi0))
  · have hjf : j = f1.length := by
      have e1' : (f1 ++ (x, v0) :: f2).map (·.1) = es.toList.map (·.key) := by rw [← hf, List.map_map]; rfl
      have g1 : ((f1 ++ (x, v0) :: f2).map (·.1))[j]? = some x := by rw [e1', List.getElem?_map, hj]; simp [heq]
      have g2 : ((f1 ++ (x, v0) :: f2).map (·.1))[f1.length]? = some x := by simp
      exact (List.getElem?_inj (List.getElem?_eq_some_iff.1 g1).1 hnd).1 (g1.trans g2.symm)
    subst hjf
    have hlt : f1.length < es.size := by have := (List.getElem?_eq_some_iff.1 hj).1; simpa using this
    have her : (es.eraseIdxIfInBounds f1.length).toList = es.toList.eraseIdx f1.length := by
      unfold Array.eraseIdxIfInBounds
      rw [dif_pos hlt, Array.toList_eraseIdx]
    refine ⟨_, ?_, ⟨es.eraseIdxIfInBounds f1.length, clock, setBlock_at hb, stamped_erase hs _, ?_, ?_⟩, fr_setBlock w b _⟩
    · simp [Builtin.delete_, run_underlying ht, run_getObj_map hb, K.check w _ hlx, hrun, run_setObj_map hb]
    · intro e' he'
      rw [her] at he'
      exact hk e' (List.mem_of_mem_eraseIdx he')
    · rw [her, map_eraseIdx', hf, List.eraseIdx_append_of_length_le (Nat.le_refl _)]
      simp
end
end Go.Proofs.YtemihaijhcpnfaaGreatDoor
