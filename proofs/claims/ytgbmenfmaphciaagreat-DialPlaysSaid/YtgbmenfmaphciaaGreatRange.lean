/- Lemmas of no program: what a call leaves of memory when it may write only the blocks of a list ('Fr S w w''), new blocks apart. -/
/- Lemmas of no program: a map's block as a list of its keys and values ('MapIs'), and what look-up, store, delete and len do to it. -/
/- 'range' over a map in memory, as a list of its keys and values: what has come, and what is still to come. -/
import Derived.WalkKit
import Derived.WalkSpells
import Derived.Deep.QuietTactic
import Derived.Maps.Keyed
import Derived.MapKept
import Derived.Carry
import Derived.Maps.RangeWalk
namespace Go.Proofs.YtgbmenfmaphciaaGreat
open Go.RowKit
structure Fr (S : List Nat) (w w' : World) : Prop where
 os : w'.os = w.os
 tape : w'.tape = w.tape
 output : w'.output = w.output
 size : w.heap.size ≤ w'.heap.size
 block : ∀ k, k < w.heap.size → k ∉ S → w'.heap[k]? = w.heap[k]?
theorem Fr.refl (S : List Nat) (w : World) : Fr S w w := ⟨rfl, rfl, rfl, Nat.le_refl _, fun _ _ _ => rfl⟩
theorem Fr.mono {S T : List Nat} {w w' : World} (h : Fr S w w') (hs : ∀ x ∈ S, x < w.heap.size → x ∈ T) : Fr T w w' :=
 ⟨h.os, h.tape, h.output, h.size, fun k hk hn => h.block k hk fun hm => hn (hs k hm hk)⟩
theorem Fr.trans {S T : List Nat} {a b c : World} (h : Fr S a b) (k : Fr T b c) (hs : ∀ x ∈ T, x < a.heap.size → x ∈ S) : Fr S a c :=
 ⟨k.os.trans h.os, k.tape.trans h.tape, k.output.trans h.output, Nat.le_trans h.size k.size, fun i hi hn =>
  (k.block i (Nat.lt_of_lt_of_le hi h.size) (fun hm => hn (hs i hm hi))).trans (h.block i hi hn)⟩
theorem Fr.step {S : List Nat} {a b c : World} (h : Fr S a b) (k : Fr [] b c) : Fr S a c := h.trans k (fun _ hx => by cases hx)
theorem Fr.of_below {w w' : World} (h : Below w.heap.size w w') : Fr [] w w' := ⟨h.os, h.tape, h.output, h.size, fun k hk _ => h.block k hk⟩
theorem Fr.below {S : List Nat} {B : Nat} {w w' : World} (h : Fr S w w') (hB : B ≤ w.heap.size) (hs : ∀ x ∈ S, B ≤ x) : Below B w w' :=
 ⟨h.os, h.tape, h.output, h.size, fun k hk => h.block k (by omega) (fun hm => by have := hs k hm; omega)⟩
theorem Fr.below0 {w w' : World} (h : Fr [] w w') : Below w.heap.size w w' := h.below (Nat.le_refl _) (fun _ hx => by cases hx)
theorem Fr.alloc {S : List Nat} {a w : World} (h : Fr S a w) (o : Obj) : Fr S a (w.alloc o) :=
 h.trans (S := S) (T := []) ⟨rfl, rfl, rfl, by simp, fun k hk _ => Below.heap_alloc _ _ _ hk⟩ (fun _ hx => by cases hx)
theorem Fr.drew {S : List Nat} {a w : World} (h : Fr S a w) : Fr S a w.drew := ⟨h.os, h.tape, h.output, h.size, h.block⟩
theorem Fr.drewN {S : List Nat} {a w : World} (h : Fr S a w) (n : Nat) : Fr S a (w.drewN n) := ⟨h.os, h.tape, h.output, h.size, h.block⟩
theorem Fr.setCell {S : List Nat} {a w : World} (h : Fr S a w) {p : Addr} (hp : p.block < a.heap.size → p.block ∈ S) (u : Value) : Fr S a (w.setCell p u) :=
 h.trans (S := S) (T := [p.block]) ⟨rfl, rfl, rfl, by simp [World.setCell], fun k _ hn => Below.heap_setCell _ _ _ _ (by simpa using hn)⟩ (fun x hx hlt => by
  rw [List.mem_singleton] at hx
  subst hx
  exact hp hlt)
theorem Fr.cell {S : List Nat} {w w' : World} (h : Fr S w w') {b o : Nat} (hb : b < w.heap.size) (hn : b ∉ S) : w'.cell? ⟨b, o, none⟩ = w.cell? ⟨b, o, none⟩ :=
 World.cell?_of_block (w := w) (h.block b hb hn)
theorem Fr.frozen {S : List Nat} {w w' : World} (h : Fr S w w') {b o : Nat} (hb : b < w.heap.size) (hn : b ∉ S) : w'.frozen? ⟨b, o, none⟩ = w.frozen? ⟨b, o, none⟩ :=
 World.frozen?_of_block (w := w) (h.block b hb hn)
theorem cell_lt {w : World} {b o : Nat} {v : Value} (h : w.cell? ⟨b, o, none⟩ = some v) : b < w.heap.size := by
 rcases Nat.lt_or_ge b w.heap.size with h' | h'
 ·exact h'
 ·simp [World.cell?, Array.getElem?_eq_none h'] at h
theorem Fr.keep {S : List Nat} {w w' : World} (h : Fr S w w') {b o : Nat} {v : Value} (hc : w.cell? ⟨b, o, none⟩ = some v) (hn : b ∉ S) : w'.cell? ⟨b, o, none⟩ = some v := by
 rw [h.cell (cell_lt hc) hn]
 exact hc
end Go.Proofs.YtgbmenfmaphciaaGreat
namespace Go.Proofs.YtgbmenfmaphciaaGreat
open Go.RowKit Go.MapKept
open Go.Maps (Keyed)
set_option linter.unusedVariables false
def MapIs (P : Program) (kt : TypeId) (w : World) (b : Nat) (f : List (Value × Value)) : Prop :=
 ∃ es clock, w.heap[b]? = some (.map es clock) ∧ Stamped es clock ∧ (∀ e ∈ es.toList, ∃ l, keyOf P kt e.key = some l) ∧ es.toList.map (fun e => (e.key, e.val)) = f
theorem map_eraseIdx' {α β : Type} (g : α → β) : ∀ (l : List α) (i : Nat), (l.eraseIdx i).map g = (l.map g).eraseIdx i
 | [], i => by simp
 | x :: r, 0 => rfl
 | x :: r, i + 1 => by simp [List.eraseIdx, map_eraseIdx' g r i]
section
variable {P : Program} {kt : TypeId} {w : World} {b : Nat} {f : List (Value × Value)}
theorem MapIs.lt (h : MapIs P kt w b f) : b < w.heap.size := by
 obtain ⟨es, clock, hb, _⟩ := h
 exact (Array.getElem?_eq_some_iff.1 hb).1
theorem MapIs.made (P : Program) (kt : TypeId) (w : World) : MapIs P kt (w.alloc (.map #[] 0)) w.heap.size [] :=
 ⟨#[], 0, (MapKept.heap_alloc w _).1, stamped_empty 0, by simp, rfl⟩
theorem MapIs.keep {S : List Nat} {w' : World} (h : MapIs P kt w b f) (hf : Fr S w w') (hn : b ∉ S) : MapIs P kt w' b f := by
 have hlt := h.lt
 obtain ⟨es, clock, hb, r⟩ := h
 exact ⟨es, clock, (hf.block b hlt hn).trans hb, r⟩
theorem MapIs.drewN (h : MapIs P kt w b f) (n : Nat) : MapIs P kt (w.drewN n) b f := h
theorem MapIs.nodup (h : MapIs P kt w b f) : (f.map (·.1)).Nodup := by
 obtain ⟨es, clock, _, hs, _, hf⟩ := h
 obtain ⟨_, _, h3⟩ := (stamped_iff es clock).1 hs
 rw [← hf, List.map_map]
 exact List.pairwise_map.2 h3
theorem run_getObj_map {es : Array MapEntry} {clock : Nat} (hb : w.heap[b]? = some (.map es clock)) : (getObj b).run P w = .ok (.map es clock) w := by
 simp [getObj, Sem.run, hb]
theorem MapIs.len {t : TypeId} {e : TypeId} (h : MapIs P kt w b f) (ht : P.underlying t = some (.map kt e)) : (Builtin.len_ #[t] 3 #[.map (some b)]).run P w = .ok (.int .i64 f.length) w := by
 obtain ⟨es, clock, hb, _, _, rfl⟩ := h
 simp [Builtin.len_, run_underlying ht, run_getObj_map hb, goInt]
theorem MapIs.hit {t e : TypeId} (h : MapIs P kt w b f) (K : Keyed P kt) (ht : P.underlying t = some (.map kt e)) {x v : Value} (hx : (x, v) ∈ f) (ok : Bool) :
  (Instr.lookup t (.map (some b)) x ok).run P w = .ok (if ok then .tuple #[v, .bool true] else v) w := by
 obtain ⟨es, clock, hb, hs, hk, rfl⟩ := h
 obtain ⟨e0, he0, h0⟩ := List.mem_map.1 hx
 simp only [Prod.mk.injEq] at h0
 obtain ⟨rfl, rfl⟩ := h0
 obtain ⟨lx, hlx⟩ := hk e0 he0
 obtain ⟨_, _, h3⟩ := (stamped_iff es clock).1 hs
 rcases K.find w hlx es.toList hk with ⟨_, hno⟩ | ⟨j, e1, hrun, hj, heq⟩
 ·exact absurd rfl (hno e0 he0)
 ·have he1 : e1 = e0 := by
   have hm1 : e1 ∈ es.toList := List.mem_of_getElem? hj
   rcases List.mem_iff_getElem?.1 he0 with ⟨i, hi⟩
   rcases Nat.lt_trichotomy i j with hij | hij | hij
   ·have := (List.pairwise_iff_getElem.1 h3) i j (List.getElem?_eq_some_iff.1 hi).1 (List.getElem?_eq_some_iff.1 hj).1 hij
    rw [(List.getElem?_eq_some_iff.1 hi).2, (List.getElem?_eq_some_iff.1 hj).2] at this
    exact absurd heq.symm this
   ·subst hij
    rw [hi] at hj
    exact (Option.some.inj hj).symm
   ·have := (List.pairwise_iff_getElem.1 h3) j i (List.getElem?_eq_some_iff.1 hj).1 (List.getElem?_eq_some_iff.1 hi).1 hij
    rw [(List.getElem?_eq_some_iff.1 hi).2, (List.getElem?_eq_some_iff.1 hj).2] at this
    exact absurd heq this
  subst he1
  cases ok <;> simp [Instr.lookup, run_underlying ht, run_getObj_map hb, K.check w _ hlx, hrun]
theorem MapIs.miss {t e : TypeId} (h : MapIs P kt w b f) (K : Keyed P kt) (ht : P.underlying t = some (.map kt e)) {x z : Value} {lx : Lit} (hlx : keyOf P kt x = some lx) (hx : ∀ p ∈ f, p.1 ≠ x) (hz : (zeroValue e).run P w = .ok z w) (ok : Bool) :
  (Instr.lookup t (.map (some b)) x ok).run P w = .ok (if ok then .tuple #[z, .bool false] else z) w := by
 obtain ⟨es, clock, hb, hs, hk, rfl⟩ := h
 rcases K.find w hlx es.toList hk with ⟨hrun, _⟩ | ⟨j, e1, hrun, hj, heq⟩
 ·cases ok <;> simp [Instr.lookup, run_underlying ht, run_getObj_map hb, K.check w _ hlx, hrun, hz]
 ·exact absurd heq (hx (e1.key, e1.val) (List.mem_map.2 ⟨e1, List.mem_of_getElem? hj, rfl⟩))
theorem fr_setBlock (w : World) (b : Nat) (o : Obj) : Fr [b] w { w with heap := w.heap.setIfInBounds b o } :=
 ⟨rfl, rfl, rfl, by simp, fun k hk hn => by
  have : b ≠ k := fun e => hn (by simp [e])
  simp [this]⟩
theorem setBlock_at {w : World} {b : Nat} {o o' : Obj} (h : w.heap[b]? = some o) : ({ w with heap := w.heap.setIfInBounds b o' } : World).heap[b]? = some o' := by
 have hlt : b < w.heap.size := (Array.getElem?_eq_some_iff.1 h).1
 simp [hlt]
theorem run_setObj_map {es es' : Array MapEntry} {clock clock' : Nat} (hb : w.heap[b]? = some (.map es clock)) : (setObj b (.map es' clock')).run P w = .ok () { w with heap := w.heap.setIfInBounds b (.map es' clock') } := by
 simp [setObj, Sem.run, hb]
theorem MapIs.put {t e : TypeId} (h : MapIs P kt w b f) (K : Keyed P kt) (ht : P.underlying t = some (.map kt e)) {x : Value} {lx : Lit} (hlx : keyOf P kt x = some lx) (hx : ∀ p ∈ f, p.1 ≠ x) (v : Value) :
  ∃ w', (Instr.mapUpdate t (.map (some b)) x v).run P w = .ok () w' ∧ MapIs P kt w' b (f ++ [(x, v)]) ∧ Fr [b] w w' := by
 obtain ⟨es, clock, hb, hs, hk, rfl⟩ := h
 rcases K.find w hlx es.toList hk with ⟨hrun, hno⟩ | ⟨j, e1, hrun, hj, heq⟩
 ·refine ⟨_, ?_, ⟨es.push { key := x, val := v, born := clock }, clock + 1, setBlock_at hb, stamped_push hs hno, ?_, by simp⟩, fr_setBlock w b _⟩
  ·simp [Instr.mapUpdate, run_underlying ht, run_getObj_map hb, K.check w _ hlx, hrun, run_setObj_map hb]
  ·intro e he
   simp only [Array.toList_push, List.mem_append, List.mem_singleton] at he
   rcases he with he | rfl
   ·exact hk e he
   ·exact ⟨lx, hlx⟩
 ·exact absurd heq (hx (e1.key, e1.val) (List.mem_map.2 ⟨e1, List.mem_of_getElem? hj, rfl⟩))
theorem MapIs.set {t e : TypeId} {f1 f2 : List (Value × Value)} {x v0 : Value} (h : MapIs P kt w b (f1 ++ (x, v0) :: f2)) (K : Keyed P kt) (ht : P.underlying t = some (.map kt e)) (v : Value) :
  ∃ w', (Instr.mapUpdate t (.map (some b)) x v).run P w = .ok () w' ∧ MapIs P kt w' b (f1 ++ (x, v) :: f2) ∧ Fr [b] w w' := by
 have hnd := h.nodup
 obtain ⟨es, clock, hb, hs, hk, hf⟩ := h
 have hi : (es.toList.map (fun e => (e.key, e.val)))[f1.length]? = some (x, v0) := by rw [hf]; simp
 rw [List.getElem?_map, Option.map_eq_some_iff] at hi
 obtain ⟨e0, hi0, h0⟩ := hi
 simp only [Prod.mk.injEq] at h0
 obtain ⟨h0, h0'⟩ := h0
 obtain ⟨lx, hlx⟩ := hk e0 (List.mem_of_getElem? hi0)
 rw [h0] at hlx
 rcases K.find w hlx es.toList hk with ⟨_, hno⟩ | ⟨j, e1, hrun, hj, heq⟩
 ·exact absurd h0 (hno e0 (List.mem_of_getElem? hi0))
 ·have hjf : j = f1.length := by
   have e1' : (f1 ++ (x, v0) :: f2).map (·.1) = es.toList.map (·.key) := by rw [← hf, List.map_map]; rfl
   have g1 : ((f1 ++ (x, v0) :: f2).map (·.1))[j]? = some x := by rw [e1', List.getElem?_map, hj]; simp [heq]
   have g2 : ((f1 ++ (x, v0) :: f2).map (·.1))[f1.length]? = some x := by simp
   exact (List.getElem?_inj (List.getElem?_eq_some_iff.1 g1).1 hnd).1 (g1.trans g2.symm)
  subst hjf
  have hj' : es[f1.length]? = some e1 := by rw [← Array.getElem?_toList]; exact hj
  refine ⟨_, ?_, ⟨es.modify f1.length (fun e => { e with key := x, val := v }), clock, setBlock_at hb, ?_, ?_, ?_⟩, fr_setBlock w b _⟩
  ·simp [Instr.mapUpdate, run_underlying ht, run_getObj_map hb, K.check w _ hlx, hrun, hj', heq, K.stays w hlx, run_setObj_map hb]
  ·refine stamped_modify hs _ _ (fun _ _ => rfl) (fun e' _ he' => ?_)
   rw [hj'] at he'
   rw [← Option.some.inj he']
   exact heq.symm
  ·intro e' he'
   rw [Array.mem_toList_iff, Array.mem_iff_getElem?] at he'
   obtain ⟨i, hi'⟩ := he'
   rw [Array.getElem?_modify] at hi'
   split at hi'
   ·rw [Option.map_eq_some_iff] at hi'
    obtain ⟨_, _, rfl⟩ := hi'
    exact ⟨lx, hlx⟩
   ·exact hk e' (List.mem_of_getElem? (by rw [Array.getElem?_toList]; exact hi'))
  ·apply List.ext_getElem?
   intro i
   have hfi : (es.toList.map (fun e => (e.key, e.val)))[i]? = (f1 ++ (x, v0) :: f2)[i]? := by rw [hf]
   rw [List.getElem?_map, Array.getElem?_toList] at hfi ⊢
   rw [Array.getElem?_modify]
   by_cases hii : f1.length = i
   ·subst hii
    rw [if_pos rfl, hj']
    simp
   ·rw [if_neg hii, hfi]
    rcases Nat.lt_or_ge i f1.length with hlt | hge
    ·rw [List.getElem?_append_left hlt, List.getElem?_append_left hlt]
    ·rw [List.getElem?_append_right hge, List.getElem?_append_right hge]
     obtain ⟨d, hd⟩ : ∃ d, i - f1.length = d + 1 := ⟨i - f1.length - 1, by omega⟩
     rw [hd]
     rfl
theorem MapIs.del {t e T : TypeId} {f1 f2 : List (Value × Value)} {x v0 : Value} (h : MapIs P kt w b (f1 ++ (x, v0) :: f2)) (K : Keyed P kt) (ht : P.underlying t = some (.map kt e)) :
  ∃ w', (Builtin.delete_ #[t, kt] T #[.map (some b), x]).run P w = .ok (.tuple #[]) w' ∧ MapIs P kt w' b (f1 ++ f2) ∧ Fr [b] w w' := by
 have hnd := h.nodup
 obtain ⟨es, clock, hb, hs, hk, hf⟩ := h
 have hi : (es.toList.map (fun e => (e.key, e.val)))[f1.length]? = some (x, v0) := by rw [hf]; simp
 rw [List.getElem?_map, Option.map_eq_some_iff] at hi
 obtain ⟨e0, hi0, h0⟩ := hi
 simp only [Prod.mk.injEq] at h0
 obtain ⟨h0, h0'⟩ := h0
 obtain ⟨lx, hlx⟩ := hk e0 (List.mem_of_getElem? hi0)
 rw [h0] at hlx
 rcases K.find w hlx es.toList hk with ⟨_, hno⟩ | ⟨j, e1, hrun, hj, heq⟩
 ·exact absurd h0 (hno e0 (List.mem_of_getElem? hi0))
 ·have hjf : j = f1.length := by
   have e1' : (f1 ++ (x, v0) :: f2).map (·.1) = es.toList.map (·.key) := by rw [← hf, List.map_map]; rfl
   have g1 : ((f1 ++ (x, v0) :: f2).map (·.1))[j]? = some x := by rw [e1', List.getElem?_map, hj]; simp [heq]
   have g2 : ((f1 ++ (x, v0) :: f2).map (·.1))[f1.length]? = some x := by simp
   exact (List.getElem?_inj (List.getElem?_eq_some_iff.1 g1).1 hnd).1 (g1.trans g2.symm)
  subst hjf
  have hlt : f1.length < es.size := by have := (List.getElem?_eq_some_iff.1 hj).1; simpa using this
  have her : (es.eraseIdxIfInBounds f1.length).toList = es.toList.eraseIdx f1.length := by
   unfold Array.eraseIdxIfInBounds
   rw [dif_pos hlt, Array.toList_eraseIdx]
  refine ⟨_, ?_, ⟨es.eraseIdxIfInBounds f1.length, clock, setBlock_at hb, stamped_erase hs _, ?_, ?_⟩, fr_setBlock w b _⟩
  ·simp [Builtin.delete_, run_underlying ht, run_getObj_map hb, K.check w _ hlx, hrun, run_setObj_map hb]
  ·intro e' he'
   rw [her] at he'
   exact hk e' (List.mem_of_mem_eraseIdx he')
  ·rw [her, map_eraseIdx', hf, List.eraseIdx_append_of_length_le (Nat.le_refl _)]
   simp
end
def RangeL (P : Program) (kt : TypeId) (w : World) (b r : Nat) (f done : List (Value × Value)) : Prop :=
 ∃ es clock since seen c0, w.heap[b]? = some (.map es clock) ∧ Stamped es clock ∧ (∀ e ∈ es.toList, ∃ l, keyOf P kt e.key = some l) ∧ es.toList.map (fun e => (e.key, e.val)) = f ∧
  w.heap[r]? = some (.mapIter (some b) since seen c0) ∧ (∀ x ∈ es.toList, x.born < since) ∧ since ≤ c0 ∧ since ≤ clock ∧ ∀ x ∈ es.toList, seen.contains x.born = true ↔ (x.key, x.val) ∈ done
section
variable {P : Program} {kt : TypeId} {w : World} {b r : Nat} {f done : List (Value × Value)}
theorem RangeL.map (h : RangeL P kt w b r f done) : MapIs P kt w b f := by
 obtain ⟨es, clock, _, _, _, h1, h2, h3, h4, _⟩ := h
 exact ⟨es, clock, h1, h2, h3, h4⟩
theorem RangeL.lt (h : RangeL P kt w b r f done) : r < w.heap.size := by
 obtain ⟨es, clock, _, _, _, _, _, _, _, hr, _⟩ := h
 exact (Array.getElem?_eq_some_iff.1 hr).1
theorem RangeL.keep {S : List Nat} {w' : World} (h : RangeL P kt w b r f done) (hf : Fr S w w') (hb : b ∉ S) (hr' : r ∉ S) : RangeL P kt w' b r f done := by
 have h1 := h.map.lt
 have h2 := h.lt
 obtain ⟨es, clock, since, seen, c0, hb', h3, h4, h5, hr, h6⟩ := h
 exact ⟨es, clock, since, seen, c0, (hf.block b h1 hb).trans hb', h3, h4, h5, (hf.block r h2 hr').trans hr, h6⟩
theorem RangeL.start (h : MapIs P kt w b f) : ∃ since c0, RangeL P kt (w.alloc (.mapIter (some b) since #[] c0)) b w.heap.size f [] ∧ ∀ t e, P.underlying t = some (.map kt e) → (Instr.range t (.map (some b))).run P w = .ok (.pointer (some ⟨w.heap.size, 0, none⟩)) (w.alloc (.mapIter (some b) since #[] c0)) := by
 obtain ⟨es, clock, hb, hs, hk, hf⟩ := h
 have hlt := (Array.getElem?_eq_some_iff.1 hb).1
 obtain ⟨h1, h2, h3⟩ := (stamped_iff es clock).1 hs
 refine ⟨clock, clock, ⟨es, clock, clock, #[], clock, (heap_alloc_old w _ hlt).trans hb, hs, hk, hf, heap_alloc_new w _, ?_, Nat.le_refl _, Nat.le_refl _, fun x hx => by simp⟩, fun t e ht => ?_⟩
 ·exact h1
 ·exact run_range_map w t kt e b es clock ht hb
theorem setBlock_fr (w w1 : World) (r : Nat) (o : Obj) (h : w1 = w ∨ w1 = w.drew) : Fr [r] w (Go.ChangeMaps.setBlock w1 r o) ∧ (Go.ChangeMaps.setBlock w1 r o).heap.size = w.heap.size := by
 have h1 : Fr [r] w1 (Go.ChangeMaps.setBlock w1 r o) := ⟨rfl, rfl, rfl, by simp [Go.ChangeMaps.setBlock], fun x hx hn => by
  simp only [List.mem_singleton] at hn
  simp [Go.ChangeMaps.setBlock, Ne.symm hn]⟩
 have h2 : (Go.ChangeMaps.setBlock w1 r o).heap.size = w1.heap.size := by simp [Go.ChangeMaps.setBlock]
 rcases h with rfl | rfl
 ·exact ⟨h1, h2⟩
 ·exact ⟨((Fr.refl [r] w).drew).trans h1 (fun x hx _ => hx), h2⟩
theorem RangeL.next (h : RangeL P kt w b r f done) (ty : TypeId) :
  ((∀ x ∈ f, x ∈ done) ∧ (Instr.next (.pointer (some ⟨r, 0, none⟩)) false ty).run P w = .ok (.tuple #[.bool false]) w) ∨
  ∃ k v w', (k, v) ∈ f ∧ (k, v) ∉ done ∧ (Instr.next (.pointer (some ⟨r, 0, none⟩)) false ty).run P w = .ok (.tuple #[.bool true, k, v]) w' ∧ RangeL P kt w' b r f ((k, v) :: done) ∧ Fr [r] w w' ∧ w'.heap.size = w.heap.size ∧ w'.rangeLeft b r < w.rangeLeft b r ∧
   (Instr.entry (.pointer (some ⟨r, 0, none⟩))).run P w' = .ok (.tuple #[k, v]) w' := by
 obtain ⟨es, clock, since, seen, c0, hb, hs, hk, hf, hr, hold, hsc, hcl, hd⟩ := h
 obtain ⟨s1, s2, s3⟩ := (stamped_iff es clock).1 hs
 have hrb : r ≠ b := fun e => by rw [e, hb] at hr; cases hr
 have hrl := (Array.getElem?_eq_some_iff.1 hr).1
 have hbl := (Array.getElem?_eq_some_iff.1 hb).1
 rcases run_next_at (P := P) w ty r b since c0 seen es clock hr hb hold hsc with ⟨h0, hrun⟩ | ⟨e, he, w1, hw1, hrun⟩
 ·refine .inl ⟨fun x hx => ?_, hrun⟩
  rw [← hf] at hx
  obtain ⟨y, hy, rfl⟩ := List.mem_map.1 hx
  exact (hd y hy).1 (all_seen es seen h0 y hy)
 ·obtain ⟨m1, m2⟩ := mem_left he
  obtain ⟨g1, g2⟩ := setBlock_fr w w1 r (.mapIter (some b) since (seen.push e.born) clock) hw1
  have hb1 : w1.heap[b]? = some (.map es clock) := by rcases hw1 with rfl | rfl <;> exact hb
  have hr1 : r < w1.heap.size := by rcases hw1 with rfl | rfl <;> exact hrl
  have hb' : (Go.ChangeMaps.setBlock w1 r (.mapIter (some b) since (seen.push e.born) clock)).heap[b]? = some (.map es clock) := (g1.block b hbl (by simpa using Ne.symm hrb)).trans hb
  have hr' : (Go.ChangeMaps.setBlock w1 r (.mapIter (some b) since (seen.push e.born) clock)).heap[r]? = some (.mapIter (some b) since (seen.push e.born) clock) := by simp [Go.ChangeMaps.setBlock, hr1]
  refine .inr ⟨e.key, e.val, _, ?_, ?_, hrun, ⟨es, clock, since, seen.push e.born, clock, hb', hs, hk, hf, hr', hold, hcl, hcl, fun x hx => ?_⟩, g1, g2, ?_, ?_⟩
  ·rw [← hf]
   exact List.mem_map.2 ⟨e, m1, rfl⟩
  ·intro hm
   have := (hd e m1).2 hm
   rw [m2] at this
   cases this
  ·rw [contains_push, Bool.or_eq_true, beq_iff_eq, List.mem_cons, hd x hx]
   constructor
   ·rintro (h | h)
    ·exact .inr h
    ·exact .inl (by rw [born_inj s2 hx m1 h])
   ·rintro (h | h)
    ·simp only [Prod.mk.injEq] at h
     exact .inr (by rw [Go.entry_eq_of_key s3 hx m1 h.1])
    ·exact .inl h
  ·simp only [World.rangeLeft, hb, hr, hb', hr']
   exact left_shrinks es seen e he
  ·exact run_entry_at _ r b since seen es clock e hr' hb' m1 s2
end
section
variable {P : Program} {kt : TypeId} {b r : Nat} {f done : List (Value × Value)} (w : World) {ops : Array Oper} {rest : List Oper} {o : Oper} {a : Act} {Q : Exit → Act → World → Prop}
theorem wpList_range_l (hg : o.guard = none) (m : Operand) (t : TypeId) (hop : o.op = Op.range t m) (e : TypeId) (ht : P.underlying t = some (.map kt e)) (hm : a.eval m = .map (some b)) (h : MapIs P kt w b f)
  (hK : ∀ w', RangeL P kt w' b w.heap.size f [] → Fr [] w w' → w'.heap.size = w.heap.size + 1 → wpList P ops Q rest (a.put o.dst (.pointer (some ⟨w.heap.size, 0, none⟩))) w') :
  wpList P ops Q (o :: rest) a w := by
 refine wpList_plain hg fun K' hK' => ?_
 obtain ⟨since, c0, h1, h2⟩ := RangeL.start h
 unfold Oper.wp
 simp [execOp, hop, hm, h2 t e ht, Result.andThen]
 exact hK' _ _ (hK _ h1 ((Fr.refl [] w).alloc _) (by simp))
theorem wpList_next_l (hg : o.guard = none) (it : Operand) (hop : o.op = Op.next it false) (hit : a.eval it = .pointer (some ⟨r, 0, none⟩)) (h : RangeL P kt w b r f done)
  (hDone : (∀ x ∈ f, x ∈ done) → wpList P ops Q rest (a.put o.dst (.tuple #[.bool false])) w)
  (hMore : ∀ k v w', (k, v) ∈ f → (k, v) ∉ done → RangeL P kt w' b r f ((k, v) :: done) → Fr [r] w w' → w'.heap.size = w.heap.size → w'.rangeLeft b r < w.rangeLeft b r → (Instr.entry (.pointer (some ⟨r, 0, none⟩))).run P w' = .ok (.tuple #[k, v]) w' → wpList P ops Q rest (a.put o.dst (.tuple #[.bool true, k, v])) w') :
  wpList P ops Q (o :: rest) a w := by
 refine wpList_plain hg fun K' hK' => ?_
 unfold Oper.wp
 rcases h.next o.type with ⟨hl, hrun⟩ | ⟨k, v, w', h1, h2, hrun, h3, h4, h5, h6, h7⟩
 ·simp [execOp, hop, hit, hrun, Result.andThen]
  exact hK' _ _ (hDone hl)
 ·simp [execOp, hop, hit, hrun, Result.andThen]
  exact hK' _ _ (hMore k v w' h1 h2 h3 h4 h5 h6 h7)
end
end Go.Proofs.YtgbmenfmaphciaaGreat
