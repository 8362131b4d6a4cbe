/- Report: OfTasks' loop over the events. -/
/- Report: the keys of the map of the tasks; how many there are; what is looked up. -/
import Derived.Test.YtllmejkcohfbiaaGreatDoorR24
import Derived.Deep.CutRange
namespace Go.Proofs.YtllmejkcohfbiaaGreatDoor
open Go.RowKit Go.Maps Go.Shelf Go.Sort Go.Lib
set_option linter.unusedVariables false
set_option linter.unusedSimpArgs false
set_option maxRecDepth 100000
set_option maxHeartbeats 16000000

theorem keyInt_of (x : Int) (h : I64 x) : keyOf Tryz.prog 3 (.int .i64 x) = some (.int .i64 x) :=
  Maps.keyOf_int_mk Tryz.underlying3 (by unfold I64 at h; simp [Lit.wf, IntKind.min, IntKind.max, IntKind.signed, IntKind.bits]; omega)
theorem TdS.turn {w W W' : World} {M q b : Nat} {t : Int} {A B : TD} {x y : Tk} (h : TdS w W M q (A ++ (t, b, x) :: B)) (f : Fr [b] W W') (hy : TkAt W' b y) (hl : y.lim (q + 1)) : TdS w W' M (q + 1) (A ++ (t, b, y) :: B) := by
  have hb : w.heap.size ≤ b := h.own (t, b, x) (by simp)
  refine ⟨h.r.turn f hy, fun p hp => ?_, fun p hp => ?_, fun p hp => ?_, h.fr.trans f (fun k hk hl => by rw [List.mem_singleton] at hk; omega)⟩
  · rcases List.mem_append.1 hp with hp | hp
    · exact (h.lim p (by simp [hp])).up
    · rcases List.mem_cons.1 hp with rfl | hp
      · exact hl
      · exact (h.lim p (by simp [hp])).up
  · rcases List.mem_append.1 hp with hp | hp
    · exact h.own p (by simp [hp])
    · rcases List.mem_cons.1 hp with rfl | hp
      · exact hb
      · exact h.own p (by simp [hp])
  · rcases List.mem_append.1 hp with hp | hp
    · exact h.keys p (by simp [hp])
    · rcases List.mem_cons.1 hp with rfl | hp
      · exact h.keys (t, b, x) (by simp)
      · exact h.keys p (by simp [hp])
theorem TdS.new {w W W' : World} {M q : Nat} {D : TD} (h : TdS w W M q D) (f : Fr [] W W') : TdS w W' M q D := ⟨h.r.new f, h.lim, h.own, h.keys, h.fr.step f⟩
theorem TdS.up {w W : World} {M q : Nat} {D : TD} (h : TdS w W M q D) : TdS w W M (q + 1) D := ⟨h.r, fun p hp => (h.lim p hp).up, h.own, h.keys, h.fr⟩
/-- A task that is new. -/
theorem TdS.put {w W : World} {M q : Nat} {D : TD} {t : Int} (h : TdS w W M q D) (ht : I64 t) (hne : ∀ p ∈ D, p.1 ≠ t) (hM : w.heap.size ≤ M) :
    ∃ W', (Instr.mapUpdate 140 (.map (some M)) (.int .i64 t) (.pointer (some ⟨W.heap.size, 0, none⟩))).run Tryz.prog (W.alloc (.cells #[.int .i64 t, .int .i64 0, .int .i64 0, .int .i64 0, .int .i64 0, .int .i64 0, .int .i64 0, .int .i64 0] 58)) = .ok () W' ∧
      TdS w W' M q (D ++ [(t, W.heap.size, tk0 t)]) ∧ Fr [M] W W' := by
  have fA : Fr [] W (W.alloc (.cells #[.int .i64 t, .int .i64 0, .int .i64 0, .int .i64 0, .int .i64 0, .int .i64 0, .int .i64 0, .int .i64 0] 58)) := (Fr.refl [] W).alloc _
  have hA := h.new fA
  have hmk := TkAt.made W (tk0 t)
  have hMlt : M < W.heap.size := h.r.map.lt
  obtain ⟨W', hrun, hmap, hf⟩ := hA.r.map.put keyInt (t := 140) (e := 141) Tryz.underlying140 (keyInt_of t ht) (fun p hp => by
    obtain ⟨y, hy, rfl⟩ := List.mem_map.1 hp
    intro e
    cases e
    exact hne y hy rfl) (.pointer (some ⟨W.heap.size, 0, none⟩))
  have hdlt : ∀ p ∈ D, p.2.1 < W.heap.size := fun p hp => (Array.getElem?_eq_some_iff.1 (h.r.at' p hp)).1
  refine ⟨W', hrun, ⟨⟨?_, fun p hp => ?_, ?_, fun p hp => ?_⟩, fun p hp => ?_, fun p hp => ?_, fun p hp => ?_, (h.fr.step fA).trans hf (fun k hk hl => by rw [List.mem_singleton] at hk; omega)⟩, (fA.mono (fun _ hx => by cases hx)).trans hf (fun k hk _ => hk)⟩
  · rw [tdPairs_app]
    exact hmap
  · rcases List.mem_append.1 hp with hp | hp
    · exact (hA.r.at' p hp).keep hf (by rw [List.mem_singleton]; exact h.r.ne p hp)
    · rw [List.mem_singleton] at hp
      subst hp
      exact hmk.keep hf (by rw [List.mem_singleton]; omega)
  · rw [List.map_append, List.nodup_append]
    refine ⟨h.r.nodup, by simp, fun a ha b hb e => ?_⟩
    obtain ⟨p, hp, rfl⟩ := List.mem_map.1 ha
    simp only [List.map_cons, List.map_nil, List.mem_singleton] at hb
    have := hdlt p hp
    omega
  · rcases List.mem_append.1 hp with hp | hp
    · exact h.r.ne p hp
    · rw [List.mem_singleton] at hp
      subst hp
      dsimp only
      omega
  · rcases List.mem_append.1 hp with hp | hp
    · exact h.lim p hp
    · rw [List.mem_singleton] at hp
      subst hp
      exact lim0 t q
  · rcases List.mem_append.1 hp with hp | hp
    · exact h.own p hp
    · rw [List.mem_singleton] at hp
      subst hp
      exact h.fr.size
  · rcases List.mem_append.1 hp with hp | hp
    · exact h.keys p hp
    · rw [List.mem_singleton] at hp
      subst hp
      exact ht
/-- What the look-up gives. -/
theorem TdS.look {w W : World} {M q : Nat} {D : TD} {t : Int} (h : TdS w W M q D) (ht : I64 t) : ∃ pb : Option Addr, (Instr.lookup 140 (.map (some M)) (.int .i64 t) false).run Tryz.prog W = .ok (.pointer pb) W ∧
    ((∃ A b x B, D = A ++ (t, b, x) :: B ∧ pb = some ⟨b, 0, none⟩) ∨ (pb = none ∧ ∀ p ∈ D, p.1 ≠ t)) := by
  rcases td_split D t with ⟨A, b, x, B, rfl⟩ | hne
  · refine ⟨some ⟨b, 0, none⟩, ?_, .inl ⟨A, b, x, B, rfl, rfl⟩⟩
    exact h.r.map.hit keyInt (t := 140) (e := 141) Tryz.underlying140 (v := .pointer (some ⟨b, 0, none⟩)) (by simp [tdPairs]) false
  · refine ⟨none, ?_, .inr ⟨rfl, hne⟩⟩
    exact h.r.map.miss keyInt (t := 140) (e := 141) Tryz.underlying140 (z := .pointer none) (keyInt_of t ht) (fun p hp => by
      obtain ⟨y, hy, rfl⟩ := List.mem_map.1 hp
      intro e
      cases e
      exact hne y hy rfl) (by kernel_rfl) false
/-- The other tasks are other ones. -/
theorem TdR.others {W : World} {M b : Nat} {t : Int} {A B : TD} {x : Tk} (h : TdR W M (A ++ (t, b, x) :: B)) : (∀ p ∈ A, p.1 ≠ t) ∧ ∀ p ∈ B, p.1 ≠ t := by
  have hnd := h.map.nodup
  have e : (tdPairs (A ++ (t, b, x) :: B)).map (·.1) = (A.map fun p => Value.int .i64 p.1) ++ .int .i64 t :: (B.map fun p => Value.int .i64 p.1) := by
    simp only [tdPairs, List.map_append, List.map_cons, List.map_map]
    rfl
  rw [e, List.nodup_append] at hnd
  obtain ⟨_, h2, h3⟩ := hnd
  rw [List.nodup_cons] at h2
  refine ⟨fun p hp e => ?_, fun p hp e => ?_⟩
  · exact h3 (.int .i64 p.1) (List.mem_map.2 ⟨p, hp, rfl⟩) (.int .i64 t) (by simp) (by rw [e])
  · exact h2.1 (by rw [← e]; exact List.mem_map.2 ⟨p, hp, rfl⟩)
end Go.Proofs.YtllmejkcohfbiaaGreatDoor
namespace Go.Proofs.YtllmejkcohfbiaaGreatDoor
open Go.RowKit Go.Maps Go.Shelf Go.Sort Go.Lib

set_option linter.unusedVariables false
set_option linter.unusedSimpArgs false
set_option maxRecDepth 100000
set_option maxHeartbeats 8000000

/-- A map over int, as sorted keys want it. -/
theorem MapIs.ownsKeys {w : World} {b : Nat} {f : List (Value × Value)} (l : List Int) (h : MapIs Tryz.prog 3 w b f) (hf : f.map (·.1) = l.map (Value.int .i64)) (hI : ∀ k ∈ l, I64 k) (hn : l.length ≤ 100000) :
    ∃ D0 : DataW Unit, w.ownsMap Tryz.prog 3 (fun _ => some (.nil, [])) b l.length D0 ∧ (intKeys D0).Perm l ∧ Maps.size D0 = l.length := by
  obtain ⟨es, clock, hb, hs, hk, hfe⟩ := h
  have hkeys : es.toList.map (fun e => e.key) = l.map (Value.int .i64) := by rw [← hf, ← hfe, List.map_map]; rfl
  have hlen : es.size = l.length := by
    have := congrArg List.length hkeys
    simpa using this
  have hrd : ∀ e ∈ es.toList, ∃ k, e.key = .int .i64 k ∧ k ∈ l ∧ WideElems.rd (H := Unit) Tryz.prog 3 (fun _ => some (.nil, [])) e = some (.int .i64 k, .nil) := by
    intro e he
    have hm : e.key ∈ l.map (Value.int .i64) := by rw [← hkeys]; exact List.mem_map.2 ⟨e, he, rfl⟩
    obtain ⟨k, hkl, hke⟩ := List.mem_map.1 hm
    refine ⟨k, hke.symm, hkl, ?_⟩
    unfold WideElems.rd
    rw [← hke, keyInt_of k (hI k hkl)]
    rfl
  refine ⟨_, ⟨es, clock, hb, ⟨by unfold maxLen; omega, hs, fun x hx => ?_⟩, Nat.le_of_eq hlen, rfl⟩, ?_, ?_⟩
  · obtain ⟨k, _, _, h⟩ := hrd x hx
    exact ⟨_, h⟩
  · show (List.map (fun p : Lit × DataW Unit => Go.intOf p.1) _).Perm l
    refine ((WideShapes.sorted_perm _).map _).trans (List.Perm.of_eq ?_)
    rw [List.map_map]
    have h1 : es.toList.map ((fun p : Lit × DataW Unit => Go.intOf p.1) ∘ WideElems.rg Tryz.prog 3 (fun _ => some (.nil, []))) = (es.toList.map (fun e => e.key)).map (fun v => match v with | .int _ a => a | _ => 0) := by
      rw [List.map_map]
      refine List.map_congr_left (fun e he => ?_)
      obtain ⟨k, h1, _, h2⟩ := hrd e he
      simp only [Function.comp, WideElems.rg, h2, h1, Option.getD_some]
      rfl
    rw [h1, hkeys, List.map_map]
    exact List.map_id l
  · show (List.foldr DataW.insert [] _).length = l.length
    rw [length_sorted, List.length_map, Array.length_toList, hlen]
theorem tdStep_len (D : List (Int × Tk)) (v : Ev) : (tdStep D v).length ≤ D.length + 1 := by
  unfold tdStep
  repeat' split
  all_goals simp
theorem tdOf_len (l : List Ev) : (tdOf l).length ≤ l.length := by
  have : ∀ (l : List Ev) D, (l.foldl tdStep D).length ≤ D.length + l.length := by
    intro l
    induction l with
    | nil => intro D; simp
    | cons x r ih =>
      intro D
      have h1 := ih (tdStep D x)
      have h2 := tdStep_len D x
      simp only [List.foldl_cons, List.length_cons]
      omega
  simpa [tdOf] using this l []
theorem td_lookup {b : Nat} {x : Tk} {t : Int} {B : TD} : ∀ {A : TD}, (∀ p ∈ A, p.1 ≠ t) → (tdPlain (A ++ (t, b, x) :: B)).lookup t = some x
  | [], _ => by simp [tdPlain, List.lookup]
  | p :: r, h => by
    have h1 := h p (by simp)
    have h2 := td_lookup (b := b) (x := x) (B := B) (A := r) (fun q hq => h q (by simp [hq]))
    simp only [List.cons_append, tdPlain, List.map_cons, List.lookup]
    rw [show (t == p.1) = false from by simpa using Ne.symm h1]
    exact h2
/-- All tasks, in the order of their numbers. -/
def tkOf (T : List (Int × Tk)) (t : Int) : Tk := (T.lookup t).getD (tk0 t)
def tasksOf (T : List (Int × Tk)) : List Tk := ((T.map (·.1)).mergeSort (fun x y => decide (x ≤ y))).map (tkOf T)
theorem tdPlain_keys (D : TD) : (tdPlain D).map (·.1) = D.map (·.1) := by simp [tdPlain, List.map_map, Function.comp_def]
theorem tdPairs_keys (D : TD) : (tdPairs D).map (·.1) = (D.map (·.1)).map (Value.int .i64) := by simp [tdPairs, List.map_map, Function.comp_def]
end Go.Proofs.YtllmejkcohfbiaaGreatDoor
