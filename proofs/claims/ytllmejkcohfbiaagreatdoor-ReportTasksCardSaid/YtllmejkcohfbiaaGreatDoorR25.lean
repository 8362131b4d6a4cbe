/- Report: OfTasks' loop over the events. -/
import Derived.Test.YtllmejkcohfbiaaGreatDoorR24
import Derived.Deep.CutRange
namespace Go.Proofs.YtllmejkcohfbiaaGreatDoor
open Go.RowKit Go.Maps Go.Shelf Go.Sort Go.Lib
set_option linter.unusedVariables false
set_option linter.unusedSimpArgs false
set_option maxRecDepth 100000
set_option maxHeartbeats 16000000

theorem keyInt_of (x : Int) (h : I64 x) : keyOf Tryz.prog 3 (.int .i64 x) = some (.int .i64 x) :=
  Maps.keyOf_int_mk Tryz.underlying3 (by unfold I64 at h; simp [Lit.wf, IntKind.min, IntKind.max, IntKind.signed, IntKind.bits]; omega)
theorem TdS.turn {w W W' : World} {M q b : Nat} {t : Int} {A B : TD} {x y : Tk} (h : TdS w W M q (A ++ (t, b, x) :: B)) (f : Fr [b] W W') (hy : TkAt W' b y) (hl : y.lim (q + 1)) : TdS w W' M (q + 1) (A ++ (t, b, y) :: B) := by
  have hb : w.heap.size ≤ b := h.own (t, b, x) (by simp)
  refine ⟨h.r.turn f hy, fun p hp => ?_, fun p hp => ?_, fun p hp => ?_, h.fr.trans f (fun k hk hl => by rw [List.mem_singleton] at hk; omega)⟩
  · rcases List.mem_append.1 hp with hp | hp
    · exact (h.lim p (by simp [hp])).up
    · rcases List.mem_cons.1 hp with rfl | hp
      · exact hl
      · exact (h.lim p (by simp [hp])).up
  · rcases List.mem_append.1 hp with hp | hp
    · exact h.own p (by simp [hp])
    · rcases List.mem_cons.1 hp with rfl | hp
      · exact hb
      · exact h.own p (by simp [hp])
  · rcases List.mem_append.1 hp with hp | hp
    · exact h.keys p (by simp [hp])
    · rcases List.mem_cons.1 hp with rfl | hp
      · exact h.keys (t, b, x) (by simp)
      · exact h.keys p (by simp [hp])
theorem TdS.new {w W W' : World} {M q : Nat} {D : TD} (h : TdS w W M q D) (f : Fr [] W W') : TdS w W' M q D := ⟨h.r.new f, h.lim, h.own, h.keys, h.fr.step f⟩
theorem TdS.up {w W : World} {M q : Nat} {D : TD} (h : TdS w W M q D) : TdS w W M (q + 1) D := ⟨h.r, fun p hp => (h.lim p hp).up, h.own, h.keys, h.fr⟩
/-- A task that is new. -/
theorem TdS.put {w W : World} {M q : Nat} {D : TD} {t : Int} (h : TdS w W M q D) (ht : I64 t) (hne : ∀ p ∈ D, p.1 ≠ t) (hM : w.heap.size ≤ M) :
    ∃ W', (Instr.mapUpdate 140 (.map (some M)) (.int .i64 t) (.pointer (some ⟨W.heap.size, 0, none⟩))).run Tryz.prog (W.alloc (.cells #[.int .i64 t, .int .i64 0, .int .i64 0, .int .i64 0, .int .i64 0, .int .i64 0, .int .i64 0, .int .i64 0] 58)) = .ok () W' ∧
      TdS w W' M q (D ++ [(t, W.heap.size, tk0 t)]) ∧ Fr [M] W W' := by
  have fA : Fr [] W (W.alloc (.cells #[.int .i64 t, .int .i64 0, .int .i64 0, .int .i64 0, .int .i64 0, .int .i64 0, .int .i64 0, .int .i64 0] 58)) := (Fr.refl [] W).alloc _
  have hA := h.new fA
  have hmk := TkAt.made W (tk0 t)
  have hMlt : M < W.heap.size := h.r.map.lt
  obtain ⟨W', hrun, hmap, hf⟩ := hA.r.map.put keyInt (t := 140) (e := 141) Tryz.underlying140 (keyInt_of t ht) (fun p hp => by
    obtain ⟨y, hy, rfl⟩ := List.mem_map.1 hp
    intro e
    cases e
    exact hne y hy rfl) (.pointer (some ⟨W.heap.size, 0, none⟩))
  have hdlt : ∀ p ∈ D, p.2.1 < W.heap.size := fun p hp => (Array.getElem?_eq_some_iff.1 (h.r.at' p hp)).1
  refine ⟨W', hrun, ⟨⟨?_, fun p hp => ?_, ?_, fun p hp => ?_⟩, fun p hp => ?_, fun p hp => ?_, fun p hp => ?_, (h.fr.step fA).trans hf (fun k hk hl => by rw [List.mem_singleton] at hk; omega)⟩, (fA.mono (fun _ hx => by cases hx)).trans hf (fun k hk _ => hk)⟩
  · rw [tdPairs_app]
    exact hmap
  · rcases List.mem_append.1 hp with hp | hp
    · exact (hA.r.at' p hp).keep hf (by rw [List.mem_singleton]; exact h.r.ne p hp)
    · rw [List.mem_singleton] at hp
      subst hp
      exact hmk.keep hf (by rw [List.mem_singleton]; omega)
  · rw [List.map_append, List.nodup_append]
    refine ⟨h.r.nodup, by simp, fun a ha b hb e => ?_⟩
    obtain ⟨p, hp, rfl⟩ := List.mem_map.1 ha
    simp only [List.map_cons, List.map_nil, List.mem_singleton] at hb
    have := hdlt p hp
    omega
  · rcases List.mem_append.1 hp with hp | hp
    · exact h.r.ne p hp
    · rw [List.mem_singleton] at hp
      subst hp
      dsimp only
      omega
  · rcases List.mem_append.1 hp with hp | hp
    · exact h.lim p hp
    · rw [List.mem_singleton] at hp
      subst hp
      exact lim0 t q
  · rcases List.mem_append.1 hp with hp | hp
    · exact h.own p hp
    · rw [List.mem_singleton] at hp
      subst hp
      exact h.fr.size
  · rcases List.mem_append.1 hp with hp | hp
    · exact h.keys p hp
    · rw [List.mem_singleton] at hp
      subst hp
      exact ht
/-- What the look-up gives. -/
theorem TdS.look {w W : World} {M q : Nat} {D : TD} {t : Int} (h : TdS w W M q D) (ht : I64 t) : ∃ pb : Option Addr, (Instr.lookup 140 (.map (some M)) (.int .i64 t) false).run Tryz.prog W = .ok (.pointer pb) W ∧
    ((∃ A b x B, D = A ++ (t, b, x) :: B ∧ pb = some ⟨b, 0, none⟩) ∨ (pb = none ∧ ∀ p ∈ D, p.1 ≠ t)) := by
  rcases td_split D t with ⟨A, b, x, B, rfl⟩ | hne
  · refine ⟨some ⟨b, 0, none⟩, ?_, .inl ⟨A, b, x, B, rfl, rfl⟩⟩
    exact h.r.map.hit keyInt (t := 140) (e := 141) Tryz.underlying140 (v := .pointer (some ⟨b, 0, none⟩)) (by simp [tdPairs]) false
  · refine ⟨none, ?_, .inr ⟨rfl, hne⟩⟩
    exact h.r.map.miss keyInt (t := 140) (e := 141) Tryz.underlying140 (z := .pointer none) (keyInt_of t ht) (fun p hp => by
      obtain ⟨y, hy, rfl⟩ := List.mem_map.1 hp
      intro e
      cases e
      exact hne y hy rfl) (by kernel_rfl) false
/-- The other tasks are other ones. -/
theorem TdR.others {W : World} {M b : Nat} {t : Int} {A B : TD} {x : Tk} (h : TdR W M (A ++ (t, b, x) :: B)) : (∀ p ∈ A, p.1 ≠ t) ∧ ∀ p ∈ B, p.1 ≠ t := by
  have hnd := h.map.nodup
  have e : (tdPairs (A ++ (t, b, x) :: B)).map (·.1) = (A.map fun p => Value.int .i64 p.1) ++ .int .i64 t :: (B.map fun p => Value.int .i64 p.1) := by
    simp only [tdPairs, List.map_append, List.map_cons, List.map_map]
    rfl
  rw [e, List.nodup_append] at hnd
  obtain ⟨_, h2, h3⟩ := hnd
  rw [List.nodup_cons] at h2
  refine ⟨fun p hp e => ?_, fun p hp e => ?_⟩
  · exact h3 (.int .i64 p.1) (List.mem_map.2 ⟨p, hp, rfl⟩) (.int .i64 t) (by simp) (by rw [e])
  · exact h2.1 (by rw [← e]; exact List.mem_map.2 ⟨p, hp, rfl⟩)
end Go.Proofs.YtllmejkcohfbiaaGreatDoor
