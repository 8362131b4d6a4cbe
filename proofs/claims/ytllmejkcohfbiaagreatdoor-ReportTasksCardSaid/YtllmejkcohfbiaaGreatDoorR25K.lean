/- Report: the keys of the map of the tasks; how many there are; what is looked up. -/
import Derived.Test.YtllmejkcohfbiaaGreatDoorR25
namespace Go.Proofs.YtllmejkcohfbiaaGreatDoor
open Go.RowKit Go.Maps Go.Shelf Go.Sort Go.Lib

set_option linter.unusedVariables false
set_option linter.unusedSimpArgs false
set_option maxRecDepth 100000
set_option maxHeartbeats 8000000

/-- A map over int, as sorted keys want it. -/
theorem MapIs.ownsKeys {w : World} {b : Nat} {f : List (Value × Value)} (l : List Int) (h : MapIs Tryz.prog 3 w b f) (hf : f.map (·.1) = l.map (Value.int .i64)) (hI : ∀ k ∈ l, I64 k) (hn : l.length ≤ 100000) :
    ∃ D0 : DataW Unit, w.ownsMap Tryz.prog 3 (fun _ => some (.nil, [])) b l.length D0 ∧ (intKeys D0).Perm l ∧ Maps.size D0 = l.length := by
  obtain ⟨es, clock, hb, hs, hk, hfe⟩ := h
  have hkeys : es.toList.map (fun e => e.key) = l.map (Value.int .i64) := by rw [← hf, ← hfe, List.map_map]; rfl
  have hlen : es.size = l.length := by
    have := congrArg List.length hkeys
    simpa using this
  have hrd : ∀ e ∈ es.toList, ∃ k, e.key = .int .i64 k ∧ k ∈ l ∧ WideElems.rd (H := Unit) Tryz.prog 3 (fun _ => some (.nil, [])) e = some (.int .i64 k, .nil) := by
    intro e he
    have hm : e.key ∈ l.map (Value.int .i64) := by rw [← hkeys]; exact List.mem_map.2 ⟨e, he, rfl⟩
    obtain ⟨k, hkl, hke⟩ := List.mem_map.1 hm
    refine ⟨k, hke.symm, hkl, ?_⟩
    unfold WideElems.rd
    rw [← hke, keyInt_of k (hI k hkl)]
    rfl
  refine ⟨_, ⟨es, clock, hb, ⟨by unfold maxLen; omega, hs, fun x hx => ?_⟩, Nat.le_of_eq hlen, rfl⟩, ?_, ?_⟩
  · obtain ⟨k, _, _, h⟩ := hrd x hx
    exact ⟨_, h⟩
  · show (List.map (fun p : Lit × DataW Unit => Go.intOf p.1) _).Perm l
    refine ((WideShapes.sorted_perm _).map _).trans (List.Perm.of_eq ?_)
    rw [List.map_map]
    have h1 : es.toList.map ((fun p : Lit × DataW Unit => Go.intOf p.1) ∘ WideElems.rg Tryz.prog 3 (fun _ => some (.nil, []))) = (es.toList.map (fun e => e.key)).map (fun v => match v with | .int _ a => a | _ => 0) := by
      rw [List.map_map]
      refine List.map_congr_left (fun e he => ?_)
      obtain ⟨k, h1, _, h2⟩ := hrd e he
      simp only [Function.comp, WideElems.rg, h2, h1, Option.getD_some]
      rfl
    rw [h1, hkeys, List.map_map]
    exact List.map_id l
  · show (List.foldr DataW.insert [] _).length = l.length
    rw [length_sorted, List.length_map, Array.length_toList, hlen]
theorem tdStep_len (D : List (Int × Tk)) (v : Ev) : (tdStep D v).length ≤ D.length + 1 := by
  unfold tdStep
  repeat' split
  all_goals simp
theorem tdOf_len (l : List Ev) : (tdOf l).length ≤ l.length := by
  have : ∀ (l : List Ev) D, (l.foldl tdStep D).length ≤ D.length + l.length := by
    intro l
    induction l with
    | nil => intro D; simp
    | cons x r ih =>
      intro D
      have h1 := ih (tdStep D x)
      have h2 := tdStep_len D x
      simp only [List.foldl_cons, List.length_cons]
      omega
  simpa [tdOf] using this l []
theorem td_lookup {b : Nat} {x : Tk} {t : Int} {B : TD} : ∀ {A : TD}, (∀ p ∈ A, p.1 ≠ t) → (tdPlain (A ++ (t, b, x) :: B)).lookup t = some x
  | [], _ => by simp [tdPlain, List.lookup]
  | p :: r, h => by
    have h1 := h p (by simp)
    have h2 := td_lookup (b := b) (x := x) (B := B) (A := r) (fun q hq => h q (by simp [hq]))
    simp only [List.cons_append, tdPlain, List.map_cons, List.lookup]
    rw [show (t == p.1) = false from by simpa using Ne.symm h1]
    exact h2
/-- All tasks, in the order of their numbers. -/
def tkOf (T : List (Int × Tk)) (t : Int) : Tk := (T.lookup t).getD (tk0 t)
def tasksOf (T : List (Int × Tk)) : List Tk := ((T.map (·.1)).mergeSort (fun x y => decide (x ≤ y))).map (tkOf T)
theorem tdPlain_keys (D : TD) : (tdPlain D).map (·.1) = D.map (·.1) := by simp [tdPlain, List.map_map, Function.comp_def]
theorem tdPairs_keys (D : TD) : (tdPairs D).map (·.1) = (D.map (·.1)).map (Value.int .i64) := by simp [tdPairs, List.map_map, Function.comp_def]
end Go.Proofs.YtllmejkcohfbiaaGreatDoor
