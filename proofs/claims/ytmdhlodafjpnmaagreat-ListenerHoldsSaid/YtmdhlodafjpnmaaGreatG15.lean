/- The program's numbered things: all numbers, in order. -/
import Derived.Test.YtmdhlodafjpnmaaGreatShelf
import Derived.Test.YtmdhlodafjpnmaaGreatIter
import Derived.Test.YtmdhlodafjpnmaaGreatLn1
import Derived.Test.YtmdhlodafjpnmaaGreatG6
import Derived.Sort.OwnSorted
namespace Go.Proofs.YtmdhlodafjpnmaaGreat
open Go.RowKit Go.Maps Go.Shelf Go.Sort Go.Lib
open Go.WideElems (Fit rd rg rd_mk rg_of)
set_option linter.unusedVariables false
set_option linter.unusedSimpArgs false
set_option maxRecDepth 100000
set_option maxHeartbeats 8000000

def oneR : Value → Option (DataW Unit × List MemPlace) := fun _ => some (.lit (.bool true), [])
theorem key_inv {z : Int} {l : Lit} (h : keyOf Tryz.prog 3 (.int .i64 z) = some l) : keyOf Tryz.prog 3 (.int .i64 z) = some (.int .i64 z) := by
  by_cases hw : (Lit.int .i64 z).wf = true
  · exact Maps.keyOf_int_mk Tryz.underlying3 hw
  · rw [keyOf_int Tryz.underlying3] at h
    simp [mapKey, Tryz.underlying3, hw] at h
theorem own_of_mapIs {w : World} {b : Nat} {f : List (Value × Value)} (h : MapIs Tryz.prog 3 w b f) (zs : List Int) (hz : f.map (·.1) = zs.map (Value.int .i64)) (hl : zs.length ≤ 1000000) :
    ∃ D0 : DataW Unit, w.ownsMap Tryz.prog 3 oneR b zs.length D0 ∧ (intKeys D0).Perm zs ∧ Maps.size D0 = zs.length := by
  obtain ⟨es, clock, hb, hs, hk, hf⟩ := h
  have hkeys : es.toList.map (·.key) = zs.map (Value.int .i64) := by rw [← hz, ← hf, List.map_map]; rfl
  have hlen : es.size = zs.length := by
    have := congrArg List.length hkeys
    simpa using this
  have hrd : ∀ x ∈ es.toList, ∃ z ∈ zs, x.key = .int .i64 z ∧ rd Tryz.prog 3 oneR x = some (.int .i64 z, .lit (.bool true)) := fun x hx => by
    have hm : x.key ∈ es.toList.map (·.key) := List.mem_map.2 ⟨x, hx, rfl⟩
    rw [hkeys] at hm
    obtain ⟨z, hzm, hze⟩ := List.mem_map.1 hm
    refine ⟨z, hzm, hze.symm, ?_⟩
    obtain ⟨l, hkl⟩ := hk x hx
    obtain ⟨k, v, b⟩ := x
    simp only at hze hkl
    subst hze
    exact rd_mk (key_inv hkl) (yv := (.lit (.bool true), [])) rfl
  refine ⟨.map ((es.toList.map (rg Tryz.prog 3 oneR)).foldr DataW.insert []), ⟨es, clock, hb, ⟨by rw [hlen]; unfold maxLen; omega, hs, fun x hx => by obtain ⟨z, _, _, h⟩ := hrd x hx; exact ⟨_, h⟩⟩, by rw [hlen]; exact Nat.le_refl _, rfl⟩, ?_, ?_⟩
  · unfold intKeys
    refine ((Go.WideShapes.sorted_perm _).map _).trans (List.Perm.of_eq ?_)
    rw [List.map_map]
    refine (List.map_congr_left (g := fun x : MapEntry => match x.key with | .int _ z => z | _ => (0 : Int)) fun x hx => ?_).trans ?_
    · obtain ⟨z, _, h1, h2⟩ := hrd x hx
      simp only [Function.comp_apply, rg_of h2, h1]
      rfl
    have h2 : es.toList.map (fun x : MapEntry => match x.key with | .int _ z => z | _ => (0 : Int)) = (es.toList.map (·.key)).map (fun v => match v with | .int _ z => z | _ => (0 : Int)) := by rw [List.map_map]; rfl
    rw [h2, hkeys, List.map_map]
    exact (List.map_congr_left fun z _ => rfl).trans (List.map_id _)
  · simp only [Maps.size, length_sorted, List.length_map, Array.length_toList, hlen]
theorem sorts_any (m : Nat) : AnyZI.SortsIn Tryz.prog Tryz.sortedK_ren Fence.wide m :=
  ⟨fun blk off cap ss W hH hblk hsz => callsIn_wide.2 (Tryz.slices_Sort_int blk off cap ss W hH hblk hsz),
   fun p cap W => callsIn_wide.2 (Tryz.slices_Sort_int_none p cap W)⟩
theorem order_eq (ss zs : List Int) (h : ss.Perm zs) (hs : zs.Pairwise (· < ·)) : ss.mergeSort (fun x y => decide (x ≤ y)) = zs := by
  refine List.Perm.eq_of_pairwise (le := fun x y : Int => decide (x ≤ y) = true) (fun a b _ _ h1 h2 => by simp only [decide_eq_true_eq] at *; omega) ?_ ?_ ((List.mergeSort_perm _ _).trans h)
  · exact List.pairwise_mergeSort (fun a b c h1 h2 => by simp only [decide_eq_true_eq] at *; omega) (fun a b => by simp only [Bool.or_eq_true, decide_eq_true_eq]; omega) _
  · exact hs.imp (fun h => by simp only [decide_eq_true_eq]; omega)
section
variable (b X : Nat) (f : List (Value × Value)) (zs : List Int) (W : World)
theorem keysQ_any (mb : Option Nat) : Calls Tryz.prog 105 #[.map mb] W fun e w' => e = .returned (.func (.func 145) #[] #[.pointer (some ⟨W.heap.size, 0, none⟩)]) ∧ w' = W.alloc (.cells #[.map mb] 49) :=
  callsIn_wide.1 (AnyZI.keys_in Tryz.keysQ Fence.wide 5 trivial rfl mb W)
theorem keysC_any (mb : Option Nat) : Calls Tryz.prog 108 #[.map mb] W fun e w' => e = .returned (.func (.func 148) #[] #[.pointer (some ⟨W.heap.size, 0, none⟩)]) ∧ w' = W.alloc (.cells #[.map mb] 51) :=
  callsIn_wide.1 (AnyZI.keys_in Tryz.keysC Fence.wide 5 trivial rfl mb W)
theorem sortedQ_any (hX : X < W.heap.size) (hc : W.cell? ⟨X, 0, none⟩ = some (.map (some b))) (h : MapIs Tryz.prog 3 W b f) (ys : List Int) (hy : f.map (·.1) = ys.map (Value.int .i64)) (hp : zs.Perm ys) (hs : zs.Pairwise (· < ·)) (hl : ys.length ≤ 1000000) :
    Calls Tryz.prog 104 #[.func (.func 145) #[] #[.pointer (some ⟨X, 0, none⟩)]] W fun e w' => ∃ s : Sli, e = .returned (slv s) ∧ w'.ownsRow W.heap.size 3 1 (slv s) zs.length (intsV zs) ∧ Fr [] W w' := by
  obtain ⟨D0, h1, h2, h3⟩ := own_of_mapIs h ys hy hl
  have hseq : SeqGives Fence.wide 2 Tryz.prog 145 #[.pointer (some ⟨X, 0, none⟩)] encZ (fun ss => ss.Perm (intKeys D0)) (Maps.size D0) W :=
    AnyZI.keys_gives (ρ := Tryz.keysQ_ren) { Tryz.keysQ with } Fence.wide _ trivial rfl (by omega) X b _ D0 W hX hc h1
  have hS := callsIn_wide.1 (AnyZI.sorted_in Tryz.sortedK Fence.wide 5 trivial trivial trivial trivial rfl (by omega) (sorts_any _) (enters_of Tryz.func144 (by kernel_rfl) rfl) 145 #[.pointer (some ⟨X, 0, none⟩)] trivial (enters_of Tryz.func145 (by kernel_rfl) rfl) _ _ (by rw [h3]; unfold maxLen; omega) (by rw [h3]; omega) W hseq)
  refine hS.mono ?_
  rintro e w' ⟨v, ss, rfl, hss, hown, _, hbel⟩
  have hperm : ss.Perm zs := (hss.trans h2).trans hp.symm
  rw [order_eq ss zs hperm hs, hperm.length_eq] at hown
  obtain ⟨s, rfl, _⟩ := (RowV.of_own hown).sli
  exact ⟨s, rfl, hown, Fr.of_below hbel⟩
theorem sortedC_any (hX : X < W.heap.size) (hc : W.cell? ⟨X, 0, none⟩ = some (.map (some b))) (h : MapIs Tryz.prog 3 W b f) (ys : List Int) (hy : f.map (·.1) = ys.map (Value.int .i64)) (hp : zs.Perm ys) (hs : zs.Pairwise (· < ·)) (hl : ys.length ≤ 1000000) :
    Calls Tryz.prog 104 #[.func (.func 148) #[] #[.pointer (some ⟨X, 0, none⟩)]] W fun e w' => ∃ s : Sli, e = .returned (slv s) ∧ w'.ownsRow W.heap.size 3 1 (slv s) zs.length (intsV zs) ∧ Fr [] W w' := by
  obtain ⟨D0, h1, h2, h3⟩ := own_of_mapIs h ys hy hl
  have hseq : SeqGives Fence.wide 2 Tryz.prog 148 #[.pointer (some ⟨X, 0, none⟩)] encZ (fun ss => ss.Perm (intKeys D0)) (Maps.size D0) W :=
    AnyZI.keys_gives (ρ := Tryz.keysC_ren) { Tryz.keysC with } Fence.wide _ trivial rfl (by omega) X b _ D0 W hX hc h1
  have hS := callsIn_wide.1 (AnyZI.sorted_in Tryz.sortedK Fence.wide 5 trivial trivial trivial trivial rfl (by omega) (sorts_any _) (enters_of Tryz.func144 (by kernel_rfl) rfl) 148 #[.pointer (some ⟨X, 0, none⟩)] trivial (enters_of Tryz.func148 (by kernel_rfl) rfl) _ _ (by rw [h3]; unfold maxLen; omega) (by rw [h3]; omega) W hseq)
  refine hS.mono ?_
  rintro e w' ⟨v, ss, rfl, hss, hown, _, hbel⟩
  have hperm : ss.Perm zs := (hss.trans h2).trans hp.symm
  rw [order_eq ss zs hperm hs, hperm.length_eq] at hown
  obtain ⟨s, rfl, _⟩ := (RowV.of_own hown).sli
  exact ⟨s, rfl, hown, Fr.of_below hbel⟩
def SortedOut (W : World) (zs : List Int) (e : Ending) (w' : World) : Prop := ∃ s : Sli, e = .returned (slv s) ∧ w'.ownsRow W.heap.size 3 1 (slv s) zs.length (intsV zs) ∧ Fr [] W w'
theorem listQ_any (h : MapIs Tryz.prog 3 W b f) (ys : List Int) (hy : f.map (·.1) = ys.map (Value.int .i64)) (hp : zs.Perm ys) (hs : zs.Pairwise (· < ·)) (hl : ys.length ≤ 1000000) :
    Calls Tryz.prog 58 #[.map (some b)] W (SortedOut W zs) := by
  have f1 : Fr [] W (W.alloc (.cells #[.map (some b)] 49)) := (Fr.refl [] W).alloc _
  have HS := Lib.hid (sortedQ_any b W.heap.size f zs (W.alloc (.cells #[.map (some b)] 49)) (by simp) (netCell _ _ _ 0 rfl rfl rfl) (h.keep f1 (by simp)) ys hy hp hs hl)
  have HF := Lib.hid f1
  clear h hy hp hs f1
  go_enter Tryz.func58, Tryz.ntmps58
  go_wp2_with fail
  refine (keysQ_any W (some b)).mono ?_
  rintro e w' ⟨rfl, rfl⟩
  go_wp2_with fail
  refine HS.out.mono ?_
  rintro e w' ⟨s, rfl, ho, f2⟩
  go_wp2
  go_ret
  exact ⟨s, rfl, rowBase ho HF.out.size, HF.out.step f2⟩
theorem listC_any (h : MapIs Tryz.prog 3 W b f) (ys : List Int) (hy : f.map (·.1) = ys.map (Value.int .i64)) (hp : zs.Perm ys) (hs : zs.Pairwise (· < ·)) (hl : ys.length ≤ 1000000) :
    Calls Tryz.prog 61 #[.map (some b)] W (SortedOut W zs) := by
  have f1 : Fr [] W (W.alloc (.cells #[.map (some b)] 51)) := (Fr.refl [] W).alloc _
  have HS := Lib.hid (sortedC_any b W.heap.size f zs (W.alloc (.cells #[.map (some b)] 51)) (by simp) (netCell _ _ _ 0 rfl rfl rfl) (h.keep f1 (by simp)) ys hy hp hs hl)
  have HF := Lib.hid f1
  clear h hy hp hs f1
  go_enter Tryz.func61, Tryz.ntmps61
  go_wp2_with fail
  refine (keysC_any W (some b)).mono ?_
  rintro e w' ⟨rfl, rfl⟩
  go_wp2_with fail
  refine HS.out.mono ?_
  rintro e w' ⟨s, rfl, ho, f2⟩
  go_wp2
  go_ret
  exact ⟨s, rfl, rowBase ho HF.out.size, HF.out.step f2⟩
end
end Go.Proofs.YtmdhlodafjpnmaaGreat
