/- The program's numbered things: all numbers, in order. -/
/- The program's State of streams and connections that hold nothing. -/
/- The program's Conns and Listeners of a net in memory. -/
/- The reference's net beside the program's: what stays, what a call of the reference makes; plain laws for a net without bytes. -/
/- The reference's nets in memory: Close (of a net without bytes). -/
/- Both nets between two calls of a law. -/
import Derived.Test.YtgbmenfmaphciaaGreatTK
import Derived.Test.YtgbmenfmaphciaaGreatLShelf
import Derived.Test.YtgbmenfmaphciaaGreatLIter
import Derived.Test.YtgbmenfmaphciaaGreatFew
import Derived.Test.YtgbmenfmaphciaaGreatRM3
import Derived.Sort.OwnSorted
import Derived.Test.YtgbmenfmaphciaaGreatHang
import Derived.Test.YtgbmenfmaphciaaGreatG9
import Derived.Deep.CutRange
namespace Go.Proofs.YtgbmenfmaphciaaGreat
set_option linter.unusedVariables false
set_option linter.unusedSimpArgs false
set_option linter.unusedSectionVars false
open Go.RowKit Go.Maps Go.Shelf Go.Sort Go.Lib
open Go.WideElems (Fit rd rg rd_mk rg_of)
set_option linter.unusedVariables false
set_option linter.unusedSimpArgs false
set_option maxRecDepth 100000
set_option maxHeartbeats 8000000
def oneR : Value → Option (DataW Unit × List MemPlace) := fun _ => some (.lit (.bool true), [])
theorem key_inv {z : Int} {l : Lit} (h : keyOf Tryz.prog 3 (.int .i64 z) = some l) : keyOf Tryz.prog 3 (.int .i64 z) = some (.int .i64 z) := by
 by_cases hw : (Lit.int .i64 z).wf = true
 ·exact Maps.keyOf_int_mk Tryz.underlying3 hw
 ·rw [keyOf_int Tryz.underlying3] at h
  simp [mapKey, Tryz.underlying3, hw] at h
theorem own_of_mapIs {w : World} {b : Nat} {f : List (Value × Value)} (h : MapIs Tryz.prog 3 w b f) (zs : List Int) (hz : f.map (·.1) = zs.map (Value.int .i64)) (hl : zs.length ≤ 1000000) :
  ∃ D0 : DataW Unit, w.ownsMap Tryz.prog 3 oneR b zs.length D0 ∧ (intKeys D0).Perm zs ∧ Maps.size D0 = zs.length := by
 obtain ⟨es, clock, hb, hs, hk, hf⟩ := h
 have hkeys : es.toList.map (·.key) = zs.map (Value.int .i64) := by rw [← hz, ← hf, List.map_map]; rfl
 have hlen : es.size = zs.length := by
  have := congrArg List.length hkeys
  simpa using this
 have hrd : ∀ x ∈ es.toList, ∃ z ∈ zs, x.key = .int .i64 z ∧ rd Tryz.prog 3 oneR x = some (.int .i64 z, .lit (.bool true)) := fun x hx => by
  have hm : x.key ∈ es.toList.map (·.key) := List.mem_map.2 ⟨x, hx, rfl⟩
  rw [hkeys] at hm
  obtain ⟨z, hzm, hze⟩ := List.mem_map.1 hm
  refine ⟨z, hzm, hze.symm, ?_⟩
  obtain ⟨l, hkl⟩ := hk x hx
  obtain ⟨k, v, b⟩ := x
  simp only at hze hkl
  subst hze
  exact rd_mk (key_inv hkl) (yv := (.lit (.bool true), [])) rfl
 refine ⟨.map ((es.toList.map (rg Tryz.prog 3 oneR)).foldr DataW.insert []), ⟨es, clock, hb, ⟨by rw [hlen]; unfold maxLen; omega, hs, fun x hx => by obtain ⟨z, _, _, h⟩ := hrd x hx; exact ⟨_, h⟩⟩, by rw [hlen]; exact Nat.le_refl _, rfl⟩, ?_, ?_⟩
 ·unfold intKeys
  refine ((Go.WideShapes.sorted_perm _).map _).trans (List.Perm.of_eq ?_)
  rw [List.map_map]
  refine (List.map_congr_left (g := fun x : MapEntry => match x.key with | .int _ z => z | _ => (0 : Int)) fun x hx => ?_).trans ?_
  ·obtain ⟨z, _, h1, h2⟩ := hrd x hx
   simp only [Function.comp_apply, rg_of h2, h1]
   rfl
  have h2 : es.toList.map (fun x : MapEntry => match x.key with | .int _ z => z | _ => (0 : Int)) = (es.toList.map (·.key)).map (fun v => match v with | .int _ z => z | _ => (0 : Int)) := by rw [List.map_map]; rfl
  rw [h2, hkeys, List.map_map]
  exact (List.map_congr_left fun z _ => rfl).trans (List.map_id _)
 ·simp only [Maps.size, length_sorted, List.length_map, Array.length_toList, hlen]
theorem sorts_any (m : Nat) : AnyZI.SortsIn Tryz.prog Tryz.sortedK_ren Fence.wide m :=
 ⟨fun blk off cap ss W hH hblk hsz => callsIn_wide.2 (Tryz.slices_Sort_int blk off cap ss W hH hblk hsz),
   fun p cap W => callsIn_wide.2 (Tryz.slices_Sort_int_none p cap W)⟩
theorem order_eq (ss zs : List Int) (h : ss.Perm zs) (hs : zs.Pairwise (· < ·)) : ss.mergeSort (fun x y => decide (x ≤ y)) = zs := by
 refine List.Perm.eq_of_pairwise (le := fun x y : Int => decide (x ≤ y) = true) (fun a b _ _ h1 h2 => by simp only [decide_eq_true_eq] at *; omega) ?_ ?_ ((List.mergeSort_perm _ _).trans h)
 ·exact List.pairwise_mergeSort (fun a b c h1 h2 => by simp only [decide_eq_true_eq] at *; omega) (fun a b => by simp only [Bool.or_eq_true, decide_eq_true_eq]; omega) _
 ·exact hs.imp (fun h => by simp only [decide_eq_true_eq]; omega)
section
variable (b X : Nat) (f : List (Value × Value)) (zs : List Int) (W : World)
theorem keysQ_any (mb : Option Nat) : Calls Tryz.prog 102 #[.map mb] W fun e w' => e = .returned (.func (.func 124) #[] #[.pointer (some ⟨W.heap.size, 0, none⟩)]) ∧ w' = W.alloc (.cells #[.map mb] 88) :=
 callsIn_wide.1 (AnyZI.keys_in Tryz.keysQ Fence.wide 5 trivial rfl mb W)
theorem keysC_any (mb : Option Nat) : Calls Tryz.prog 105 #[.map mb] W fun e w' => e = .returned (.func (.func 127) #[] #[.pointer (some ⟨W.heap.size, 0, none⟩)]) ∧ w' = W.alloc (.cells #[.map mb] 90) :=
 callsIn_wide.1 (AnyZI.keys_in Tryz.keysC Fence.wide 5 trivial rfl mb W)
theorem sortedQ_any (hX : X < W.heap.size) (hc : W.cell? ⟨X, 0, none⟩ = some (.map (some b))) (h : MapIs Tryz.prog 3 W b f) (ys : List Int) (hy : f.map (·.1) = ys.map (Value.int .i64)) (hp : zs.Perm ys) (hs : zs.Pairwise (· < ·)) (hl : ys.length ≤ 1000000) :
  Calls Tryz.prog 101 #[.func (.func 124) #[] #[.pointer (some ⟨X, 0, none⟩)]] W fun e w' => ∃ s : Sli, e = .returned (slv s) ∧ w'.ownsRow W.heap.size 3 1 (slv s) zs.length (intsV zs) ∧ Fr [] W w' := by
 obtain ⟨D0, h1, h2, h3⟩ := own_of_mapIs h ys hy hl
 have hseq : SeqGives Fence.wide 2 Tryz.prog 124 #[.pointer (some ⟨X, 0, none⟩)] encZ (fun ss => ss.Perm (intKeys D0)) (Maps.size D0) W :=
  AnyZI.keys_gives (ρ := Tryz.keysQ_ren) { Tryz.keysQ with } Fence.wide _ trivial rfl (by omega) X b _ D0 W hX hc h1
 have hS := callsIn_wide.1 (AnyZI.sorted_in Tryz.sortedK Fence.wide 5 trivial trivial trivial trivial rfl (by omega) (sorts_any _) (enters_of Tryz.func123 (by kernel_rfl) rfl) 124 #[.pointer (some ⟨X, 0, none⟩)] trivial (enters_of Tryz.func124 (by kernel_rfl) rfl) _ _ (by rw [h3]; unfold maxLen; omega) (by rw [h3]; omega) W hseq)
 refine hS.mono ?_
 rintro e w' ⟨v, ss, rfl, hss, hown, _, hbel⟩
 have hperm : ss.Perm zs := (hss.trans h2).trans hp.symm
 rw [order_eq ss zs hperm hs, hperm.length_eq] at hown
 obtain ⟨s, rfl, _⟩ := (RowV.of_own hown).sli
 exact ⟨s, rfl, hown, Fr.of_below hbel⟩
theorem sortedC_any (hX : X < W.heap.size) (hc : W.cell? ⟨X, 0, none⟩ = some (.map (some b))) (h : MapIs Tryz.prog 3 W b f) (ys : List Int) (hy : f.map (·.1) = ys.map (Value.int .i64)) (hp : zs.Perm ys) (hs : zs.Pairwise (· < ·)) (hl : ys.length ≤ 1000000) :
  Calls Tryz.prog 101 #[.func (.func 127) #[] #[.pointer (some ⟨X, 0, none⟩)]] W fun e w' => ∃ s : Sli, e = .returned (slv s) ∧ w'.ownsRow W.heap.size 3 1 (slv s) zs.length (intsV zs) ∧ Fr [] W w' := by
 obtain ⟨D0, h1, h2, h3⟩ := own_of_mapIs h ys hy hl
 have hseq : SeqGives Fence.wide 2 Tryz.prog 127 #[.pointer (some ⟨X, 0, none⟩)] encZ (fun ss => ss.Perm (intKeys D0)) (Maps.size D0) W :=
  AnyZI.keys_gives (ρ := Tryz.keysC_ren) { Tryz.keysC with } Fence.wide _ trivial rfl (by omega) X b _ D0 W hX hc h1
 have hS := callsIn_wide.1 (AnyZI.sorted_in Tryz.sortedK Fence.wide 5 trivial trivial trivial trivial rfl (by omega) (sorts_any _) (enters_of Tryz.func123 (by kernel_rfl) rfl) 127 #[.pointer (some ⟨X, 0, none⟩)] trivial (enters_of Tryz.func127 (by kernel_rfl) rfl) _ _ (by rw [h3]; unfold maxLen; omega) (by rw [h3]; omega) W hseq)
 refine hS.mono ?_
 rintro e w' ⟨v, ss, rfl, hss, hown, _, hbel⟩
 have hperm : ss.Perm zs := (hss.trans h2).trans hp.symm
 rw [order_eq ss zs hperm hs, hperm.length_eq] at hown
 obtain ⟨s, rfl, _⟩ := (RowV.of_own hown).sli
 exact ⟨s, rfl, hown, Fr.of_below hbel⟩
def SortedOut (W : World) (zs : List Int) (e : Ending) (w' : World) : Prop := ∃ s : Sli, e = .returned (slv s) ∧ w'.ownsRow W.heap.size 3 1 (slv s) zs.length (intsV zs) ∧ Fr [] W w'
theorem listQ_any (h : MapIs Tryz.prog 3 W b f) (ys : List Int) (hy : f.map (·.1) = ys.map (Value.int .i64)) (hp : zs.Perm ys) (hs : zs.Pairwise (· < ·)) (hl : ys.length ≤ 1000000) :
  Calls Tryz.prog 66 #[.map (some b)] W (SortedOut W zs) := by
 have f1 : Fr [] W (W.alloc (.cells #[.map (some b)] 88)) := (Fr.refl [] W).alloc _
 have HS := Lib.hid (sortedQ_any b W.heap.size f zs (W.alloc (.cells #[.map (some b)] 88)) (by simp) (netCell _ _ _ 0 rfl rfl rfl) (h.keep f1 (by simp)) ys hy hp hs hl)
 have HF := Lib.hid f1
 clear h hy hp hs f1
 go_enter Tryz.func66, Tryz.ntmps66
 go_wp2_with fail
 refine (keysQ_any W (some b)).mono ?_
 rintro e w' ⟨rfl, rfl⟩
 go_wp2_with fail
 refine HS.out.mono ?_
 rintro e w' ⟨s, rfl, ho, f2⟩
 go_wp2
 go_ret
 exact ⟨s, rfl, rowBase ho HF.out.size, HF.out.step f2⟩
theorem listC_any (h : MapIs Tryz.prog 3 W b f) (ys : List Int) (hy : f.map (·.1) = ys.map (Value.int .i64)) (hp : zs.Perm ys) (hs : zs.Pairwise (· < ·)) (hl : ys.length ≤ 1000000) :
  Calls Tryz.prog 70 #[.map (some b)] W (SortedOut W zs) := by
 have f1 : Fr [] W (W.alloc (.cells #[.map (some b)] 90)) := (Fr.refl [] W).alloc _
 have HS := Lib.hid (sortedC_any b W.heap.size f zs (W.alloc (.cells #[.map (some b)] 90)) (by simp) (netCell _ _ _ 0 rfl rfl rfl) (h.keep f1 (by simp)) ys hy hp hs hl)
 have HF := Lib.hid f1
 clear h hy hp hs f1
 go_enter Tryz.func70, Tryz.ntmps70
 go_wp2_with fail
 refine (keysC_any W (some b)).mono ?_
 rintro e w' ⟨rfl, rfl⟩
 go_wp2_with fail
 refine HS.out.mono ?_
 rintro e w' ⟨s, rfl, ho, f2⟩
 go_wp2
 go_ret
 exact ⟨s, rfl, rowBase ho HF.out.size, HF.out.step f2⟩
end
end Go.Proofs.YtgbmenfmaphciaaGreat
namespace Go.Proofs.YtgbmenfmaphciaaGreat
set_option linter.unusedVariables false
set_option linter.unusedSimpArgs false
set_option linter.unusedSectionVars false
open Go.RowKit
set_option linter.unusedVariables false
set_option linter.unusedSimpArgs false
set_option maxRecDepth 100000
set_option maxHeartbeats 8000000
theorem ringLen0 (r b c : Nat) (w : World) (h : w.cell? ⟨r, 0, none⟩ = some (.slice (some ⟨b, 0, none⟩) c c)) (h2 : w.cell? ⟨r, 2, none⟩ = some (.int .i64 0)) :
  Calls Tryz.prog 197 #[.pointer (some ⟨r, 0, none⟩)] w fun e w' => e = .returned (.int .i64 0) ∧ w = w' := by
 have hnb := fun W => neB W b c
 go_enter Tryz.func197, Tryz.ntmps197
 go_wp2
 go_ret
 exact ⟨rfl, rfl⟩
theorem ringPeek0 (r b c : Nat) (w : World) (h : w.cell? ⟨r, 0, none⟩ = some (.slice (some ⟨b, 0, none⟩) c c)) (h2 : w.cell? ⟨r, 2, none⟩ = some (.int .i64 0)) :
  Calls Tryz.prog 196 #[.pointer (some ⟨r, 0, none⟩), .int .i64 0, .int .i64 0] w fun e w' => e = .returned (.tuple #[.slice none 0 0, .int .i64 0]) ∧ w = w' := by
 have hnb := fun W => neB W b c
 go_enter Tryz.func196, Tryz.ntmps196
 go_wp2
 refine bodyPost_ret (v := .tuple #[.slice none 0 0, .int .i64 0]) (by simp [results, Tryz.results196, go_sem]) rfl ?_
 exact ⟨rfl, rfl⟩
theorem held_zero (w : World) :
  Calls Tryz.prog 187 #[.agg #[]] w fun e w' => e = .returned (.slice none 0 0) ∧ Fr [] w w' := by
 go_enter Tryz.func187, Tryz.ntmps187
 go_wp2
 go_ret
 exact ⟨rfl, (Fr.refl [] w).alloc _⟩
theorem held_ring (r b c : Nat) (w : World) (h : w.cell? ⟨r, 0, none⟩ = some (.slice (some ⟨b, 0, none⟩) c c)) (h2 : w.cell? ⟨r, 2, none⟩ = some (.int .i64 0)) :
  Calls Tryz.prog 193 #[.agg #[.pointer (some ⟨r, 0, none⟩)]] w fun e w' => e = .returned (.slice none 0 0) ∧ Fr [] w w' := by
 obtain ⟨B, hB⟩ : ∃ B, w.heap.size = B := ⟨_, rfl⟩
 obtain ⟨w0, hw0⟩ : ∃ z, (w.alloc (.cells #[.pointer (some ⟨r, 0, none⟩)] 231)).drew = z := ⟨_, rfl⟩
 have f0 : Fr [] w w0 := by rw [← hw0]; exact ((Fr.refl [] w).alloc _).drew
 have k0 : w0.cell? ⟨B, 0, none⟩ = some (.pointer (some ⟨r, 0, none⟩)) := by
  rw [← hw0, ← hB]
  exact ((Fr.refl [] _).drew).keep (netCell w _ _ 0 rfl rfl rfl) (by simp)
 have HL := Lib.hid (ringLen0 r b c w0 (f0.keep h (by simp)) (f0.keep h2 (by simp)))
 have HP := Lib.hid (ringPeek0 r b c w0 (f0.keep h (by simp)) (f0.keep h2 (by simp)))
 have HF := Lib.hid f0
 have HB := Lib.hid hB
 have HW := Lib.hid hw0
 have HK := Lib.hid k0
 clear h h2 f0 hB hw0 k0
 go_enter Tryz.func193, Tryz.ntmps193
 go_upto_region 1 with fail
 simp only [HB.out]
 refine wp_region_held_drew (S := fun w' => w'.cell? ⟨B, 0, none⟩ = some (.pointer (some ⟨r, 0, none⟩))) (by kernel_rfl) (by rw [HW.out]; exact HK.out) (fun hHeld => ?_)
 rw [HW.out] at hHeld ⊢
 refine tkZ 0 ?_
 refine tkZ 1 ?_
 refine tkZ 2 ?_
 refine tkZ 3 ?_
 refine rdZ 4 (fun K hK => ?_)
 go_simp
 refine HL.out.mono ?_
 rintro e w1 ⟨rfl, rfl⟩
 refine hK.out _ _ (hHeld) (fun hHeld => ?_)
 clear hK K
 try simp only [Act.put, nrZ]
 refine rdZ 5 (fun K hK => ?_)
 go_simp
 refine HP.out.mono ?_
 rintro e w1 ⟨rfl, rfl⟩
 refine hK.out _ _ (hHeld) (fun hHeld => ?_)
 clear hK K
 try simp only [Act.put, nrZ]
 refine tkZ 6 ?_
 refine tkZ 7 ?_
 refine tkZ 8 ?_
 refine tkZ 9 ?_
 refine tkZ 10 ?_
 refine wpAnyH_done (by kernel_rfl) ?_ _
 clear hHeld
 go_wp2
 go_ret
 exact ⟨rfl, HF.out⟩
theorem ropeBytes0 (w : World) :
  Calls Tryz.prog 130 #[.agg #[.slice none 0 0, .int .i64 0]] w fun e w' => e = .returned (.slice none 0 0) ∧ Fr [] w w' := by
 go_enter Tryz.func130, Tryz.ntmps130
 go_wp2_with fail
 have HC : ∀ W, Calls Tryz.prog 145 #[.slice none 0 0] W fun e w' => e = .returned (.slice none 0 0) ∧ w' = W := by
  intro W
  go_enter Tryz.func145, Tryz.ntmps145
  go_wp2
  refine wp_loop_rounds 1 ?_
  rw [rounds_succ]
  go_wp2
  refine wp_loop_rounds 1 ?_
  rw [rounds_succ]
  go_wp2
  go_ret
  exact ⟨rfl, rfl⟩
 refine (HC _).mono ?_
 rintro e w' ⟨rfl, rfl⟩
 go_wp2
 go_ret
 exact ⟨rfl, (Fr.refl [] w).alloc _⟩
def stE (c : Int) (wr rd : Int) : SS := ⟨c, [], false, [], 0, wr, rd⟩
def nil2 : Sli := (none, 0, 0)
theorem held_d (n : Nat) (W : World) : (method (n + 1) 226 (.agg #[]) "aqueduct/stream.held").run Tryz.prog W = .ok (187, .agg #[]) W := by kernel_rfl
theorem held_b (n r : Nat) (W : World) : (method (n + 1) 231 (.agg #[.pointer (some ⟨r, 0, none⟩)]) "aqueduct/stream.held").run Tryz.prog W = .ok (193, .agg #[.pointer (some ⟨r, 0, none⟩)]) W := by kernel_rfl
theorem bldSt (c : Int) (wr rd : Int) : ∀ w, (Instr.build 95 #[(0, .int .i64 c), (1, .slice none 0 0), (2, .bool false), (3, .slice none 0 0), (4, .int .i64 0), (5, .int .i64 wr), (6, .int .i64 rd)]).run Tryz.prog w = .ok (.agg (stC (stE c wr rd) nil2 nil2).toArray) w := fun w => by kernel_rfl
theorem agg128 : ∀ w, (isAgg 205).run Tryz.prog w = .ok true w := fun w => by kernel_rfl
theorem size128 : ∀ w, (sizeOf 205).run Tryz.prog w = .ok 2 w := fun w => by kernel_rfl
theorem exec_bld7 {P : Program} {o : Oper} {a : Act} {w w' : World} {v : Value} {t : TypeId} {x0 x1 x2 x3 x4 x5 x6 : Operand} {v0 v1 v2 v3 v4 v5 v6 : Value} (ho : o.op = .build t #[(0, x0), (1, x1), (2, x2), (3, x3), (4, x4), (5, x5), (6, x6)]) (h0 : a.eval x0 = v0) (h1 : a.eval x1 = v1) (h2 : a.eval x2 = v2) (h3 : a.eval x3 = v3) (h4 : a.eval x4 = v4) (h5 : a.eval x5 = v5) (h6 : a.eval x6 = v6) (hrun : (Instr.build t #[(0, v0), (1, v1), (2, v2), (3, v3), (4, v4), (5, v5), (6, v6)]).run P w = .ok v w') : (execOp a.eval o).run P w = .ok (.value v) w' := by
 simp [execOp, ho, h0, h1, h2, h3, h4, h5, h6, hrun]
theorem strState_any {P : Nat → Prop} {s c : Nat} {wr rd : Int} (w : World) (h : StrS w P s c wr rd) :
  Calls Tryz.prog 107 #[.pointer (some ⟨s, 0, none⟩)] w fun e w' => e = .returned (.agg (stC (stE c wr rd) nil2 nil2).toArray) ∧ Fr [] w w' := by
 rcases h.store with ⟨rfl, hif⟩ | ⟨r, b, l1, l2, h1, h2, h3, h4, h5, hif, h7, h8, h9⟩
 ·skip
  obtain ⟨B, hB⟩ : ∃ B, w.heap.size = B := ⟨_, rfl⟩
  obtain ⟨w0, hw0⟩ : ∃ z, w.alloc (.cells #[.int .i64 0, .slice none 0 0, .bool false, .slice none 0 0, .int .i64 0, .int .i64 0, .int .i64 0] 95) = z := ⟨_, rfl⟩
  have f0 : Fr [] w w0 := by rw [← hw0]; exact (Fr.refl [] w).alloc _
  have hb0 : Blk w0 B 95 zSt := by rw [← hw0, ← hB]; exact Blk.made w 95 zSt
  obtain ⟨w1, hw1⟩ : ∃ z, w0.drew = z := ⟨_, rfl⟩
  have f1 : Fr [] w0 w1 := by rw [← hw1]; exact (Fr.refl [] w0).drew
  have HB0 := Lib.hid (hb0.keep f1 (by simp))
  have HF1 := Lib.hid (f0.step f1)
  have HN := Lib.hid (streamNone_any w0 (h.new f0))
  have HS := Lib.hid (show ∀ W, Fr [] w W → W.cell? ⟨s, 0, none⟩ = some (.iface 226 (.agg #[])) ∧ W.cell? ⟨s, 1, none⟩ = some (.bool false) ∧ LiesAt W s 2 [.slice none 0 0, .int .i64 0] ∧ W.cell? ⟨s, 4, none⟩ = some (.int .i64 0) ∧ W.cell? ⟨s, 5, none⟩ = some (.int .i64 wr) ∧ W.cell? ⟨s, 6, none⟩ = some (.int .i64 rd) from fun W f => ⟨f.keep hif (by simp), f.keep h.busy (by simp), (fun j u hj => by
   match j with
   | 0 => cases hj; exact f.keep h.rest0 (by simp)
   | 1 => cases hj; exact f.keep h.rest1 (by simp)), f.keep h.acc (by simp), f.keep h.cl0 (by simp), f.keep h.cl1 (by simp)⟩)
  have HBS := Lib.hid hB
  have HW0 := Lib.hid hw0
  have HW1 := Lib.hid hw1
  clear f0 f1 hb0 hB hw0 hw1 h hif
  have hmr := fun n W => room_direct n W
  have hmh := fun n W => held_d n W
  go_enter Tryz.func107, Tryz.ntmps107
  go_upto_region 1 with fail
  rw [HW0.out]
  simp only [HBS.out]
  go_wp2_with fail
  refine HN.out.mono ?_
  rintro e w' ⟨rfl, rfl⟩
  go_upto_region 3 with fail
  refine wp_region_held_drew (S := fun W => W.cell? ⟨s, 0, none⟩ = some (.iface 226 (.agg #[])) ∧ W.cell? ⟨s, 1, none⟩ = some (.bool false) ∧ LiesAt W s 2 [.slice none 0 0, .int .i64 0] ∧ W.cell? ⟨s, 4, none⟩ = some (.int .i64 0) ∧ W.cell? ⟨s, 5, none⟩ = some (.int .i64 wr) ∧ W.cell? ⟨s, 6, none⟩ = some (.int .i64 rd)) (by kernel_rfl) (by rw [HW1.out]; exact HS.out _ HF1.out) (fun hHeld => ?_)
  rw [HW1.out] at hHeld ⊢
  refine tkZ 0 ?_
  refine tkZ 1 ?_
  refine tkZ 2 ?_
  refine tkZ 3 ?_
  refine tkZ 5 ?_
  refine tkZ 6 ?_
  refine tkZ 7 ?_
  refine tkZ 8 ?_
  refine tkZ 10 ?_
  refine tkZ 11 ?_
  refine tkZ 12 ?_
  refine tkZ 13 ?_
  refine tkZ 14 ?_
  refine tkZ 15 ?_
  refine tkZ 16 ?_
  refine tvZ 17 _ rfl (fun w hSw => ldX (load_all agg128 size128 (xs := [.slice none 0 0, .int .i64 0]) rfl hSw.2.2.1)) ?_
  refine tkZ 19 ?_
  refine tkZ 20 ?_
  refine tkZ 21 ?_
  refine tkZ 22 ?_
  refine tkZ 23 ?_
  refine tkZ 24 ?_
  refine tkZ 25 ?_
  refine tkZ 26 ?_
  refine tkZ 27 ?_
  refine tkZ 28 ?_
  refine tkZ 29 ?_
  refine tkZ 30 ?_
  refine tkZ 31 ?_
  refine tkZ 32 ?_
  refine rdZ 4 (fun K hK => ?_)
  go_simp
  refine (room_zero _).mono ?_
  rintro e w2 ⟨rfl, f2⟩
  have HF2 := Lib.hid (HF1.out.step f2)
  have HB1 := Lib.hid (HB0.out.keep f2 (by simp))
  clear f2
  refine hK.out _ _ (HS.out _ HF2.out) (fun hHeld => ?_)
  clear hK K
  try simp only [Act.put, nrZ]
  refine rdZ 9 (fun K hK => ?_)
  go_simp
  refine (held_zero _).mono ?_
  rintro e w3 ⟨rfl, f3⟩
  have HF3 := Lib.hid (HF2.out.step f3)
  have HB2 := Lib.hid (HB1.out.keep f3 (by simp))
  clear f3
  refine hK.out _ _ (HS.out _ HF3.out) (fun hHeld => ?_)
  clear hK K
  try simp only [Act.put, nrZ]
  refine rdZ 18 (fun K hK => ?_)
  go_simp
  refine (ropeBytes0 _).mono ?_
  rintro e w4 ⟨rfl, f4⟩
  have HF4 := Lib.hid (HF3.out.step f4)
  have HB3 := Lib.hid (HB2.out.keep f4 (by simp))
  clear f4
  refine hK.out _ _ (HS.out _ HF4.out) (fun hHeld => ?_)
  clear hK K
  try simp only [Act.put, nrZ]
  refine tvZ 33 (.agg (stC (stE (0 : Nat) wr rd) nil2 nil2).toArray) rfl ?_ ?_
  ·intro w hSw
   try dsimp only at hSw
   exact exec_bld7 (v0 := .int .i64 0) (v1 := .slice none 0 0) (v2 := .bool false) (v3 := .slice none 0 0) (v4 := .int .i64 0) (v5 := .int .i64 wr) (v6 := .int .i64 rd) rfl rfl rfl rfl rfl rfl rfl rfl (bldSt _ wr rd w)
  try simp only [Act.put, nrZ]
  refine rdZ 34 (fun K hK => ?_)
  obtain ⟨w5, hst, hb_, hf_⟩ := store_all (t := 95) (stC (stE (0 : Nat) wr rd) nil2 nil2) size90 rfl (stC_one _ _ _) HB3.out rfl
  split
  rotate_left
  ·rename_i hno
   exact absurd rfl hno
  refine stY hst ?_
  clear hst
  have HB5 := Lib.hid hb_
  have HF5 := Lib.hid (HF4.out.own1 (S := []) (B := 0) hf_ (by have := HBS.out; omega))
  clear hb_ hf_
  refine hK.out _ _ (HS.out _ HF5.out) (fun hHeld => ?_)
  clear hK K
  try simp only [Act.put, nrZ]
  refine wpAnyH_done (by kernel_rfl) ?_ _
  clear hHeld
  go_wp2
  have hl := load_var agg90 size90 (xs := stC (stE (0 : Nat) wr rd) nil2 nil2) rfl HB5.out.at
  refine bodyPost_ret (v := .agg (stC (stE (0 : Nat) wr rd) nil2 nil2).toArray) (by simp [results, Tryz.results107, as_addr, hl]) rfl ?_
  exact ⟨rfl, HF5.out⟩
 ·skip
  obtain ⟨B, hB⟩ : ∃ B, w.heap.size = B := ⟨_, rfl⟩
  obtain ⟨w0, hw0⟩ : ∃ z, w.alloc (.cells #[.int .i64 0, .slice none 0 0, .bool false, .slice none 0 0, .int .i64 0, .int .i64 0, .int .i64 0] 95) = z := ⟨_, rfl⟩
  have f0 : Fr [] w w0 := by rw [← hw0]; exact (Fr.refl [] w).alloc _
  have hb0 : Blk w0 B 95 zSt := by rw [← hw0, ← hB]; exact Blk.made w 95 zSt
  obtain ⟨w1, hw1⟩ : ∃ z, w0.drew = z := ⟨_, rfl⟩
  have f1 : Fr [] w0 w1 := by rw [← hw1]; exact (Fr.refl [] w0).drew
  have HB0 := Lib.hid (hb0.keep f1 (by simp))
  have HF1 := Lib.hid (f0.step f1)
  have HN := Lib.hid (streamNone_any w0 (h.new f0))
  have HS := Lib.hid (show ∀ W, Fr [] w W → W.cell? ⟨s, 0, none⟩ = some (.iface 231 (.agg #[.pointer (some ⟨r, 0, none⟩)])) ∧ W.cell? ⟨s, 1, none⟩ = some (.bool false) ∧ LiesAt W s 2 [.slice none 0 0, .int .i64 0] ∧ W.cell? ⟨s, 4, none⟩ = some (.int .i64 0) ∧ W.cell? ⟨s, 5, none⟩ = some (.int .i64 wr) ∧ W.cell? ⟨s, 6, none⟩ = some (.int .i64 rd) from fun W f => ⟨f.keep hif (by simp), f.keep h.busy (by simp), (fun j u hj => by
   match j with
   | 0 => cases hj; exact f.keep h.rest0 (by simp)
   | 1 => cases hj; exact f.keep h.rest1 (by simp)), f.keep h.acc (by simp), f.keep h.cl0 (by simp), f.keep h.cl1 (by simp)⟩)
  have HBS := Lib.hid hB
  have HW0 := Lib.hid hw0
  have HW1 := Lib.hid hw1
  clear f0 f1 hb0 hB hw0 hw1 h hif
  have HRC := Lib.hid (And.intro h7 h9)
  clear h7 h8 h9 h1 h2 h3 h4 h5 l1 l2
  have hmr := fun n W => room_buffered n r W
  have hmh := fun n W => held_b n r W
  go_enter Tryz.func107, Tryz.ntmps107
  go_upto_region 1 with fail
  rw [HW0.out]
  simp only [HBS.out]
  go_wp2_with fail
  refine HN.out.mono ?_
  rintro e w' ⟨rfl, rfl⟩
  go_upto_region 3 with fail
  refine wp_region_held_drew (S := fun W => W.cell? ⟨s, 0, none⟩ = some (.iface 231 (.agg #[.pointer (some ⟨r, 0, none⟩)])) ∧ W.cell? ⟨s, 1, none⟩ = some (.bool false) ∧ LiesAt W s 2 [.slice none 0 0, .int .i64 0] ∧ W.cell? ⟨s, 4, none⟩ = some (.int .i64 0) ∧ W.cell? ⟨s, 5, none⟩ = some (.int .i64 wr) ∧ W.cell? ⟨s, 6, none⟩ = some (.int .i64 rd)) (by kernel_rfl) (by rw [HW1.out]; exact HS.out _ HF1.out) (fun hHeld => ?_)
  rw [HW1.out] at hHeld ⊢
  refine tkZ 0 ?_
  refine tkZ 1 ?_
  refine tkZ 2 ?_
  refine tkZ 3 ?_
  refine tkZ 5 ?_
  refine tkZ 6 ?_
  refine tkZ 7 ?_
  refine tkZ 8 ?_
  refine tkZ 10 ?_
  refine tkZ 11 ?_
  refine tkZ 12 ?_
  refine tkZ 13 ?_
  refine tkZ 14 ?_
  refine tkZ 15 ?_
  refine tkZ 16 ?_
  refine tvZ 17 _ rfl (fun w hSw => ldX (load_all agg128 size128 (xs := [.slice none 0 0, .int .i64 0]) rfl hSw.2.2.1)) ?_
  refine tkZ 19 ?_
  refine tkZ 20 ?_
  refine tkZ 21 ?_
  refine tkZ 22 ?_
  refine tkZ 23 ?_
  refine tkZ 24 ?_
  refine tkZ 25 ?_
  refine tkZ 26 ?_
  refine tkZ 27 ?_
  refine tkZ 28 ?_
  refine tkZ 29 ?_
  refine tkZ 30 ?_
  refine tkZ 31 ?_
  refine tkZ 32 ?_
  refine rdZ 4 (fun K hK => ?_)
  go_simp
  refine (room_ring r b c _ (HF1.out.keep HRC.out.1 (by simp))).mono ?_
  rintro e w2 ⟨rfl, f2⟩
  have HF2 := Lib.hid (HF1.out.step f2)
  have HB1 := Lib.hid (HB0.out.keep f2 (by simp))
  clear f2
  refine hK.out _ _ (HS.out _ HF2.out) (fun hHeld => ?_)
  clear hK K
  try simp only [Act.put, nrZ]
  refine rdZ 9 (fun K hK => ?_)
  go_simp
  refine (held_ring r b c _ (HF2.out.keep HRC.out.1 (by simp)) (HF2.out.keep HRC.out.2 (by simp))).mono ?_
  rintro e w3 ⟨rfl, f3⟩
  have HF3 := Lib.hid (HF2.out.step f3)
  have HB2 := Lib.hid (HB1.out.keep f3 (by simp))
  clear f3
  refine hK.out _ _ (HS.out _ HF3.out) (fun hHeld => ?_)
  clear hK K
  try simp only [Act.put, nrZ]
  refine rdZ 18 (fun K hK => ?_)
  go_simp
  refine (ropeBytes0 _).mono ?_
  rintro e w4 ⟨rfl, f4⟩
  have HF4 := Lib.hid (HF3.out.step f4)
  have HB3 := Lib.hid (HB2.out.keep f4 (by simp))
  clear f4
  refine hK.out _ _ (HS.out _ HF4.out) (fun hHeld => ?_)
  clear hK K
  try simp only [Act.put, nrZ]
  refine tvZ 33 (.agg (stC (stE c wr rd) nil2 nil2).toArray) rfl ?_ ?_
  ·intro w hSw
   try dsimp only at hSw
   exact exec_bld7 (v0 := .int .i64 c) (v1 := .slice none 0 0) (v2 := .bool false) (v3 := .slice none 0 0) (v4 := .int .i64 0) (v5 := .int .i64 wr) (v6 := .int .i64 rd) rfl rfl rfl rfl rfl rfl rfl rfl (bldSt _ wr rd w)
  try simp only [Act.put, nrZ]
  refine rdZ 34 (fun K hK => ?_)
  obtain ⟨w5, hst, hb_, hf_⟩ := store_all (t := 95) (stC (stE c wr rd) nil2 nil2) size90 rfl (stC_one _ _ _) HB3.out rfl
  split
  rotate_left
  ·rename_i hno
   exact absurd rfl hno
  refine stY hst ?_
  clear hst
  have HB5 := Lib.hid hb_
  have HF5 := Lib.hid (HF4.out.own1 (S := []) (B := 0) hf_ (by have := HBS.out; omega))
  clear hb_ hf_
  refine hK.out _ _ (HS.out _ HF5.out) (fun hHeld => ?_)
  clear hK K
  try simp only [Act.put, nrZ]
  refine wpAnyH_done (by kernel_rfl) ?_ _
  clear hHeld
  go_wp2
  have hl := load_var agg90 size90 (xs := stC (stE c wr rd) nil2 nil2) rfl HB5.out.at
  refine bodyPost_ret (v := .agg (stC (stE c wr rd) nil2 nil2).toArray) (by simp [results, Tryz.results107, as_addr, hl]) rfl ?_
  exact ⟨rfl, HF5.out⟩
theorem bldArr (x y : SS) : ∀ w, (Instr.build 96 #[(0, .agg (stC x nil2 nil2).toArray), (1, .agg (stC y nil2 nil2).toArray)]).run Tryz.prog w = .ok (.agg (stC x nil2 nil2 ++ stC y nil2 nil2).toArray) w := fun w => by kernel_rfl
def nilQ : Q4 := ⟨nil2, nil2, nil2, nil2⟩
theorem bldCs (x y : SS) (a0 a1 : Bool) : ∀ w, (Instr.build 99 #[(0, .agg (stC x nil2 nil2 ++ stC y nil2 nil2).toArray), (1, .agg #[.bool a0, .bool a1])]).run Tryz.prog w = .ok (.agg (cnC ⟨x, y, a0, a1⟩ nilQ).toArray) w := fun w => by kernel_rfl
theorem dupState_any {P : Nat → Prop} {d c : Nat} {wr0 rd0 wr1 rd1 : Int} {a0 a1 : Bool} (w : World) (h : DupT w P d c wr0 rd0 wr1 rd1 a0 a1) :
  Calls Tryz.prog 71 #[.pointer (some ⟨d, 0, none⟩)] w fun e w' => e = .returned (.agg (cnC ⟨stE c wr0 rd0, stE c wr1 rd1, a0, a1⟩ nilQ).toArray) ∧ Fr [] w w' := by
 obtain ⟨s0, s1, hs0, hs1, hst0, hst1⟩ := h.st
 obtain ⟨B, hB⟩ : ∃ B, w.heap.size = B := ⟨_, rfl⟩
 obtain ⟨w0, hw0⟩ : ∃ z, w.alloc (.cells #[.int .i64 0, .slice none 0 0, .bool false, .slice none 0 0, .int .i64 0, .int .i64 0, .int .i64 0, .int .i64 0, .slice none 0 0, .bool false, .slice none 0 0, .int .i64 0, .int .i64 0, .int .i64 0, .bool false, .bool false] 99) = z := ⟨_, rfl⟩
 have f0 : Fr [] w w0 := by rw [← hw0]; exact (Fr.refl [] w).alloc _
 have hb0 : Blk w0 B 99 zCn := by rw [← hw0, ← hB]; exact Blk.made w 99 zCn
 obtain ⟨w1, hw1⟩ : ∃ z, w0.drew = z := ⟨_, rfl⟩
 have f1 : Fr [] w0 w1 := by rw [← hw1]; exact (Fr.refl [] w0).drew
 have HB0 := Lib.hid (hb0.keep f1 (by simp))
 have HF1 := Lib.hid (f0.step f1)
 have HN := Lib.hid (dupCheck_any w0 0 (.inl rfl) (h.new f0))
 have HS := Lib.hid (show ∀ W, Fr [] w W → W.cell? ⟨d, 0, none⟩ = some (.pointer (some ⟨s0, 0, none⟩)) ∧ W.cell? ⟨d, 1, none⟩ = some (.pointer (some ⟨s1, 0, none⟩)) ∧ LiesAt W d 2 [.bool a0, .bool a1] from fun W f => ⟨f.keep hs0 (by simp), f.keep hs1 (by simp), fun j u hj => by
  match j with
  | 0 => cases hj; exact f.keep h.cl0 (by simp)
  | 1 => cases hj; exact f.keep h.cl1 (by simp)⟩)
 have HT0 := Lib.hid hst0
 have HT1 := Lib.hid hst1
 have HBS := Lib.hid hB
 have HW0 := Lib.hid hw0
 have HW1 := Lib.hid hw1
 clear f0 f1 hb0 hB hw0 hw1 h hs0 hs1 hst0 hst1
 go_enter Tryz.func71, Tryz.ntmps71
 go_upto_region 1 with fail
 rw [HW0.out]
 simp only [HBS.out]
 go_wp2_with fail
 refine HN.out.mono ?_
 rintro e w' ⟨rfl, rfl⟩
 go_upto_region 3 with fail
 refine wp_region_held_drew (S := fun W => W.cell? ⟨d, 0, none⟩ = some (.pointer (some ⟨s0, 0, none⟩)) ∧ W.cell? ⟨d, 1, none⟩ = some (.pointer (some ⟨s1, 0, none⟩)) ∧ LiesAt W d 2 [.bool a0, .bool a1]) (by kernel_rfl) (by rw [HW1.out]; exact HS.out _ HF1.out) (fun hHeld => ?_)
 rw [HW1.out] at hHeld ⊢
 refine tkZ 0 ?_
 refine tkZ 1 ?_
 refine tkZ 2 ?_
 refine tkZ 3 ?_
 refine tkZ 4 ?_
 refine tkZ 6 ?_
 refine tkZ 7 ?_
 refine tkZ 8 ?_
 refine tkZ 9 ?_
 refine tkZ 10 ?_
 refine tkZ 13 ?_
 refine tkZ 14 ?_
 refine tkZ 15 ?_
 refine tvZ 16 _ rfl (fun w hSw => ldX (load_all agg92 size92 (xs := [.bool a0, .bool a1]) rfl hSw.2.2)) ?_
 refine rdZ 5 (fun K hK => ?_)
 go_simp
 refine (strState_any _ (HT0.out.new HF1.out)).mono ?_
 rintro e w2 ⟨rfl, f2⟩
 have HF2 := Lib.hid (HF1.out.step f2)
 have HB1 := Lib.hid (HB0.out.keep f2 (by simp))
 clear f2
 refine hK.out _ _ (HS.out _ HF2.out) (fun hHeld => ?_)
 clear hK K
 try simp only [Act.put, nrZ]
 refine rdZ 11 (fun K hK => ?_)
 go_simp
 refine (strState_any _ (HT1.out.new HF2.out)).mono ?_
 rintro e w3 ⟨rfl, f3⟩
 have HF3 := Lib.hid (HF2.out.step f3)
 have HB2 := Lib.hid (HB1.out.keep f3 (by simp))
 clear f3
 refine hK.out _ _ (HS.out _ HF3.out) (fun hHeld => ?_)
 clear hK K
 try simp only [Act.put, nrZ]
 refine tvZ 12 (.agg (stC (stE c wr0 rd0) nil2 nil2 ++ stC (stE c wr1 rd1) nil2 nil2).toArray) rfl ?_ ?_
 ·intro w hSw
  try dsimp only at hSw
  exact exec_bld2 (V := .agg (stC (stE c wr0 rd0) nil2 nil2).toArray) (U := .agg (stC (stE c wr1 rd1) nil2 nil2).toArray) rfl rfl rfl (bldArr _ _ w)
 try simp only [Act.put, nrZ]
 refine tvZ 17 (.agg (cnC ⟨stE c wr0 rd0, stE c wr1 rd1, a0, a1⟩ nilQ).toArray) rfl ?_ ?_
 ·intro w hSw
  try dsimp only at hSw
  exact exec_bld2 (V := .agg (stC (stE c wr0 rd0) nil2 nil2 ++ stC (stE c wr1 rd1) nil2 nil2).toArray) (U := .agg #[.bool a0, .bool a1]) rfl rfl rfl (bldCs _ _ a0 a1 w)
 try simp only [Act.put, nrZ]
 refine rdZ 18 (fun K hK => ?_)
 obtain ⟨w5, hst, hb_, hf_⟩ := store_all (t := 99) (cnC ⟨stE c wr0 rd0, stE c wr1 rd1, a0, a1⟩ nilQ) size94 rfl (cnC_one _ _) HB2.out rfl
 split
 rotate_left
 ·rename_i hno
  exact absurd rfl hno
 refine stY hst ?_
 clear hst
 have HB5 := Lib.hid hb_
 have HF5 := Lib.hid (HF3.out.own1 (S := []) (B := 0) hf_ (by have := HBS.out; omega))
 clear hb_ hf_
 refine hK.out _ _ (HS.out _ HF5.out) (fun hHeld => ?_)
 clear hK K
 try simp only [Act.put, nrZ]
 refine wpAnyH_done (by kernel_rfl) ?_ _
 clear hHeld
 go_wp2
 have hl := load_var agg94 size94 (xs := cnC ⟨stE c wr0 rd0, stE c wr1 rd1, a0, a1⟩ nilQ) rfl HB5.out.at
 refine bodyPost_ret (v := .agg (cnC ⟨stE c wr0 rd0, stE c wr1 rd1, a0, a1⟩ nilQ).toArray) (by simp [results, Tryz.results71, as_addr, hl]) rfl ?_
 exact ⟨rfl, HF5.out⟩
end Go.Proofs.YtgbmenfmaphciaaGreat
namespace Go.Proofs.YtgbmenfmaphciaaGreat
set_option linter.unusedVariables false
set_option linter.unusedSimpArgs false
set_option linter.unusedSectionVars false
open Go.RowKit
open Go.Maps (Keyed)
set_option linter.unusedVariables false
set_option linter.unusedSimpArgs false
set_option maxRecDepth 100000
set_option maxHeartbeats 8000000
def emb (y : PN.PC) : PG := ⟨y.ref, ⟨stE y.cap (wrOf y.a0) (rdOf y.a1), stE y.cap (wrOf y.a1) (rdOf y.a0), y.a0, y.a1⟩⟩
theorem nilQ_own (w : World) (B : Nat) (y : PN.PC) : CnO w B (emb y).c nilQ := ⟨BsO.nil w B, BsO.nil w B, BsO.nil w B, BsO.nil w B⟩
theorem rel_keys {C : List PN.PC} {D : List PN.PC} (h : PN.RelC C D) : (D.map (fun y => (y.ref : Int))).Perm (C.map (fun y => (y.ref : Int))) ∧ (D.map (fun y => (y.ref : Int))).Pairwise (· < ·) :=
 ⟨h.1.map _, List.pairwise_map.2 (h.2.imp (fun h => by omega))⟩
theorem rel_keysL {C : List PN.PL} {D : List PN.PL} (h : PN.RelL C D) : (D.map (fun y => (y.ref : Int))).Perm (C.map (fun y => (y.ref : Int))) ∧ (D.map (fun y => (y.ref : Int))).Pairwise (· < ·) :=
 ⟨h.1.map _, List.pairwise_map.2 (h.2.imp (fun h => by omega))⟩
theorem exec_lookup {P : Program} {o : Oper} {a : Act} {w w' : World} {v : Value} {t : TypeId} {m x : Operand} {M X : Value} (ho : o.op = .lookup t m x false) (hm : a.eval m = M) (hx : a.eval x = X) (hrun : (Instr.lookup t M X false).run P w = .ok v w') : (execOp a.eval o).run P w = .ok (.value v) w' := by
 simp [execOp, ho, hm, hx, hrun]
theorem exec_bld3 {P : Program} {o : Oper} {a : Act} {w w' : World} {v : Value} {t : TypeId} {x y z : Operand} {V U T : Value} (ho : o.op = .build t #[(0, x), (1, y), (2, z)]) (hx : a.eval x = V) (hy : a.eval y = U) (hz : a.eval z = T) (hrun : (Instr.build t #[(0, V), (1, U), (2, T)]).run P w = .ok v w') : (execOp a.eval o).run P w = .ok (.value v) w' := by
 simp [execOp, ho, hx, hy, hz, hrun]
theorem bldLg3 (s : ByteArray) (p most : Int) (q : Sli) : ∀ w, (Instr.build 120 #[(0, .agg #[.string s, .int .i64 p]), (1, .int .i64 most), (2, slv q)]).run Tryz.prog w = .ok (.agg #[.string s, .int .i64 p, .int .i64 most, slv q]) w := fun w => by kernel_rfl
theorem bldLs3 (x : PN.PL) (q : Sli) : ∀ w, (Instr.build 122 #[(0, .int .i64 x.ref), (1, .agg #[.string x.s, .int .i64 x.p, .int .i64 x.most, slv q])]).run Tryz.prog w = .ok (.agg (lsC x q).toArray) w := fun w => by kernel_rfl
theorem size120 : ∀ w, (sizeOf 130).run Tryz.prog w = .ok 3 w := fun w => by kernel_rfl
theorem most_any (b q m t : Nat) (most : Int) (closed : Bool) (l : List (Nat × Int)) (g : Nat) (w : World) (h : BackIs w b q m t most closed l g) :
  Calls Tryz.prog 67 #[.pointer (some ⟨b, 0, none⟩)] w fun e w' => e = .returned (.int .i64 most) ∧ w = w' := by
 have HN := Lib.hid (backNone_any w h)
 have c1 := h.c1
 clear h
 go_enter Tryz.func67, Tryz.ntmps67
 go_wp2_with (go_at_call 90; refine HN.out.mono ?_; rintro e w' ⟨rfl, rfl⟩)
 go_ret
 exact ⟨rfl, rfl⟩
def ConnsOut (D : List PN.PC) (w : World) (e : Ending) (w' : World) : Prop := ∃ s : Sli, e = .returned (slv s) ∧ CRow w' (slv s) (D.map emb) ∧ Fr [] w w'
def LisOut (D : List PN.PL) (w : World) (e : Ending) (w' : World) : Prop := ∃ s : Sli, e = .returned (slv s) ∧ LRow w' (slv s) D ∧ Fr [] w w'
theorem RowO.next {w w' : World} {B : Nat} {v : Value} {D : List PN.PL} (h : RowO 122 5 (ElLO B) w B v D) (f : Fr [] w w') : RowO 122 5 (ElLO B) w' B v D := by
 obtain ⟨Xs, h1, h2⟩ := h
 exact ⟨Xs, h1.mono (fun X y ⟨q, e1, e2⟩ => ⟨q, e1, rowNew e2 f⟩), rowNew h2 f⟩
theorem netConns_w {own : Nat → Nat} {B : NB} {L : List LB} {C : List CB} {G : Nat} (D : List PN.PC) (w : World) (h : NetW w own B L C G) (hD : PN.RelC (C.map CB.pc) D) :
  Calls Tryz.prog 28 #[.pointer (some ⟨B.n, 0, none⟩)] w (ConnsOut D w) := by
 obtain ⟨n, hn⟩ : ∃ n, D.length = n := ⟨_, rfl⟩
 have hnC : n = C.length := by rw [← hn, hD.len]; simp
 have hn1 : n ≤ 128 := by have := h.nc; omega
 obtain ⟨hp, hs⟩ := rel_keys hD
 have hkey : (C.map CB.ent).map (·.1) = (C.map (fun y => (y.ref : Int))).map (Value.int .i64) := by
  rw [List.map_map, List.map_map]
  rfl
 have hcm : (C.map CB.pc).map (fun y => (y.ref : Int)) = C.map (fun y => (y.ref : Int)) := by
  rw [List.map_map]
  rfl
 rw [hcm] at hp
 have HN := Lib.hid (netNone_any w h.net)
 have HLS := Lib.hid (listC_any B.cm (C.map CB.ent) (D.map (fun y => (y.ref : Int))) w h.net.cs _ hkey hp hs (by rw [List.length_map]; omega))
 have HNET := Lib.hid h.net
 have HCS := Lib.hid h.cs
 have HMEM := Lib.hid (show ∀ y ∈ D, ∃ z ∈ C, y = z.pc from fun y hy => by
  obtain ⟨z, hz, rfl⟩ := List.mem_map.1 (hD.mem.1 hy)
  exact ⟨z, hz, rfl⟩)
 have HLEN := Lib.hid hn
 have c2 := h.net.c2
 clear h hD hp hs hkey hcm hnC hn
 go_enter Tryz.func28, Tryz.ntmps28
 go_wp2_with fail
 refine HN.out.mono ?_
 rintro e w' ⟨rfl, rfl⟩
 go_wp2_with fail
 refine HLS.out.mono ?_
 rintro e w1 ⟨⟨s1, s2, s3⟩, rfl, hso, f1⟩
 rw [List.length_map, HLEN.out] at hso
 obtain rfl : s2 = n := by
  rcases hso.2 with ⟨he, h0⟩ | ⟨g, cap, cur, he, _⟩
  ·simp only [slv, Value.slice.injEq] at he
   omega
  ·simp only [slv, Value.slice.injEq] at he
   exact he.2.1
 have HSO := Lib.hid hso
 have HF1 := Lib.hid f1
 have HE := Lib.hid f1.size
 obtain ⟨E0, hE0⟩ : ∃ z, w1.heap.size = z := ⟨_, rfl⟩
 have HE0 := Lib.hid hE0
 clear hso f1 c2 hE0
 simp only [slv]
 go_wp2_with fail
 go_loopw [14, 3] (fun i v wr => ∃ (wz : World) (q : Nat) (vo : Sli), wz = wr ∧ i = .int .i64 q ∧ v = .slice vo.1 vo.2.1 vo.2.2 ∧ q ≤ s2 ∧ COwn wr E0 (slv vo) ((D.take q).map emb) ∧ Fr [] w1 wr) (fun i _ _ => s2 - (intOf i).toNat)
 case atStart => exact ⟨_, 0, (none, 0, 0), rfl, rfl, rfl, by omega, ⟨[], Recs.nil, World.ownsRow_nil _ _ _ _⟩, Fr.refl _ _⟩
 case round =>
  obtain ⟨wr, q, vo, hwz, rfl, rfl, hq, ho, fr⟩ := hrel
  subst hwz
  have HO := Lib.hid ho
  have FR := Lib.hid fr
  clear ho fr
  by_cases hlt : q < s2
  ·skip
   have hlt' : (q : Int) < (s2 : Int) := by omega
   have hq0 : (0 : Int) ≤ (q : Int) := by omega
   have hy := List.getElem?_eq_getElem (l := D) (i := q) (by rw [HLEN.out]; exact hlt)
   obtain ⟨y, hye⟩ : ∃ y, D[q]'(by rw [HLEN.out]; exact hlt) = y := ⟨_, rfl⟩
   rw [hye] at hy
   have HYY := Lib.hid hy
   obtain ⟨z, hz, hyz⟩ := HMEM.out y (List.mem_of_getElem? hy)
   have HYZ := Lib.hid hyz
   have hdup := ((HCS.out z hz).dup.new HF1.out).new FR.out
   have HDUP := Lib.hid hdup
   have HTL := Lib.hid (show ((D.take q).map emb).length = q from by rw [List.length_map, List.length_take, HLEN.out]; omega)
   obtain ⟨gs, hgs, hcell⟩ : ∃ gs, s1 = some ⟨gs, 0, none⟩ ∧ wr.cell? ⟨gs, q, none⟩ = some (.int .i64 y.ref) := by
    rcases HSO.out.2 with ⟨he, h0⟩ | ⟨g, cap, cur, he, _⟩
    ·omega
    ·simp only [slv, Value.slice.injEq] at he
     refine ⟨g, he.1, FR.out.keep ?_ (by simp)⟩
     have := World.ownsRow.cells HSO.out (g := g) (by rw [he.1]; rfl) q (.int .i64 y.ref) (by simp [intsV, hy])
     rwa [Addr.add_lit, Nat.zero_add] at this
   subst hgs
   have hcm2 : wr.cell? ⟨B.n, 2, none⟩ = some (.map (some B.cm)) := FR.out.keep (HF1.out.keep HNET.out.c2 (by simp)) (by simp)
   have hlk := ((HNET.out.cs.keep HF1.out (by simp)).keep FR.out (by simp)).hit keyInt (t := 90) (e := 103) Tryz.underlying90 (x := .int .i64 y.ref) (v := .pointer (some ⟨z.d, 0, none⟩)) (List.mem_map.2 ⟨z, hz, by rw [hyz]; rfl⟩) false
   have HLK := Lib.hid hlk
   clear hy hye hyz hz hdup hlk
   go_upto_region 7 with fail
   clear hcell
   refine wp_region_lit ?_
   iterate 7 (refine wpList_plain rfl (fun K hK => ?_); go_simp; refine hK _ _ ?_; clear hK K)
   try simp only [Act.put, nrZ]
   refine wpList_val rfl (v := .pointer (some ⟨z.d, 0, none⟩)) (w' := wr) (exec_lookup (M := .map (some B.cm)) (X := .int .i64 y.ref) rfl rfl rfl HLK.out) ?_
   try simp only [Act.put, nrZ]
   refine wpList_plain rfl (fun K hK => ?_)
   go_simp
   refine (dupState_any _ HDUP.out).mono ?_
   rintro e w2 ⟨rfl, f2⟩
   refine hK _ _ ?_
   clear hK K
   try simp only [Act.put, nrZ]
   refine wpList_val rfl (v := .agg (pgC (emb y) nilQ).toArray) (w' := w2) (exec_bld2 (V := .int .i64 y.ref) (U := .agg (cnC (emb y).c nilQ).toArray) rfl rfl (by rw [HYZ.out]; rfl) (bldConn (emb y) nilQ w2)) ?_
   try simp only [Act.put, nrZ]
   obtain ⟨w3, hw3⟩ : ∃ z, w2.alloc (.cells (pgC (emb y) nilQ).toArray 138) = z := ⟨_, rfl⟩
   obtain ⟨E3, hE3⟩ : ∃ z, w2.heap.size = z := ⟨_, rfl⟩
   have hb3 : Blk w3 E3 138 (pgC (emb y) nilQ) := by rw [← hw3, ← hE3]; exact Blk.made w2 138 (pgC (emb y) nilQ)
   have f3 : Fr [] w2 w3 := by rw [← hw3]; exact (Fr.refl [] w2).alloc _
   refine wpList_val rfl (v := .slice (some ⟨E3, 0, none⟩) 1 1) (w' := w3) ?_ ?_
   ·refine exec_bsl (V := .agg (pgC (emb y) nilQ).toArray) rfl rfl ?_
    rw [bslConn, hw3, hE3]
   try simp only [Act.put, nrZ]
   have HR3 := Lib.hid (show RowV w3 (.slice (some ⟨E3, 0, none⟩) 1 1) 1 17 (pgC (emb y) nilQ) from ⟨rfl, .inr ⟨E3, 0, 1, rfl, hb3.lt, hb3.at⟩⟩)
   have HF3 := Lib.hid (f2.step f3)
   clear hw3 hE3 hb3 f2 f3
   obtain ⟨Xs, hrec, hown⟩ := HO.out.next HF3.out
   rw [HTL.out] at hown
   refine wpList_append_any elemConn rfl _ _ rfl E0 (v := slv vo) (n := q) (xs := Xs.flatten) rfl hown (X := .slice (some ⟨E3, 0, none⟩) 1 1) (m := 1) (news := pgC (emb y) nilQ) rfl HR3.out (pgC_one _ _) (by omega) (by decide) (by rw [← HE0.out]; exact (FR.out.step HF3.out).size) ?_
   intro vo' w4 ho4 f4
   try simp only [Act.put, nrZ]
   refine wpList_plain rfl (fun K hK => ?_); go_simp; refine hK _ _ ?_; clear hK K
   refine wpList_nil ?_
   try simp only [Act.put, nrZ]
   have HF4 := Lib.hid ((FR.out.step HF3.out).ownRow hown f4 (by rw [HE0.out]; exact Nat.le_refl _))
   have HC4 := Lib.hid (show COwn w4 E0 (slv vo') ((D.take (q + 1)).map emb) from by
    rw [take_get HYY.out, List.map_append]
    refine ⟨Xs ++ [pgC (emb y) nilQ], ((hrec.mono (fun X y ⟨t, e1, e2⟩ => (⟨t, e1, ⟨rowFar e2.b0 hown f4 (by decide), rowFar e2.r0 hown f4 (by decide), rowFar e2.b1 hown f4 (by decide), rowFar e2.r1 hown f4 (by decide)⟩⟩ : ElCO E0 w4 X y))).push rfl (pgC_one _ _) ⟨nilQ, rfl, nilQ_own _ _ _⟩), ?_⟩
    rw [List.length_append, HTL.out, List.map_cons, List.map_nil, List.length_singleton, List.flatten_append, List.flatten_singleton]
    exact ho4)
   clear hrec hown ho4 f4 HO HR3 HF3 HDUP HLK HYZ HYY hcm2
   simp only [slv]
   go_wp2
   go_roundw
   case rel => exact ⟨_, q + 1, vo', rfl, by go_num, rfl, by omega, HC4.out, HF4.out⟩
   case measure => simp [intOf]; omega
  ·skip
   obtain rfl : q = s2 := by omega
   have HDC := Lib.hid (show CRow wr (slv vo) (D.map emb) from by
    have := HO.out.row
    rwa [List.take_of_length_le (by rw [HLEN.out]; exact Nat.le_refl _)] at this)
   go_wp2
   go_ret
   exact ⟨vo, rfl, HDC.out, HF1.out.step FR.out⟩
theorem netListeners_w {own : Nat → Nat} {B : NB} {L : List LB} {C : List CB} {G : Nat} (D : List PN.PL) (w : World) (h : NetW w own B L C G) (hD : PN.RelL (L.map LB.pl) D) (hG : G < 4611686018427387904) :
  Calls Tryz.prog 26 #[.pointer (some ⟨B.n, 0, none⟩)] w (LisOut D w) := by
 obtain ⟨n, hn⟩ : ∃ n, D.length = n := ⟨_, rfl⟩
 have hnC : n = L.length := by rw [← hn, hD.len]; simp
 have hn1 : n ≤ 128 := by have := h.nl; omega
 obtain ⟨hp, hs⟩ := rel_keysL hD
 have hkey : (L.map LB.ent).map (·.1) = (L.map (fun y => (y.ref : Int))).map (Value.int .i64) := by
  rw [List.map_map, List.map_map]
  rfl
 have hcm : (L.map LB.pl).map (fun y => (y.ref : Int)) = L.map (fun y => (y.ref : Int)) := by
  rw [List.map_map]
  rfl
 rw [hcm] at hp
 have HN := Lib.hid (netNone_any w h.net)
 have HLS := Lib.hid (listQ_any B.lm (L.map LB.ent) (D.map (fun y => (y.ref : Int))) w h.net.ls _ hkey hp hs (by rw [List.length_map]; omega))
 have HNET := Lib.hid h.net
 have HCS := Lib.hid h.ls
 have HMEM := Lib.hid (show ∀ y ∈ D, ∃ z ∈ L, y = z.pl from fun y hy => by
  obtain ⟨z, hz, rfl⟩ := List.mem_map.1 (hD.mem.1 hy)
  exact ⟨z, hz, rfl⟩)
 have HLEN := Lib.hid hn
 have c2 := h.net.c1
 clear h hD hp hs hkey hcm hnC hn
 go_enter Tryz.func26, Tryz.ntmps26
 go_wp2_with fail
 refine HN.out.mono ?_
 rintro e w' ⟨rfl, rfl⟩
 go_wp2_with fail
 refine HLS.out.mono ?_
 rintro e w1 ⟨⟨s1, s2, s3⟩, rfl, hso, f1⟩
 rw [List.length_map, HLEN.out] at hso
 obtain rfl : s2 = n := by
  rcases hso.2 with ⟨he, h0⟩ | ⟨g, cap, cur, he, _⟩
  ·simp only [slv, Value.slice.injEq] at he
   omega
  ·simp only [slv, Value.slice.injEq] at he
   exact he.2.1
 have HSO := Lib.hid hso
 have HF1 := Lib.hid f1
 have HE := Lib.hid f1.size
 obtain ⟨E0, hE0⟩ : ∃ z, w1.heap.size = z := ⟨_, rfl⟩
 have HE0 := Lib.hid hE0
 clear hso f1 c2 hE0
 simp only [slv]
 go_wp2_with fail
 go_loopw [15, 3] (fun i v wr => ∃ (wz : World) (q : Nat) (vo : Sli), wz = wr ∧ i = .int .i64 q ∧ v = .slice vo.1 vo.2.1 vo.2.2 ∧ q ≤ s2 ∧ RowO 122 5 (ElLO E0) wr E0 (slv vo) (D.take q) ∧ Fr [] w1 wr) (fun i _ _ => s2 - (intOf i).toNat)
 case atStart => exact ⟨_, 0, (none, 0, 0), rfl, rfl, rfl, by omega, ⟨[], Recs.nil, World.ownsRow_nil _ _ _ _⟩, Fr.refl _ _⟩
 case round =>
  obtain ⟨wr, q, vo, hwz, rfl, rfl, hq, ho, fr⟩ := hrel
  subst hwz
  have HO := Lib.hid ho
  have FR := Lib.hid fr
  clear ho fr
  by_cases hlt : q < s2
  ·skip
   have hlt' : (q : Int) < (s2 : Int) := by omega
   have hq0 : (0 : Int) ≤ (q : Int) := by omega
   have hy := List.getElem?_eq_getElem (l := D) (i := q) (by rw [HLEN.out]; exact hlt)
   obtain ⟨y, hye⟩ : ∃ y, D[q]'(by rw [HLEN.out]; exact hlt) = y := ⟨_, rfl⟩
   rw [hye] at hy
   have HYY := Lib.hid hy
   obtain ⟨z, hz, hyz⟩ := HMEM.out y (List.mem_of_getElem? hy)
   have HYZ := Lib.hid hyz
   have hlw := ((HCS.out z hz).keep HF1.out (fun x hx => by cases hx)).keep FR.out (fun x hx => by cases hx)
   have HBK := Lib.hid hlw.back
   have HGZ := Lib.hid (show z.g < 4611686018427387904 ∧ z.l.length ≤ 100000 from ⟨by have := hlw.g; omega, by have := hlw.len; have := hlw.most; omega⟩)
   have HTL := Lib.hid (show (D.take q).length = q from by rw [List.length_take, HLEN.out]; omega)
   obtain ⟨gs, hgs, hcell⟩ : ∃ gs, s1 = some ⟨gs, 0, none⟩ ∧ wr.cell? ⟨gs, q, none⟩ = some (.int .i64 y.ref) := by
    rcases HSO.out.2 with ⟨he, h0⟩ | ⟨g, cap, cur, he, _⟩
    ·omega
    ·simp only [slv, Value.slice.injEq] at he
     refine ⟨g, he.1, FR.out.keep ?_ (by simp)⟩
     have := World.ownsRow.cells HSO.out (g := g) (by rw [he.1]; rfl) q (.int .i64 y.ref) (by simp [intsV, hy])
     rwa [Addr.add_lit, Nat.zero_add] at this
   subst hgs
   have hcm2 : wr.cell? ⟨B.n, 1, none⟩ = some (.map (some B.lm)) := FR.out.keep (HF1.out.keep HNET.out.c1 (by simp)) (by simp)
   have hlk := ((HNET.out.ls.keep HF1.out (by simp)).keep FR.out (by simp)).hit keyInt (t := 88) (e := 130) Tryz.underlying88 (x := .int .i64 y.ref) (v := .agg #[.pointer (some ⟨z.b, 0, none⟩), .string z.s, .int .i64 z.p]) (List.mem_map.2 ⟨z, hz, by rw [hyz]; rfl⟩) false
   rw [if_neg (by decide)] at hlk
   have HLK := Lib.hid hlk
   clear hy hye hyz hz hlw hlk
   go_upto_region 7 with fail
   clear hcell
   refine wp_region_lit ?_
   iterate 5 (refine wpList_plain rfl (fun K hK => ?_); go_simp; refine hK _ _ ?_; clear hK K)
   try simp only [Act.put, nrZ]
   refine wpList_val rfl (v := .agg ([.pointer (some ⟨z.b, 0, none⟩), .string z.s, .int .i64 z.p]).toArray) (w' := wr) (exec_lookup (M := .map (some B.lm)) (X := .int .i64 y.ref) rfl rfl rfl HLK.out) ?_
   try simp only [Act.put, nrZ]
   refine wpList_plain rfl (fun K hK => ?_); go_simp; refine hK _ _ ?_; clear hK K
   try simp only [Act.put, nrZ]
   obtain ⟨E2, hE_⟩ : ∃ E, wr.heap.size = E := ⟨_, rfl⟩
   obtain ⟨wx, hw_⟩ : ∃ z, wr.alloc (.cells #[.pointer none, .string ⟨#[]⟩, .int .i64 0] 130) = z := ⟨_, rfl⟩
   have hbx : Blk wx E2 130 [.pointer none, .string ⟨#[]⟩, .int .i64 0] := by rw [← hw_, ← hE_]; exact Blk.made wr 130 _
   have fx : Fr [] wr wx := by rw [← hw_]; exact (Fr.refl [] wr).alloc _
   rw [hw_]
   simp only [hE_]
   have HE2 := Lib.hid (show E0 ≤ E2 from by rw [← hE_, ← HE0.out]; exact FR.out.size)
   have HX := Lib.hid hbx
   have HFX := Lib.hid fx
   have HEE := Lib.hid hE_
   clear fx hbx hw_ hE_
   obtain ⟨w2, hst, hb_, hf_⟩ := store_all (t := 130) ([.pointer (some ⟨z.b, 0, none⟩), .string z.s, .int .i64 z.p]) size120 rfl (by intro u hu; simp only [List.mem_cons, List.not_mem_nil, or_false] at hu; rcases hu with rfl | rfl | rfl <;> rfl) HX.out rfl
   refine stZ hst ?_
   clear hst
   refine wpList_nil ?_
   try simp only [Act.put, nrZ]
   have HX2 := Lib.hid hb_
   have HF2 := Lib.hid (HFX.out.own1 (S := []) (B := 0) hf_ (by rw [HEE.out]; exact Nat.le_refl _))
   clear hb_ hf_ HX HFX HEE hcm2 HLK
   obtain ⟨w3, hw3⟩ : ∃ z, w2.drew = z := ⟨_, rfl⟩
   have f3 : Fr [] w2 w3 := by rw [← hw3]; exact (Fr.refl [] w2).drew
   have HX3 := Lib.hid (HX2.out.keep f3 (by simp))
   have HF3 := Lib.hid (HF2.out.step f3)
   have HW3 := Lib.hid hw3
   clear f3 hw3 HX2 HF2
   go_upto_region 8 with fail
   refine wp_region_held_drew (S := fun W => W.cell? ⟨E2, 0, none⟩ = some (.pointer (some ⟨z.b, 0, none⟩)) ∧ LiesAt W E2 1 [.string z.s, .int .i64 z.p]) (by kernel_rfl) (by rw [HW3.out]; exact ⟨HX3.out.at 0 _ rfl, HX3.out.at.part (k := 1) (n := 2) rfl⟩) (fun hHeld => ?_)
   rw [HW3.out] at hHeld ⊢
   refine tkZ 0 ?_
   refine tkZ 1 ?_
   refine tkZ 2 ?_
   refine tvZ 3 _ rfl (fun w hSw => ldX (load_all agg28 size28 (xs := [.string z.s, .int .i64 z.p]) rfl hSw.2)) ?_
   refine tkZ 4 ?_
   refine tkZ 5 ?_
   refine tkZ 7 ?_
   refine tkZ 8 ?_
   refine rdZ 6 (fun K hK => ?_)
   go_simp
   refine (most_any _ _ _ _ _ _ _ _ _ (HBK.out.keep HF3.out (by simp) (by simp) (by simp) (by simp))).mono ?_
   rintro e w' ⟨rfl, rfl⟩
   refine hK.out _ _ (hHeld) (fun hHeld => ?_)
   clear hK K
   try simp only [Act.put, nrZ]
   refine rdZ 9 (fun K hK => ?_)
   go_simp
   refine (waiting_any _ _ _ _ _ _ _ _ HGZ.out.1 _ (HBK.out.keep HF3.out (by simp) (by simp) (by simp) (by simp)) HGZ.out.2).mono ?_
   rintro e w4 ⟨v, rfl, how, f4⟩
   obtain ⟨sq, rfl, _⟩ := (RowV.of_own how).sli
   have hsz : E0 ≤ w3.heap.size := by rw [← HE0.out]; exact (FR.out.step HF3.out).size
   have HQ4 := Lib.hid (show w4.ownsRow E0 3 1 (slv sq) z.pl.l.length (intsV z.pl.l) from by
    have := rowBase how hsz
    have e1 : z.pl.l.length = z.l.length := by simp [LB.pl]
    have e2 : intsV z.pl.l = z.l.map connV64 := by simp [intsV, LB.pl, connV64, Function.comp_def]
    rw [e1, e2]
    exact this)
   have HX4 := Lib.hid (HX3.out.keep f4 (by simp))
   have HF4 := Lib.hid (HF3.out.step f4)
   clear how f4 hsz
   refine hK.out _ _ (⟨HX4.out.at 0 _ rfl, HX4.out.at.part (k := 1) (n := 2) rfl⟩) (fun hHeld => ?_)
   clear hK K
   try simp only [Act.put, nrZ]
   refine tvZ 10 (.agg #[.string z.s, .int .i64 z.p, .int .i64 z.most, slv sq]) rfl ?_ ?_
   ·intro w hSw
    try dsimp only at hSw
    exact exec_bld3 (V := .agg #[.string z.s, .int .i64 z.p]) (U := .int .i64 z.most) (T := slv sq) rfl rfl rfl rfl (bldLg3 z.s z.p z.most sq w)
   try simp only [Act.put, nrZ]
   refine tvZ 11 (.agg (lsC z.pl sq).toArray) rfl ?_ ?_
   ·intro w hSw
    try dsimp only at hSw
    exact exec_bld2 (V := .int .i64 z.pl.ref) (U := .agg #[.string z.s, .int .i64 z.p, .int .i64 z.most, slv sq]) rfl (by rw [HYZ.out]; rfl) rfl (bldLs3 z.pl sq w)
   try simp only [Act.put, nrZ]
   refine rdZ 12 (fun K hK => ?_)
   obtain ⟨w5, hw5⟩ : ∃ zz, w4.alloc (.cells (lsC z.pl sq).toArray 122) = zz := ⟨_, rfl⟩
   obtain ⟨E5, hE5⟩ : ∃ z, w4.heap.size = z := ⟨_, rfl⟩
   have hb5 : Blk w5 E5 122 (lsC z.pl sq) := by rw [← hw5, ← hE5]; exact Blk.made w4 122 (lsC z.pl sq)
   have f5 : Fr [] w4 w5 := by rw [← hw5]; exact (Fr.refl [] w4).alloc _
   split
   rotate_left
   ·rename_i hno
    exact absurd rfl hno
   refine wp_vl (v := .slice (some ⟨E5, 0, none⟩) 1 1) (w' := w5) ?_ ?_
   ·refine exec_bsl (V := .agg (lsC z.pl sq).toArray) rfl rfl ?_
    rw [bslLis, hw5, hE5]
   have HR5 := Lib.hid (show RowV w5 (.slice (some ⟨E5, 0, none⟩) 1 1) 1 5 (lsC z.pl sq) from ⟨rfl, .inr ⟨E5, 0, 1, rfl, hb5.lt, hb5.at⟩⟩)
   have HX5 := Lib.hid (HX4.out.keep f5 (by simp))
   have HF5 := Lib.hid (HF4.out.step f5)
   have HQ5 := Lib.hid (rowNew HQ4.out f5)
   clear hw5 hE5 hb5 f5
   refine hK.out _ _ (⟨HX5.out.at 0 _ rfl, HX5.out.at.part (k := 1) (n := 2) rfl⟩) (fun hHeld => ?_)
   clear hK K
   try simp only [Act.put, nrZ]
   refine rdZ 13 (fun K hK => ?_)
   split
   rotate_left
   ·rename_i hno
    exact absurd rfl hno
   obtain ⟨Xs, hrec, hown⟩ := RowO.next HO.out HF5.out
   rw [HTL.out] at hown
   refine wp_append_any elemLis _ _ rfl E0 (v := slv vo) (n := q) (xs := Xs.flatten) rfl hown (X := .slice (some ⟨E5, 0, none⟩) 1 1) (m := 1) (news := lsC z.pl sq) rfl HR5.out (lsC_one _ _) (by omega) (by decide) (by rw [← HE0.out]; exact (FR.out.step HF5.out).size) ?_
   intro vo' w6 ho6 f6
   have HX6 := Lib.hid (HX5.out.farRow hown f6 (by decide))
   have HF6 := Lib.hid ((FR.out.step HF5.out).ownRow hown f6 (by rw [HE0.out]; exact Nat.le_refl _))
   have HC6 := Lib.hid (show RowO 122 5 (ElLO E0) w6 E0 (slv vo') (D.take (q + 1)) from by
    rw [take_get HYY.out]
    refine ⟨Xs ++ [lsC z.pl sq], ((hrec.mono (fun X y ⟨t, e1, e2⟩ => (⟨t, e1, rowFar e2 hown f6 (by decide)⟩ : ElLO E0 w6 X y))).push rfl (lsC_one _ _) ⟨sq, by rw [HYZ.out], by rw [HYZ.out]; exact rowFar HQ5.out hown f6 (by decide)⟩), ?_⟩
    rw [List.length_append, HTL.out, List.length_singleton, List.flatten_append, List.flatten_singleton]
    exact ho6)
   clear hrec hown ho6 f6
   refine hK.out _ _ (⟨HX6.out.at 0 _ rfl, HX6.out.at.part (k := 1) (n := 2) rfl⟩) (fun hHeld => ?_)
   clear hK K
   try simp only [Act.put, nrZ]
   refine tkZ 14 ?_
   refine wpAnyH_done (by kernel_rfl) ?_ _
   clear hHeld HX3 HX4 HX5 HX6 HF3 HF4 HF5 HQ4 HQ5 HR5 HO HBK HGZ HYY HYZ HW3
   simp only [slv]
   go_wp2
   go_roundw
   case rel => exact ⟨_, q + 1, vo', rfl, by go_num, rfl, by omega, HC6.out, HF6.out⟩
   case measure => simp [intOf]; omega
  ·skip
   obtain rfl : q = s2 := by omega
   have HDC := Lib.hid (show LRow wr (slv vo) D from by
    have := RowO.row HO.out
    rwa [List.take_of_length_le (by rw [HLEN.out]; exact Nat.le_refl _)] at this)
   go_wp2
   go_ret
   exact ⟨vo, rfl, HDC.out, HF1.out.step FR.out⟩
theorem conns_l {K : Nat → Prop} {B : NB} {N : PN.Net} {G : Nat} {w : World} (D : List PN.PC) (h : Live K B N G w) (hD : PN.RelC N.C D) :
  Calls Tryz.prog 28 #[.pointer (some ⟨B.n, 0, none⟩)] w (ConnsOut D w) := by
 obtain ⟨own, L, C, h1, rfl, _⟩ := h
 exact netConns_w D w h1 hD
theorem listeners_l {K : Nat → Prop} {B : NB} {N : PN.Net} {G : Nat} {w : World} (D : List PN.PL) (h : Live K B N G w) (hD : PN.RelL N.L D) (hG : G ≤ 1000000) :
  Calls Tryz.prog 26 #[.pointer (some ⟨B.n, 0, none⟩)] w (LisOut D w) := by
 obtain ⟨own, L, C, h1, rfl, _⟩ := h
 exact netListeners_w D w h1 hD (by omega)
end Go.Proofs.YtgbmenfmaphciaaGreat
namespace Go.Proofs.YtgbmenfmaphciaaGreat
set_option linter.unusedVariables false
set_option linter.unusedSimpArgs false
set_option linter.unusedSectionVars false
open Go.RowKit
set_option linter.unusedVariables false
set_option linter.unusedSimpArgs false
set_option maxRecDepth 100000
set_option maxHeartbeats 8000000
theorem Bs.none {w w' : World} {s : Sli} {l : List UInt8} (h : Bs w s l) (hl : l = []) : Bs w' s l := by
 subst hl
 obtain ⟨a, c, he⟩ := RowV.val h
 exact ⟨by simp [bsV], .inl ⟨rfl, a, c, he⟩⟩
theorem emb_any {w w' : World} {y : PN.PC} {q : Q4} (h : CnB w (emb y).c q) : CnB w' (emb y).c q := ⟨h.b0.none rfl, h.r0.none rfl, h.b1.none rfl, h.r1.none rfl⟩
theorem emb_fit (y : PN.PC) : (emb y).c.fit := ⟨Nat.zero_le _, Nat.zero_le _⟩
def Stay (K : Nat → Prop) (w : World) (sL sC : Sli) (R : PN.Net) : Prop := ∀ w', FrK K w w' → LRow w' (slv sL) R.L ∧ CRow w' (slv sC) (R.C.map emb)
section
variable {K K' : Nat → Prop} {w w' : World} {sL sC : Sli} {R : PN.Net}
theorem Stay.now (h : Stay K w sL sC R) : LRow w (slv sL) R.L ∧ CRow w (slv sC) (R.C.map emb) := h w FrK.refl
theorem Stay.step (h : Stay K w sL sC R) (f : FrK K w w') : Stay K w' sL sC R := fun w'' f' => h w'' (f.trans f')
theorem Stay.grow (h : Stay K w sL sC R) (hk : ∀ z, z < w.heap.size → K z → K' z) : Stay K' w sL sC R := fun w'' f' => h w'' (f'.mono hk)
theorem stay_new {B : Nat} (h1 : RowO 122 5 (ElLO B) w B (slv sL) R.L) (h2 : CRd w B (slv sC) (R.C.map emb)) (hk : ∀ z, B ≤ z → z < w.heap.size → K z) : Stay K w sL sC R := fun w' f => by
 obtain ⟨S, fS, hS⟩ := f.list
 have hn : ∀ {n sz : Nat} {e : TypeId} {v : Value} {xs : List Value}, w.ownsRow B e sz v n xs → ∀ g, v.ownBlock = some g → g ∉ S := fun h g hg => hS g (hk g (h.lt g hg).1 (h.lt g hg).2)
 refine ⟨?_, ?_⟩
 ·obtain ⟨Xs, r1, r2⟩ := h1
  exact ⟨Xs, r1.mono (fun X y ⟨q, e1, e2⟩ => ⟨q, e1, RowV.of_own (rowFr' e2 fS (hn e2))⟩), RowV.of_own (rowFr' r2 fS (hn r2))⟩
 ·obtain ⟨⟨Xs, r1, r2⟩, hb⟩ := h2
  have hel : Recs 17 (ElC w') Xs (R.C.map emb) := ⟨r1.len, r1.sz, r1.one, fun i X y hX hy => by
   obtain ⟨q, e1, e2⟩ := r1.el i X y hX hy
   rw [List.getElem?_map] at hy
   obtain ⟨y0, hy0, rfl⟩ := Option.map_eq_some_iff.1 hy
   exact ⟨q, e1, emb_any e2⟩⟩
  refine ⟨Xs, hel, ?_⟩
  refine ⟨r2.1, ?_⟩
  rcases r2.2 with h0 | ⟨g, off, c, he, hg, hc⟩
  ·exact .inl h0
  ·have hgb : (slv sC).ownBlock = some g := by rw [he]; rfl
   have hgS := hS g (hk g (hb g hgb) hg)
   exact .inr ⟨g, off, c, he, Nat.lt_of_lt_of_le hg fS.size, fun j u hj => fS.keep (hc j u hj) hgS⟩
end
/-! plain -/
theorem frG_emb (C : List PN.PC) : frG (C.map emb) = PN.free (C.map (·.ref)) := by
 unfold frG
 rw [List.map_map]
 rfl
theorem insG_emb (C : List PN.PC) (c : Nat) : insG (C.map emb) c = (PN.newC C c).map emb := by
 unfold insG PN.newC
 rw [frG_emb, List.map_append, List.map_cons, List.map_take, List.map_drop]
 rfl
theorem pick_map {α β : Type} (f : α → β) (p : β → Bool) : ∀ (l : List α) (k : Nat), PN.pick p (l.map f) k = (PN.pick (fun x => p (f x)) l k).map (fun a => (a.1, f a.2))
 | [], _ => rfl
 | x :: r, k => by
  unfold PN.pick
  rw [List.map_cons]
  simp only
  split
  ·rfl
  ·exact pick_map f p r (k + 1)
theorem pick_emb (C : List PN.PC) (k : Int) : PN.pick (refG k) (C.map emb) 0 = (PN.pick (PN.refC k) C 0).map (fun a => (a.1, emb a.2)) := pick_map emb (refG k) C 0
theorem emb_shut0 (y : PN.PC) (h : y.a0 = false) : ((emb y).c.close false).1 = (emb (PN.shutC y false)).c := by
 obtain ⟨r, c, a0, a1⟩ := y
 simp only at h
 subst h
 cases a1 <;> rfl
theorem emb_shut1 (y : PN.PC) (h : y.a1 = false) : ((emb y).c.close true).1 = (emb (PN.shutC y true)).c := by
 obtain ⟨r, c, a0, a1⟩ := y
 simp only at h
 subst h
 cases a0 <;> rfl
theorem set_emb (C : List PN.PC) (i : Nat) (y : PN.PC) : (C.set i y).map emb = (C.map emb).set i (emb y) := List.map_set ..
theorem cut_emb (C : List PN.PC) (i : Nat) : (C.take i ++ C.drop (i + 1)).map emb = (C.map emb).take i ++ (C.map emb).drop (i + 1) := by
 rw [List.map_append, List.map_take, List.map_drop]
theorem sorted_emb {C : List PN.PC} (h : C.Pairwise (fun a b => a.ref < b.ref)) : (C.map emb).Pairwise (fun a b => a.ref < b.ref) := List.pairwise_map.2 h
structure RFit (R : PN.Net) : Prop where
 nl : R.L.length ≤ 128
 nc : R.C.length ≤ 128
 q : ∀ x ∈ R.L, x.l.length ≤ 100000
 so : R.C.Pairwise (fun a b => a.ref < b.ref)
theorem RFit.fit {R : PN.Net} (h : RFit R) : NetFit R.L (R.C.map emb) :=
 ⟨by have := h.nl; omega, by rw [List.length_map]; have := h.nc; omega, h.q, fun y hy => by
  obtain ⟨z, _, rfl⟩ := List.mem_map.1 hy
  exact emb_fit z⟩
def RefOut (W : World) (sL sC : Sli) (R R' : PN.Net) (rs : List Value) (e : Ending) (w' : World) : Prop :=
 ∃ sL' sC' : Sli, e = .returned (.tuple (.agg #[slv sL', slv sC'] :: rs).toArray) ∧ Fr [] W w' ∧
  ((sL' = sL ∧ sC' = sC ∧ R' = R) ∨ (RowO 122 5 (ElLO W.heap.size) w' W.heap.size (slv sL') R'.L ∧ CRd w' W.heap.size (slv sC') (R'.C.map emb)))
section
variable {W : World} {sL sC : Sli} {R : PN.Net} (hL : LRow W (slv sL) R.L) (hC : CRow W (slv sC) (R.C.map emb)) (hf : RFit R)
include hL hC hf
theorem refConnect (s : ByteArray) (p : Int) (c : Nat) (hs : s.size ≤ 1000000) (hv : addrB s.data.toList p = true) (hc : c ≤ 4096) (hm : R.C.length < 128) (i : Nat) (y : PN.PL) (hi : PN.pick (PN.atP s p) R.L 0 = some (i, y)) (hq : (y.l.length : Int) ≠ y.most) :
  Calls Tryz.prog 41 #[.agg #[slv sL, slv sC], .agg #[.string s, .int .i64 p], .int .i64 c] W (RefOut W sL sC R (PN.rConnect R s p c).1 [.int .i64 (PN.rConnect R s p c).2.1, .int .i64 (PN.rConnect R s p c).2.2]) := by
 unfold PN.rConnect
 rw [hi]
 simp only
 rw [if_neg hq, if_neg (by omega)]
 refine (nConnect_ok (slv sL) (slv sC) R.L (R.C.map emb) s p c W hL hC hs hv ⟨by omega, by omega⟩ hf.fit (by rw [List.length_map]; omega) (sorted_emb hf.so) i y hi hq).mono ?_
 rw [insG_emb, frG_emb]
 rintro e w' ⟨sL', sC', h1, h2, h3, h4⟩
 exact ⟨sL', sC', h1, h4, .inr ⟨h2, h3⟩⟩
theorem refHang (k en : Int) (he : en = 0 ∨ en = 1) :
  Calls Tryz.prog 21 #[.agg #[slv sL, slv sC], .int .i64 k, .int .i64 en] W (RefOut W sL sC R (PN.rHang R k en).1 [.int .i64 (PN.rHang R k en).2]) := by
 have same : ∀ (x : Int) e w', (e = .returned (.tuple #[.agg #[slv sL, slv sC], .int .i64 x]) ∧ Fr [] W w') → RefOut W sL sC R R [.int .i64 x] e w' := fun x e w' ⟨h1, f⟩ => ⟨sL, sC, h1, f, .inl ⟨rfl, rfl, rfl⟩⟩
 have rd : ∀ (C' : List PN.PC) e w', NetRd W R.L (C'.map emb) [.int .i64 0] e w' → RefOut W sL sC R ⟨R.L, C'⟩ [.int .i64 0] e w' := fun C' e w' ⟨sL', sC', h1, h2, h3, h4⟩ => ⟨sL', sC', h1, h4, .inr ⟨h2, h3⟩⟩
 unfold PN.rHang
 rw [if_neg (by omega)]
 have hpe := pick_emb R.C k
 cases hp : PN.pick (PN.refC k) R.C 0 with
 | none =>
  rw [hp] at hpe
  exact (nHang_none (slv sL) (slv sC) R.L (R.C.map emb) k en W hL hC hf.fit he hpe).mono (same 9)
 | some a =>
  obtain ⟨i, y⟩ := a
  rw [hp] at hpe
  have hpe' : PN.pick (refG k) (R.C.map emb) 0 = some (i, emb y) := hpe
  simp only
  by_cases hw : en = 1 ∧ k ∈ PN.waitsOf R.L
  ·rw [if_pos hw]
   obtain ⟨rfl, hw⟩ := hw
   exact (nHang_waits (slv sL) (slv sC) R.L (R.C.map emb) k 1 W hL hC hf.fit rfl i (emb y) hpe' hw).mono (same 8)
  ·rw [if_neg hw]
   rcases he with rfl | rfl
   ·by_cases ha : y.a0 = true
    ·rw [if_pos (by simpa using ha)]
     exact (nHang_closed_0 (slv sL) (slv sC) R.L (R.C.map emb) k W hL hC hf.fit i (emb y) hpe' ha).mono (same 14)
    ·rw [if_neg (by simpa using ha)]
     have ha' : y.a0 = false := by simpa using ha
     have hsh := emb_shut0 y ha'
     unfold PN.shutAt
     rw [show decide ((0 : Int) = 1) = false from rfl]
     by_cases hb : ((PN.shutC y false).a0 && (PN.shutC y false).a1) = true
     ·rw [if_pos hb]
      refine (nHang_ok_0_1 (slv sL) (slv sC) R.L (R.C.map emb) k W hL hC hf.fit i (emb y) hpe' ha' (by rw [hsh]; exact hb)).mono ?_
      rw [← cut_emb]
      exact rd _
     ·rw [if_neg hb]
      refine (nHang_ok_0_0 (slv sL) (slv sC) R.L (R.C.map emb) k W hL hC hf.fit i (emb y) hpe' ha' (by rw [hsh]; exact (Bool.not_eq_true _).mp hb)).mono ?_
      rw [hsh, show (⟨(emb y).ref, (emb (PN.shutC y false)).c⟩ : PG) = emb (PN.shutC y false) from rfl, ← set_emb]
      exact rd _
   ·have hw' : k ∉ PN.waitsOf R.L := fun h => hw ⟨rfl, h⟩
    by_cases ha : y.a1 = true
    ·rw [if_pos (by simpa using ha)]
     exact (nHang_closed_1 (slv sL) (slv sC) R.L (R.C.map emb) k W hL hC hf.fit i (emb y) hpe' hw' ha).mono (same 14)
    ·rw [if_neg (by simpa using ha)]
     have ha' : y.a1 = false := by simpa using ha
     have hsh := emb_shut1 y ha'
     unfold PN.shutAt
     rw [show decide ((1 : Int) = 1) = true from rfl]
     by_cases hb : ((PN.shutC y true).a0 && (PN.shutC y true).a1) = true
     ·rw [if_pos hb]
      refine (nHang_ok_1_1 (slv sL) (slv sC) R.L (R.C.map emb) k W hL hC hf.fit i (emb y) hpe' hw' ha' (by rw [hsh]; exact hb)).mono ?_
      rw [← cut_emb]
      exact rd _
     ·rw [if_neg hb]
      refine (nHang_ok_1_0 (slv sL) (slv sC) R.L (R.C.map emb) k W hL hC hf.fit i (emb y) hpe' hw' ha' (by rw [hsh]; exact (Bool.not_eq_true _).mp hb)).mono ?_
      rw [hsh, show (⟨(emb y).ref, (emb (PN.shutC y true)).c⟩ : PG) = emb (PN.shutC y true) from rfl, ← set_emb]
      exact rd _
end
/-! the law's first rounds -/
def aS : ByteArray := ⟨#[97]⟩
structure Full (i : Nat) (R : PN.Net) : Prop where
 ls : ∃ l, R.L = [⟨0, aS, 1, 128, l⟩] ∧ l.length = i / 2
 cs : R.C.map (·.ref) = List.range i
theorem free_range (i : Nat) : PN.free (List.range i) = i := PN.free_uniq (by simp) (fun j hj => by simpa using hj)
theorem Full.len {i : Nat} {R : PN.Net} (h : Full i R) : R.C.length = i := by
 have := congrArg List.length h.cs
 simpa using this
theorem newC_refs {i : Nat} {C : List PN.PC} (h : C.map (·.ref) = List.range i) (c : Nat) : (PN.newC C c).map (·.ref) = List.range (i + 1) := by
 have hl : C.length = i := by
  have := congrArg List.length h
  simpa using this
 unfold PN.newC
 rw [h, free_range, List.take_of_length_le (by omega), List.drop_of_length_le (by omega), List.map_append, h, List.range_succ]
 rfl
theorem Full.pair {i : Nat} {R : PN.Net} (h : Full i R) (hi : i < 128) (he : i % 2 = 0) (c : Nat) : Full (i + 1) (PN.rPair R c).1 ∧ (PN.rPair R c).2 = ((i : Int), 0) := by
 unfold PN.rPair
 rw [if_neg (by rw [h.len]; omega)]
 obtain ⟨l, h1, h2⟩ := h.ls
 refine ⟨⟨⟨l, h1, by omega⟩, newC_refs h.cs c⟩, ?_⟩
 rw [h.cs, free_range]
theorem Full.pick {i : Nat} {R : PN.Net} (h : Full i R) : ∃ l, PN.pick (PN.atP aS 1) R.L 0 = some (0, ⟨0, aS, 1, 128, l⟩) ∧ l.length = i / 2 := by
 obtain ⟨l, h1, h2⟩ := h.ls
 rw [h1]
 exact ⟨l, by simp [PN.pick, PN.atP], h2⟩
theorem Full.connect {i : Nat} {R : PN.Net} (h : Full i R) (hi : i < 128) (he : i % 2 = 1) (c : Nat) : Full (i + 1) (PN.rConnect R aS 1 c).1 ∧ (PN.rConnect R aS 1 c).2 = ((i : Int), 0) := by
 obtain ⟨l, h1, h2⟩ := h.pick
 obtain ⟨l', h3, h4⟩ := h.ls
 unfold PN.rConnect
 rw [h1]
 simp only
 rw [if_neg (by omega), if_neg (by rw [h.len]; omega)]
 refine ⟨⟨⟨l ++ [(PN.free (R.C.map (·.ref)) : Int)], by rw [h3]; rfl, by rw [List.length_append, List.length_singleton]; omega⟩, newC_refs h.cs c⟩, ?_⟩
 rw [h.cs, free_range]
theorem fit_shut {R : PN.Net} (h : RFit R) {i : Nat} {y : PN.PC} (hy : R.C[i]? = some y) (e : Bool) : RFit { R with C := PN.shutAt R.C i y e } := by
 have hi := (List.getElem?_eq_some_iff.1 hy).1
 unfold PN.shutAt
 by_cases hb : ((PN.shutC y e).a0 && (PN.shutC y e).a1) = true
 ·rw [if_pos hb]
  refine ⟨h.nl, ?_, h.q, h.so.sublist (PN.cut_sub i)⟩
  have := h.nc
  simp only [List.length_append, List.length_take, List.length_drop]
  omega
 ·rw [if_neg hb]
  refine ⟨h.nl, by have := h.nc; simpa using this, h.q, ?_⟩
  have hr : (R.C.set i (PN.shutC y e)).map PN.PC.ref = R.C.map PN.PC.ref := by
   apply List.ext_getElem?
   intro j
   rw [List.getElem?_map, List.getElem?_map]
   by_cases hj : i = j
   ·subst hj
    rw [hy, List.getElem?_set_self hi]
    simp [PN.shut_ref]
   ·rw [List.getElem?_set_ne hj]
  have h1 : (R.C.map PN.PC.ref).Pairwise (· < ·) := List.pairwise_map.2 h.so
  rw [← hr] at h1
  exact List.pairwise_map.1 h1
theorem fit_hang {R : PN.Net} (h : RFit R) (k en : Int) : RFit (PN.rHang R k en).1 := by
 unfold PN.rHang
 by_cases h0 : en ≠ 0 ∧ en ≠ 1
 ·rw [if_pos h0]
  exact h
 ·rw [if_neg h0]
  cases hp : PN.pick (PN.refC k) R.C 0 with
  | none => exact h
  | some a =>
   obtain ⟨i, y⟩ := a
   simp only
   by_cases h1 : en = 1 ∧ k ∈ PN.waitsOf R.L
   ·rw [if_pos h1]
    exact h
   ·rw [if_neg h1]
    by_cases h2 : (if en = 1 then y.a1 else y.a0) = true
    ·rw [if_pos h2]
     exact h
    ·rw [if_neg h2]
     obtain ⟨j, hj, hy, _⟩ := PN.pick_some hp
     obtain rfl : i = j := by omega
     exact fit_shut h hy _
theorem Full.fit {i : Nat} {R : PN.Net} (h : Full i R) (hi : i ≤ 128) : RFit R := by
 obtain ⟨l, h1, h2⟩ := h.ls
 refine ⟨by rw [h1]; simp, by rw [h.len]; exact hi, fun x hx => ?_, ?_⟩
 ·rw [h1, List.mem_singleton] at hx
  subst hx
  simp only
  omega
 ·have h3 : (R.C.map PN.PC.ref).Pairwise (· < ·) := by
   rw [show R.C.map PN.PC.ref = List.range i from h.cs]
   exact List.pairwise_lt_range
  exact List.pairwise_map.1 h3
def LRp (P : Nat → Prop) (w : World) (v : Value) (D : List PN.PL) : Prop := ∃ Xs, Recs 5 (fun X y => ∃ q : Sli, X = lsC y q ∧ RowV w (slv q) y.l.length 1 (intsV y.l) ∧ ∀ g, (slv q).ownBlock = some g → P g) Xs D ∧ RowV w v D.length 5 Xs.flatten ∧ ∀ g, v.ownBlock = some g → P g
def CRp (P : Nat → Prop) (w : World) (v : Value) (C : List PN.PC) : Prop := CRow w v (C.map emb) ∧ ∀ g, v.ownBlock = some g → P g
section
variable {P P' : Nat → Prop} {w w' : World} {v : Value} {D : List PN.PL} {C : List PN.PC} {B : Nat} {S : List Nat}
theorem LRp.keep (h : LRp P w v D) (f : Fr S w w') (hS : ∀ z ∈ S, ¬ P z) : LRp P w' v D := by
 obtain ⟨Xs, h1, h2, h3⟩ := h
 exact ⟨Xs, h1.mono (fun X y ⟨q, e1, e2, e3⟩ => ⟨q, e1, e2.keepB f (fun g hg hm => hS g hm (e3 g hg)), e3⟩), h2.keepB f (fun g hg hm => hS g hm (h3 g hg)), h3⟩
theorem LRp.mono (h : LRp P w v D) (hp : ∀ g, P g → P' g) : LRp P' w v D := by
 obtain ⟨Xs, h1, h2, h3⟩ := h
 exact ⟨Xs, h1.mono (fun X y ⟨q, e1, e2, e3⟩ => ⟨q, e1, e2, fun g hg => hp g (e3 g hg)⟩), h2, fun g hg => hp g (h3 g hg)⟩
theorem LRp.row (h : LRp P w v D) : LRow w v D := by
 obtain ⟨Xs, h1, h2, h3⟩ := h
 exact ⟨Xs, h1.mono (fun X y ⟨q, e1, e2, _⟩ => ⟨q, e1, e2⟩), h2⟩
theorem LRd.p (h : LRd w B v D) : LRp (fun g => B ≤ g) w v D := h
theorem LRp.d (h : LRp P w v D) (hp : ∀ g, P g → B ≤ g) : LRd w B v D := h.mono hp
theorem CRp.keep (h : CRp P w v C) (f : Fr S w w') (hS : ∀ z ∈ S, ¬ P z) : CRp P w' v C := by
 obtain ⟨⟨Xs, r1, r2⟩, h3⟩ := h
 refine ⟨⟨Xs, ⟨r1.len, r1.sz, r1.one, fun i X y hX hy => ?_⟩, r2.keepB f (fun g hg hm => hS g hm (h3 g hg))⟩, h3⟩
 obtain ⟨q, e1, e2⟩ := r1.el i X y hX hy
 rw [List.getElem?_map] at hy
 obtain ⟨y0, hy0, rfl⟩ := Option.map_eq_some_iff.1 hy
 exact ⟨q, e1, emb_any e2⟩
theorem CRp.mono (h : CRp P w v C) (hp : ∀ g, P g → P' g) : CRp P' w v C := ⟨h.1, fun g hg => hp g (h.2 g hg)⟩
end
def rHangs (R : PN.Net) : List Int → PN.Net
 | [] => R
 | k :: r => rHangs (PN.rHang R k 1).1 r
theorem rHangs_snoc : ∀ (l : List Int) (R : PN.Net) (k : Int), rHangs R (l ++ [k]) = (PN.rHang (rHangs R l) k 1).1
 | [], _, _ => rfl
 | x :: r, R, k => rHangs_snoc r _ k
structure ClS (w : World) (B E : Nat) (l : List Int) (q0 : Sli) (R : PN.Net) (wr : World) (sL sC : Sli) : Prop where
 fr : Fr [] w wr
 res : Blk wr (B + 1) 31 zNt
 out : Blk wr E 31 (two (slv sL) (slv sC))
 ls : LRp (fun g => B + 2 ≤ g ∧ g ≠ E) wr (slv sL) R.L
 cs : CRp (fun g => B + 2 ≤ g ∧ g ≠ E) wr (slv sC) R.C
 q : RowV wr (slv q0) l.length 1 (intsV l)
 qb : ∀ g, (slv q0).ownBlock = some g → B + 2 ≤ g ∧ g ≠ E
 fit : RFit R
 e : B + 1 < E
section
variable {w wr w1 w2 : World} {B E : Nat} {l : List Int} {q0 : Sli} {R R' : PN.Net} {sL sC sL' sC' : Sli}
theorem ClS.new (h : ClS w B E l q0 R wr sL sC) (f : Fr [] wr w1) : ClS w B E l q0 R w1 sL sC :=
 ⟨h.fr.step f, h.res.keep f (by simp), h.out.keep f (by simp), h.ls.keep f (fun z hz => by cases hz), h.cs.keep f (fun z hz => by cases hz), h.q.new f, h.qb, h.fit, h.e⟩
theorem ClS.next (h : ClS w B E l q0 R wr sL sC) (hB : w.heap.size = B) (f : Fr [] wr w1) (ho : (sL' = sL ∧ sC' = sC ∧ R' = R) ∨ (RowO 122 5 (ElLO wr.heap.size) w1 wr.heap.size (slv sL') R'.L ∧ CRd w1 wr.heap.size (slv sC') (R'.C.map emb)))
  (hR : RFit R') (f2 : Fr [E] w1 w2) (hb : Blk w2 E 31 (two (slv sL') (slv sC'))) : ClS w B E l q0 R' w2 sL' sC' := by
 have h1 := h.new f
 have he := h.e
 have hwr : E < wr.heap.size := h.out.lt
 have hE : ∀ z ∈ [E], ¬ (B + 2 ≤ z ∧ z ≠ E) := fun z hz => by
  rw [List.mem_singleton] at hz
  exact fun hh => hh.2 hz
 refine ⟨h1.fr.trans f2 (fun x hx hl => by rw [List.mem_singleton] at hx; omega), h1.res.keep f2 (by rw [List.mem_singleton]; omega), hb, ?_, ?_, h1.q.keepB f2 (fun g hg hm => hE g hm (h.qb g hg)), h.qb, hR, he⟩
 ·rcases ho with ⟨rfl, rfl, rfl⟩ | ⟨o1, _⟩
  ·exact h1.ls.keep f2 hE
  ·exact (o1.lrd.p.mono (P' := fun g => B + 2 ≤ g ∧ g ≠ E) (fun g hg => ⟨by omega, by omega⟩)).keep f2 hE
 ·rcases ho with ⟨rfl, rfl, rfl⟩ | ⟨_, o2, o3⟩
  ·exact h1.cs.keep f2 hE
  ·exact CRp.keep (P := fun g => B + 2 ≤ g ∧ g ≠ E) ⟨o2, fun g hg => by have := o3 g hg; exact ⟨by omega, by omega⟩⟩ f2 hE
end
def rClose (R : PN.Net) (r : Int) : PN.Net × List Int × Int :=
 match PN.pick (PN.refP r) R.L 0 with
 | none => (R, [], 9)
 | some (i, x) => (rHangs { R with L := R.L.take i ++ R.L.drop (i + 1) } x.l, x.l, 0)
def ClOut (W : World) (sL sC : Sli) (R : PN.Net) (x : PN.Net × List Int × Int) (R' : PN.Net) (e : Ending) (w' : World) : Prop :=
 ∃ sL' sC' sq : Sli, e = .returned (.tuple #[.agg #[slv sL', slv sC'], slv sq, .int .i64 x.2.2]) ∧ RowV w' (slv sq) x.2.1.length 1 (intsV x.2.1) ∧ (∀ g, (slv sq).ownBlock = some g → W.heap.size ≤ g) ∧ Fr [] W w' ∧
  ((sL' = sL ∧ sC' = sC ∧ R' = R) ∨ (LRp (fun g => W.heap.size ≤ g) w' (slv sL') R'.L ∧ CRp (fun g => W.heap.size ≤ g) w' (slv sC') R'.C))
theorem fit_cut {R : PN.Net} (h : RFit R) (i : Nat) : RFit { R with L := R.L.take i ++ R.L.drop (i + 1) } := by
 refine ⟨?_, h.nc, fun x hx => h.q x ((PN.cut_sub i).subset hx), h.so⟩
 exact Nat.le_trans (PN.cut_sub i).length_le h.nl
theorem nClose_none (sL0 sC0 : Sli) (R : PN.Net) (r : Int) (w : World) (hL : LRow w (slv sL0) R.L) (hC0 : CRow w (slv sC0) (R.C.map emb)) (hf : RFit R) (hi : PN.pick (PN.refP r) R.L 0 = none) :
  Calls Tryz.prog 18 #[.agg #[slv sL0, slv sC0], .int .i64 r] w fun e w' => e = .returned (.tuple #[.agg #[slv sL0, slv sC0], .slice none 0 0, .int .i64 9]) ∧ Fr [] w w' := by
 obtain ⟨C, hCe⟩ : ∃ C, R.C.map emb = C := ⟨_, rfl⟩
 have HCE := Lib.hid hCe
 have hn := hf.fit
 have HRF := Lib.hid hf
 rw [hCe] at hC0 hn
 clear hCe hf
 obtain ⟨D, hDe⟩ : ∃ D, R.L = D := ⟨_, rfl⟩
 have HDE := Lib.hid hDe
 rw [hDe] at hL hi hn
 clear hDe
 obtain ⟨vL, hvL⟩ : ∃ v, slv sL0 = v := ⟨_, rfl⟩
 obtain ⟨vC, hvC⟩ : ∃ v, slv sC0 = v := ⟨_, rfl⟩
 have HVL := Lib.hid hvL
 have HVC := Lib.hid hvC
 rw [hvL] at hL ⊢
 rw [hvC] at hC0 ⊢
 clear hvL hvC
 have hC : CRow w vC C := hC0
 clear hC0
 obtain ⟨n, hnl⟩ : ∃ n, D.length = n := ⟨_, rfl⟩
 obtain ⟨m, hml⟩ : ∃ m, C.length = m := ⟨_, rfl⟩
 obtain ⟨aL, cL, rfl⟩ := hL.val
 obtain ⟨aC, cC, rfl⟩ := hC.val
 rw [hnl] at hL ⊢
 rw [hml] at hC ⊢
 have HN := Lib.hid hnl
 have HM := Lib.hid hml
 obtain ⟨B, hB⟩ : ∃ B, w.heap.size = B := ⟨_, rfl⟩
 obtain ⟨wA, hwA⟩ : ∃ z, (w.alloc (.cells #[.slice aL n cL, .slice aC m cC] 31)).alloc (.cells #[.slice none 0 0, .slice none 0 0] 31) = z := ⟨_, rfl⟩
 have f2 := (Fr.refl [] (w.alloc (.cells #[.slice aL n cL, .slice aC m cC] 31))).alloc (.cells #[.slice none 0 0, .slice none 0 0] 31)
 have hb0 : Blk wA B 31 (two (.slice aL n cL) (.slice aC m cC)) := by
  rw [← hwA, ← hB]
  exact (Blk.made w 31 (two (.slice aL n cL) (.slice aC m cC))).keep f2 (by simp)
 have hb1 : Blk wA (B + 1) 31 zNt := by
  have h := Blk.made (w.alloc (.cells #[.slice aL n cL, .slice aC m cC] 31)) 31 zNt
  rw [show (w.alloc (.cells #[.slice aL n cL, .slice aC m cC] 31)).heap.size = B + 1 from by rw [← hB]; simp] at h
  rw [← hwA]
  exact h
 have hf : Fr [] w wA := by rw [← hwA]; exact ((Fr.refl [] w).alloc _).step f2
 have HB0 := Lib.hid hb0
 have HB1 := Lib.hid hb1
 have HF := Lib.hid hf
 have HBS := Lib.hid hB
 have HWA := Lib.hid hwA
 have HL := Lib.hid hL
 have HC := Lib.hid hC
 clear hb0 hb1 hf hB hwA f2 hL hC hnl hml
 have HFIT := Lib.hid hn
 clear hn
 have HI := Lib.hid hi
 clear hi
 go_enter Tryz.func18, Tryz.ntmps18
 go_upto_region 1 with fail
 rw [HWA.out]
 simp only [HBS.out]
 refine wp_region_lit ?_
 refine ldZ (load_all agg34 size34 (xs := two (.slice aL n cL) (.slice aC m cC)) rfl HB0.out.at) ?_
 refine wpList_plain rfl (fun K hK => ?_); go_simp; refine hK _ _ ?_; clear hK K
 try simp only [Act.put, nrZ]
 refine wpList_plain rfl (fun K hK => ?_)
 go_simp
 refine (lisAtG (.slice aL n cL) (.slice aC m cC) D r _ (LRow.next HL.out HF.out) (by rw [HN.out]; have := HFIT.out.nl; rw [HN.out] at this; omega)).mono ?_
 rintro e w1 ⟨rfl, f1⟩
 refine hK _ _ ?_
 clear hK K
 rw [HI.out]
 simp only [place]
 try simp only [Act.put, nrZ]
 refine wpList_plain rfl (fun K hK => ?_); go_simp; refine hK _ _ ?_; clear hK K
 refine wpList_nil ?_
 try simp only [Act.put, nrZ]
 have HB01 := Lib.hid (HB0.out.keep f1 (by simp))
 have HB11 := Lib.hid (HB1.out.keep f1 (by simp))
 have HF1 := Lib.hid (HF.out.step f1)
 clear f1 HB0 HB1 HF HWA
 go_upto_region 3 with fail
 refine wp_region_lit ?_
 refine ldZ (load_all agg34 size34 (xs := two (.slice aL n cL) (.slice aC m cC)) rfl HB01.out.at) ?_
 obtain ⟨w9, hst, hb_, hf_⟩ := store_all (t := 31) (two (.slice aL n cL) (.slice aC m cC)) size34 rfl (two_oneS _ _ _ _ _ _) HB11.out rfl
 refine stZ hst ?_
 clear hst
 iterate 2 (refine wpList_plain rfl (fun K hK => ?_); go_simp; refine hK _ _ ?_; clear hK K)
 refine wpList_nil ?_
 try simp only [Act.put, nrZ]
 have HR9 := Lib.hid hb_
 have HF9 := Lib.hid (HF1.out.own1 (S := []) (B := 0) hf_ (by have := HBS.out; omega))
 clear hb_ hf_
 go_wp2
 have hl := load_var agg34 size34 (xs := two (.slice aL n cL) (.slice aC m cC)) rfl HR9.out.at
 refine bodyPost_ret (v := .tuple #[.agg (two (.slice aL n cL) (.slice aC m cC)).toArray, .slice none 0 0, .int .i64 9]) (by simp [results, Tryz.results18, as_addr, hl]) rfl ?_
 exact ⟨rfl, HF9.out⟩
theorem nClose_ok (sL0 sC0 : Sli) (R : PN.Net) (r : Int) (w : World) (hL : LRow w (slv sL0) R.L) (hC0 : CRow w (slv sC0) (R.C.map emb)) (hf : RFit R) (i : Nat) (y : PN.PL) (hi : PN.pick (PN.refP r) R.L 0 = some (i, y)) :
  Calls Tryz.prog 18 #[.agg #[slv sL0, slv sC0], .int .i64 r] w (ClOut w sL0 sC0 R ((rHangs { R with L := R.L.take i ++ R.L.drop (i + 1) } y.l), y.l, 0) (rHangs { R with L := R.L.take i ++ R.L.drop (i + 1) } y.l)) := by
 obtain ⟨C, hCe⟩ : ∃ C, R.C.map emb = C := ⟨_, rfl⟩
 have HCE := Lib.hid hCe
 have hn := hf.fit
 have HRF := Lib.hid hf
 rw [hCe] at hC0 hn
 clear hCe hf
 obtain ⟨D, hDe⟩ : ∃ D, R.L = D := ⟨_, rfl⟩
 have HDE := Lib.hid hDe
 rw [hDe] at hL hi hn
 clear hDe
 obtain ⟨vL, hvL⟩ : ∃ v, slv sL0 = v := ⟨_, rfl⟩
 obtain ⟨vC, hvC⟩ : ∃ v, slv sC0 = v := ⟨_, rfl⟩
 have HVL := Lib.hid hvL
 have HVC := Lib.hid hvC
 rw [hvL] at hL ⊢
 rw [hvC] at hC0 ⊢
 clear hvL hvC
 have hC : CRow w vC C := hC0
 clear hC0
 obtain ⟨n, hnl⟩ : ∃ n, D.length = n := ⟨_, rfl⟩
 obtain ⟨m, hml⟩ : ∃ m, C.length = m := ⟨_, rfl⟩
 obtain ⟨aL, cL, rfl⟩ := hL.val
 obtain ⟨aC, cC, rfl⟩ := hC.val
 rw [hnl] at hL ⊢
 rw [hml] at hC ⊢
 have HN := Lib.hid hnl
 have HM := Lib.hid hml
 obtain ⟨B, hB⟩ : ∃ B, w.heap.size = B := ⟨_, rfl⟩
 obtain ⟨wA, hwA⟩ : ∃ z, (w.alloc (.cells #[.slice aL n cL, .slice aC m cC] 31)).alloc (.cells #[.slice none 0 0, .slice none 0 0] 31) = z := ⟨_, rfl⟩
 have f2 := (Fr.refl [] (w.alloc (.cells #[.slice aL n cL, .slice aC m cC] 31))).alloc (.cells #[.slice none 0 0, .slice none 0 0] 31)
 have hb0 : Blk wA B 31 (two (.slice aL n cL) (.slice aC m cC)) := by
  rw [← hwA, ← hB]
  exact (Blk.made w 31 (two (.slice aL n cL) (.slice aC m cC))).keep f2 (by simp)
 have hb1 : Blk wA (B + 1) 31 zNt := by
  have h := Blk.made (w.alloc (.cells #[.slice aL n cL, .slice aC m cC] 31)) 31 zNt
  rw [show (w.alloc (.cells #[.slice aL n cL, .slice aC m cC] 31)).heap.size = B + 1 from by rw [← hB]; simp] at h
  rw [← hwA]
  exact h
 have hf : Fr [] w wA := by rw [← hwA]; exact ((Fr.refl [] w).alloc _).step f2
 have HB0 := Lib.hid hb0
 have HB1 := Lib.hid hb1
 have HF := Lib.hid hf
 have HBS := Lib.hid hB
 have HWA := Lib.hid hwA
 have HL := Lib.hid hL
 have HC := Lib.hid hC
 clear hb0 hb1 hf hB hwA f2 hL hC hnl hml
 have HFIT := Lib.hid hn
 clear hn
 have HI := Lib.hid hi
 have hY := place_some hi
 have hin : i < n := by rw [← HN.out]; exact (List.getElem?_eq_some_iff.1 hY).1
 have HY := Lib.hid hY
 have hi0 : (0 : Int) ≤ (i : Int) := by omega
 have hin' : (i : Int) < (n : Int) := by omega
 have dlt : decide ((i : Int) < 0) = false := decide_eq_false (by omega)
 have hn9 : n ≤ 128 := by have h := HRF.out.nl; rw [HDE.out, HN.out] at h; exact h
 clear hi hY
 go_enter Tryz.func18, Tryz.ntmps18
 go_upto_region 1 with fail
 rw [HWA.out]
 simp only [HBS.out]
 refine wp_region_lit ?_
 refine ldZ (load_all agg34 size34 (xs := two (.slice aL n cL) (.slice aC m cC)) rfl HB0.out.at) ?_
 refine wpList_plain rfl (fun K hK => ?_); go_simp; refine hK _ _ ?_; clear hK K
 try simp only [Act.put, nrZ]
 refine wpList_plain rfl (fun K hK => ?_)
 go_simp
 refine (lisAtG (.slice aL n cL) (.slice aC m cC) D r _ (LRow.next HL.out HF.out) (by rw [HN.out]; have := HFIT.out.nl; rw [HN.out] at this; omega)).mono ?_
 rintro e w1 ⟨rfl, f1⟩
 refine hK _ _ ?_
 clear hK K
 rw [HI.out]
 simp only [place]
 try simp only [Act.put, nrZ]
 refine wpList_plain rfl (fun K hK => ?_); go_simp; refine hK _ _ ?_; clear hK K
 refine wpList_nil ?_
 try simp only [Act.put, nrZ]
 have HB01 := Lib.hid (HB0.out.keep f1 (by simp))
 have HB11 := Lib.hid (HB1.out.keep f1 (by simp))
 have HF1 := Lib.hid (HF.out.step f1)
 clear f1 HB0 HB1 HF HWA
 go_upto_region 4 with fail
 refine wp_region_lit ?_
 refine ldZ (load_all agg34 size34 (xs := two (.slice aL n cL) (.slice aC m cC)) rfl HB01.out.at) ?_
 refine wpList_plain rfl (fun K hK => ?_)
 go_simp
 refine (nCopy_any (.slice aL n cL) (.slice aC m cC) D C _ (LRow.next HL.out HF1.out) (CRow.next HC.out HF1.out) HFIT.out).mono ?_
 rintro e w6 ⟨sL, sC, rfl, oL, oC, f6⟩
 refine hK _ _ ?_
 clear hK K
 try simp only [Act.put, nrZ]
 refine wpList_plain rfl (fun K hK => ?_); go_simp; refine hK _ _ ?_; clear hK K
 try simp only [Act.put, nrZ]
 have HF6 := Lib.hid (HF1.out.step f6)
 have HB26 := Lib.hid (HB11.out.keep f6 (by simp))
 have HOL6 := Lib.hid (oL.base (B' := B + 2) (by have := HB11.out.lt; omega))
 have HOC6 := Lib.hid (oC.base (B' := B + 2) (by have := HB11.out.lt; omega))
 clear oL oC f6 HF1 HB01 HB11
 obtain ⟨E7, hE_⟩ : ∃ E, w6.heap.size = E := ⟨_, rfl⟩
 obtain ⟨wy, hw_⟩ : ∃ z, w6.alloc (.cells #[.slice none 0 0, .slice none 0 0] 31) = z := ⟨_, rfl⟩
 have hbx : Blk wy E7 31 zNt := by rw [← hw_, ← hE_]; exact Blk.made w6 31 zNt
 have fx : Fr [] w6 wy := by rw [← hw_]; exact (Fr.refl [] w6).alloc _
 rw [hw_]
 simp only [hE_]
 have HE7 := Lib.hid (show w.heap.size ≤ E7 ∧ B + 1 < E7 from by rw [← hE_]; exact ⟨HF6.out.size, HB26.out.lt⟩)
 have HY7 := Lib.hid hbx
 have HF7 := Lib.hid (HF6.out.step fx)
 have HB27 := Lib.hid (HB26.out.keep fx (by simp))
 have HOL7 := Lib.hid (HOL6.out.next fx)
 have HOC7 := Lib.hid (HOC6.out.next fx)
 clear fx hbx hw_ hE_ HF6 HB26 HOL6 HOC6
 obtain ⟨w8, hst, hb_, hf_⟩ := store_all (t := 31) (two (slv sL) (slv sC)) size34 rfl (two_one _ _) HY7.out rfl
 refine stZ hst ?_
 clear hst
 refine wpList_nil ?_
 try simp only [Act.put, nrZ]
 have HY8 := Lib.hid hb_
 have HB28 := Lib.hid (HB27.out.keep hf_ (fun hm => by rw [List.mem_singleton] at hm; have := HE7.out; omega))
 have HF8 := Lib.hid (HF7.out.own1 (S := []) (B := 0) hf_ HE7.out.1)
 have HOL8 := Lib.hid (HOL7.out.far HY7.out hf_ (by decide) (by decide))
 have HOC8 := Lib.hid (HOC7.out.far HY7.out hf_ (by decide) (by decide))
 clear hb_ hf_ HY7 HB27 HF7 HOL7 HOC7
 obtain ⟨w9, hw9⟩ : ∃ z, w8.drew = z := ⟨_, rfl⟩
 have f9 : Fr [] w8 w9 := by rw [← hw9]; exact (Fr.refl [] w8).drew
 have HY9 := Lib.hid (HY8.out.keep f9 (by simp))
 have HB29 := Lib.hid (HB28.out.keep f9 (by simp))
 have HF9 := Lib.hid (HF8.out.step f9)
 have HOC9 := Lib.hid (HOC8.out.next f9)
 obtain ⟨Xs, hrec, hown, hsep⟩ := HOL8.out
 rw [HN.out] at hown
 have HW9 := Lib.hid hw9
 clear HB28 HF8 HOC8
 have hXi := List.getElem?_eq_getElem (l := Xs) (i := i) (by rw [hrec.len, HN.out]; exact hin)
 obtain ⟨X, hXX⟩ : ∃ X, Xs[i]'(by rw [hrec.len, HN.out]; exact hin) = X := ⟨_, rfl⟩
 rw [hXX] at hXi
 obtain ⟨q, rfl, hqo⟩ := hrec.el i X y hXi HY.out
 have HXI := Lib.hid hXi
 obtain ⟨sL1, sL2, sL3⟩ := sL
 obtain ⟨gL, hgL, hsn⟩ : ∃ gL, sL1 = some ⟨gL, 0, none⟩ ∧ sL2 = n := by
  rcases hown.2 with ⟨he, h0⟩ | ⟨gL, cap, cur, he, _⟩
  ·omega
  ·simp only [slv, Value.slice.injEq] at he
   exact ⟨gL, he.1, he.2.1⟩
 subst hgL
 subst hsn
 have HCQ := Lib.hid (show LiesAt w8 gL (i * 5) (lsC y q) from by
  obtain ⟨g', off', c', he, hg', hl'⟩ := (RowV.of_own hown).at hin
  simp only [slv, Value.slice.injEq, Option.some.injEq, Addr.mk.injEq, and_true] at he
  obtain ⟨⟨rfl, rfl⟩, _, rfl⟩ := he
  rw [flat_at hrec.sz hXi, Nat.zero_add] at hl'
  exact hl')
 have HREC9 := Lib.hid (hrec.mono (fun X z ⟨t, e1, e2⟩ => (⟨t, e1, rowNew e2 f9⟩ : ElLO (B + 2) w9 X z)))
 have HOWN9 := Lib.hid (rowNew hown f9)
 have HQO9 := Lib.hid (rowNew hqo f9)
 obtain ⟨q1, q2, q3⟩ := q
 have c0 : w8.cell? ⟨E7, 0, none⟩ = some (.slice (some ⟨gL, 0, none⟩) sL2 sL3) := HY8.out.at 0 _ rfl
 have c4 : w8.cell? ⟨gL, i * 5 + 1 + 3, none⟩ = some (.slice q1 q2 q3) := HCQ.out 4 _ rfl
 have c4' : w8.cell? ⟨gL, i * 5 + 4, none⟩ = some (.slice q1 q2 q3) := HCQ.out 4 _ rfl
 obtain ⟨a0, ht0, hr0⟩ := own_slice_to elemLis HOWN9.out i (by omega)
 obtain ⟨vr, hvr, hrr⟩ := own_slice_from elemLis HOWN9.out (i + 1) (by omega)
 have hty0 : TyR w9 (B + 2) (.slice a0 i i) 122 := by
  obtain ⟨_, htt, hss⟩ := elemLis.el
  intro gg hgg
  have hrun := ht0 w9
  rw [show slv (some ⟨gL, 0, none⟩, sL2, sL3) = .slice (some ⟨gL, 0, none⟩) sL2 sL3 from rfl, run_slice_hm w9 _ _ _ _ htt .i64 .i64 i i (by omega) (by omega) (by
   rcases HOWN9.out.2 with ⟨he, _⟩ | ⟨g1, cap, cur, he, _, _, hnc, _⟩
   ·cases he
   ·simp only [slv, Value.slice.injEq] at he
    omega), hss] at hrun
  simp only [Result.andThen_ok, Result.ok.injEq, sliced, Value.slice.injEq, and_true] at hrun
  have ha : a0 = some ⟨gL, 0, none⟩ := by
   rw [← hrun.1]
   split
   ·rfl
   ·simp [Addr.add_lit]
  rw [ha] at hgg
  simp only [Value.ownBlock, Option.some.injEq] at hgg
  subst hgg
  exact TyR.of_own HOWN9.out gL rfl
 have HR0 := Lib.hid (show RowV w9 (.slice a0 i i) i 5 (Xs.take i).flatten from by rw [← flat_take i HREC9.out.sz]; exact hr0)
 have HRR := Lib.hid (show RowV w9 vr (sL2 - (i + 1)) 5 (Xs.drop (i + 1)).flatten from by rw [← flat_drop (i + 1) HREC9.out.sz]; exact hrr)
 have HTY := Lib.hid hty0
 have HT0 := Lib.hid ht0
 have HVR := Lib.hid hvr
 clear hr0 hrr hty0 hrec hown hqo hXi hXX hsep f9 hw9 ht0 hvr
 go_upto_region 6 with fail
 clear c0 c4 c4' HY8 HCQ
 go_cut [] from 26 to 37 (fun wc => ∃ sL' : Sli, ClS w B E7 y.l (q1, q2, q3) { R with L := R.L.take i ++ R.L.drop (i + 1) } wc sL' sC)
 case first =>
  refine wp_region_held_drew (S := fun _ => True) (by kernel_rfl) (trivial) (fun hHeld => ?_)
  clear hHeld
  rw [HW9.out]
  refine tkZ 0 ?_
  refine tkZ 2 ?_
  refine tkZ 3 ?_
  refine tkZ 5 ?_
  refine tkZ 7 ?_
  refine tvZ 8 (.int .i64 ((i + 1 : Nat) : Int)) rfl ?_ ?_
  ·intro w hSw
   try dsimp only at hSw
   go_simp
   exact IntWalk.i64_in _ (by omega)
  try simp only [Act.put, nrZ]
  refine wpAnyH_ready (rs := [1, 6]) (by kernel_rfl) (by simp) ?_
  refine AllReadyH.cons (o := _) rfl (fun K hK => ?_) (AllReadyH.cons (o := _) rfl (fun K hK => ?_) AllReadyH.nil)
  ·skip
   have c6 : w9.cell? ⟨E7, 0, none⟩ = some (.slice (some ⟨gL, 0, none⟩) sL2 sL3) := HY9.out.at 0 _ rfl
   go_simp
   refine hK.out _ _ (trivial) (fun hHeld => ?_)
   clear hK K
   clear hHeld
   try simp only [Act.put, nrZ]
   clear c6
   refine tvZ 4 (.slice a0 i i) rfl ?_ ?_
   ·intro w hSw
    try dsimp only at hSw
    exact exec_slice_to (V := slv (some ⟨gL, 0, none⟩, sL2, sL3)) (H := .int .i64 i) (M := .int .i64 i) rfl rfl rfl rfl elemLis.el.2.1 (HT0.out w)
   try simp only [Act.put, nrZ]
   refine rdZ 6 (fun K hK => ?_)
   have c6 : w9.cell? ⟨E7, 0, none⟩ = some (.slice (some ⟨gL, 0, none⟩) sL2 sL3) := HY9.out.at 0 _ rfl
   go_simp
   refine hK.out _ _ (trivial) (fun hHeld => ?_)
   clear hK K
   clear hHeld
   try simp only [Act.put, nrZ]
   clear c6
   refine tvZ 9 vr rfl ?_ ?_
   ·intro w hSw
    try dsimp only at hSw
    exact exec_slice_from (V := slv (some ⟨gL, 0, none⟩, sL2, sL3)) (L := .int .i64 ((i + 1 : Nat) : Int)) rfl rfl rfl elemLis.el.2.1 (HVR.out w)
   try simp only [Act.put, nrZ]
   refine rdZ 10 (fun K hK => ?_)
   split
   rotate_left
   ·rename_i hno
    exact absurd rfl hno
   refine wp_append_rd elemLis _ _ rfl (a0 := a0) (n := i) (xs := (Xs.take i).flatten) rfl HR0.out (B := B + 2) (by have := HB29.out.lt; omega) HTY.out (X := vr) (m := sL2 - (i + 1)) (news := (Xs.drop (i + 1)).flatten) rfl HRR.out (by omega) (by decide) ?_
   intro sL' w10 hr10 ht10 f10
   have HY10 := Lib.hid (HY9.out.keep f10 (by simp))
   have HB110 := Lib.hid (HB29.out.keep f10 (by simp))
   have HF10 := Lib.hid (HF9.out.step f10)
   have HREC10 := Lib.hid (HREC9.out.mono (fun X z ⟨s, e1, e2⟩ => (⟨s, e1, rowNew e2 f10⟩ : ElLO (B + 2) w10 X z)))
   have HOC10 := Lib.hid (HOC9.out.next f10)
   have HQO10 := Lib.hid (rowNew HQO9.out f10)
   have HR10 := Lib.hid hr10
   have HT10 := Lib.hid ht10
   clear hr10 ht10 f10
   refine hK.out _ _ (trivial) (fun hHeld => ?_)
   clear hK K
   clear hHeld
   try simp only [Act.put, nrZ]
   refine tkZ 11 ?_
   refine rdZ 12 (fun K hK => ?_)
   obtain ⟨w11, hst, hb_, hf_⟩ := store_cell (t := 28) (o := 0) (slv sL') size31 rfl rfl HY10.out (by show 0 + 1 ≤ 2; omega)
   split
   rotate_left
   ·rename_i hno
    exact absurd rfl hno
   refine stY hst ?_
   clear hst
   have HB1' := HB110.out
   have hls : ClS w B E7 y.l (q1, q2, q3) { R with L := R.L.take i ++ R.L.drop (i + 1) } w11 sL' sC := by
    have hnn : ∀ g, (slv sL').ownBlock = some g → g ∉ [E7] := fun g hg hm => by
     rw [List.mem_singleton] at hm
     subst hm
     exact HT10.out.ne HY10.out (by decide) hg
    have hnB : ∀ g, (slv sL').ownBlock = some g → B + 2 ≤ g := fun g hg => (HT10.out g hg).1
    have hqE : ∀ {X : Sli} {k : Nat} {l : List Value}, w10.ownsRow (B + 2) 3 1 (slv X) k l → ∀ g, (slv X).ownBlock = some g → g ∉ [E7] := fun hX g hg hm => by
     rw [List.mem_singleton] at hm
     subst hm
     exact blkNe HY10.out hX (by decide) hg
    refine ⟨HF10.out.own1 (S := []) (B := 0) hf_ HE7.out.1, HB1'.keep hf_ (fun hm => by rw [List.mem_singleton] at hm; have := HE7.out; omega), hb_, ?_, ?_, (RowV.of_own HQO10.out).keepB hf_ (hqE HQO10.out), fun g hg => ⟨(HQO10.out.lt g hg).1, fun he => hqE HQO10.out g hg (by rw [he]; exact List.mem_singleton.2 rfl)⟩, fit_cut HRF.out i, HE7.out.2⟩
    ·refine ⟨Xs.take i ++ Xs.drop (i + 1), ?_, ?_, fun g hg => ⟨hnB g hg, fun he => hnn g hg (by rw [he]; exact List.mem_singleton.2 rfl)⟩⟩
     ·have h0 : Recs 5 (fun X z => ∃ q : Sli, X = lsC z q ∧ RowV w11 (slv q) z.l.length 1 (intsV z.l) ∧ ∀ g, (slv q).ownBlock = some g → B + 2 ≤ g ∧ g ≠ E7) Xs D := HREC10.out.mono (fun X z ⟨t, e1, e2⟩ => ⟨t, e1, (RowV.of_own e2).keepB hf_ (hqE e2), fun g hg => ⟨(e2.lt g hg).1, fun he => hqE e2 g hg (by rw [he]; exact List.mem_singleton.2 rfl)⟩⟩)
      show Recs 5 _ _ (R.L.take i ++ R.L.drop (i + 1))
      rw [HDE.out]
      exact (h0.take i).app (h0.drop (i + 1))
     ·show RowV w11 (slv sL') (R.L.take i ++ R.L.drop (i + 1)).length 5 _
      rw [HDE.out]
      have hlen : (D.take i ++ D.drop (i + 1)).length = i + (sL2 - (i + 1)) := by
       rw [List.length_append, List.length_take, List.length_drop, HN.out]
       omega
      rw [hlen, List.flatten_append]
      exact HR10.out.keepB hf_ hnn
    ·have hc := HOC10.out
     refine CRp.keep (w := w10) (P := fun g => B + 2 ≤ g ∧ g ≠ E7) ⟨by rw [HCE.out]; exact hc.rd.1, fun g hg => ?_⟩ hf_ (fun z hz hp => by rw [List.mem_singleton] at hz; exact hp.2 hz)
     obtain ⟨Ys, _, ho⟩ := hc
     exact ⟨(ho.lt g hg).1, fun he => by subst he; exact blkNe HY10.out ho (by decide) hg⟩
   have HLS := Lib.hid hls
   clear hb_ hf_ hls HB1'
   refine hK.out _ _ (trivial) (fun hHeld => ?_)
   clear hK K
   clear hHeld
   try simp only [Act.put, nrZ]
   refine wpAnyH_done (by kernel_rfl) ?_ _
   go_wp2
   go_meet
   case rel => exact ⟨sL', HLS.out⟩
  ·skip
   have c6 : w9.cell? ⟨E7, 0, none⟩ = some (.slice (some ⟨gL, 0, none⟩) sL2 sL3) := HY9.out.at 0 _ rfl
   go_simp
   refine hK.out _ _ (trivial) (fun hHeld => ?_)
   clear hK K
   clear hHeld
   try simp only [Act.put, nrZ]
   clear c6
   refine tvZ 9 vr rfl ?_ ?_
   ·intro w hSw
    try dsimp only at hSw
    exact exec_slice_from (V := slv (some ⟨gL, 0, none⟩, sL2, sL3)) (L := .int .i64 ((i + 1 : Nat) : Int)) rfl rfl rfl elemLis.el.2.1 (HVR.out w)
   try simp only [Act.put, nrZ]
   refine rdZ 1 (fun K hK => ?_)
   have c6 : w9.cell? ⟨E7, 0, none⟩ = some (.slice (some ⟨gL, 0, none⟩) sL2 sL3) := HY9.out.at 0 _ rfl
   go_simp
   refine hK.out _ _ (trivial) (fun hHeld => ?_)
   clear hK K
   clear hHeld
   try simp only [Act.put, nrZ]
   clear c6
   refine tvZ 4 (.slice a0 i i) rfl ?_ ?_
   ·intro w hSw
    try dsimp only at hSw
    exact exec_slice_to (V := slv (some ⟨gL, 0, none⟩, sL2, sL3)) (H := .int .i64 i) (M := .int .i64 i) rfl rfl rfl rfl elemLis.el.2.1 (HT0.out w)
   try simp only [Act.put, nrZ]
   refine rdZ 10 (fun K hK => ?_)
   split
   rotate_left
   ·rename_i hno
    exact absurd rfl hno
   refine wp_append_rd elemLis _ _ rfl (a0 := a0) (n := i) (xs := (Xs.take i).flatten) rfl HR0.out (B := B + 2) (by have := HB29.out.lt; omega) HTY.out (X := vr) (m := sL2 - (i + 1)) (news := (Xs.drop (i + 1)).flatten) rfl HRR.out (by omega) (by decide) ?_
   intro sL' w10 hr10 ht10 f10
   have HY10 := Lib.hid (HY9.out.keep f10 (by simp))
   have HB110 := Lib.hid (HB29.out.keep f10 (by simp))
   have HF10 := Lib.hid (HF9.out.step f10)
   have HREC10 := Lib.hid (HREC9.out.mono (fun X z ⟨s, e1, e2⟩ => (⟨s, e1, rowNew e2 f10⟩ : ElLO (B + 2) w10 X z)))
   have HOC10 := Lib.hid (HOC9.out.next f10)
   have HQO10 := Lib.hid (rowNew HQO9.out f10)
   have HR10 := Lib.hid hr10
   have HT10 := Lib.hid ht10
   clear hr10 ht10 f10
   refine hK.out _ _ (trivial) (fun hHeld => ?_)
   clear hK K
   clear hHeld
   try simp only [Act.put, nrZ]
   refine tkZ 11 ?_
   refine rdZ 12 (fun K hK => ?_)
   obtain ⟨w11, hst, hb_, hf_⟩ := store_cell (t := 28) (o := 0) (slv sL') size31 rfl rfl HY10.out (by show 0 + 1 ≤ 2; omega)
   split
   rotate_left
   ·rename_i hno
    exact absurd rfl hno
   refine stY hst ?_
   clear hst
   have HB1' := HB110.out
   have hls : ClS w B E7 y.l (q1, q2, q3) { R with L := R.L.take i ++ R.L.drop (i + 1) } w11 sL' sC := by
    have hnn : ∀ g, (slv sL').ownBlock = some g → g ∉ [E7] := fun g hg hm => by
     rw [List.mem_singleton] at hm
     subst hm
     exact HT10.out.ne HY10.out (by decide) hg
    have hnB : ∀ g, (slv sL').ownBlock = some g → B + 2 ≤ g := fun g hg => (HT10.out g hg).1
    have hqE : ∀ {X : Sli} {k : Nat} {l : List Value}, w10.ownsRow (B + 2) 3 1 (slv X) k l → ∀ g, (slv X).ownBlock = some g → g ∉ [E7] := fun hX g hg hm => by
     rw [List.mem_singleton] at hm
     subst hm
     exact blkNe HY10.out hX (by decide) hg
    refine ⟨HF10.out.own1 (S := []) (B := 0) hf_ HE7.out.1, HB1'.keep hf_ (fun hm => by rw [List.mem_singleton] at hm; have := HE7.out; omega), hb_, ?_, ?_, (RowV.of_own HQO10.out).keepB hf_ (hqE HQO10.out), fun g hg => ⟨(HQO10.out.lt g hg).1, fun he => hqE HQO10.out g hg (by rw [he]; exact List.mem_singleton.2 rfl)⟩, fit_cut HRF.out i, HE7.out.2⟩
    ·refine ⟨Xs.take i ++ Xs.drop (i + 1), ?_, ?_, fun g hg => ⟨hnB g hg, fun he => hnn g hg (by rw [he]; exact List.mem_singleton.2 rfl)⟩⟩
     ·have h0 : Recs 5 (fun X z => ∃ q : Sli, X = lsC z q ∧ RowV w11 (slv q) z.l.length 1 (intsV z.l) ∧ ∀ g, (slv q).ownBlock = some g → B + 2 ≤ g ∧ g ≠ E7) Xs D := HREC10.out.mono (fun X z ⟨t, e1, e2⟩ => ⟨t, e1, (RowV.of_own e2).keepB hf_ (hqE e2), fun g hg => ⟨(e2.lt g hg).1, fun he => hqE e2 g hg (by rw [he]; exact List.mem_singleton.2 rfl)⟩⟩)
      show Recs 5 _ _ (R.L.take i ++ R.L.drop (i + 1))
      rw [HDE.out]
      exact (h0.take i).app (h0.drop (i + 1))
     ·show RowV w11 (slv sL') (R.L.take i ++ R.L.drop (i + 1)).length 5 _
      rw [HDE.out]
      have hlen : (D.take i ++ D.drop (i + 1)).length = i + (sL2 - (i + 1)) := by
       rw [List.length_append, List.length_take, List.length_drop, HN.out]
       omega
      rw [hlen, List.flatten_append]
      exact HR10.out.keepB hf_ hnn
    ·have hc := HOC10.out
     refine CRp.keep (w := w10) (P := fun g => B + 2 ≤ g ∧ g ≠ E7) ⟨by rw [HCE.out]; exact hc.rd.1, fun g hg => ?_⟩ hf_ (fun z hz hp => by rw [List.mem_singleton] at hz; exact hp.2 hz)
     obtain ⟨Ys, _, ho⟩ := hc
     exact ⟨(ho.lt g hg).1, fun he => by subst he; exact blkNe HY10.out ho (by decide) hg⟩
   have HLS := Lib.hid hls
   clear hb_ hf_ hls HB1'
   refine hK.out _ _ (trivial) (fun hHeld => ?_)
   clear hK K
   clear hHeld
   try simp only [Act.put, nrZ]
   refine wpAnyH_done (by kernel_rfl) ?_ _
   go_wp2
   go_meet
   case rel => exact ⟨sL', HLS.out⟩
 case rest =>
  obtain ⟨sL', hcl⟩ := hcut
  have HCL := Lib.hid hcl
  have hq2 : q2 = y.l.length := by
   obtain ⟨a, c, he⟩ := hcl.q.val
   simp only [slv, Value.slice.injEq] at he
   exact he.2.1
  subst hq2
  obtain ⟨l, hle⟩ : ∃ l, y.l = l := ⟨_, rfl⟩
  rw [hle] at HCL
  obtain ⟨R0, hR0⟩ : ∃ R0 : PN.Net, ({ R with L := R.L.take i ++ R.L.drop (i + 1) } : PN.Net) = R0 := ⟨_, rfl⟩
  rw [hR0] at HCL
  have HLE := Lib.hid hle
  have HRE := Lib.hid hR0
  rw [hle]
  clear hle hR0 hcl HREC9 HOWN9 HQO9 HXI HR0 HRR HTY HT0 HVR HY9 HB29 HF9 HOC9 HW9
  obtain ⟨nl, hnl⟩ : ∃ k, l.length = k := ⟨_, rfl⟩
  have HNL := Lib.hid hnl
  have hnlb : nl ≤ 100000 := by
   rw [← hnl, ← HLE.out]
   exact HRF.out.q y (by rw [HDE.out]; exact List.mem_of_getElem? HY.out)
  simp only [hnl]
  clear hnl
  go_wp2_with fail
  go_loopw [10] (fun iv wr => ∃ (wz : World) (p : Nat) (tL tC : Sli), wz = wr ∧ iv = .int .i64 p ∧ p ≤ nl ∧ ClS w B E7 l (q1, l.length, q3) (rHangs R0 (l.take p)) wr tL tC) (fun iv _ => nl - (intOf iv).toNat)
  case atStart => exact ⟨_, 0, sL', sC, rfl, rfl, by omega, HCL.out⟩
  case round =>
   obtain ⟨wr, p, tL, tC, hwz, rfl, hp, hS⟩ := hrel
   subst hwz
   have HS := Lib.hid hS
   clear hS
   by_cases hlt : p < nl
   ·have hlt' : (p : Int) < (nl : Int) := by omega
    have hp0 : (0 : Int) ≤ (p : Int) := by omega
    have hk := List.getElem?_eq_getElem (l := l) (i := p) (by rw [HNL.out]; exact hlt)
    obtain ⟨k, hke⟩ : ∃ k, l[p]'(by rw [HNL.out]; exact hlt) = k := ⟨_, rfl⟩
    rw [hke] at hk
    obtain ⟨gq, off, cq, hv, hgq, hlk⟩ := HS.out.q.at (by rw [HNL.out]; exact hlt)
    simp only [slv, Value.slice.injEq] at hv
    obtain ⟨rfl, _, rfl⟩ := hv
    have ck : wr.cell? ⟨gq, off + p, none⟩ = some (.int .i64 k) := by
     have h := hlk 0 (.int .i64 k) (by simp [intsV, hk])
     rwa [Nat.mul_one, Nat.add_zero] at h
    have HCK := Lib.hid ck
    have HK := Lib.hid hk
    have hgE : gq ∉ [E7] := fun hm => by rw [List.mem_singleton] at hm; exact (HS.out.qb gq rfl).2 hm
    have HGE := Lib.hid hgE
    clear hk hke hlk hgq ck hgE
    go_upto_region 10 with fail
    obtain ⟨w2, hw2⟩ : ∃ z, wr.drew = z := ⟨_, rfl⟩
    have f2 : Fr [] wr w2 := by rw [← hw2]; exact (Fr.refl [] wr).drew
    have HS2 := Lib.hid (HS.out.new f2)
    have HCK2 := Lib.hid (show w2.cell? ⟨gq, off + p, none⟩ = some (.int .i64 k) from f2.keep HCK.out (by simp))
    have HW2 := Lib.hid hw2
    clear f2 hw2
    refine wp_region_held_drew (S := fun w' => w'.cell? ⟨gq, off + p, none⟩ = some (.int .i64 k)) (by kernel_rfl) (by rw [HW2.out]; exact HCK2.out) (fun hHeld => ?_)
    rw [HW2.out] at hHeld ⊢
    refine tkZ 1 ?_
    refine tkZ 2 ?_
    refine tkZ 3 ?_
    refine tkZ 4 ?_
    refine rdZ 0 (fun K hK => ?_)
    split
    rotate_left
    ·rename_i hno
     exact absurd rfl hno
    refine ldY (load_all agg34 size34 (xs := two (slv tL) (slv tC)) rfl HS2.out.out.at) ?_
    refine hK.out _ _ (hHeld) (fun hHeld => ?_)
    clear hK K
    try simp only [Act.put, nrZ]
    refine rdZ 5 (fun K hK => ?_)
    go_simp
    refine (refHang (HS2.out.ls.row) HS2.out.cs.1 HS2.out.fit k 1 (.inr rfl)).mono ?_
    rintro e w3 ⟨tL', tC', rfl, f3, ho⟩
    have HO := Lib.hid ho
    have HF3 := Lib.hid f3
    clear ho f3
    refine hK.out _ _ (HF3.out.keep hHeld (by simp)) (fun hHeld => ?_)
    clear hK K
    try simp only [Act.put, nrZ]
    refine tkZ 6 ?_
    refine tkZ 7 ?_
    refine tkZ 8 ?_
    refine rdZ 9 (fun K hK => ?_)
    obtain ⟨w4, hst, hb_, hf_⟩ := store_all (t := 31) (two (slv tL') (slv tC')) size34 rfl (two_one _ _) (HS2.out.out.keep HF3.out (by simp)) rfl
    split
    rotate_left
    ·rename_i hno
     exact absurd rfl hno
    refine stY hst ?_
    clear hst
    have HS4 := Lib.hid (HS2.out.next HBS.out HF3.out HO.out (fit_hang HS2.out.fit k 1) hf_ hb_)
    have HCK4 := Lib.hid (hf_.keep hHeld HGE.out)
    clear hb_ hf_
    refine hK.out _ _ (HCK4.out) (fun hHeld => ?_)
    clear hK K
    try simp only [Act.put, nrZ]
    refine wpAnyH_done (by kernel_rfl) ?_ _
    clear hHeld
    go_wp2
    go_roundw
    case rel => exact ⟨_, p + 1, tL', tC', rfl, by go_num, by omega, by
     rw [List.take_add_one, HK.out]
     show ClS w B E7 l _ (rHangs R0 (l.take p ++ [k])) _ _ _
     rw [rHangs_snoc]
     exact HS4.out⟩
    case measure => simp [intOf]; omega
   ·have hpn : p = nl := by omega
    subst hpn
    have HSE := Lib.hid (show ClS w B E7 l (q1, l.length, q3) (rHangs R0 l) wr tL tC from by
     have h := HS.out
     rwa [List.take_of_length_le (by rw [HNL.out]; exact Nat.le_refl _)] at h)
    clear HS
    go_upto_region 11 with fail
    refine wp_region_lit ?_
    refine ldZ (load_all agg34 size34 (xs := two (slv tL) (slv tC)) rfl HSE.out.out.at) ?_
    refine wpList_plain rfl (fun K hK => ?_); go_simp; refine hK _ _ ?_; clear hK K
    try simp only [Act.put, nrZ]
    obtain ⟨w13, hst, hb_, hf_⟩ := store_all (t := 31) (two (slv tL) (slv tC)) size34 rfl (two_one _ _) HSE.out.res rfl
    refine stZ hst ?_
    clear hst
    iterate 2 (refine wpList_plain rfl (fun K hK => ?_); go_simp; refine hK _ _ ?_; clear hK K)
    refine wpList_nil ?_
    try simp only [Act.put, nrZ]
    have HR13 := Lib.hid hb_
    have HF13 := Lib.hid (HSE.out.fr.own1 (S := []) (B := 0) hf_ (by have := HBS.out; omega))
    have hnP : ∀ z ∈ [B + 1], ¬ (B + 2 ≤ z ∧ z ≠ E7) := fun z hz hp => by rw [List.mem_singleton] at hz; omega
    have HLL13 := Lib.hid ((HSE.out.ls.keep hf_ hnP).mono (P' := fun g => w.heap.size ≤ g) (fun g hg => by rw [HBS.out]; omega))
    have HCC13 := Lib.hid ((HSE.out.cs.keep hf_ hnP).mono (P' := fun g => w.heap.size ≤ g) (fun g hg => by rw [HBS.out]; omega))
    have HQ13 := Lib.hid (HSE.out.q.keepB hf_ (fun g hg hm => hnP g hm (HSE.out.qb g hg)))
    have HQB := Lib.hid HSE.out.qb
    clear hb_ hf_ hnP
    go_wp2
    have hl := load_var agg34 size34 (xs := two (slv tL) (slv tC)) rfl HR13.out.at
    refine bodyPost_ret (v := .tuple #[.agg (two (slv tL) (slv tC)).toArray, .slice q1 p q3, .int .i64 0]) (by simp [results, Tryz.results18, as_addr, hl]) rfl ?_
    rw [HRE.out, HLE.out]
    exact ⟨tL, tC, (q1, p, q3), rfl, by have h := HQ13.out; rw [HNL.out] at h ⊢; exact h, fun g hg => by rw [HBS.out]; have h := HQB.out g (by rw [HNL.out]; exact hg); omega, HF13.out, .inr ⟨HLL13.out, HCC13.out⟩⟩
def LS (w0 : World) (B : NB) (V : Nat) (N R : PN.Net) (G : Nat) (sL sC : Sli) (w : World) : Prop :=
 ∃ K : Nat → Prop, Live K B N G w ∧ K V ∧ Stay (fun z => K z ∧ z ≠ V) w sL sC R ∧ (∀ z, z < w0.heap.size → K z) ∧ Blk w V 31 (two (slv sL) (slv sC)) ∧ Fr [] w0 w ∧ w0.heap.size ≤ V
section
variable {w0 : World} {B : NB} {V : Nat} {N N' R R' : PN.Net} {G G' : Nat} {sL sC sL' sC' : Sli} {w w1 w2 : World}
theorem LS.fr (h : LS w0 B V N R G sL sC w) : Fr [] w0 w := by
 obtain ⟨K, _, _, _, _, _, h6, _⟩ := h
 exact h6
theorem LS.var (h : LS w0 B V N R G sL sC w) : Blk w V 31 (two (slv sL) (slv sC)) := by
 obtain ⟨K, _, _, _, _, h5, _⟩ := h
 exact h5
theorem LS.inv (h : LS w0 B V N R G sL sC w) : PN.Inv N := by
 obtain ⟨K, h1, _⟩ := h
 exact h1.inv
theorem LS.rows (h : LS w0 B V N R G sL sC w) : LRow w (slv sL) R.L ∧ CRow w (slv sC) (R.C.map emb) := by
 obtain ⟨K, _, _, h3, _⟩ := h
 exact h3.now
theorem LS.new (h : LS w0 B V N R G sL sC w) (f : Fr [] w w1) : LS w0 B V N R G sL sC w1 := by
 obtain ⟨K, h1, h2, h3, h4, h5, h6, h7⟩ := h
 exact ⟨K, h1.new f, h2, h3.step (FrK.new f), h4, h5.keep f (by simp), h6.step f, h7⟩
theorem LS.g (h : LS w0 B V N R G sL sC w) (hg : G ≤ G') : LS w0 B V N R G' sL sC w := by
 obtain ⟨K, h1, h2, h3, h4, h5, h6, h7⟩ := h
 exact ⟨K, h1.mono hg, h2, h3, h4, h5, h6, h7⟩
theorem LS.prog (h : LS w0 B V N R G sL sC w) {f : FuncId} {args : Array Value} {r : Ending} (hc : ∀ K, Live K B N G w → Calls Tryz.prog f args w fun e w' => e = r ∧ Live K B N' G' w' ∧ FrK K w w') :
  Calls Tryz.prog f args w fun e w' => e = r ∧ LS w0 B V N' R G' sL sC w' := by
 obtain ⟨K, h1, h2, h3, h4, h5, h6, h7⟩ := h
 refine (hc K h1).mono ?_
 rintro e w' ⟨rfl, l, fk⟩
 obtain ⟨S, fS, hS⟩ := fk.list
 exact ⟨rfl, K, l, h2, h3.step (fk.mono (fun x _ hx => hx.1)), h4, h5.keep fS (hS V h2), FrK.old h6 fk h4, h7⟩
theorem LS.ref (h : LS w0 B V N R G sL sC w) (f : Fr [] w w1) (ho : (sL' = sL ∧ sC' = sC ∧ R' = R) ∨ (RowO 122 5 (ElLO w.heap.size) w1 w.heap.size (slv sL') R'.L ∧ CRd w1 w.heap.size (slv sC') (R'.C.map emb)))
  (f2 : Fr [V] w1 w2) (hb : Blk w2 V 31 (two (slv sL') (slv sC'))) : LS w0 B V N R' G sL' sC' w2 := by
 obtain ⟨K, h1, h2, h3, h4, h5, h6, h7⟩ := h
 have hV := h5.lt
 have l1 := h1.more f
 refine ⟨_, l1.keep f2 (fun x hx => by rw [List.mem_singleton] at hx; subst hx; exact .inl h2), .inl h2, ?_, fun z hz => .inl (h4 z hz), hb, (h6.step f).trans f2 (fun x hx hl => by rw [List.mem_singleton] at hx; omega), h7⟩
 have fk : FrK (fun z => (K z ∨ w.heap.size ≤ z ∧ z < w1.heap.size) ∧ z ≠ V) w1 w2 := ⟨[V], f2, fun x hx _ hk => by rw [List.mem_singleton] at hx; exact hk.2 hx⟩
 refine Stay.step (w := w1) ?_ fk
 rcases ho with ⟨rfl, rfl, rfl⟩ | ⟨ho1, ho2⟩
 ·exact (h3.step (FrK.new f)).grow (fun z _ hz => ⟨.inl hz.1, hz.2⟩)
 ·exact stay_new ho1 ho2 (fun z hz hz' => ⟨.inr ⟨hz, hz'⟩, by omega⟩)
end
end Go.Proofs.YtgbmenfmaphciaaGreat
