/- Report: events in memory; ended; the keys of a map, sorted. -/
import Derived.Test.YtllmejkcohfbiaaGreatDoorR16
import Derived.Test.YtllmejkcohfbiaaGreatDoorIter
import Derived.Sort.OwnSorted
namespace Go.Proofs.YtllmejkcohfbiaaGreatDoor
open Go.RowKit Go.Maps Go.Shelf Go.Sort Go.Lib
set_option linter.unusedVariables false
set_option linter.unusedSimpArgs false
set_option maxRecDepth 100000
set_option maxHeartbeats 8000000

/-- An event, its thirty cells. -/
structure Ev where
  kind : Int
  task : Int
  cK : Int
  cF1 : Int
  cF2 : Int
  cT1 : Int
  cT2 : Int
  cA : ByteArray
  cP : Int
  cD : Sl
  cM : Int
  cN : Int
  cR : Int
  cAt : Int
  err : Int
  done : Bool
  eTask : Int
  eKind : Int
  eErr : Int
  eN : Int
  eD : Sl
  eF1 : Int
  eF2 : Int
  eT1 : Int
  eT2 : Int
  eA : ByteArray
  eP : Int
  eAt : Int
  woke : Sl
  now : Int
def ev0 : Ev := ⟨0, 0, 0, 0, 0, 0, 0, ⟨#[]⟩, 0, (none, 0, 0), 0, 0, 0, 0, 0, false, 0, 0, 0, 0, (none, 0, 0), 0, 0, 0, 0, ⟨#[]⟩, 0, 0, (none, 0, 0), 0⟩
def evL (x : Ev) : List Value := [.int .i64 x.kind, .int .i64 x.task, .int .i64 x.cK, .int .i64 x.cF1, .int .i64 x.cF2, .int .i64 x.cT1, .int .i64 x.cT2, .string x.cA, .int .i64 x.cP, .slice x.cD.1 x.cD.2.1 x.cD.2.2, .int .i64 x.cM, .int .i64 x.cN, .int .i64 x.cR, .int .u64 x.cAt, .int .i64 x.err, .bool x.done, .int .i64 x.eTask, .int .i64 x.eKind, .int .i64 x.eErr, .int .i64 x.eN, .slice x.eD.1 x.eD.2.1 x.eD.2.2, .int .i64 x.eF1, .int .i64 x.eF2, .int .i64 x.eT1, .int .i64 x.eT2, .string x.eA, .int .i64 x.eP, .int .u64 x.eAt, .slice x.woke.1 x.woke.2.1 x.woke.2.2, .int .u64 x.now]
def Ev.ended (x : Ev) : Bool := (x.kind == 2) && ((x.err == 0) && x.done)
def EvAt (w : World) (g o : Nat) (x : Ev) : Prop := ∀ (j : Nat) u, (evL x)[j]? = some u → w.cell? ⟨g, o + j, none⟩ = some u
def EvRow (w : World) (v : Value) (xs : List Ev) : Prop :=
  (xs = [] ∧ ∃ a c, v = .slice a 0 c) ∨ ∃ g off cap, v = .slice (some ⟨g, off, none⟩) xs.length cap ∧ g < w.heap.size ∧ ∀ (i : Nat) x, xs[i]? = some x → EvAt w g (off + i * 30) x
theorem EvRow.new {w w' : World} {v : Value} {xs : List Ev} (h : EvRow w v xs) (f : Fr [] w w') : EvRow w' v xs := by
  rcases h with h | ⟨g, off, cap, rfl, h1, h2⟩
  · exact .inl h
  · exact .inr ⟨g, off, cap, rfl, Nat.lt_of_lt_of_le h1 f.size, fun i x hx j u hu => f.keep (h2 i x hx j u hu) (by simp)⟩
theorem EvRow.val {w : World} {v : Value} {xs : List Ev} (h : EvRow w v xs) : ∃ a c, v = .slice a xs.length c := by
  rcases h with ⟨rfl, a, c, rfl⟩ | ⟨g, off, cap, rfl, h1, h2⟩
  · exact ⟨a, c, rfl⟩
  · exact ⟨_, _, rfl⟩
theorem ended_any (x : Ev) (w : World) :
    Calls Tryz.prog 68 #[.agg #[.int .i64 x.kind, .int .i64 x.task, .int .i64 x.cK, .int .i64 x.cF1, .int .i64 x.cF2, .int .i64 x.cT1, .int .i64 x.cT2, .string x.cA, .int .i64 x.cP, .slice x.cD.1 x.cD.2.1 x.cD.2.2, .int .i64 x.cM, .int .i64 x.cN, .int .i64 x.cR, .int .u64 x.cAt, .int .i64 x.err, .bool x.done, .int .i64 x.eTask, .int .i64 x.eKind, .int .i64 x.eErr, .int .i64 x.eN, .slice x.eD.1 x.eD.2.1 x.eD.2.2, .int .i64 x.eF1, .int .i64 x.eF2, .int .i64 x.eT1, .int .i64 x.eT2, .string x.eA, .int .i64 x.eP, .int .u64 x.eAt, .slice x.woke.1 x.woke.2.1 x.woke.2.2, .int .u64 x.now]] w fun e w' => e = .returned (.bool x.ended) ∧ Fr [] w w' := by
  have hE : x.ended = ((x.kind == 2) && ((x.err == 0) && x.done)) := rfl
  have HE := Lib.hid hE
  clear hE
  cases h1 : (x.kind == 2) with
  | false =>
    rw [h1] at HE
    go_enter Tryz.func68, Tryz.ntmps68
    go_wp2
    go_ret
    exact ⟨by rw [HE.out]; rfl, (Fr.refl [] w).alloc _⟩
  | true =>
    rw [h1] at HE
    cases h2 : (x.err == 0) with
    | false =>
      rw [h2] at HE
      go_enter Tryz.func68, Tryz.ntmps68
      go_wp2
      go_ret
      exact ⟨by rw [HE.out]; rfl, (Fr.refl [] w).alloc _⟩
    | true =>
      rw [h2] at HE
      obtain ⟨d, hd⟩ : ∃ d, x.done = d := ⟨_, rfl⟩
      rw [hd] at HE ⊢
      clear hd
      go_enter Tryz.func68, Tryz.ntmps68
      go_wp2
      go_ret
      exact ⟨by rw [HE.out]; cases d <;> rfl, (Fr.refl [] w).alloc _⟩
/-- slices.Sort's two contracts, inside the fence that asks nothing. -/
theorem sortsK (m : Nat) : AnyZI.SortsIn Tryz.prog Tryz.sortedK_ren Fence.wide m :=
  ⟨fun blk off cap ss W hH hblk hsz => callsIn_wide.2 (Tryz.slices_Sort_int blk off cap ss W hH hblk hsz),
   fun p cap W => callsIn_wide.2 (Tryz.slices_Sort_int_none p cap W)⟩
theorem keys_any (mb : Option Nat) (W : World) : Calls Tryz.prog 75 #[.map mb] W fun e w' => e = .returned (.func (.func 108) #[] #[.pointer (some ⟨W.heap.size, 0, none⟩)]) ∧ w' = W.alloc (.cells #[.map mb] 140) :=
  callsIn_wide.1 (AnyZI.keys_in Tryz.keysK Fence.wide 5 trivial rfl mb W)
theorem sorted_any {H : Type} (b nn X : Nat) (D0 : DataW H) (R : Value → Option (DataW H × List MemPlace)) (W : World) (hX : X < W.heap.size) (hm : W.cell? ⟨X, 0, none⟩ = some (.map (some b))) (hown : W.ownsMap Tryz.prog 3 R b nn D0) (hmax : Maps.size D0 ≤ maxLen) (hbytes : Maps.size D0 * 8 ≤ 140737488355328) :
    Calls Tryz.prog 74 #[.func (.func 108) #[] #[.pointer (some ⟨X, 0, none⟩)]] W fun e w' => ∃ (v : Value) (ss : List Int), e = .returned v ∧ ss.Perm (intKeys D0) ∧
      w'.ownsRow W.heap.size 3 1 v ss.length ((ss.mergeSort (fun x y => decide (x ≤ y))).map encZ) ∧ (v = .slice none 0 0 ↔ ss = []) ∧ Below W.heap.size W w' := by
  have hseq : SeqGives Fence.wide 2 Tryz.prog 108 #[.pointer (some ⟨X, 0, none⟩)] encZ (fun ss => ss.Perm (intKeys D0)) (Maps.size D0) W :=
    AnyZI.keys_gives (ρ := Tryz.keysK_ren) { Tryz.keysK with } Fence.wide _ trivial rfl (by omega) X b nn D0 W hX hm hown
  exact callsIn_wide.1 (AnyZI.sorted_in Tryz.sortedK Fence.wide 5 trivial trivial trivial trivial rfl (by omega) (sortsK _) (enters_of Tryz.func107 (by kernel_rfl) rfl) 108 #[.pointer (some ⟨X, 0, none⟩)] trivial (enters_of Tryz.func108 (by kernel_rfl) rfl) _ _ hmax hbytes W hseq)
end Go.Proofs.YtllmejkcohfbiaaGreatDoor
