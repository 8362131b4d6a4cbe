/-
  DERIVED: THE SHELF's CONTRACTS AT THIS DUMP, IN PLAIN WORDS (tools/lay-plain.mjs out of 'TryzIter.lean', which tools/lay-shelf.mjs wrote): THE SAME DECLARATIONS UNDER THE SAME NAMES: 'import', 'namespace', 'open', 'def', 'theorem' AND NOTHING ELSE: no command of the shelf's: FOR A HAND-IN. Each laying: the table of numbers ('.._ren') and one theorem, a field a fact of the dump's own or the kernel's comparison; each contract: ONE APPLICATION.
-/
/- Report: events in memory; ended; the keys of a map, sorted. -/
import Derived.Shelf.SlIterI.Nil
import Derived.Shelf.SlIterI.Sorted
import Derived.Shelf.SlIterI.Stops
import Derived.Ground.GgzProg
import Derived.Test.YtllmejkcohfbiaaGreatDoorProg
import Derived.Test.YtllmejkcohfbiaaGreatDoorR16
import Derived.Sort.OwnSorted
namespace Go.Proofs
open Go.Shelf
def Tryz.keysK_ren : Go.Shelf.Ren := ⟨fun | 7 => 75 | 10 => 108 | n => n, fun | 23 => 140 | 26 => 3 | 3 => 141 | 28 => 144 | 0 => 0 | 27 => 143 | 33 => 114 | 4 => 4 | n => n, fun | n => n⟩
theorem Tryz.keysK : Go.Proofs.SlLaysZI.n7 Tryz.prog Tryz.keysK_ren := {
  mixed := by kernel_rfl
  f7 := ⟨Tryz.f75.name, by decide, Tryz.func75.trans (congrArg some (by kernel_rfl))⟩
  f10 := ⟨Tryz.f108.name, by decide, Tryz.func108.trans (congrArg some (by kernel_rfl))⟩
  t0 := Tryz.underlying0
  a0 := Tryz.isAgg0
  z0 := Tryz.sizeOf0
  v0 := Tryz.zeroValue0
  t4 := Tryz.underlying4
  a4 := Tryz.isAgg4
  z4 := Tryz.sizeOf4
  v4 := Tryz.zeroValue4
  t23 := Tryz.underlying140
  a23 := Tryz.isAgg140
  z23 := Tryz.sizeOf140
  v23 := Tryz.zeroValue140
  t26 := Tryz.underlying3
  a26 := Tryz.isAgg3
  z26 := Tryz.sizeOf3
  v26 := Tryz.zeroValue3
  t27 := Tryz.underlying143
  a27 := Tryz.isAgg143
  z27 := Tryz.sizeOf143
  v27 := Tryz.zeroValue143
  t28 := Tryz.underlying144
  a28 := Tryz.isAgg144
  z28 := Tryz.sizeOf144
  v28 := Tryz.zeroValue144
  t33 := Tryz.underlying114
  a33 := Tryz.isAgg114
  z33 := Tryz.sizeOf114
  v33 := Tryz.zeroValue114 }
def Tryz.sortedK_ren : Go.Shelf.Ren := ⟨fun | 6 => 74 | 8 => 106 | 9 => 107 | 11 => 135 | 13 => 103 | 12 => 136 | 23 => 133 | 24 => 134 | 14 => 157 | 15 => 158 | 16 => 159 | 17 => 160 | 18 => 161 | 19 => 162 | 20 => 163 | 21 => 164 | 22 => 165 | 25 => 190 | 26 => 153 | 27 => 154 | 28 => 191 | 29 => 192 | 30 => 193 | 31 => 210 | n => n, fun | 26 => 3 | 28 => 144 | 24 => 41 | 0 => 0 | 3 => 3 | 37 => 179 | 48 => 197 | 50 => 38 | 4 => 4 | 40 => 213 | 39 => 212 | 45 => 217 | 5 => 5 | 9 => 9 | 51 => 232 | 55 => 159 | 57 => 271 | 58 => 272 | 33 => 114 | n => n, fun | n => n⟩
theorem Tryz.sortedK : Go.Proofs.SlLaysZI.n6 Tryz.prog Tryz.sortedK_ren := {
  mixed := by kernel_rfl
  f6 := ⟨Tryz.f74.name, by decide, Tryz.func74.trans (congrArg some (by kernel_rfl))⟩
  f8 := ⟨Tryz.f106.name, by decide, Tryz.func106.trans (congrArg some (by kernel_rfl))⟩
  f11 := ⟨Tryz.f135.name, by decide, Tryz.func135.trans (congrArg some (by kernel_rfl))⟩
  t0 := Tryz.underlying0
  a0 := Tryz.isAgg0
  z0 := Tryz.sizeOf0
  v0 := Tryz.zeroValue0
  t24 := Tryz.underlying41
  a24 := Tryz.isAgg41
  z24 := Tryz.sizeOf41
  v24 := Tryz.zeroValue41
  t26 := Tryz.underlying3
  a26 := Tryz.isAgg3
  z26 := Tryz.sizeOf3
  v26 := Tryz.zeroValue3
  t28 := Tryz.underlying144
  a28 := Tryz.isAgg144
  z28 := Tryz.sizeOf144
  v28 := Tryz.zeroValue144
  i26 := by kernel_rfl }
end Go.Proofs
namespace Go.Proofs.YtllmejkcohfbiaaGreatDoor
open Go.RowKit Go.Maps Go.Shelf Go.Sort Go.Lib
set_option linter.unusedVariables false
set_option linter.unusedSimpArgs false
set_option maxRecDepth 100000
set_option maxHeartbeats 8000000

/-- An event, its thirty cells. -/
structure Ev where
  kind : Int
  task : Int
  cK : Int
  cF1 : Int
  cF2 : Int
  cT1 : Int
  cT2 : Int
  cA : ByteArray
  cP : Int
  cD : Sl
  cM : Int
  cN : Int
  cR : Int
  cAt : Int
  err : Int
  done : Bool
  eTask : Int
  eKind : Int
  eErr : Int
  eN : Int
  eD : Sl
  eF1 : Int
  eF2 : Int
  eT1 : Int
  eT2 : Int
  eA : ByteArray
  eP : Int
  eAt : Int
  woke : Sl
  now : Int
def ev0 : Ev := ⟨0, 0, 0, 0, 0, 0, 0, ⟨#[]⟩, 0, (none, 0, 0), 0, 0, 0, 0, 0, false, 0, 0, 0, 0, (none, 0, 0), 0, 0, 0, 0, ⟨#[]⟩, 0, 0, (none, 0, 0), 0⟩
def evL (x : Ev) : List Value := [.int .i64 x.kind, .int .i64 x.task, .int .i64 x.cK, .int .i64 x.cF1, .int .i64 x.cF2, .int .i64 x.cT1, .int .i64 x.cT2, .string x.cA, .int .i64 x.cP, .slice x.cD.1 x.cD.2.1 x.cD.2.2, .int .i64 x.cM, .int .i64 x.cN, .int .i64 x.cR, .int .u64 x.cAt, .int .i64 x.err, .bool x.done, .int .i64 x.eTask, .int .i64 x.eKind, .int .i64 x.eErr, .int .i64 x.eN, .slice x.eD.1 x.eD.2.1 x.eD.2.2, .int .i64 x.eF1, .int .i64 x.eF2, .int .i64 x.eT1, .int .i64 x.eT2, .string x.eA, .int .i64 x.eP, .int .u64 x.eAt, .slice x.woke.1 x.woke.2.1 x.woke.2.2, .int .u64 x.now]
def Ev.ended (x : Ev) : Bool := (x.kind == 2) && ((x.err == 0) && x.done)
def EvAt (w : World) (g o : Nat) (x : Ev) : Prop := ∀ (j : Nat) u, (evL x)[j]? = some u → w.cell? ⟨g, o + j, none⟩ = some u
def EvRow (w : World) (v : Value) (xs : List Ev) : Prop :=
  (xs = [] ∧ ∃ a c, v = .slice a 0 c) ∨ ∃ g off cap, v = .slice (some ⟨g, off, none⟩) xs.length cap ∧ g < w.heap.size ∧ ∀ (i : Nat) x, xs[i]? = some x → EvAt w g (off + i * 30) x
theorem EvRow.new {w w' : World} {v : Value} {xs : List Ev} (h : EvRow w v xs) (f : Fr [] w w') : EvRow w' v xs := by
  rcases h with h | ⟨g, off, cap, rfl, h1, h2⟩
  · exact .inl h
  · exact .inr ⟨g, off, cap, rfl, Nat.lt_of_lt_of_le h1 f.size, fun i x hx j u hu => f.keep (h2 i x hx j u hu) (by simp)⟩
theorem EvRow.val {w : World} {v : Value} {xs : List Ev} (h : EvRow w v xs) : ∃ a c, v = .slice a xs.length c := by
  rcases h with ⟨rfl, a, c, rfl⟩ | ⟨g, off, cap, rfl, h1, h2⟩
  · exact ⟨a, c, rfl⟩
  · exact ⟨_, _, rfl⟩
theorem ended_any (x : Ev) (w : World) :
    Calls Tryz.prog 68 #[.agg #[.int .i64 x.kind, .int .i64 x.task, .int .i64 x.cK, .int .i64 x.cF1, .int .i64 x.cF2, .int .i64 x.cT1, .int .i64 x.cT2, .string x.cA, .int .i64 x.cP, .slice x.cD.1 x.cD.2.1 x.cD.2.2, .int .i64 x.cM, .int .i64 x.cN, .int .i64 x.cR, .int .u64 x.cAt, .int .i64 x.err, .bool x.done, .int .i64 x.eTask, .int .i64 x.eKind, .int .i64 x.eErr, .int .i64 x.eN, .slice x.eD.1 x.eD.2.1 x.eD.2.2, .int .i64 x.eF1, .int .i64 x.eF2, .int .i64 x.eT1, .int .i64 x.eT2, .string x.eA, .int .i64 x.eP, .int .u64 x.eAt, .slice x.woke.1 x.woke.2.1 x.woke.2.2, .int .u64 x.now]] w fun e w' => e = .returned (.bool x.ended) ∧ Fr [] w w' := by
  have hE : x.ended = ((x.kind == 2) && ((x.err == 0) && x.done)) := rfl
  have HE := Lib.hid hE
  clear hE
  cases h1 : (x.kind == 2) with
  | false =>
    rw [h1] at HE
    go_enter Tryz.func68, Tryz.ntmps68
    go_wp2
    go_ret
    exact ⟨by rw [HE.out]; rfl, (Fr.refl [] w).alloc _⟩
  | true =>
    rw [h1] at HE
    cases h2 : (x.err == 0) with
    | false =>
      rw [h2] at HE
      go_enter Tryz.func68, Tryz.ntmps68
      go_wp2
      go_ret
      exact ⟨by rw [HE.out]; rfl, (Fr.refl [] w).alloc _⟩
    | true =>
      rw [h2] at HE
      obtain ⟨d, hd⟩ : ∃ d, x.done = d := ⟨_, rfl⟩
      rw [hd] at HE ⊢
      clear hd
      go_enter Tryz.func68, Tryz.ntmps68
      go_wp2
      go_ret
      exact ⟨by rw [HE.out]; cases d <;> rfl, (Fr.refl [] w).alloc _⟩
/-- slices.Sort's two contracts, inside the fence that asks nothing. -/
theorem sortsK (m : Nat) : AnyZI.SortsIn Tryz.prog Tryz.sortedK_ren Fence.wide m :=
  ⟨fun blk off cap ss W hH hblk hsz => callsIn_wide.2 (Tryz.slices_Sort_int blk off cap ss W hH hblk hsz),
   fun p cap W => callsIn_wide.2 (Tryz.slices_Sort_int_none p cap W)⟩
theorem keys_any (mb : Option Nat) (W : World) : Calls Tryz.prog 75 #[.map mb] W fun e w' => e = .returned (.func (.func 108) #[] #[.pointer (some ⟨W.heap.size, 0, none⟩)]) ∧ w' = W.alloc (.cells #[.map mb] 140) :=
  callsIn_wide.1 (AnyZI.keys_in Tryz.keysK Fence.wide 5 trivial rfl mb W)
theorem sorted_any {H : Type} (b nn X : Nat) (D0 : DataW H) (R : Value → Option (DataW H × List MemPlace)) (W : World) (hX : X < W.heap.size) (hm : W.cell? ⟨X, 0, none⟩ = some (.map (some b))) (hown : W.ownsMap Tryz.prog 3 R b nn D0) (hmax : Maps.size D0 ≤ maxLen) (hbytes : Maps.size D0 * 8 ≤ 140737488355328) :
    Calls Tryz.prog 74 #[.func (.func 108) #[] #[.pointer (some ⟨X, 0, none⟩)]] W fun e w' => ∃ (v : Value) (ss : List Int), e = .returned v ∧ ss.Perm (intKeys D0) ∧
      w'.ownsRow W.heap.size 3 1 v ss.length ((ss.mergeSort (fun x y => decide (x ≤ y))).map encZ) ∧ (v = .slice none 0 0 ↔ ss = []) ∧ Below W.heap.size W w' := by
  have hseq : SeqGives Fence.wide 2 Tryz.prog 108 #[.pointer (some ⟨X, 0, none⟩)] encZ (fun ss => ss.Perm (intKeys D0)) (Maps.size D0) W :=
    AnyZI.keys_gives (ρ := Tryz.keysK_ren) { Tryz.keysK with } Fence.wide _ trivial rfl (by omega) X b nn D0 W hX hm hown
  exact callsIn_wide.1 (AnyZI.sorted_in Tryz.sortedK Fence.wide 5 trivial trivial trivial trivial rfl (by omega) (sortsK _) (enters_of Tryz.func107 (by kernel_rfl) rfl) 108 #[.pointer (some ⟨X, 0, none⟩)] trivial (enters_of Tryz.func108 (by kernel_rfl) rfl) _ _ hmax hbytes W hseq)
end Go.Proofs.YtllmejkcohfbiaaGreatDoor
