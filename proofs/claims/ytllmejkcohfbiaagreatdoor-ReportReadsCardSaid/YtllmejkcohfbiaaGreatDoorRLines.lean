/- Contract of strings.Lines and of the function that it hands back, which keeps what is left of the string in a cell of its own. -/
import Derived.Test.YtllmejkcohfbiaaGreatDoorR15
import Derived.Test.YtllmejkcohfbiaaGreatDoorBox
import Derived.Test.YtllmejkcohfbiaaGreatDoorShelf
import Derived.Lib.Hide
import Derived.Lib.IndexLaws
import Derived.IntWalk
import Derived.Lib.IndexBytes
import Derived.Lib.Split
import Derived.Shelf.Abstract
import Derived.Shelf.RegionOpen
import Derived.OwnWalkIn
import Derived.TacticsInMore
import Derived.LoopNIn
import Derived.LoopIn
import Derived.RegionIn
namespace Go.Proofs.YtllmejkcohfbiaaGreatDoor
open Go.RowKit Go.Shelf
set_option linter.unusedVariables false
set_option maxRecDepth 100000
set_option maxHeartbeats 4000000

theorem lines_none : ∀ (l cur : List UInt8), Lib.indexByte l 10 = -1 → linesGo cur l = if cur ++ l = [] then [] else [cur ++ l]
  | [], cur, _ => by rw [linesGo]; simp
  | b :: l, cur, h => by
    unfold Lib.indexByte at h
    split at h
    · cases h
    · rename_i hb
      split at h
      · rename_i h1
        have hb' : b ≠ 10 := by simpa using hb
        rw [linesGo, if_neg hb', lines_none l (cur ++ [b]) (by simpa using h1)]
        simp
      · have := Lib.indexByte_ge l 10
        omega
theorem lines_some : ∀ (l cur : List UInt8) (o : Nat), Lib.indexByte l 10 = o → linesGo cur l = (cur ++ l.take (o + 1)) :: linesGo [] (l.drop (o + 1))
  | [], cur, o, h => by simp [Lib.indexByte] at h
  | b :: l, cur, o, h => by
    unfold Lib.indexByte at h
    split at h
    · rename_i hb
      have hb' : b = 10 := by simpa using hb
      obtain rfl : o = 0 := by omega
      subst hb'
      rw [linesGo, if_pos rfl]
      simp
    · rename_i hb
      split at h
      · omega
      · rename_i h1
        have hb' : b ≠ 10 := by simpa using hb
        have h2 := Lib.indexByte_ge l 10
        have h3 : Lib.indexByte l 10 ≠ -1 := by simpa using h1
        obtain ⟨o', rfl⟩ : ∃ o', o = o' + 1 := ⟨o - 1, by omega⟩
        rw [linesGo, if_neg hb', lines_some l (cur ++ [b]) o' (by omega)]
        simp

theorem lines_any (s : ByteArray) (w : World) :
    Calls Tryz.prog 93 #[.string s] w fun e w' => e = .returned (.func (.func 117) #[] #[.pointer (some ⟨w.heap.size, 0, none⟩)]) ∧ w' = w.alloc (.cells #[.string s] 9) := by
  have hmf : ∀ (fn : Fn) (first cap : Array Value) (w : World), (Instr.makeFunc fn first cap).run Tryz.prog w = .ok (.func fn first cap) w := fun _ _ _ _ => rfl
  go_enter Tryz.func93, Tryz.ntmps93
  go_wp2
  go_ret
  exact ⟨rfl, rfl⟩

attribute [local go_sem] Oper.semAt_some
theorem bs_of (b : ByteArray) : bs b.data.toList = b := by
  cases b
  simp [bs]
theorem grownBy_drew' {W W' : World} {row : Option Nat} (h : W.grownBy W' row) : W.grownBy W'.drew row := ⟨h.os, h.tape, h.output, h.size, h.block⟩
/-- What is left lies in block X. -/
def LeftAt (W : World) (X : Nat) (rest : List UInt8) : Prop := W.heap[X]? = some (.cells #[.string (bs rest)] 9 (0, 0))
theorem LeftAt.c {W : World} {X : Nat} {r : List UInt8} (h : LeftAt W X r) : W.cell? ⟨X, 0, none⟩ = some (.string (bs r)) := by simp [World.cell?, show W.heap[X]? = _ from h]
theorem LeftAt.fz {W : World} {X : Nat} {r : List UInt8} (h : LeftAt W X r) : W.frozen? ⟨X, 0, none⟩ = false := by simp [World.frozen?, show W.heap[X]? = _ from h]
theorem LeftAt.set {W : World} {X : Nat} {r : List UInt8} (h : LeftAt W X r) (r' : List UInt8) : LeftAt (W.setCell ⟨X, 0, none⟩ (.string (bs r'))) X r' := by
  unfold LeftAt at *
  show (W.heap.modify X _)[X]? = _
  rw [Array.getElem?_modify, if_pos rfl, h]
  rfl
def leftMeas (X : Nat) (W : World) : Nat := match W.cell? ⟨X, 0, none⟩ with
  | some (.string b) => b.size
  | _ => 0
theorem LeftAt.meas {W : World} {X : Nat} {r : List UInt8} (h : LeftAt W X r) : leftMeas X W = r.length := by
  unfold leftMeas
  rw [h.c]
  exact bs_size r

theorem lines1_in (n : Nat) (hn : 1 ≤ n) (lp X : Nat) (s : List UInt8) (hs : s.length ≤ 100000) (J Jx : List (List UInt8) → World → Prop)
    (hY : ∀ pre x W, J pre W → pre ++ [x] <+: linesGo [] s → YieldAt Fence.wide (n - 1) Tryz.prog lp #[.string (bs x)] W fun e W' =>
      (e = .returned (.bool true) ∧ J (pre ++ [x]) W' ∧ W'.heap[X]? = W.heap[X]?) ∨ (e = .returned (.bool false) ∧ Jx (pre ++ [x]) W'))
    (W : World) (hJ : AbX X J) (h0 : LeftAt W X s) (hj : J [] W) :
    CallsIn Fence.wide n Tryz.prog 117 #[.func (.yield lp) #[] #[], .pointer (some ⟨X, 0, none⟩)] W fun e W' => (∃ v, e = .returned v) ∧
      ((∃ ys, ys = linesGo [] s ∧ J ys W') ∨ (∃ pre, pre <+: linesGo [] s ∧ Jx pre W')) := by
  have HY := Lib.hid hY
  have HJ := Lib.hid hJ
  clear hY hJ
  refine callsIn_of_wp Tryz.func117 rfl trivial ?_ rfl
  simp only [Tryz.ntmps117, List.size_toArray, List.length_cons, List.length_nil, Nat.reduceAdd, Nat.reduceSub, Array.replicate_succ, Array.replicate_zero, List.push_toArray, List.append_toArray, List.nil_append, List.cons_append]
  gi_wp2
  gi_loopw [3, 4] (fun _ _ wr => ∃ (pre : List (List UInt8)) (rest : List UInt8), linesGo [] s = pre ++ linesGo [] rest ∧ rest.length ≤ s.length ∧ LeftAt wr X rest ∧ J pre wr)
    (fun _ _ wr => leftMeas X wr)
  case atStart => exact ⟨[], s, by simp, Nat.le_refl _, h0, hj⟩
  case round =>
    rename_i wr
    obtain ⟨pre, rest, hl, hle, hx, hJs⟩ := hrel
    have c0 := hx.c
    have z0 := hx.fz
    cases rest with
    | nil =>
      have hz : ¬ 0 < (bs []).size := by rw [bs_size]; simp
      gi_wp2
      go_end0
      refine ⟨⟨_, rfl⟩, .inl ⟨pre, ?_, hJs⟩⟩
      rw [hl]
      simp [linesGo]
    | cons b r =>
      obtain ⟨t, ht⟩ : ∃ t, t = bs (b :: r) := ⟨_, rfl⟩
      have hsz : t.size = r.length + 1 := by rw [ht, bs_size]; simp
      have hpos : 0 < t.size := by omega
      have hmax : t.size ≤ 100000 := by rw [hsz]; simp only [List.length_cons] at hle; omega
      rw [← ht] at c0
      have hdl : t.data.toList = b :: r := by rw [ht, bs_list]
      have HI := Tryz.strings_IndexByte t 10
      simp only [hdl, show (Int.toNat 10).toUInt8 = 10 from rfl] at HI
      have HX := Lib.hid hx
      have HL := Lib.hid hl
      have HS := Lib.hid hsz
      have HD := Lib.hid hdl
      have HB := Lib.hid ht
      clear hx hl hsz hdl ht
      by_cases hi : Lib.indexByte (b :: r) 10 = -1
      · have hln := lines_none (b :: r) [] hi
        simp only [List.nil_append, reduceCtorEq, if_false] at hln
        have HLn := Lib.hid hln
        rw [hi] at HI
        have HIn := Lib.hid HI
        have hj2 : J pre (wr.setCell ⟨X, 0, none⟩ (.string { data := #[] })) := HJ.out pre wr _ (some X) hJs (grownBy_setCell' wr X _) (fun r e => by cases e; rfl)
        have HX2 := Lib.hid (show LeftAt (wr.setCell ⟨X, 0, none⟩ (.string { data := #[] })) X [] from HX.out.set [])
        obtain ⟨fn, tmps, assign, body, hy, hR⟩ := HY.out pre (b :: r) _ hj2 (by rw [HL.out, HLn.out]; exact List.prefix_refl _)
        rw [← HB.out] at hy
        clear hi hln HI hj2
        gi_wp2_with (first | (refine ⟨trivial, ?_⟩; gi_at_call 118; refine (callsIn_wide.2 (HIn.out _)).mono ?_; rintro e w' ⟨rfl, rfl⟩))
        refine hR.mono ?_
        rintro e W3 (⟨rfl, hj3, hk3⟩ | ⟨rfl, hjx3⟩)
        · have hx3 : LeftAt W3 X [] := hk3.trans HX2.out
          have HX3 := Lib.hid hx3
          clear hx3 hk3
          gi_wp2
          go_roundw
          case rel => exact ⟨pre ++ [b :: r], [], by rw [HL.out, HLn.out]; simp [linesGo], by simp, HX3.out, hj3⟩
          case measure => rw [HX3.out.meas, HX.out.meas]; simp
        · gi_wp2
          refine bodyPost_ret (results_none rfl _ _ _) rfl ?_
          exact ⟨⟨_, rfl⟩, .inr ⟨pre ++ [b :: r], by rw [HL.out, HLn.out]; exact List.prefix_refl _, hjx3⟩⟩
      · have hge := Lib.indexByte_ge (b :: r) 10
        obtain ⟨o, ho⟩ : ∃ o : Nat, Lib.indexByte (b :: r) 10 = o := ⟨(Lib.indexByte (b :: r) 10).toNat, by omega⟩
        have hol : o < t.size := by
          have h1 := (Lib.indexByte_some ho).1
          have h2 := (List.getElem?_eq_some_iff.1 h1).1
          rw [HS.out]
          simpa using h2
        have hln := lines_some (b :: r) [] o ho
        rw [List.nil_append] at hln
        have HLn := Lib.hid hln
        rw [ho] at HI
        have HIn := Lib.hid HI
        clear hi hln HI hge ho
        have b0 : (0 : Int) ≤ (o : Int) := Int.natCast_nonneg _
        have b1 : (0 : Int) ≤ (o : Int) + 1 := by omega
        have b2 : (o : Int) + 1 ≤ (t.size : Nat) := by omega
        have b3 : ((o : Int) + 1).toNat = o + 1 := by omega
        have b4 : IntKind.i64.wrap ((o : Int) + 1) = (o : Int) + 1 := IntWalk.i64_in _ (by omega)
        have e1 : t.extract 0 (o + 1) = bs ((b :: r).take (o + 1)) := by
          rw [← bs_of (t.extract 0 (o + 1)), Lib.extract_from_zero, HD.out]
        have e2 : t.extract (o + 1) t.size = bs ((b :: r).drop (o + 1)) := by
          rw [← bs_of (t.extract (o + 1) t.size), Lib.extract_to_end, HD.out]
        have hj2 : J pre ((wr.setCell ⟨X, 0, none⟩ (.string (t.extract (o + 1) t.size))).drew) := HJ.out pre wr _ (some X) hJs (grownBy_drew' (grownBy_setCell' wr X _)) (fun r e => by cases e; rfl)
        have HX2 := Lib.hid (show LeftAt ((wr.setCell ⟨X, 0, none⟩ (.string (t.extract (o + 1) t.size))).drew) X ((b :: r).drop (o + 1)) from by rw [e2]; exact HX.out.set ((b :: r).drop (o + 1)))
        obtain ⟨fn, tmps, assign, body, hy, hR⟩ := HY.out pre ((b :: r).take (o + 1)) _ hj2 (by rw [HL.out, HLn.out]; exact ⟨linesGo [] ((b :: r).drop (o + 1)), by simp⟩)
        rw [← e1] at hy
        clear hj2 e1 e2
        gi_wp2_with (first | (refine ⟨trivial, ?_⟩; gi_at_call 118; refine (callsIn_wide.2 (HIn.out _)).mono ?_; rintro e w' ⟨rfl, rfl⟩))
        gi_region
        all_goals gi_wp2
        all_goals (
          refine hR.mono ?_
          rintro e W3 (⟨rfl, hj3, hk3⟩ | ⟨rfl, hjx3⟩)
          · have hx3 : LeftAt W3 X ((b :: r).drop (o + 1)) := hk3.trans HX2.out
            have HX3 := Lib.hid hx3
            clear hx3 hk3
            gi_wp2
            go_roundw
            case rel => exact ⟨pre ++ [(b :: r).take (o + 1)], (b :: r).drop (o + 1), by rw [HL.out, HLn.out]; simp, by rw [List.length_drop]; omega, HX3.out, hj3⟩
            case measure => rw [HX3.out.meas, HX.out.meas, List.length_drop]; simp; omega
          · gi_wp2
            refine bodyPost_ret (results_none rfl _ _ _) rfl ?_
            exact ⟨⟨_, rfl⟩, .inr ⟨pre ++ [(b :: r).take (o + 1)], by rw [HL.out, HLn.out]; exact ⟨linesGo [] ((b :: r).drop (o + 1)), by simp⟩, hjx3⟩⟩)
theorem lines_seq (n : Nat) (hn : 1 ≤ n) (X : Nat) (s : List UInt8) (hs : s.length ≤ 100000) (w : World) (h : LeftAt w X s) (hX : X < w.heap.size) :
    SeqBox Fence.wide n Tryz.prog 117 #[.pointer (some ⟨X, 0, none⟩)] (fun x => #[.string (bs x)]) (fun ys => ys = linesGo [] s) (fun pre => pre <+: linesGo [] s) (fun pre x => pre ++ [x] <+: linesGo [] s) X w := fun lp J Jx W hW hJ hY h0 =>
  lines1_in n hn lp X s hs J Jx hY W hJ ((hW.block X hX).trans h) h0
end Go.Proofs.YtllmejkcohfbiaaGreatDoor
