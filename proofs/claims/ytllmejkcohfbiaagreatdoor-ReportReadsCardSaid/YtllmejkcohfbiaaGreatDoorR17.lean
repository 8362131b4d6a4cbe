/- Report: vtime's Parse; a line read as a task that waits. -/
import Derived.Test.YtllmejkcohfbiaaGreatDoorRSpl
import Derived.Lib.ParseIntBCases
namespace Go.Proofs.YtllmejkcohfbiaaGreatDoor
open Go.RowKit Go.Shelf Go.Sort Go.Lib
set_option linter.unusedVariables false
set_option linter.unusedSimpArgs false
set_option maxRecDepth 100000
set_option maxHeartbeats 8000000

theorem toList_bs (l : List UInt8) : (bs l).toList = l := by
  rw [ByteArray.toList_eq, bs_list]
/-- A string that spells no uint64: an error. -/
theorem pu_bad (l : List UInt8) (hl : l.length ≤ 100000) (h : ∀ u, Lib.parseUintB 64 l ≠ .ok u) (w : World) (he : EnvR w) :
    Calls Tryz.prog 121 #[.string (bs l), .int .i64 10, .int .i64 64] w fun e w' => ∃ (v : Int) (N : Nat), e = .returned (.tuple #[.int .u64 v, .iface 251 (.pointer (some ⟨N, 0, none⟩))]) ∧ Fr [] w w' := by
  obtain ⟨tp, p, h1⟩ := he.syn
  obtain ⟨tq, q, h2⟩ := he.ran
  have hs : (bs l).size ≤ 281474976710656 := by rw [bs_size]; omega
  cases hc : Lib.parseUintB 64 l with
  | ok u => exact absurd hc (h u)
  | range => exact (Tryz.strconv_ParseUint_10_at64_range_var (bs l) hs (by rw [bs_list]; exact hc) tq q w h2).mono fun e w' ⟨N, h1, _, _, h4⟩ => ⟨_, N, h1, Fr.of_below h4⟩
  | _ => exact (Tryz.strconv_ParseUint_10_at64_syntax_var (bs l) hs (by rw [bs_list]; exact hc) tp p w h1).mono fun e w' ⟨N, h1, _, _, h4⟩ => ⟨_, N, h1, Fr.of_below h4⟩
def pT (l : List UInt8) : Option Nat :=
  if l = [110, 101, 118, 101, 114] then some 18446744073709551615 else
  match Lib.parseUintB 64 l with
  | .ok u => if timeB u = l then some u else none
  | _ => none
def pV (l : List UInt8) : Int := ((pT l).getD 0 : Nat)
def pE (l : List UInt8) : Int := if (pT l).isSome then 0 else 6
theorem pV_rng (l : List UInt8) : 0 ≤ pV l ∧ pV l < 18446744073709551616 := by
  unfold pV pT
  split
  · simp
  · split
    · rename_i u h
      have := Lib.parseUintB_le h
      split
      · simp only [Option.getD_some]
        omega
      · simp
    · simp
theorem ret_pp {l : List UInt8} {a b : Int} (h : pV l = a) (h' : pE l = b) : Ending.returned (.tuple #[.int .u64 a, .int .i64 b]) = .returned (.tuple #[.int .u64 (pV l), .int .i64 (pE l)]) := by rw [h, h']
theorem timeParse_any (l : List UInt8) (hl : l.length ≤ 100000) (w : World) (he : EnvR w) :
    Calls Tryz.prog 96 #[.string (bs l)] w fun e w' => e = .returned (.tuple #[.int .u64 (pV l), .int .i64 (pE l)]) ∧ Fr [] w w' := by
  have hmax : (bs l).size ≤ 9223372036854775806 := by rw [bs_size]; omega
  by_cases hn : l = [110, 101, 118, 101, 114]
  · have h0 : ((bs l).toList == [110, 101, 118, 101, 114]) = true := by rw [toList_bs, hn]; rfl
    have hv := Lib.hid (show pV l = 18446744073709551615 from by unfold pV pT; rw [if_pos hn]; rfl)
    have hE := Lib.hid (show pE l = 0 from by unfold pE pT; rw [if_pos hn]; rfl)
    clear hn
    go_enter Tryz.func96, Tryz.ntmps96
    go_wp2
    go_ret2
    exact ⟨ret_pp hv.out hE.out, Fr.refl _ _⟩
  · have h0 : ((bs l).toList == [110, 101, 118, 101, 114]) = false := by rw [toList_bs, beq_eq_false_iff_ne]; exact hn
    by_cases h : ∃ u, Lib.parseUintB 64 l = .ok u
    · obtain ⟨u, h⟩ := h
      have hu64 : u < 18446744073709551616 := by have := Lib.parseUintB_le h; omega
      have HPU := Lib.hid (Tryz.strconv_ParseUint_10_at64_ok (bs l) hmax u (by rw [bs_list]; exact h) w)
      have HTX := Lib.hid (fun W (f : Fr [] w W) => timeText_any u hu64 W (tab_new he.tab f))
      by_cases ht : timeB u = l
      · have h2 : ((bs (timeB u)).toList == (bs l).toList) = true := by rw [toList_bs, toList_bs, beq_iff_eq]; exact ht
        have hv := Lib.hid (show pV l = u from by unfold pV pT; rw [if_neg hn, h]; simp only [if_pos ht]; rfl)
        have hE := Lib.hid (show pE l = 0 from by unfold pE pT; rw [if_neg hn, h]; simp only [if_pos ht]; rfl)
        clear hn h ht he hu64
        go_enter Tryz.func96, Tryz.ntmps96
        go_wp2_with fail
        refine HPU.out.mono ?_
        rintro e w1 ⟨rfl, hb⟩
        have f1 : Fr [] w w1 := by rcases hb with rfl | rfl; exact Fr.refl _ _; exact Fr.of_below (Lib.bytesWorld_below _ _ _)
        clear hb
        go_wp2_with fail
        refine (HTX.out _ f1).mono ?_
        rintro e w2 ⟨rfl, f2⟩
        go_wp2
        go_ret2
        exact ⟨ret_pp hv.out hE.out, f1.step f2⟩
      · have h2 : ((bs (timeB u)).toList == (bs l).toList) = false := by rw [toList_bs, toList_bs, beq_eq_false_iff_ne]; exact ht
        have hv := Lib.hid (show pV l = 0 from by unfold pV pT; rw [if_neg hn, h]; simp only [if_neg ht]; rfl)
        have hE := Lib.hid (show pE l = 6 from by unfold pE pT; rw [if_neg hn, h]; simp only [if_neg ht]; rfl)
        clear hn h ht he hu64
        go_enter Tryz.func96, Tryz.ntmps96
        go_wp2_with fail
        refine HPU.out.mono ?_
        rintro e w1 ⟨rfl, hb⟩
        have f1 : Fr [] w w1 := by rcases hb with rfl | rfl; exact Fr.refl _ _; exact Fr.of_below (Lib.bytesWorld_below _ _ _)
        clear hb
        go_wp2_with fail
        refine (HTX.out _ f1).mono ?_
        rintro e w2 ⟨rfl, f2⟩
        go_wp2
        go_ret2
        exact ⟨ret_pp hv.out hE.out, f1.step f2⟩
    · have h' : ∀ u, Lib.parseUintB 64 l ≠ .ok u := fun u hu => h ⟨u, hu⟩
      have hp : pT l = none := by
        unfold pT
        rw [if_neg hn]
        split
        · rename_i u hu
          exact absurd hu (h' u)
        · rfl
      have HPU := Lib.hid (pu_bad l hl h' w he)
      have hv := Lib.hid (show pV l = 0 from by unfold pV; rw [hp]; rfl)
      have hE := Lib.hid (show pE l = 6 from by unfold pE; rw [hp]; rfl)
      clear hn h h' hp he
      go_enter Tryz.func96, Tryz.ntmps96
      go_wp2_with fail
      refine HPU.out.mono ?_
      rintro e w1 ⟨v, N, rfl, f1⟩
      go_wp2
      go_ret2
      exact ⟨ret_pp hv.out hE.out, f1⟩
def bkRead (ws : List (List UInt8)) : Bk := ⟨valB (ws.getD 0 []), idxB whyWs (ws.getD 1 []), pV (ws.getD 3 [])⟩
/-- A block of a task that waits. -/
def BkAt (W : World) (b : Nat) (x : Bk) : Prop := W.heap[b]? = some (.cells #[.int .i64 x.t, .int .i64 x.why, .int .u64 x.till] 67)
theorem BkAt.c0 {W : World} {b : Nat} {x : Bk} (h : BkAt W b x) : W.cell? ⟨b, 0, none⟩ = some (.int .i64 x.t) := by simp [World.cell?, show W.heap[b]? = _ from h]
theorem BkAt.c1 {W : World} {b : Nat} {x : Bk} (h : BkAt W b x) : W.cell? ⟨b, 1, none⟩ = some (.int .i64 x.why) := by simp [World.cell?, show W.heap[b]? = _ from h]
theorem BkAt.c2 {W : World} {b : Nat} {x : Bk} (h : BkAt W b x) : W.cell? ⟨b, 2, none⟩ = some (.int .u64 x.till) := by simp [World.cell?, show W.heap[b]? = _ from h]
theorem BkAt.fz {W : World} {b : Nat} {x : Bk} (h : BkAt W b x) (o : Nat) : W.frozen? ⟨b, o, none⟩ = false := by simp [World.frozen?, show W.heap[b]? = _ from h]
theorem BkAt.keep {S : List Nat} {W W' : World} {b : Nat} {x : Bk} (h : BkAt W b x) (f : Fr S W W') (hn : b ∉ S) : BkAt W' b x := (f.block b (Array.getElem?_eq_some_iff.1 h).1 hn).trans h
theorem BkAt.lt {W : World} {b : Nat} {x : Bk} (h : BkAt W b x) : b < W.heap.size := (Array.getElem?_eq_some_iff.1 h).1
theorem BkAt.made (w : World) (x : Bk) : BkAt (w.alloc (.cells #[.int .i64 x.t, .int .i64 x.why, .int .u64 x.till] 67)) w.heap.size x := World.alloc_heap_new w _
theorem BkAt.set0 {W : World} {b : Nat} {x : Bk} (h : BkAt W b x) (y : Int) : BkAt (W.setCell ⟨b, 0, none⟩ (.int .i64 y)) b ⟨y, x.why, x.till⟩ := by
  unfold BkAt at *
  show (W.heap.modify b _)[b]? = _
  rw [Array.getElem?_modify, if_pos rfl, h]
  rfl
theorem BkAt.set1 {W : World} {b : Nat} {x : Bk} (h : BkAt W b x) (y : Int) : BkAt (W.setCell ⟨b, 1, none⟩ (.int .i64 y)) b ⟨x.t, y, x.till⟩ := by
  unfold BkAt at *
  show (W.heap.modify b _)[b]? = _
  rw [Array.getElem?_modify, if_pos rfl, h]
  rfl
theorem BkAt.set2 {W : World} {b : Nat} {x : Bk} (h : BkAt W b x) (y : Int) : BkAt (W.setCell ⟨b, 2, none⟩ (.int .u64 y)) b ⟨x.t, x.why, y⟩ := by
  unfold BkAt at *
  show (W.heap.modify b _)[b]? = _
  rw [Array.getElem?_modify, if_pos rfl, h]
  rfl
theorem BkAt.setAll {W : World} {b : Nat} {x : Bk} (h : BkAt W b x) (y : Bk) : BkAt (((W.setCell ⟨b, 0, none⟩ (.int .i64 y.t)).setCell ⟨b, 1, none⟩ (.int .i64 y.why)).setCell ⟨b, 2, none⟩ (.int .u64 y.till)) b y := ((h.set0 y.t).set1 y.why).set2 y.till
theorem blockedRead_any (l : List UInt8) (hl : l.length ≤ 100000) (w : World) (he : EnvR w) :
    Calls Tryz.prog 60 #[.string (bs l)] w fun e w' => e = .returned (bkV (bkRead (splitS l))) ∧ Fr [] w w' := by
  have f0 : Fr [] w (w.alloc (.cells #[.int .i64 0, .int .i64 0, .int .u64 0] 67)) := (Fr.refl [] w).alloc _
  have F0 := Lib.hid f0
  have HE := Lib.hid he
  have HSP := Lib.hid (split_any l hl _ (he.new f0))
  have HL0 := Lib.hid (splitS_getD_le l)
  have HLN := Lib.hid (splitS_len l)
  obtain ⟨ws, hws⟩ : ∃ ws, splitS l = ws := ⟨_, rfl⟩
  rw [hws] at HSP HL0 HLN
  rw [hws]
  obtain ⟨n, hn⟩ : ∃ n, ws.length = n := ⟨_, rfl⟩
  have HN := Lib.hid hn
  rw [hn] at HSP HLN
  clear f0 he hws hn
  go_enter Tryz.func60, Tryz.ntmps60
  go_wp2_with fail
  refine HSP.out.mono ?_
  rintro e w1 ⟨K, c, rfl, f1, hc⟩
  have F1 := Lib.hid (F0.out.step f1)
  have R1 := Lib.hid ((BkAt.made w ⟨0, 0, 0⟩).keep f1 (by simp))
  have HC := Lib.hid hc
  clear f1 hc HSP
  have HF := Lib.hid (fun (i : Nat) (hi : i < 1000) (W : World) (f : Fr [] w1 W) => (show Calls Tryz.prog 97 #[.slice (some ⟨K, 0, none⟩) n c, .int .i64 i] W fun e w' => e = .returned (.string (bs (ws.getD i []))) ∧ W = w' from by
    have h := field_any K c ws i hi (by rw [HN.out]; have := HLN.out; omega) W (fun j x hj => f.keep (HC.out j x hj) (by simp))
    rw [HN.out] at h
    exact h))
  obtain ⟨x0, hx0⟩ : ∃ x, ws.getD 0 [] = x := ⟨_, rfl⟩
  obtain ⟨x1, hx1⟩ : ∃ x, ws.getD 1 [] = x := ⟨_, rfl⟩
  obtain ⟨x3, hx3⟩ : ∃ x, ws.getD 3 [] = x := ⟨_, rfl⟩
  have HV := Lib.hid (fun (W : World) (f : Fr [] w1 W) => value_any x0 (by rw [← hx0]; have := HL0.out 0; omega) W (HE.out.new (F1.out.step f)))
  have HP := Lib.hid (fun (W : World) (f : Fr [] w1 W) => timeParse_any x3 (by rw [← hx3]; have := HL0.out 3; omega) W (HE.out.new (F1.out.step f)))
  have HF0 := Lib.hid (fun W f => HF.out 0 (by omega) W f)
  have HF1 := Lib.hid (fun W f => HF.out 1 (by omega) W f)
  have HF3 := Lib.hid (fun W f => HF.out 3 (by omega) W f)
  have hcd : bkRead ws = ⟨valB x0, idxB whyWs x1, pV x3⟩ := by unfold bkRead; rw [hx0, hx1, hx3]
  rw [hx0] at HF0
  rw [hx1] at HF1
  rw [hx3] at HF3
  have hi1 := Lib.hid (fun W K3 (h : WordsBlk W K3 whyWs) => index_words K3 whyWs x1 W h (by decide))
  obtain ⟨v0, hv0⟩ : ∃ a, valB x0 = a := ⟨_, rfl⟩
  obtain ⟨b, hb⟩ : ∃ a, idxB whyWs x1 = a := ⟨_, rfl⟩
  obtain ⟨v3, hv3⟩ : ∃ a, pV x3 = a := ⟨_, rfl⟩
  obtain ⟨e3, he3⟩ : ∃ a, pE x3 = a := ⟨_, rfl⟩
  rw [hv0, hb, hv3] at hcd
  rw [hb] at hi1
  rw [hv0] at HV
  rw [hv3, he3] at HP
  have HCD := Lib.hid hcd
  clear hcd hx0 hx1 hx3 hb hv0 hv3 he3 HF
  go_wp2_with fail
  refine (HF3.out _ (Fr.refl _ _)).mono ?_
  rintro e w' ⟨rfl, rfl⟩
  go_wp2_with fail
  refine (HP.out _ (Fr.refl _ _)).mono ?_
  rintro e w2 ⟨rfl, f2⟩
  have F2 := Lib.hid f2
  clear f2
  go_wp2_with fail
  refine (HF0.out _ F2.out).mono ?_
  rintro e w' ⟨rfl, rfl⟩
  go_wp2_with fail
  refine (HV.out _ F2.out).mono ?_
  rintro e w3 ⟨rfl, f3⟩
  have F3 := Lib.hid (F2.out.step f3)
  clear f3
  go_wp2_with fail
  refine (whys_any _).mono ?_
  rintro e w4 ⟨K4, rfl, hK4, f4, -⟩
  have B4 := Lib.hid hK4
  have F4 := Lib.hid (F3.out.step f4)
  clear hK4 f4
  go_wp2_with fail
  refine (HF1.out _ F4.out).mono ?_
  rintro e w' ⟨rfl, rfl⟩
  go_wp2_with fail
  refine (hi1.out _ K4 B4.out).mono ?_
  rintro e w' ⟨rfl, hw'⟩
  subst hw'
  have R4 := R1.out.keep F4.out (by simp)
  have s0 := R4.c0
  have s1 := R4.c1
  have s2 := R4.c2
  have sz := R4.fz
  have hlt4 := R4.lt
  simp only at s0 s1 s2
  have R4' := Lib.hid R4
  clear R4
  go_wp2
  have q1 := R4'.out.setAll ⟨v0, b, v3⟩
  simp only at q1
  have n0 := q1.c0
  have n1 := q1.c1
  have n2 := q1.c2
  simp only at n0 n1 n2
  clear s0 s1 s2
  refine bodyPost_ret (v := .agg #[.int .i64 v0, .int .i64 b, .int .u64 v3]) (by simp [results, Tryz.results60, go_sem, n0, n1, n2]) rfl ?_
  refine ⟨by rw [HCD.out]; rfl, ?_⟩
  exact ((((F1.out.step F4.out).setCell (fun h => absurd h (Nat.lt_irrefl _)) _).setCell (fun h => absurd h (Nat.lt_irrefl _)) _).setCell (fun h => absurd h (Nat.lt_irrefl _)) _)
end Go.Proofs.YtllmejkcohfbiaaGreatDoor
