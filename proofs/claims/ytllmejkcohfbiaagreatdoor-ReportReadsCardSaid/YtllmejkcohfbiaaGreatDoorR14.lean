/- Report: a line read as how calls have ended. -/
import Derived.Test.YtllmejkcohfbiaaGreatDoorR13
import Derived.Lib.SplitLaws
namespace Go.Proofs.YtllmejkcohfbiaaGreatDoor
open Go.RowKit Go.Shelf Go.Sort Go.Lib
set_option linter.unusedVariables false
set_option linter.unusedSimpArgs false
set_option maxRecDepth 100000
set_option maxHeartbeats 8000000

/-- The words of a line, between single spaces, as the library's Split gives them. -/
def splitS (l : List UInt8) : List (List UInt8) := (Lib.splitB (bs [32]) 0 (Lib.countB (bs l) (bs [32])) (bs l)).map (·.data.toList)
def idxB (ws : List (List UInt8)) (x : List UInt8) : Int := Lib.idxOfS (ws.map bs) (bs x)
def cdRead (ws : List (List UInt8)) : Cd :=
  ⟨idxB callWs (ws.getD 0 []), if idxB codeWs (ws.getD 1 []) < 0 then valB (ws.getD 1 []) else idxB codeWs (ws.getD 1 []), valB (ws.getD 2 [])⟩
theorem index_words (K : Nat) (ws : List (List UInt8)) (x : List UInt8) (w : World) (h : WordsBlk w K ws) (hn : ws.length ≤ 9223372036854775807) :
    Calls Tryz.prog 99 #[.slice (some ⟨K, 0, none⟩) ws.length ws.length, .string (bs x)] w fun e w' => e = .returned (.int .i64 (idxB ws x)) ∧ w' = w := by
  have h1 := Tryz.slices_Index_string K 0 ws.length ws.length (ws.map bs) (bs x) w (by rw [List.length_map]; exact Nat.le_refl _) hn (fun j hj => by
    rw [List.length_map] at hj
    rw [Nat.zero_add, h.cell hj]
    simp [List.getElem?_eq_getElem hj])
  rw [show (ws.map bs).take ws.length = ws.map bs from List.take_of_length_le (by simp)] at h1
  exact h1
theorem split_any (l : List UInt8) (hl : l.length ≤ 100000) (w : World) (he : EnvR w) :
    Calls Tryz.prog 95 #[.string (bs l), .string ⟨#[32]⟩] w fun e w' => ∃ K c, e = .returned (.slice (some ⟨K, 0, none⟩) (splitS l).length c) ∧ Fr [] w w' ∧ ∀ (j : Nat) x, (splitS l)[j]? = some x → w'.cell? ⟨K, 0 + j, none⟩ = some (.string (bs x)) := by
  obtain ⟨m, hm⟩ := he.mx
  refine (Tryz.strings_Split (bs l) (bs [32]) m w (by rw [bs_size]; omega) hm (by decide)).mono ?_
  rintro e w' ⟨rfl, rfl⟩
  have hlen : (splitS l).length = Lib.countB (bs l) (bs [32]) + 1 := by
    unfold splitS
    rw [List.length_map]
    exact Lib.splitB_all (bs [32]) (by decide) 0 _ _ rfl
  refine ⟨w.heap.size, Lib.countB (bs l) (bs [32]) + 1, by rw [hlen], (Fr.refl [] w).alloc _, fun j x hx => ?_⟩
  unfold splitS at hx
  rw [List.getElem?_map] at hx
  cases hy : (Lib.splitB (bs [32]) 0 (Lib.countB (bs l) (bs [32])) (bs l))[j]? with
  | none => rw [hy] at hx; cases hx
  | some y =>
    rw [hy] at hx
    cases hx
    have : bs (y.data.toList) = y := by simp [bs]
    rw [this]
    simp [List.getElem?_map, hy]
theorem splitB_le (sep : ByteArray) : ∀ (k : Nat) (s y : ByteArray), y ∈ Lib.splitB sep 0 k s → y.size ≤ s.size
  | 0, s, y, h => by
    rw [Lib.splitB_zero, List.mem_singleton] at h
    rw [h]
    exact Nat.le_refl _
  | k + 1, s, y, h => by
    unfold Lib.splitB at h
    split at h
    · rw [List.mem_singleton] at h
      rw [h]
      exact Nat.le_refl _
    · rcases List.mem_cons.1 h with h | h
      · rw [h, ByteArray.size_extract]
        omega
      · have := splitB_le sep k _ y h
        rw [ByteArray.size_extract] at this
        omega
theorem splitS_le (l x : List UInt8) (h : x ∈ splitS l) : x.length ≤ l.length := by
  unfold splitS at h
  obtain ⟨y, hy, rfl⟩ := List.mem_map.1 h
  have h1 := splitB_le _ _ _ _ hy
  rw [bs_size] at h1
  rw [Array.length_toList]
  exact h1
theorem splitS_getD_le (l : List UInt8) (i : Nat) : ((splitS l).getD i []).length ≤ l.length := by
  rw [List.getD_eq_getElem?_getD]
  cases h : (splitS l)[i]? with
  | none => simp
  | some x => exact splitS_le l x (List.mem_of_getElem? h)
theorem splitS_len (l : List UInt8) : (splitS l).length ≤ l.length + 1 := by
  unfold splitS
  rw [List.length_map, Lib.splitB_all (bs [32]) (by decide) 0 _ _ rfl]
  have := Lib.countB_le (bs [32]) (by decide) (bs l).size (bs l) (Nat.le_refl _)
  rw [bs_size] at this
  omega
/-- A block of how calls have ended. -/
def CdAt (W : World) (b : Nat) (x : Cd) : Prop := W.heap[b]? = some (.cells #[.int .i64 x.call, .int .i64 x.err, .int .i64 x.n] 62)
theorem CdAt.c0 {W : World} {b : Nat} {x : Cd} (h : CdAt W b x) : W.cell? ⟨b, 0, none⟩ = some (.int .i64 x.call) := by simp [World.cell?, show W.heap[b]? = _ from h]
theorem CdAt.c1 {W : World} {b : Nat} {x : Cd} (h : CdAt W b x) : W.cell? ⟨b, 1, none⟩ = some (.int .i64 x.err) := by simp [World.cell?, show W.heap[b]? = _ from h]
theorem CdAt.c2 {W : World} {b : Nat} {x : Cd} (h : CdAt W b x) : W.cell? ⟨b, 2, none⟩ = some (.int .i64 x.n) := by simp [World.cell?, show W.heap[b]? = _ from h]
theorem CdAt.fz {W : World} {b : Nat} {x : Cd} (h : CdAt W b x) (o : Nat) : W.frozen? ⟨b, o, none⟩ = false := by simp [World.frozen?, show W.heap[b]? = _ from h]
theorem CdAt.keep {S : List Nat} {W W' : World} {b : Nat} {x : Cd} (h : CdAt W b x) (f : Fr S W W') (hn : b ∉ S) : CdAt W' b x := (f.block b (Array.getElem?_eq_some_iff.1 h).1 hn).trans h
theorem CdAt.lt {W : World} {b : Nat} {x : Cd} (h : CdAt W b x) : b < W.heap.size := (Array.getElem?_eq_some_iff.1 h).1
theorem CdAt.made (w : World) (x : Cd) : CdAt (w.alloc (.cells #[.int .i64 x.call, .int .i64 x.err, .int .i64 x.n] 62)) w.heap.size x := World.alloc_heap_new w _
theorem CdAt.set1 {W : World} {b : Nat} {x : Cd} (h : CdAt W b x) (y : Int) : CdAt (W.setCell ⟨b, 1, none⟩ (.int .i64 y)) b ⟨x.call, y, x.n⟩ := by
  unfold CdAt at *
  show (W.heap.modify b _)[b]? = _
  rw [Array.getElem?_modify, if_pos rfl, h]
  rfl
theorem CdAt.set0 {W : World} {b : Nat} {x : Cd} (h : CdAt W b x) (y : Int) : CdAt (W.setCell ⟨b, 0, none⟩ (.int .i64 y)) b ⟨y, x.err, x.n⟩ := by
  unfold CdAt at *
  show (W.heap.modify b _)[b]? = _
  rw [Array.getElem?_modify, if_pos rfl, h]
  rfl
theorem CdAt.set2 {W : World} {b : Nat} {x : Cd} (h : CdAt W b x) (y : Int) : CdAt (W.setCell ⟨b, 2, none⟩ (.int .i64 y)) b ⟨x.call, x.err, y⟩ := by
  unfold CdAt at *
  show (W.heap.modify b _)[b]? = _
  rw [Array.getElem?_modify, if_pos rfl, h]
  rfl
theorem CdAt.setAll {W : World} {b : Nat} {x : Cd} (h : CdAt W b x) (y : Cd) : CdAt (((W.setCell ⟨b, 0, none⟩ (.int .i64 y.call)).setCell ⟨b, 1, none⟩ (.int .i64 y.err)).setCell ⟨b, 2, none⟩ (.int .i64 y.n)) b y := ((h.set0 y.call).set1 y.err).set2 y.n
theorem codeRead_any (l : List UInt8) (hl : l.length ≤ 100000) (w : World) (he : EnvR w) :
    Calls Tryz.prog 64 #[.string (bs l)] w fun e w' => e = .returned (cdV (cdRead (splitS l))) ∧ Fr [] w w' := by
  have f0 : Fr [] w (w.alloc (.cells #[.int .i64 0, .int .i64 0, .int .i64 0] 62)) := (Fr.refl [] w).alloc _
  have F0 := Lib.hid f0
  have HE := Lib.hid he
  have HSP := Lib.hid (split_any l hl _ (he.new f0))
  have HL0 := Lib.hid (splitS_getD_le l)
  have HLN := Lib.hid (splitS_len l)
  obtain ⟨ws, hws⟩ : ∃ ws, splitS l = ws := ⟨_, rfl⟩
  rw [hws] at HSP HL0 HLN
  rw [hws]
  obtain ⟨n, hn⟩ : ∃ n, ws.length = n := ⟨_, rfl⟩
  have HN := Lib.hid hn
  rw [hn] at HSP HLN
  clear f0 he hws hn
  go_enter Tryz.func64, Tryz.ntmps64
  go_wp2_with fail
  refine HSP.out.mono ?_
  rintro e w1 ⟨K, c, rfl, f1, hc⟩
  have F1 := Lib.hid (F0.out.step f1)
  have R1 := Lib.hid ((CdAt.made w ⟨0, 0, 0⟩).keep f1 (by simp))
  have HC := Lib.hid hc
  clear f1 hc HSP
  go_wp2_with fail
  refine (calls_any _).mono ?_
  rintro e w2 ⟨K2, rfl, hK2, f2, -⟩
  have B2 := Lib.hid hK2
  have F2 := Lib.hid f2
  clear hK2 f2
  go_wp2_with fail
  have HF := Lib.hid (fun (i : Nat) (hi : i < 1000) (W : World) (f : Fr [] w1 W) => (show Calls Tryz.prog 97 #[.slice (some ⟨K, 0, none⟩) n c, .int .i64 i] W fun e w' => e = .returned (.string (bs (ws.getD i []))) ∧ W = w' from by
    have h := field_any K c ws i hi (by rw [HN.out]; have := HLN.out; omega) W (fun j x hj => f.keep (HC.out j x hj) (by simp))
    rw [HN.out] at h
    exact h))
  obtain ⟨x0, hx0⟩ : ∃ x, ws.getD 0 [] = x := ⟨_, rfl⟩
  obtain ⟨x1, hx1⟩ : ∃ x, ws.getD 1 [] = x := ⟨_, rfl⟩
  obtain ⟨x2, hx2⟩ : ∃ x, ws.getD 2 [] = x := ⟨_, rfl⟩
  have HV := Lib.hid (fun (i : Nat) (W : World) (f : Fr [] w1 W) => value_any (ws.getD i []) (by have := HL0.out i; omega) W (HE.out.new (F1.out.step f)))
  have HF0 := Lib.hid (HF.out 0 (by omega) _ F2.out)
  have HF1 := Lib.hid (fun W f => HF.out 1 (by omega) W f)
  have HF2 := Lib.hid (fun W f => HF.out 2 (by omega) W f)
  have HV1 := Lib.hid (fun W f => HV.out 1 W f)
  have HV2 := Lib.hid (fun W f => HV.out 2 W f)
  have hcd : cdRead ws = ⟨idxB callWs x0, if idxB codeWs x1 < 0 then valB x1 else idxB codeWs x1, valB x2⟩ := by unfold cdRead; rw [hx0, hx1, hx2]
  rw [hx0] at HF0
  rw [hx1] at HF1 HV1
  rw [hx2] at HF2 HV2
  have hi0 := Lib.hid (fun W (h : WordsBlk W K2 callWs) => index_words K2 callWs x0 W h (by decide))
  have hi1 := Lib.hid (fun W K3 (h : WordsBlk W K3 codeWs) => index_words K3 codeWs x1 W h (by decide))
  obtain ⟨a, ha⟩ : ∃ a, idxB callWs x0 = a := ⟨_, rfl⟩
  obtain ⟨b, hb⟩ : ∃ a, idxB codeWs x1 = a := ⟨_, rfl⟩
  obtain ⟨v1, hv1⟩ : ∃ a, valB x1 = a := ⟨_, rfl⟩
  obtain ⟨v2, hv2⟩ : ∃ a, valB x2 = a := ⟨_, rfl⟩
  rw [ha, hb, hv1, hv2] at hcd
  rw [ha] at hi0
  rw [hb] at hi1
  rw [hv1] at HV1
  rw [hv2] at HV2
  have HCD := Lib.hid hcd
  clear hcd hx0 hx1 hx2 ha hb hv1 hv2 HF HV
  refine HF0.out.mono ?_
  rintro e w' ⟨rfl, rfl⟩
  go_wp2_with fail
  refine (hi0.out _ B2.out).mono ?_
  rintro e w' ⟨rfl, hw'⟩
  subst hw'
  go_wp2_with fail
  refine (codes_any _).mono ?_
  rintro e w3 ⟨K3, rfl, hK3, f3, -⟩
  have B3 := Lib.hid hK3
  have F3 := Lib.hid (F2.out.step f3)
  clear hK3 f3
  go_wp2_with fail
  refine (HF1.out _ F3.out).mono ?_
  rintro e w' ⟨rfl, rfl⟩
  go_wp2_with fail
  refine (hi1.out _ K3 B3.out).mono ?_
  rintro e w' ⟨rfl, hw'⟩
  subst hw'
  go_wp2_with fail
  refine (HF2.out _ F3.out).mono ?_
  rintro e w' ⟨rfl, rfl⟩
  go_wp2_with fail
  refine (HV2.out _ F3.out).mono ?_
  rintro e w4 ⟨rfl, f4⟩
  have F4 := Lib.hid (F3.out.step f4)
  have f5 : Fr [] w4 (w4.alloc (.cells #[.int .i64 a, .int .i64 b, .int .i64 v2] 62)) := (Fr.refl [] w4).alloc _
  have X5 := Lib.hid (CdAt.made w4 ⟨a, b, v2⟩)
  clear f4
  have R5 := Lib.hid (((R1.out.keep F4.out (by simp)).keep f5 (by simp)))
  have F5 := Lib.hid (F1.out.step (F4.out.step f5))
  have F45 := Lib.hid (F4.out.step f5)
  have hRX : w.heap.size ≠ w4.heap.size := by
    have := R1.out.lt
    have := F4.out.size
    omega
  have HRX := Lib.hid hRX
  have xx0 := X5.out.c0
  have xx1 := X5.out.c1
  have xx2 := X5.out.c2
  have xz := X5.out.fz
  have r0 := R5.out.c0
  have r1 := R5.out.c1
  have r2 := R5.out.c2
  have rz := R5.out.fz
  simp only at xx0 xx1 xx2 r0 r1 r2
  simp only
  clear f5 hRX
  by_cases hb0 : b < 0
  · have d0 := decide_eq_true hb0
    go_wp2_with fail
    refine (HF1.out _ F45.out).mono ?_
    rintro e w' ⟨rfl, rfl⟩
    go_wp2_with fail
    refine (HV1.out _ F45.out).mono ?_
    rintro e w6 ⟨rfl, f6⟩
    have X6 := X5.out.keep f6 (by simp)
    have R6 := R5.out.keep f6 (by simp)
    clear xx0 xx1 xx2 xz r0 r1 r2 rz
    have xx0 := X6.c0
    have xx1 := X6.c1
    have xx2 := X6.c2
    have xz := X6.fz
    have r0 := R6.c0
    have r1 := R6.c1
    have r2 := R6.c2
    have rz := R6.fz
    simp only at xx0 xx1 xx2 r0 r1 r2
    have F6 := Lib.hid (F5.out.step f6)
    have X6' := Lib.hid X6
    have R6' := Lib.hid R6
    clear f6 X6 R6
    have hne4 := HRX.out
    have hne5 := HRX.out.symm
    go_wp2
    have fX : Fr [w4.heap.size] w6 (w6.setCell ⟨w4.heap.size, 1, none⟩ (.int .i64 v1)) := (Fr.refl _ w6).setCell (fun _ => by simp) _
    have q1 := (R6'.out.keep fX (by rw [List.mem_singleton]; exact hne4)).setAll ⟨a, v1, v2⟩
    simp only at q1
    have n0 := q1.c0
    have n1 := q1.c1
    have n2 := q1.c2
    simp only at n0 n1 n2
    clear r0 r1 r2 xx0 xx1 xx2
    refine bodyPost_ret (v := .agg #[.int .i64 a, .int .i64 v1, .int .i64 v2]) (by simp [results, Tryz.results64, go_sem, n0, n1, n2]) rfl ?_
    refine ⟨by rw [HCD.out]; unfold cdV; simp only; rw [if_pos hb0], ?_⟩
    exact (((F6.out.setCell (fun h => by have := F1.out.size; have := F4.out.size; exact absurd h (by simp only; omega)) _).setCell (fun h => absurd h (Nat.lt_irrefl _)) _).setCell (fun h => absurd h (Nat.lt_irrefl _)) _).setCell (fun h => absurd h (Nat.lt_irrefl _)) _
  · have d0 := decide_eq_false hb0
    have R4 := R1.out.keep F4.out (by simp)
    have s0 := R4.c0
    have s1 := R4.c1
    have s2 := R4.c2
    have sz := R4.fz
    have hlt4 := R4.lt
    have hne4 := HRX.out
    simp only at s0 s1 s2
    go_wp2
    have q1 := (R4.setAll ⟨a, b, v2⟩).keep (S := []) ((Fr.refl [] _).alloc (.cells #[.int .i64 a, .int .i64 b, .int .i64 v2] 62)) (by simp)
    simp only at q1
    have n0 := q1.c0
    have n1 := q1.c1
    have n2 := q1.c2
    simp only at n0 n1 n2
    clear r0 r1 r2 s0 s1 s2
    refine bodyPost_ret (v := .agg #[.int .i64 a, .int .i64 b, .int .i64 v2]) (by simp [results, Tryz.results64, go_sem, n0, n1, n2]) rfl ?_
    refine ⟨by rw [HCD.out]; unfold cdV; simp only; rw [if_neg (by omega)], ?_⟩
    exact (((((F1.out.step F4.out).setCell (fun h => absurd h (Nat.lt_irrefl _)) _).setCell (fun h => absurd h (Nat.lt_irrefl _)) _).setCell (fun h => absurd h (Nat.lt_irrefl _)) _)).alloc _
end Go.Proofs.YtllmejkcohfbiaaGreatDoor
