/- Contract of chaos's read, joined. -/
import Derived.Test.YtededfkenlhokaaDoorC13
import Derived.Test.YtededfkenlhokaaDoorC6
namespace Go.Proofs.YtededfkenlhokaaDoor
open Go.RowKit Go.Shelf
set_option linter.unusedVariables false
set_option maxRecDepth 100000
set_option maxHeartbeats 4000000

theorem bs_inj {a b : List UInt8} : bs a = bs b ↔ a = b := by
  constructor
  · intro h
    have := congrArg (fun x => x.data.toList) h
    simpa [bs] using this
  · rintro rfl
    rfl
theorem kinds_idx (x : List UInt8) : Lib.idxOfS [bs wShort, bs wDelay, bs wFail, bs wCut] (bs x) = kindP x - 1 := by
  unfold kindP
  simp only [Lib.idxOfS, Lib.idxFromS, bs_inj]
  have e : ∀ a : List UInt8, (a = x) = (x = a) := fun a => propext eq_comm
  simp only [e]
  repeat' split
  all_goals first | rfl | contradiction
theorem dirs_idx (x : List UInt8) : Lib.idxOfS [bs wRead, bs wWrite] (bs x) = dirP x := by
  unfold dirP
  simp only [Lib.idxOfS, Lib.idxFromS, bs_inj]
  have e : ∀ a : List UInt8, (a = x) = (x = a) := fun a => propext eq_comm
  simp only [e]
  repeat' split
  all_goals first | rfl | contradiction
theorem kinds_all (w : World) : Calls Tryd.prog 48 #[] w fun e w' => ∃ K, e = .returned (.slice (some ⟨K, 0, none⟩) 4 4) ∧ (∀ j, j < 4 → w'.cell? ⟨K, 0 + j, none⟩ = some (.string ([bs wShort, bs wDelay, bs wFail, bs wCut].getD j ByteArray.empty))) ∧ Fr [] w w' := by
  refine (kinds_any w).mono ?_
  rintro e w' ⟨rfl, rfl⟩
  refine ⟨_, rfl, ?_, (Fr.refl [] w).alloc _⟩
  intro j hj
  match j, hj with
  | 0, _ => simp
  | 1, _ => simp
  | 2, _ => simp
  | 3, _ => simp
theorem dirs_all (w : World) : Calls Tryd.prog 50 #[] w fun e w' => ∃ K, e = .returned (.slice (some ⟨K, 0, none⟩) 2 2) ∧ (∀ j, j < 2 → w'.cell? ⟨K, 0 + j, none⟩ = some (.string ([bs wRead, bs wWrite].getD j ByteArray.empty))) ∧ Fr [] w w' := by
  refine (dirs_any w).mono ?_
  rintro e w' ⟨rfl, rfl⟩
  refine ⟨_, rfl, ?_, (Fr.refl [] w).alloc _⟩
  intro j hj
  match j, hj with
  | 0, _ => simp
  | 1, _ => simp
theorem kinds_index (K : Nat) (x : List UInt8) (w : World) (h : ∀ j, j < 4 → w.cell? ⟨K, 0 + j, none⟩ = some (.string ([bs wShort, bs wDelay, bs wFail, bs wCut].getD j ByteArray.empty))) :
    Calls Tryd.prog 57 #[.slice (some ⟨K, 0, none⟩) 4 4, .string (bs x)] w fun e w' => e = .returned (.int .i64 (kindP x - 1)) ∧ w' = w := by
  rw [← kinds_idx]
  exact Tryd.slices_Index_string K 0 4 4 [bs wShort, bs wDelay, bs wFail, bs wCut] (bs x) w (Nat.le_refl _) (by omega) h
theorem dirs_index (K : Nat) (x : List UInt8) (w : World) (h : ∀ j, j < 2 → w.cell? ⟨K, 0 + j, none⟩ = some (.string ([bs wRead, bs wWrite].getD j ByteArray.empty))) :
    Calls Tryd.prog 57 #[.slice (some ⟨K, 0, none⟩) 2 2, .string (bs x)] w fun e w' => e = .returned (.int .i64 (dirP x)) ∧ w' = w := by
  rw [← dirs_idx]
  exact Tryd.slices_Index_string K 0 2 2 [bs wRead, bs wWrite] (bs x) w (Nat.le_refl _) (by omega) h

/-- Strings.Fields at a line. -/
theorem fields_any (s : List UInt8) (hs : s.length ≤ 100000) (w : World) (he : Env w) :
    Calls Tryd.prog 54 #[.string (bs s)] w fun e w' => ∃ A, e = .returned (.slice (some ⟨A, 0, none⟩) (Lib.fieldsD s).length (Lib.fieldsD s).length) ∧ (∀ (j : Nat) x, (Lib.fieldsD s)[j]? = some x → w'.cell? ⟨A, 0 + j, none⟩ = some (.string (bs x))) ∧ Fr [] w w' := by
  have H := Tryd.strings_Fields_any (bs s) w (by rw [bs_size]; omega) he.asp he.white
  rw [bs_list] at H
  refine H.mono ?_
  rintro e w' ⟨A, rfl, _, hown, hb⟩
  refine ⟨A, rfl, fun j x hx => ?_, Fr.of_below hb⟩
  have := hown.cells rfl j (.string (bs x)) (by rw [List.getElem?_map, hx]; rfl)
  rw [Addr.add_lit] at this
  exact this
theorem kindP_le (x : List UInt8) : 0 ≤ kindP x ∧ kindP x ≤ 4 := by
  unfold kindP
  repeat' split
  all_goals decide
theorem numP_bounds (ws : List (List UInt8)) (i : Nat) : -9223372036854775808 ≤ numP ws i ∧ numP ws i ≤ 9223372036854775807 := by
  unfold numP
  split
  · decide
  · split
    · rename_i h
      exact Lib.atoiAll_bounds h
    · decide

theorem FtAt.lt {W : World} {b : Nat} {x : Ft} (h : FtAt W b x) : b < W.heap.size := (Array.getElem?_eq_some_iff.1 h).1
theorem FtAt.c0 {W : World} {b : Nat} {x : Ft} (h : FtAt W b x) : W.cell? ⟨b, 0, none⟩ = some (.int .i64 x.k) := by simp [World.cell?, show W.heap[b]? = _ from h]
theorem FtAt.c1 {W : World} {b : Nat} {x : Ft} (h : FtAt W b x) : W.cell? ⟨b, 1, none⟩ = some (.int .i64 x.c) := by simp [World.cell?, show W.heap[b]? = _ from h]
theorem FtAt.c2 {W : World} {b : Nat} {x : Ft} (h : FtAt W b x) : W.cell? ⟨b, 2, none⟩ = some (.int .i64 x.d) := by simp [World.cell?, show W.heap[b]? = _ from h]
theorem FtAt.fz {W : World} {b : Nat} {x : Ft} (h : FtAt W b x) (o : Nat) : W.frozen? ⟨b, o, none⟩ = false := by simp [World.frozen?, show W.heap[b]? = _ from h]
theorem FtAt.keep {W : World} {b : Nat} {x : Ft} {S : List Nat} {W' : World} (h : FtAt W b x) (hf : Fr S W W') (hn : b ∉ S) : FtAt W' b x := (hf.block b h.lt hn).trans h
theorem FtAt.set0 {W : World} {b : Nat} {x : Ft} (h : FtAt W b x) (y : Int) : FtAt (W.setCell ⟨b, 0, none⟩ (.int .i64 y)) b ⟨y, x.c, x.d, x.a, x.g⟩ := by
  unfold FtAt at *
  show (W.heap.modify b _)[b]? = _
  rw [Array.getElem?_modify, if_pos rfl, h]
  rfl
theorem FtAt.set1 {W : World} {b : Nat} {x : Ft} (h : FtAt W b x) (y : Int) : FtAt (W.setCell ⟨b, 1, none⟩ (.int .i64 y)) b ⟨x.k, y, x.d, x.a, x.g⟩ := by
  unfold FtAt at *
  show (W.heap.modify b _)[b]? = _
  rw [Array.getElem?_modify, if_pos rfl, h]
  rfl
theorem FtAt.set2 {W : World} {b : Nat} {x : Ft} (h : FtAt W b x) (y : Int) : FtAt (W.setCell ⟨b, 2, none⟩ (.int .i64 y)) b ⟨x.k, x.c, y, x.a, x.g⟩ := by
  unfold FtAt at *
  show (W.heap.modify b _)[b]? = _
  rw [Array.getElem?_modify, if_pos rfl, h]
  rfl
theorem FtAt.set3 {W : World} {b : Nat} {x : Ft} (h : FtAt W b x) (y : Int) : FtAt (W.setCell ⟨b, 3, none⟩ (.int .i64 y)) b ⟨x.k, x.c, x.d, y, x.g⟩ := by
  unfold FtAt at *
  show (W.heap.modify b _)[b]? = _
  rw [Array.getElem?_modify, if_pos rfl, h]
  rfl
theorem FtAt.set4 {W : World} {b : Nat} {x : Ft} (h : FtAt W b x) (y : Int) : FtAt (W.setCell ⟨b, 4, none⟩ (.int .i64 y)) b ⟨x.k, x.c, x.d, x.a, y⟩ := by
  unfold FtAt at *
  show (W.heap.modify b _)[b]? = _
  rw [Array.getElem?_modify, if_pos rfl, h]
  rfl
/-- A fault stored whole. -/
def setFt (W : World) (b : Nat) (y : Ft) : World := ((((W.setCell ⟨b, 0, none⟩ (.int .i64 y.k)).setCell ⟨b, 1, none⟩ (.int .i64 y.c)).setCell ⟨b, 2, none⟩ (.int .i64 y.d)).setCell ⟨b, 3, none⟩ (.int .i64 y.a)).setCell ⟨b, 4, none⟩ (.int .i64 y.g)
theorem FtAt.setAll {W : World} {b : Nat} {x : Ft} (h : FtAt W b x) (y : Ft) : FtAt (setFt W b y) b y := ((((h.set0 y.k).set1 y.c).set2 y.d).set3 y.a).set4 y.g
theorem fr_setFt {S : List Nat} {w W : World} {b : Nat} (h : Fr S w W) (hb : b < w.heap.size → b ∈ S) (y : Ft) : Fr S w (setFt W b y) :=
  ((((h.setCell hb _).setCell hb _).setCell hb _).setCell hb _).setCell hb _

theorem fr_set5 {w W : World} {T : Nat} {a b c d e : Value} (h : Fr [] w W) (hT : w.heap.size ≤ T) : Fr [] w (((((W.setCell ⟨T, 0, none⟩ a).setCell ⟨T, 1, none⟩ b).setCell ⟨T, 2, none⟩ c).setCell ⟨T, 3, none⟩ d).setCell ⟨T, 4, none⟩ e) := by
  have hb : ∀ o, (⟨T, o, none⟩ : Addr).block < w.heap.size → (⟨T, o, none⟩ : Addr).block ∈ ([] : List Nat) := fun o hl => by simp at hl; omega
  exact ((((h.setCell (hb 0) _).setCell (hb 1) _).setCell (hb 2) _).setCell (hb 3) _).setCell (hb 4) _

theorem fr_up {S : List Nat} {w W : World} (h : Fr [] w W) : Fr S w W := h.mono (fun _ hx => by cases hx)
theorem fr_set5R {R : Nat} {w W : World} {a b c d e : Value} (h : Fr [R] w W) : Fr [R] w (((((W.setCell ⟨R, 0, none⟩ a).setCell ⟨R, 1, none⟩ b).setCell ⟨R, 2, none⟩ c).setCell ⟨R, 3, none⟩ d).setCell ⟨R, 4, none⟩ e) :=
  ((((h.setCell (fun _ => by simp) _).setCell (fun _ => by simp) _).setCell (fun _ => by simp) _).setCell (fun _ => by simp) _).setCell (fun _ => by simp) _

theorem fieldsGoD_num : ∀ (f : Nat) (cur l : List UInt8), (Lib.fieldsGoD f cur l).length ≤ f + 1
  | 0, cur, l => by
    unfold Lib.fieldsGoD
    split <;> simp
  | f + 1, cur, l => by
    unfold Lib.fieldsGoD
    split
    · split <;> simp
    · split
      · have := fieldsGoD_num f [] (l.drop (Lib.decodeL l).2)
        rw [List.length_append]
        split
        · simp only [List.length_nil]
          omega
        · simp only [List.length_cons, List.length_nil]
          omega
      · have := fieldsGoD_num f (cur ++ l.take (Lib.decodeL l).2) (l.drop (Lib.decodeL l).2)
        omega

theorem read_any (s : List UInt8) (hs : s.length ≤ 10000) (w : World) (he : Env w) :
    Calls Tryd.prog 32 #[.string (bs s)] w fun e w' => ∃ f : Ft, e = .returned (.tuple #[ftV f, .bool (readP s).isSome]) ∧ (∀ g, readP s = some g → f = g) ∧ Fr [] w w' := by
  have HE := Lib.hid (fun W (hf : Fr [] w W) => he.new hf)
  have hmf : ∀ (fn : Fn) (first cap : Array Value) (w : World), (Instr.makeFunc fn first cap).run Tryd.prog w = .ok (.func fn first cap) w := fun _ _ _ _ => rfl
  have h0 : Fr [] w (w.alloc (.cells #[.int .i64 0, .int .i64 0, .int .i64 0, .int .i64 0, .int .i64 0] 32)) := (Fr.refl [] w).alloc _
  have HF := Lib.hid (fun W (hf : Fr [] w W) => fields_any s (by omega) W (he.new hf))
  have hwl : ∀ x ∈ Lib.fieldsD s, x.length ≤ 100000 := fun x hx => by have := fieldsD_len s x hx; omega
  have hwn : (Lib.fieldsD s).length ≤ 100000 := by
    have := fieldsGoD_num (s.length + 1) [] s
    unfold Lib.fieldsD
    omega
  have hrp : readP s = if (Lib.fieldsD s).length < 4 then none else if (parP (Lib.fieldsD s)).ok = true ∧ lineB (parP (Lib.fieldsD s)) = s then some (parP (Lib.fieldsD s)) else none := rfl
  generalize Lib.fieldsD s = ws at HF hwl hwn hrp
  obtain ⟨n, hn⟩ : ∃ n, ws.length = n := ⟨_, rfl⟩
  simp only [hn] at HF hrp hwn
  have HLN := Lib.hid hn
  have HWL := Lib.hid hwl
  have HWN := Lib.hid hwn
  clear hwl he hwn hn
  by_cases hlt : n < 4
  · rw [if_pos hlt] at hrp
    rw [hrp]
    have hl4 : (n : Int) < 4 := by omega
    clear hrp hlt
    go_enter Tryd.func32, Tryd.ntmps32
    go_wp2_with (go_at_call 54; refine (HF.out _ h0).mono ?_; rintro e w1 ⟨A, rfl, -, f1⟩; have r0 : FtAt (w1.alloc (.cells #[.slice (some ⟨A, 0, none⟩) n n] 85)) w.heap.size ⟨0, 0, 0, 0, 0⟩ := FtAt.keep (World.alloc_heap_new w _) (f1.alloc _) (by simp); have k0 := r0.c0; have k1 := r0.c1; have k2 := r0.c2; have k3 := r0.c3; have k4 := r0.c4; have z0 := r0.fz 0; have z1 := r0.fz 1; have z2 := r0.fz 2; have z3 := r0.fz 3; have z4 := r0.fz 4; replace r0 := Lib.hid r0)
    have r1 := (r0.out).setAll ⟨0, 0, 0, 0, 0⟩
    unfold setFt at r1
    clear k0 k1 k2 k3 k4
    have m0 := r1.c0
    have m1 := r1.c1
    have m2 := r1.c2
    have m3 := r1.c3
    have m4 := r1.c4
    simp only at m0 m1 m2 m3 m4
    refine bodyPost_ret (v := .tuple #[.agg #[.int .i64 0, .int .i64 0, .int .i64 0, .int .i64 0, .int .i64 0], .bool false]) (by simp [results, Tryd.results32, go_sem, m0, m1, m2, m3, m4]) rfl ?_
    exact ⟨⟨0, 0, 0, 0, 0⟩, rfl, (fun g h => by cases h), fr_set5 ((h0.step f1).alloc _) (Nat.le_refl _)⟩
  · rw [if_neg hlt] at hrp
    have hl4 : ¬ (n : Int) < 4 := by omega
    obtain ⟨x0, hx0⟩ : ∃ x, ws[0]? = some x := ⟨_, List.getElem?_eq_getElem (by rw [HLN.out]; omega)⟩
    obtain ⟨x2, hx2⟩ : ∃ x, ws[2]? = some x := ⟨_, List.getElem?_eq_getElem (by rw [HLN.out]; omega)⟩
    have hd0 : (2 : Int) < n := by omega
    have hd1 : (0 : Int) < n := by omega
    have hd2 : 0 < n := by omega
    have hd3 : 2 < n := by omega
    go_enter Tryd.func32, Tryd.ntmps32
    go_wp2_with (go_at_call 54; refine (HF.out _ h0).mono ?_; rintro e w1 ⟨A, rfl, hA, f1⟩)
    have F1 : Fr [] w (w1.alloc (.cells #[.slice (some ⟨A, 0, none⟩) n n] 85)) := (h0.step f1).alloc _
    have r0 : FtAt (w1.alloc (.cells #[.slice (some ⟨A, 0, none⟩) n n] 85)) w.heap.size ⟨0, 0, 0, 0, 0⟩ := FtAt.keep (World.alloc_heap_new w _) (f1.alloc _) (by simp)
    have hW : WordsAt (w1.alloc (.cells #[.slice (some ⟨A, 0, none⟩) n n] 85)) w1.heap.size A ws := ⟨by rw [HLN.out]; simp, fun j x hx => ((Fr.refl [] w1).alloc _).keep (hA j x hx) (by simp)⟩
    generalize w1.alloc (.cells #[.slice (some ⟨A, 0, none⟩) n n] 85) = W1 at F1 r0 hW ⊢
    generalize w1.heap.size = b at hW ⊢
    have HN1 := Lib.hid (fun W (f : Fr [] W1 W) => (number_any ws 1 (by omega) (by rw [HLN.out]; exact HWN.out) HWL.out b A W (HE.out W (F1.step f)) (hW.new f) : Calls Tryd.prog 55 #[.int .i64 1, .pointer (some ⟨b, 0, none⟩)] W fun e w' => e = .returned (.int .i64 (numP ws 1)) ∧ Fr [] W w'))
    have HN3 := Lib.hid (fun W (f : Fr [] W1 W) => (number_any ws 3 (by omega) (by rw [HLN.out]; exact HWN.out) HWL.out b A W (HE.out W (F1.step f)) (hW.new f) : Calls Tryd.prog 55 #[.int .i64 3, .pointer (some ⟨b, 0, none⟩)] W fun e w' => e = .returned (.int .i64 (numP ws 3)) ∧ Fr [] W w'))
    have HN4 := Lib.hid (fun W (f : Fr [] W1 W) => (number_any ws 4 (by omega) (by rw [HLN.out]; exact HWN.out) HWL.out b A W (HE.out W (F1.step f)) (hW.new f) : Calls Tryd.prog 55 #[.int .i64 4, .pointer (some ⟨b, 0, none⟩)] W fun e w' => e = .returned (.int .i64 (numP ws 4)) ∧ Fr [] W w'))
    have HS := Lib.hid (fun W (f : Fr [] W1 W) => And.intro (show W.cell? ⟨b, 0, none⟩ = some (.slice (some ⟨A, 0, none⟩) n n) from by have := (hW.new f).cell; rw [HLN.out] at this; exact this) (And.intro (show W.cell? ⟨A, 0, none⟩ = _ from (hW.new f).at' 0 x0 hx0) (show W.cell? ⟨A, 2, none⟩ = _ from by simpa using (hW.new f).at' 2 x2 hx2)))
    have hpar : parP ws = ⟨kindP x0, numP ws 1, dirP x2, numP ws 3, numP ws 4⟩ := by
      unfold parP
      rw [List.getD_eq_getElem?_getD, List.getD_eq_getElem?_getD, hx0, hx2]
      rfl
    have hk1 := kindP_le x0
    have wk1 : IntKind.i64.wrap (kindP x0) = kindP x0 := IntWalk.i64_in _ (by omega)
    have wk2 : IntKind.i64.wrap (kindP x0 - 1 + 1) = kindP x0 := by rw [Int.sub_add_cancel]; exact wk1
    have HRP := Lib.hid hrp
    have HP := Lib.hid hpar
    have HF1 := Lib.hid F1
    have HR0 := Lib.hid r0
    clear hrp hpar F1 r0 hW hA f1 h0 hx0 hx2 HF hk1 hlt hl4
    go_cut [6] from 14 to 31 (fun sv wc => ∃ T, sv = .pointer (some ⟨T, 0, none⟩) ∧ W1.heap.size ≤ T ∧ FtAt wc T (parP ws) ∧ Fr [] W1 wc)
    case first =>
      go_region_held3 (fun w' => w'.cell? ⟨b, 0, none⟩ = some (.slice (some ⟨A, 0, none⟩) n n) ∧ w'.cell? ⟨A, 0, none⟩ = some (.string (bs x0)) ∧ w'.cell? ⟨A, 2, none⟩ = some (.string (bs x2)))
        (first
          | with_reducible exact HS.out _ ((Fr.refl [] W1).drew)
          | with_reducible exact HS.out _ (Fr.alloc ((Fr.refl [] W1).drew) _)
          | with_reducible exact HS.out _ g1
          | with_reducible exact HS.out _ (Fr.alloc g1 _)
          | with_reducible exact HS.out _ g3
          | with_reducible exact HS.out _ (Fr.alloc g3 _)
          | with_reducible exact HS.out _ g5
          | with_reducible exact HS.out _ (Fr.alloc g5 _)
          | with_reducible exact HS.out _ g6
          | with_reducible exact HS.out _ (Fr.alloc g6 _)
          | with_reducible exact HS.out _ g7
          | with_reducible exact HS.out _ (Fr.alloc g7 _)
          | with_reducible exact HS.out _ (Fr.drew (Fr.alloc (Fr.refl [] W1) _))
          | (with_reducible refine HS.out _ (fr_set5 g7 (Nat.le_refl _)))
          | (with_reducible refine HS.out _ (fr_set5 g7 g1.size))
          | (with_reducible refine HS.out _ (fr_set5 g7 g3.size))
          | (with_reducible refine HS.out _ (fr_set5 g7 g5.size))
          | (with_reducible refine HS.out _ (fr_set5 g7 g6.size))
          | (with_reducible refine HS.out _ (fr_set5 (Fr.alloc g7 _) g7.size)))
        (first
          | (go_at_call 55; have hg := g6; (with_reducible show Calls _ _ _ w6 _); refine (HN4.out _ g6).mono ?_; rintro e w7 ⟨rfl, g7⟩; (first | (have t7 := FtAt.keep t6 g7 (by simp)) | skip); replace g7 := Fr.step g6 g7; (first | (have k0 := t7.c0; have k1 := t7.c1; have k2 := t7.c2; have k3 := t7.c3; have k4 := t7.c4; have z0 := t7.fz 0; have z1 := t7.fz 1; have z2 := t7.fz 2; have z3 := t7.fz 3; have z4 := t7.fz 4; replace t7 := Lib.hid t7) | skip))
          | (go_at_call 55; have hg := g6; (with_reducible show Calls _ _ _ (World.alloc w6 _) _); refine (HN4.out _ (Fr.alloc g6 _)).mono ?_; rintro e w7 ⟨rfl, g7⟩; have t7 : FtAt w7 w6.heap.size ⟨0, 0, 0, 0, 0⟩ := FtAt.keep (World.alloc_heap_new w6 _) g7 (by simp); replace g7 := Fr.step (Fr.alloc g6 _) g7; (first | (have k0 := t7.c0; have k1 := t7.c1; have k2 := t7.c2; have k3 := t7.c3; have k4 := t7.c4; have z0 := t7.fz 0; have z1 := t7.fz 1; have z2 := t7.fz 2; have z3 := t7.fz 3; have z4 := t7.fz 4; replace t7 := Lib.hid t7) | skip))
          | (go_at_call 55; have hg := g5'; (with_reducible show Calls _ _ _ w5 _); refine (HN3.out _ g5).mono ?_; rintro e w6 ⟨rfl, g6⟩; (first | (have t6 := FtAt.keep t5 g6 (by simp)) | skip); replace g6 := Fr.step g5 g6)
          | (go_at_call 55; have hg := g5'; (with_reducible show Calls _ _ _ (World.alloc w5 _) _); refine (HN3.out _ (Fr.alloc g5 _)).mono ?_; rintro e w6 ⟨rfl, g6⟩; have t6 : FtAt w6 w5.heap.size ⟨0, 0, 0, 0, 0⟩ := FtAt.keep (World.alloc_heap_new w5 _) g6 (by simp); replace g6 := Fr.step (Fr.alloc g5 _) g6)
          | (go_at_call 57; have hg := g5; refine (dirs_index K2 x2 _ (by first | (with_reducible exact q2) | exact fun j hj => Lib.cell?_alloc_some _ (q2 j hj))).mono ?_; rintro e w' ⟨rfl, hw'⟩; subst w'; have g5' := g5)
          | (go_at_call 50; have hg := g3; (with_reducible show Calls _ _ _ w3 _); refine (dirs_all _).mono ?_; rintro e w5 ⟨K2, rfl, q2, g5⟩; (first | (have t5 := FtAt.keep t3 g5 (by simp)) | skip); replace g5 := Fr.step g3 g5)
          | (go_at_call 50; have hg := g3; (with_reducible show Calls _ _ _ (World.alloc w3 _) _); refine (dirs_all _).mono ?_; rintro e w5 ⟨K2, rfl, q2, g5⟩; have t5 : FtAt w5 w3.heap.size ⟨0, 0, 0, 0, 0⟩ := FtAt.keep (World.alloc_heap_new w3 _) g5 (by simp); replace g5 := Fr.step (Fr.alloc g3 _) g5)
          | (go_at_call 55; have hg := g1'; (with_reducible show Calls _ _ _ w1 _); refine (HN1.out _ g1).mono ?_; rintro e w3 ⟨rfl, g3⟩; (first | (have t3 := FtAt.keep t1 g3 (by simp)) | skip); replace g3 := Fr.step g1 g3)
          | (go_at_call 55; have hg := g1'; (with_reducible show Calls _ _ _ (World.alloc w1 _) _); refine (HN1.out _ (Fr.alloc g1 _)).mono ?_; rintro e w3 ⟨rfl, g3⟩; have t3 : FtAt w3 w1.heap.size ⟨0, 0, 0, 0, 0⟩ := FtAt.keep (World.alloc_heap_new w1 _) g3 (by simp); replace g3 := Fr.step (Fr.alloc g1 _) g3)
          | (go_at_call 57; have hg := g1; refine (kinds_index K1 x0 _ (by first | (with_reducible exact q1) | exact fun j hj => Lib.cell?_alloc_some _ (q1 j hj))).mono ?_; rintro e w' ⟨rfl, hw'⟩; subst w'; have g1' := g1)
          | (go_at_call 48; have hg := HS; (with_reducible show Calls _ _ _ (World.drew W1) _); refine (kinds_all _).mono ?_; rintro e w1 ⟨K1, rfl, q1, g1⟩; replace g1 := Fr.step ((Fr.refl [] W1).drew) g1)
          | (go_at_call 48; have hg := HS; (with_reducible show Calls _ _ _ (World.alloc (World.drew W1) _) _); refine (kinds_all _).mono ?_; rintro e w1 ⟨K1, rfl, q1, g1⟩; have t1 : FtAt w1 W1.heap.size ⟨0, 0, 0, 0, 0⟩ := FtAt.keep (World.alloc_heap_new (World.drew W1) _) g1 (by simp); replace g1 := Fr.step (Fr.alloc ((Fr.refl [] W1).drew) _) g1)
          | (go_at_call 48; have hg := HS; (with_reducible show Calls _ _ _ (World.drew (World.alloc W1 _)) _); refine (kinds_all _).mono ?_; rintro e w1 ⟨K1, rfl, q1, g1⟩; have t1 : FtAt w1 W1.heap.size ⟨0, 0, 0, 0, 0⟩ := FtAt.keep (show FtAt (World.drew (World.alloc W1 (.cells #[.int .i64 0, .int .i64 0, .int .i64 0, .int .i64 0, .int .i64 0] 32))) W1.heap.size ⟨0, 0, 0, 0, 0⟩ from World.alloc_heap_new W1 _) g1 (by simp); replace g1 := Fr.step (Fr.drew (Fr.alloc (Fr.refl [] W1) _)) g1))
      all_goals go_wp2
      all_goals go_meet
      all_goals first
        | exact ⟨_, rfl, g7.size, by rw [HP.out]; exact World.alloc_heap_new w7 _, g7.alloc _⟩
        | exact ⟨_, rfl, g6.size, by rw [HP.out]; exact FtAt.setAll t7.out ⟨kindP x0, numP ws 1, dirP x2, numP ws 3, numP ws 4⟩, fr_set5 g7 g6.size⟩
        | exact ⟨_, rfl, g5.size, by rw [HP.out]; exact FtAt.setAll t7.out ⟨kindP x0, numP ws 1, dirP x2, numP ws 3, numP ws 4⟩, fr_set5 g7 g5.size⟩
        | exact ⟨_, rfl, g3.size, by rw [HP.out]; exact FtAt.setAll t7.out ⟨kindP x0, numP ws 1, dirP x2, numP ws 3, numP ws 4⟩, fr_set5 g7 g3.size⟩
        | exact ⟨_, rfl, g1.size, by rw [HP.out]; exact FtAt.setAll t7.out ⟨kindP x0, numP ws 1, dirP x2, numP ws 3, numP ws 4⟩, fr_set5 g7 g1.size⟩
        | exact ⟨_, rfl, (Nat.le_refl _), by rw [HP.out]; exact FtAt.setAll t7.out ⟨kindP x0, numP ws 1, dirP x2, numP ws 3, numP ws 4⟩, fr_set5 g7 (Nat.le_refl _)⟩
    case rest =>
      obtain ⟨T, rfl, hT, t0, fc⟩ := hcut
      have q0 : FtAt wc w.heap.size ⟨0, 0, 0, 0, 0⟩ := HR0.out.keep fc (by simp)
      have hne : T ≠ w.heap.size := by have := HR0.out.lt; omega
      have HT := Lib.hid (fun W (f : Fr [w.heap.size] wc W) => And.intro (t0.keep f (by simpa using hne)).c0 (And.intro (t0.keep f (by simpa using hne)).c1 (And.intro (t0.keep f (by simpa using hne)).c2 (And.intro (t0.keep f (by simpa using hne)).c3 (t0.keep f (by simpa using hne)).c4))))
      have HQ := Lib.hid (fun W (f : Fr [] wc W) => q0.keep f (by simp))
      have HV := Lib.hid (fun W => valid_any (parP ws) W)
      have FC := Lib.hid (HF1.out.step fc)
      generalize parP ws = P at *
      clear t0 q0 HN1 HN3 HN4 HS HP hd0 hd1 hd2 hd3 wk1 wk2
      by_cases hok : P.ok = true
      · have hv0 : readP s = if lineB P = s then some P else none := by
          rw [HRP.out]
          simp only [hok, true_and]
        have HLn := Lib.hid (fun W (f : Fr [] wc W) => line_any P hok wc W (HE.out wc FC.out) f)
        rw [hok] at HV
        obtain ⟨L, hL⟩ : ∃ L, bs (lineB P) = L := ⟨_, rfl⟩
        rw [hL] at HLn
        obtain ⟨q, hq⟩ : ∃ q, decide (lineB P = s) = q := ⟨_, rfl⟩
        have hq2 : (L.toList == (bs s).toList) = q := by
          rw [← hL, ← hq, Bool.eq_iff_iff, beq_iff_eq, ByteArray.toList_eq, ByteArray.toList_eq, bs_list, bs_list, decide_eq_true_eq]
        have hr : (readP s).isSome = q ∧ ∀ g, readP s = some g → P = g := by
          rw [hv0]
          by_cases h : lineB P = s
          · rw [if_pos h]
            rw [decide_eq_true h] at hq
            exact ⟨hq, fun g hg => by simpa using hg⟩
          · rw [if_neg h]
            rw [decide_eq_false h] at hq
            exact ⟨hq, fun g hg => by cases hg⟩
        have HRN := Lib.hid hr
        clear hr hok HRP hv0 hq hL
        go_wp2_with fail
        obtain ⟨y0, y1, y2, y3, y4⟩ := HT.out wc (fr_up (Fr.refl [] wc))
        first
          | (go_region_with (first
              | (go_at_call 46; refine (HV.out _).mono ?_; rintro e w8 ⟨rfl, g8⟩; replace g8 := ((Fr.refl [] wc).drewN 1).step g8; obtain ⟨x0, x1, x2, x3, x4⟩ := HT.out _ (fr_up g8))
              | (go_at_call 27; have hg := g8; refine (HLn.out _ g8).mono ?_; rintro e w9 ⟨rfl, g9⟩; replace g9 := g8.step g9; clear x0 x1 x2 x3 x4; obtain ⟨x0, x1, x2, x3, x4⟩ := HT.out _ (fr_up g9); have q8 := HQ.out _ g9; have k0 := q8.c0; have k1 := q8.c1; have k2 := q8.c2; have k3 := q8.c3; have k4 := q8.c4; have z0 := q8.fz 0; have z1 := q8.fz 1; have z2 := q8.fz 2; have z3 := q8.fz 3; have z4 := q8.fz 4; replace q8 := Lib.hid q8)))
          | fail "region"
        all_goals go_wp2
        all_goals (
          have r1 := (q8.out).setAll P
          unfold setFt at r1
          clear k0 k1 k2 k3 k4
          have m0 := r1.c0
          have m1 := r1.c1
          have m2 := r1.c2
          have m3 := r1.c3
          have m4 := r1.c4
          refine bodyPost_ret (v := .tuple #[.agg #[.int .i64 P.k, .int .i64 P.c, .int .i64 P.d, .int .i64 P.a, .int .i64 P.g], .bool q]) (by simp [results, Tryd.results32, go_sem, m0, m1, m2, m3, m4]) rfl ?_
          exact ⟨P, by rw [HRN.out.1]; rfl, HRN.out.2, fr_set5 (FC.out.step g9) (Nat.le_refl _)⟩)
      · have hr : readP s = none := by rw [HRP.out, if_neg (fun h => hok h.1)]
        rw [Bool.not_eq_true] at hok
        rw [hok] at HV
        have HRN := Lib.hid hr
        clear hr hok HRP
        go_wp2_with fail
        obtain ⟨y0, y1, y2, y3, y4⟩ := HT.out wc (fr_up (Fr.refl [] wc))
        first
          | (go_region_with (go_at_call 46; refine (HV.out _).mono ?_; rintro e w8 ⟨rfl, g8⟩; replace g8 := ((Fr.refl [] wc).drewN 1).step g8; obtain ⟨x0, x1, x2, x3, x4⟩ := HT.out _ (fr_up g8); have q8 := HQ.out _ g8; have k0 := q8.c0; have k1 := q8.c1; have k2 := q8.c2; have k3 := q8.c3; have k4 := q8.c4; have z0 := q8.fz 0; have z1 := q8.fz 1; have z2 := q8.fz 2; have z3 := q8.fz 3; have z4 := q8.fz 4; replace q8 := Lib.hid q8))
          | fail "region"
        all_goals go_wp2
        all_goals (
          have r1 := (q8.out).setAll P
          unfold setFt at r1
          clear k0 k1 k2 k3 k4
          have m0 := r1.c0
          have m1 := r1.c1
          have m2 := r1.c2
          have m3 := r1.c3
          have m4 := r1.c4
          refine bodyPost_ret (v := .tuple #[.agg #[.int .i64 P.k, .int .i64 P.c, .int .i64 P.d, .int .i64 P.a, .int .i64 P.g], .bool false]) (by simp [results, Tryd.results32, go_sem, m0, m1, m2, m3, m4]) rfl ?_
          exact ⟨P, by rw [HRN.out]; rfl, (fun g h => by rw [HRN.out] at h; cases h), fr_set5 (FC.out.step g8) (Nat.le_refl _)⟩)
end Go.Proofs.YtededfkenlhokaaDoor
