/- Report: Tasks, Codes and Blocked: the texts of lists, or the error. -/
import Derived.Test.YtllmejkcohfbiaaGreatDoorR7
namespace Go.Proofs.YtllmejkcohfbiaaGreatDoor
open Go.RowKit Go.Shelf Go.Sort Go.Lib
set_option linter.unusedVariables false
set_option linter.unusedSimpArgs false
set_option maxRecDepth 100000
set_option maxHeartbeats 8000000

def tkAll (xs : List Tk) : Bool := decide (xs.length ≤ 1000) && tkOk xs
theorem tkContains_any (v : Value) (xs : List Tk) (hl : xs.length ≤ 100000) (V : Nat) (w : World) (hV : w.cell? ⟨V, 0, none⟩ = some (.func (.func 49) #[] #[])) (h : TkRow w v xs) :
    Calls Tryz.prog 79 #[v, .func (.func 80) #[] #[.pointer (some ⟨V, 0, none⟩)]] w fun e w' => e = .returned (.bool (!tkOk xs)) ∧ Fr [] w w' := by
  have HI := Lib.hid (tkIndex_any v xs hl V w hV h)
  obtain ⟨a, cap, rfl⟩ := h.val
  obtain ⟨ok, hok⟩ : ∃ b, tkOk xs = b := ⟨_, rfl⟩
  obtain ⟨n, hn⟩ : ∃ n, xs.length = n := ⟨_, rfl⟩
  rw [hok, hn] at HI
  rw [hok, hn]
  clear hok hn h hV hl
  cases ok
  all_goals
    go_enter Tryz.func79, Tryz.ntmps79
    go_wp2_with (go_at_call 111; refine HI.out.mono ?_; rintro e w1 ⟨⟨i, rfl, hi⟩, f1⟩)
    go_ret
    exact ⟨rfl, f1⟩
theorem tkWritten_bad (v : Value) (xs : List Tk) (hl : xs.length ≤ 100000) (w : World) (h : TkRow w v xs) (hb : tkAll xs = false) :
    Calls Tryz.prog 48 #[v, .func (.func 49) #[] #[], .func (.func 50) #[] #[]] w fun e w' => e = .returned (.tuple #[.string ⟨#[]⟩, .int .i64 2]) ∧ Fr [] w w' := by
  obtain ⟨a, cap, rfl⟩ := h.val
  have f0 : Fr [] w (w.alloc (.cells #[.func (.func 49) #[] #[]] 117)) := (Fr.refl [] w).alloc _
  have HI := Lib.hid (tkContains_any _ xs hl w.heap.size (w.alloc (.cells #[.func (.func 49) #[] #[]] 117)) (by simp) (h.new f0))
  obtain ⟨n, hn⟩ : ∃ n, xs.length = n := ⟨_, rfl⟩
  unfold tkAll at hb
  rw [hn] at hb hl HI ⊢
  clear h hn
  by_cases h1 : n ≤ 1000
  · rw [decide_eq_true h1, Bool.true_and] at hb
    rw [hb] at HI
    have h1' : ((n : Nat) : Int) ≤ 1000 := by omega
    clear hb
    go_enter Tryz.func48, Tryz.ntmps48
    go_wp2_with (go_at_call 79; refine HI.out.mono ?_; rintro e w1 ⟨rfl, f1⟩)
    go_ret2
    exact ⟨rfl, f0.step f1⟩
  · have h1' : ¬ ((n : Nat) : Int) ≤ 1000 := by omega
    clear hb HI
    go_enter Tryz.func48, Tryz.ntmps48
    go_wp2
    go_ret2
    exact ⟨rfl, f0⟩
theorem tkWritten_ok (v : Value) (xs : List Tk) (w : World) (ht : Tab w) (h : TkRow w v xs) (hwf : ∀ x ∈ xs, x.wf) (hb : tkAll xs = true) :
    Calls Tryz.prog 48 #[v, .func (.func 49) #[] #[], .func (.func 50) #[] #[]] w fun e w' => e = .returned (.tuple #[.string (bs (textOf taskB xs)), .int .i64 0]) ∧ Fr [] w w' := by
  unfold tkAll at hb
  simp only [Bool.and_eq_true, decide_eq_true_eq] at hb
  obtain ⟨h1000, hall⟩ := hb
  obtain ⟨a, cap, rfl⟩ := h.val
  have f0 : Fr [] w (w.alloc (.cells #[.func (.func 49) #[] #[]] 117)) := (Fr.refl [] w).alloc _
  have hix := tkContains_any _ xs (by omega) w.heap.size (w.alloc (.cells #[.func (.func 49) #[] #[]] 117)) (by simp) (h.new f0)
  rw [hall] at hix
  have HI := Lib.hid hix
  have hok : ∀ x ∈ xs, x.ok = true := List.all_eq_true.1 hall
  have HLINE := Lib.hid (fun (x : Tk) (hx : x ∈ xs) W (hT : Tab W) => (show Calls Tryz.prog 50 #[tkV x] W fun r w' => r = .returned (.string (bs (taskB x))) ∧ Fr [] W w' from taskLine_any x (hwf x hx) W hT))
  have hmax : ∀ x ∈ xs, (taskB x).length ≤ 300 := fun x hx => (taskB_len (hwf x hx)).1
  have HMX := Lib.hid hmax
  have HH := Lib.hid h
  have HT := Lib.hid ht
  obtain ⟨m, hm⟩ : ∃ m, xs.length = m := ⟨_, rfl⟩
  rw [hm] at h1000 HI HH ⊢
  have HM := Lib.hid hm
  have h1' : ((m : Nat) : Int) ≤ 1000 := by omega
  have hd1 : decide ((1000 : Int) < ((m : Nat) : Int)) = false := decide_eq_false (by omega)
  have F0 := Lib.hid f0
  clear hix hok hmax h hm hall ht f0 hwf
  go_enter Tryz.func48, Tryz.ntmps48
  go_wp2_with (go_at_call 79; refine HI.out.mono ?_; rintro e w1 ⟨rfl, f1⟩)
  have F1 := Lib.hid (F0.out.step f1)
  clear f1 F0 HI
  go_loopw [21] (fun i wr => ∃ k : Nat, i = .int .i64 k ∧ k ≤ m ∧ Lib.IsBuilder 151 5 w.heap.size w1.heap.size (Lib.byteCells (textOf taskB (xs.take k))) wr ∧ Fr [] w wr) (fun i _ => m - (intOf i).toNat)
  case atStart =>
    exact ⟨0, rfl, by omega, by simpa [textOf] using builder_new F1.out.size, F1.out.alloc _⟩
  case round =>
    rename_i wr
    obtain ⟨k, rfl, hk, hB, hF⟩ := hrel
    by_cases hlt : k < m
    · have hx := List.getElem?_eq_getElem (l := xs) (i := k) (by rw [HM.out]; exact hlt)
      obtain ⟨x, hxe⟩ : ∃ x, xs[k]'(by rw [HM.out]; exact hlt) = x := ⟨_, rfl⟩
      rw [hxe] at hx
      have hrow := HH.out.new hF
      rcases hrow with ⟨h1, _⟩ | ⟨g, off, cap', hv, hg, hcells⟩
      · rw [h1] at hx
        simp at hx
      rw [HM.out] at hv
      simp only [Value.slice.injEq] at hv
      obtain ⟨rfl, _, rfl⟩ := hv
      obtain ⟨c0, c1, c2, c3, c4, c5, c6, c7⟩ := hcells k x hx
      have htk : textOf taskB (xs.take (k + 1)) = textOf taskB (xs.take k) ++ taskB x := by
        rw [List.take_add_one, hx, textOf_app]
        simp [textOf]
      have hmx := textOf_max taskB 300 (xs.take k) (fun f hf => HMX.out f (List.mem_of_mem_take hf))
      rw [List.length_take] at hmx
      have hmx2 : (textOf taskB (xs.take k)).length ≤ 300 * 1000 := Nat.le_trans hmx (Nat.mul_le_mul_left _ (by omega))
      have hlx := HMX.out x (List.mem_of_getElem? hx)
      have HL := Lib.hid (fun W (f : Fr [] wr W) => HLINE.out x (List.mem_of_getElem? hx) W (tab_new HT.out (hF.step f)))
      unfold tkV at HL
      have HWS := Lib.hid (fun W (f : Fr [] wr W) => writeString_any w.heap.size w1.heap.size _ (bs (taskB x)) W (builder_keep hB f) (by rw [byteCells_len, bs_size]; omega) (by have := hF.size; have := f.size; omega))
      have HTK := Lib.hid htk
      have HF := Lib.hid hF
      have HB := Lib.hid hB
      clear hx hcells htk hmx hmx2 hlx hF hB hxe
      go_wp2_with (first
        | (go_at_call 50; refine (HL.out _ ((Fr.refl [] wr).alloc _)).mono ?_; rintro e w2 ⟨rfl, g2⟩; replace g2 := Fr.step ((Fr.refl [] wr).alloc _) g2)
        | (go_at_call 81; refine (HWS.out _ g2).mono ?_; rintro e w3 ⟨rfl, b3, g3⟩))
      go_roundw
      case rel => exact ⟨k + 1, by go_num, by omega, .inr (by rw [HTK.out, byteCells_app]; exact b3), fr_below (HF.out.step g2) g3⟩
      case measure => simp [intOf]; omega
    · have hkm : k = m := by omega
      subst hkm
      have htt : xs.take k = xs := List.take_of_length_le (by rw [HM.out]; omega)
      rw [htt] at hB
      have HS := Lib.hid (Tryz.Builder_String_any w.heap.size w1.heap.size _ wr hB hF.size)
      have HF := Lib.hid hF
      clear hB hF htt hlt
      go_wp2_with (go_at_call 82; refine HS.out.mono ?_; rintro e w4 ⟨rfl, g4⟩)
      go_ret2
      exact ⟨rfl, fr_below HF.out g4⟩
def tkText (xs : List Tk) : List UInt8 × Int := if tkAll xs = true then (textOf taskB xs, 0) else ([], 2)
theorem Tasks_any (v : Value) (xs : List Tk) (hl : xs.length ≤ 100000) (w : World) (ht : Tab w) (h : TkRow w v xs) (hwf : ∀ x ∈ xs, x.wf) :
    Calls Tryz.prog 20 #[v] w fun e w' => e = .returned (.tuple #[.string (bs (tkText xs).1), .int .i64 (tkText xs).2]) ∧ Fr [] w w' := by
  have H : Calls Tryz.prog 48 #[v, .func (.func 49) #[] #[], .func (.func 50) #[] #[]] w fun e w' => e = .returned (.tuple #[.string (bs (tkText xs).1), .int .i64 (tkText xs).2]) ∧ Fr [] w w' := by
    unfold tkText
    cases hb : tkAll xs with
    | true => exact tkWritten_ok v xs w ht h hwf hb
    | false => exact tkWritten_bad v xs hl w h hb
  have HH := Lib.hid H
  generalize tkText xs = y at HH ⊢
  obtain ⟨y1, y2⟩ := y
  clear H h hwf ht
  go_enter Tryz.func20, Tryz.ntmps20
  go_wp2_with fail
  refine HH.out.mono ?_
  rintro e w1 ⟨rfl, f1⟩
  go_wp2
  go_ret2
  exact ⟨rfl, f1⟩
def cdAll (xs : List Cd) : Bool := decide (xs.length ≤ 1000) && cdOk xs
theorem cdContains_any (v : Value) (xs : List Cd) (hl : xs.length ≤ 100000) (V : Nat) (w : World) (hV : w.cell? ⟨V, 0, none⟩ = some (.func (.func 52) #[] #[])) (h : CdRow w v xs) :
    Calls Tryz.prog 87 #[v, .func (.func 88) #[] #[.pointer (some ⟨V, 0, none⟩)]] w fun e w' => e = .returned (.bool (!cdOk xs)) ∧ Fr [] w w' := by
  have HI := Lib.hid (cdIndex_any v xs hl V w hV h)
  obtain ⟨a, cap, rfl⟩ := h.val
  obtain ⟨ok, hok⟩ : ∃ b, cdOk xs = b := ⟨_, rfl⟩
  obtain ⟨n, hn⟩ : ∃ n, xs.length = n := ⟨_, rfl⟩
  rw [hok, hn] at HI
  rw [hok, hn]
  clear hok hn h hV hl
  cases ok
  all_goals
    go_enter Tryz.func87, Tryz.ntmps87
    go_wp2_with (go_at_call 114; refine HI.out.mono ?_; rintro e w1 ⟨⟨i, rfl, hi⟩, f1⟩)
    go_ret
    exact ⟨rfl, f1⟩
theorem cdWritten_bad (v : Value) (xs : List Cd) (hl : xs.length ≤ 100000) (w : World) (h : CdRow w v xs) (hb : cdAll xs = false) :
    Calls Tryz.prog 51 #[v, .func (.func 52) #[] #[], .func (.func 53) #[] #[]] w fun e w' => e = .returned (.tuple #[.string ⟨#[]⟩, .int .i64 2]) ∧ Fr [] w w' := by
  obtain ⟨a, cap, rfl⟩ := h.val
  have f0 : Fr [] w (w.alloc (.cells #[.func (.func 52) #[] #[]] 120)) := (Fr.refl [] w).alloc _
  have HI := Lib.hid (cdContains_any _ xs hl w.heap.size (w.alloc (.cells #[.func (.func 52) #[] #[]] 120)) (by simp) (h.new f0))
  obtain ⟨n, hn⟩ : ∃ n, xs.length = n := ⟨_, rfl⟩
  unfold cdAll at hb
  rw [hn] at hb hl HI ⊢
  clear h hn
  by_cases h1 : n ≤ 1000
  · rw [decide_eq_true h1, Bool.true_and] at hb
    rw [hb] at HI
    have h1' : ((n : Nat) : Int) ≤ 1000 := by omega
    clear hb
    go_enter Tryz.func51, Tryz.ntmps51
    go_wp2_with (go_at_call 87; refine HI.out.mono ?_; rintro e w1 ⟨rfl, f1⟩)
    go_ret2
    exact ⟨rfl, f0.step f1⟩
  · have h1' : ¬ ((n : Nat) : Int) ≤ 1000 := by omega
    clear hb HI
    go_enter Tryz.func51, Tryz.ntmps51
    go_wp2
    go_ret2
    exact ⟨rfl, f0⟩
theorem cdWritten_ok (v : Value) (xs : List Cd) (w : World) (ht : Tab w) (h : CdRow w v xs) (hwf : ∀ x ∈ xs, x.wf) (hb : cdAll xs = true) :
    Calls Tryz.prog 51 #[v, .func (.func 52) #[] #[], .func (.func 53) #[] #[]] w fun e w' => e = .returned (.tuple #[.string (bs (textOf cdB xs)), .int .i64 0]) ∧ Fr [] w w' := by
  unfold cdAll at hb
  simp only [Bool.and_eq_true, decide_eq_true_eq] at hb
  obtain ⟨h1000, hall⟩ := hb
  obtain ⟨a, cap, rfl⟩ := h.val
  have f0 : Fr [] w (w.alloc (.cells #[.func (.func 52) #[] #[]] 120)) := (Fr.refl [] w).alloc _
  have hix := cdContains_any _ xs (by omega) w.heap.size (w.alloc (.cells #[.func (.func 52) #[] #[]] 120)) (by simp) (h.new f0)
  rw [hall] at hix
  have HI := Lib.hid hix
  have hok : ∀ x ∈ xs, x.ok = true := List.all_eq_true.1 hall
  have HLINE := Lib.hid (fun (x : Cd) (hx : x ∈ xs) W (hT : Tab W) => (show Calls Tryz.prog 53 #[cdV x] W fun r w' => r = .returned (.string (bs (cdB x))) ∧ Fr [] W w' from codeLine_any x (hwf x hx) W hT))
  have hmax : ∀ x ∈ xs, (cdB x).length ≤ 100 := fun x hx => cdB_len (hwf x hx)
  have HMX := Lib.hid hmax
  have HH := Lib.hid h
  have HT := Lib.hid ht
  obtain ⟨m, hm⟩ : ∃ m, xs.length = m := ⟨_, rfl⟩
  rw [hm] at h1000 HI HH ⊢
  have HM := Lib.hid hm
  have h1' : ((m : Nat) : Int) ≤ 1000 := by omega
  have hd1 : decide ((1000 : Int) < ((m : Nat) : Int)) = false := decide_eq_false (by omega)
  have F0 := Lib.hid f0
  clear hix hok hmax h hm hall ht f0 hwf
  go_enter Tryz.func51, Tryz.ntmps51
  go_wp2_with (go_at_call 87; refine HI.out.mono ?_; rintro e w1 ⟨rfl, f1⟩)
  have F1 := Lib.hid (F0.out.step f1)
  clear f1 F0 HI
  go_loopw [21] (fun i wr => ∃ k : Nat, i = .int .i64 k ∧ k ≤ m ∧ Lib.IsBuilder 151 5 w.heap.size w1.heap.size (Lib.byteCells (textOf cdB (xs.take k))) wr ∧ Fr [] w wr) (fun i _ => m - (intOf i).toNat)
  case atStart =>
    exact ⟨0, rfl, by omega, by simpa [textOf] using builder_new F1.out.size, F1.out.alloc _⟩
  case round =>
    rename_i wr
    obtain ⟨k, rfl, hk, hB, hF⟩ := hrel
    by_cases hlt : k < m
    · have hx := List.getElem?_eq_getElem (l := xs) (i := k) (by rw [HM.out]; exact hlt)
      obtain ⟨x, hxe⟩ : ∃ x, xs[k]'(by rw [HM.out]; exact hlt) = x := ⟨_, rfl⟩
      rw [hxe] at hx
      have hrow := HH.out.new hF
      rcases hrow with ⟨h1, _⟩ | ⟨g, off, cap', hv, hg, hcells⟩
      · rw [h1] at hx
        simp at hx
      rw [HM.out] at hv
      simp only [Value.slice.injEq] at hv
      obtain ⟨rfl, _, rfl⟩ := hv
      obtain ⟨c0, c1, c2⟩ := hcells k x hx
      have htk : textOf cdB (xs.take (k + 1)) = textOf cdB (xs.take k) ++ cdB x := by
        rw [List.take_add_one, hx, textOf_app]
        simp [textOf]
      have hmx := textOf_max cdB 100 (xs.take k) (fun f hf => HMX.out f (List.mem_of_mem_take hf))
      rw [List.length_take] at hmx
      have hmx2 : (textOf cdB (xs.take k)).length ≤ 100 * 1000 := Nat.le_trans hmx (Nat.mul_le_mul_left _ (by omega))
      have hlx := HMX.out x (List.mem_of_getElem? hx)
      have HL := Lib.hid (fun W (f : Fr [] wr W) => HLINE.out x (List.mem_of_getElem? hx) W (tab_new HT.out (hF.step f)))
      unfold cdV at HL
      have HWS := Lib.hid (fun W (f : Fr [] wr W) => writeString_any w.heap.size w1.heap.size _ (bs (cdB x)) W (builder_keep hB f) (by rw [byteCells_len, bs_size]; omega) (by have := hF.size; have := f.size; omega))
      have HTK := Lib.hid htk
      have HF := Lib.hid hF
      have HB := Lib.hid hB
      clear hx hcells htk hmx hmx2 hlx hF hB hxe
      go_wp2_with (first
        | (go_at_call 53; refine (HL.out _ ((Fr.refl [] wr).alloc _)).mono ?_; rintro e w2 ⟨rfl, g2⟩; replace g2 := Fr.step ((Fr.refl [] wr).alloc _) g2)
        | (go_at_call 81; refine (HWS.out _ g2).mono ?_; rintro e w3 ⟨rfl, b3, g3⟩))
      go_roundw
      case rel => exact ⟨k + 1, by go_num, by omega, .inr (by rw [HTK.out, byteCells_app]; exact b3), fr_below (HF.out.step g2) g3⟩
      case measure => simp [intOf]; omega
    · have hkm : k = m := by omega
      subst hkm
      have htt : xs.take k = xs := List.take_of_length_le (by rw [HM.out]; omega)
      rw [htt] at hB
      have HS := Lib.hid (Tryz.Builder_String_any w.heap.size w1.heap.size _ wr hB hF.size)
      have HF := Lib.hid hF
      clear hB hF htt hlt
      go_wp2_with (go_at_call 82; refine HS.out.mono ?_; rintro e w4 ⟨rfl, g4⟩)
      go_ret2
      exact ⟨rfl, fr_below HF.out g4⟩
def cdText (xs : List Cd) : List UInt8 × Int := if cdAll xs = true then (textOf cdB xs, 0) else ([], 2)
theorem Codes_any (v : Value) (xs : List Cd) (hl : xs.length ≤ 100000) (w : World) (ht : Tab w) (h : CdRow w v xs) (hwf : ∀ x ∈ xs, x.wf) :
    Calls Tryz.prog 22 #[v] w fun e w' => e = .returned (.tuple #[.string (bs (cdText xs).1), .int .i64 (cdText xs).2]) ∧ Fr [] w w' := by
  have H : Calls Tryz.prog 51 #[v, .func (.func 52) #[] #[], .func (.func 53) #[] #[]] w fun e w' => e = .returned (.tuple #[.string (bs (cdText xs).1), .int .i64 (cdText xs).2]) ∧ Fr [] w w' := by
    unfold cdText
    cases hb : cdAll xs with
    | true => exact cdWritten_ok v xs w ht h hwf hb
    | false => exact cdWritten_bad v xs hl w h hb
  have HH := Lib.hid H
  generalize cdText xs = y at HH ⊢
  obtain ⟨y1, y2⟩ := y
  clear H h hwf ht
  go_enter Tryz.func22, Tryz.ntmps22
  go_wp2_with fail
  refine HH.out.mono ?_
  rintro e w1 ⟨rfl, f1⟩
  go_wp2
  go_ret2
  exact ⟨rfl, f1⟩
theorem bkOk_why {x : Bk} (h : x.ok = true) : 0 ≤ x.why ∧ x.why < 7 := by
  unfold Bk.ok at h
  rw [decide_eq_true_eq] at h
  exact ⟨h.2.1, h.2.2⟩
def bkAll (xs : List Bk) : Bool := decide (xs.length ≤ 1000) && bkOk xs
theorem bkContains_any (v : Value) (xs : List Bk) (hl : xs.length ≤ 100000) (V : Nat) (w : World) (hV : w.cell? ⟨V, 0, none⟩ = some (.func (.func 57) #[] #[])) (h : BkRow w v xs) :
    Calls Tryz.prog 89 #[v, .func (.func 90) #[] #[.pointer (some ⟨V, 0, none⟩)]] w fun e w' => e = .returned (.bool (!bkOk xs)) ∧ Fr [] w w' := by
  have HI := Lib.hid (bkIndex_any v xs hl V w hV h)
  obtain ⟨a, cap, rfl⟩ := h.val
  obtain ⟨ok, hok⟩ : ∃ b, bkOk xs = b := ⟨_, rfl⟩
  obtain ⟨n, hn⟩ : ∃ n, xs.length = n := ⟨_, rfl⟩
  rw [hok, hn] at HI
  rw [hok, hn]
  clear hok hn h hV hl
  cases ok
  all_goals
    go_enter Tryz.func89, Tryz.ntmps89
    go_wp2_with (go_at_call 115; refine HI.out.mono ?_; rintro e w1 ⟨⟨i, rfl, hi⟩, f1⟩)
    go_ret
    exact ⟨rfl, f1⟩
theorem bkWritten_bad (v : Value) (xs : List Bk) (hl : xs.length ≤ 100000) (w : World) (h : BkRow w v xs) (hb : bkAll xs = false) :
    Calls Tryz.prog 56 #[v, .func (.func 57) #[] #[], .func (.func 58) #[] #[]] w fun e w' => e = .returned (.tuple #[.string ⟨#[]⟩, .int .i64 2]) ∧ Fr [] w w' := by
  obtain ⟨a, cap, rfl⟩ := h.val
  have f0 : Fr [] w (w.alloc (.cells #[.func (.func 57) #[] #[]] 124)) := (Fr.refl [] w).alloc _
  have HI := Lib.hid (bkContains_any _ xs hl w.heap.size (w.alloc (.cells #[.func (.func 57) #[] #[]] 124)) (by simp) (h.new f0))
  obtain ⟨n, hn⟩ : ∃ n, xs.length = n := ⟨_, rfl⟩
  unfold bkAll at hb
  rw [hn] at hb hl HI ⊢
  clear h hn
  by_cases h1 : n ≤ 1000
  · rw [decide_eq_true h1, Bool.true_and] at hb
    rw [hb] at HI
    have h1' : ((n : Nat) : Int) ≤ 1000 := by omega
    clear hb
    go_enter Tryz.func56, Tryz.ntmps56
    go_wp2_with (go_at_call 89; refine HI.out.mono ?_; rintro e w1 ⟨rfl, f1⟩)
    go_ret2
    exact ⟨rfl, f0.step f1⟩
  · have h1' : ¬ ((n : Nat) : Int) ≤ 1000 := by omega
    clear hb HI
    go_enter Tryz.func56, Tryz.ntmps56
    go_wp2
    go_ret2
    exact ⟨rfl, f0⟩
theorem bkWritten_ok (v : Value) (xs : List Bk) (w : World) (ht : Tab w) (h : BkRow w v xs) (hwf : ∀ x ∈ xs, x.wf) (hb : bkAll xs = true) :
    Calls Tryz.prog 56 #[v, .func (.func 57) #[] #[], .func (.func 58) #[] #[]] w fun e w' => e = .returned (.tuple #[.string (bs (textOf bkB xs)), .int .i64 0]) ∧ Fr [] w w' := by
  unfold bkAll at hb
  simp only [Bool.and_eq_true, decide_eq_true_eq] at hb
  obtain ⟨h1000, hall⟩ := hb
  obtain ⟨a, cap, rfl⟩ := h.val
  have f0 : Fr [] w (w.alloc (.cells #[.func (.func 57) #[] #[]] 124)) := (Fr.refl [] w).alloc _
  have hix := bkContains_any _ xs (by omega) w.heap.size (w.alloc (.cells #[.func (.func 57) #[] #[]] 124)) (by simp) (h.new f0)
  rw [hall] at hix
  have HI := Lib.hid hix
  have hok : ∀ x ∈ xs, x.ok = true := List.all_eq_true.1 hall
  have HLINE := Lib.hid (fun (x : Bk) (hx : x ∈ xs) W (hT : Tab W) => (show Calls Tryz.prog 58 #[bkV x] W fun r w' => r = .returned (.string (bs (bkB x))) ∧ Fr [] W w' from blockedLine_any x (hwf x hx) (bkOk_why (hok x hx)) W hT))
  have hmax : ∀ x ∈ xs, (bkB x).length ≤ 100 := fun x hx => bkB_len (hwf x hx) (bkOk_why (hok x hx))
  have HMX := Lib.hid hmax
  have HH := Lib.hid h
  have HT := Lib.hid ht
  obtain ⟨m, hm⟩ : ∃ m, xs.length = m := ⟨_, rfl⟩
  rw [hm] at h1000 HI HH ⊢
  have HM := Lib.hid hm
  have h1' : ((m : Nat) : Int) ≤ 1000 := by omega
  have hd1 : decide ((1000 : Int) < ((m : Nat) : Int)) = false := decide_eq_false (by omega)
  have F0 := Lib.hid f0
  clear hix hok hmax h hm hall ht f0 hwf
  go_enter Tryz.func56, Tryz.ntmps56
  go_wp2_with (go_at_call 89; refine HI.out.mono ?_; rintro e w1 ⟨rfl, f1⟩)
  have F1 := Lib.hid (F0.out.step f1)
  clear f1 F0 HI
  go_loopw [21] (fun i wr => ∃ k : Nat, i = .int .i64 k ∧ k ≤ m ∧ Lib.IsBuilder 151 5 w.heap.size w1.heap.size (Lib.byteCells (textOf bkB (xs.take k))) wr ∧ Fr [] w wr) (fun i _ => m - (intOf i).toNat)
  case atStart =>
    exact ⟨0, rfl, by omega, by simpa [textOf] using builder_new F1.out.size, F1.out.alloc _⟩
  case round =>
    rename_i wr
    obtain ⟨k, rfl, hk, hB, hF⟩ := hrel
    by_cases hlt : k < m
    · have hx := List.getElem?_eq_getElem (l := xs) (i := k) (by rw [HM.out]; exact hlt)
      obtain ⟨x, hxe⟩ : ∃ x, xs[k]'(by rw [HM.out]; exact hlt) = x := ⟨_, rfl⟩
      rw [hxe] at hx
      have hrow := HH.out.new hF
      rcases hrow with ⟨h1, _⟩ | ⟨g, off, cap', hv, hg, hcells⟩
      · rw [h1] at hx
        simp at hx
      rw [HM.out] at hv
      simp only [Value.slice.injEq] at hv
      obtain ⟨rfl, _, rfl⟩ := hv
      obtain ⟨c0, c1, c2⟩ := hcells k x hx
      have htk : textOf bkB (xs.take (k + 1)) = textOf bkB (xs.take k) ++ bkB x := by
        rw [List.take_add_one, hx, textOf_app]
        simp [textOf]
      have hmx := textOf_max bkB 100 (xs.take k) (fun f hf => HMX.out f (List.mem_of_mem_take hf))
      rw [List.length_take] at hmx
      have hmx2 : (textOf bkB (xs.take k)).length ≤ 100 * 1000 := Nat.le_trans hmx (Nat.mul_le_mul_left _ (by omega))
      have hlx := HMX.out x (List.mem_of_getElem? hx)
      have HL := Lib.hid (fun W (f : Fr [] wr W) => HLINE.out x (List.mem_of_getElem? hx) W (tab_new HT.out (hF.step f)))
      unfold bkV at HL
      have HWS := Lib.hid (fun W (f : Fr [] wr W) => writeString_any w.heap.size w1.heap.size _ (bs (bkB x)) W (builder_keep hB f) (by rw [byteCells_len, bs_size]; omega) (by have := hF.size; have := f.size; omega))
      have HTK := Lib.hid htk
      have HF := Lib.hid hF
      have HB := Lib.hid hB
      clear hx hcells htk hmx hmx2 hlx hF hB hxe
      go_wp2_with (first
        | (go_at_call 58; refine (HL.out _ ((Fr.refl [] wr).alloc _)).mono ?_; rintro e w2 ⟨rfl, g2⟩; replace g2 := Fr.step ((Fr.refl [] wr).alloc _) g2)
        | (go_at_call 81; refine (HWS.out _ g2).mono ?_; rintro e w3 ⟨rfl, b3, g3⟩))
      go_roundw
      case rel => exact ⟨k + 1, by go_num, by omega, .inr (by rw [HTK.out, byteCells_app]; exact b3), fr_below (HF.out.step g2) g3⟩
      case measure => simp [intOf]; omega
    · have hkm : k = m := by omega
      subst hkm
      have htt : xs.take k = xs := List.take_of_length_le (by rw [HM.out]; omega)
      rw [htt] at hB
      have HS := Lib.hid (Tryz.Builder_String_any w.heap.size w1.heap.size _ wr hB hF.size)
      have HF := Lib.hid hF
      clear hB hF htt hlt
      go_wp2_with (go_at_call 82; refine HS.out.mono ?_; rintro e w4 ⟨rfl, g4⟩)
      go_ret2
      exact ⟨rfl, fr_below HF.out g4⟩
def bkText (xs : List Bk) : List UInt8 × Int := if bkAll xs = true then (textOf bkB xs, 0) else ([], 2)
theorem Blocked_any (v : Value) (xs : List Bk) (hl : xs.length ≤ 100000) (w : World) (ht : Tab w) (h : BkRow w v xs) (hwf : ∀ x ∈ xs, x.wf) :
    Calls Tryz.prog 24 #[v] w fun e w' => e = .returned (.tuple #[.string (bs (bkText xs).1), .int .i64 (bkText xs).2]) ∧ Fr [] w w' := by
  have H : Calls Tryz.prog 56 #[v, .func (.func 57) #[] #[], .func (.func 58) #[] #[]] w fun e w' => e = .returned (.tuple #[.string (bs (bkText xs).1), .int .i64 (bkText xs).2]) ∧ Fr [] w w' := by
    unfold bkText
    cases hb : bkAll xs with
    | true => exact bkWritten_ok v xs w ht h hwf hb
    | false => exact bkWritten_bad v xs hl w h hb
  have HH := Lib.hid H
  generalize bkText xs = y at HH ⊢
  obtain ⟨y1, y2⟩ := y
  clear H h hwf ht
  go_enter Tryz.func24, Tryz.ntmps24
  go_wp2_with fail
  refine HH.out.mono ?_
  rintro e w1 ⟨rfl, f1⟩
  go_wp2
  go_ret2
  exact ⟨rfl, f1⟩
end Go.Proofs.YtllmejkcohfbiaaGreatDoor
