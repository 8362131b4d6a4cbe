/- Contract of chaos's Text. -/
import Derived.Test.YtededfkenlhokaaDoorC16
import Derived.Test.YtededfkenlhokaaDoorC10
namespace Go.Proofs.YtededfkenlhokaaDoor
open Go.RowKit Go.Shelf
set_option linter.unusedVariables false
set_option maxRecDepth 100000
set_option maxHeartbeats 4000000

theorem line_max {f : Ft} (hok : f.ok = true) : (lineB f).length ≤ 40 := by
  obtain ⟨⟨c1, c2⟩, ⟨a1, a2⟩, ⟨g1, g2⟩, hd, hk, h4⟩ := Ft.nums hok
  have b1 := kindB_len f.k
  have b2 := decDigits_len7 f.c.toNat c1
  have b3 := dirB_len f.d
  have b4 := decDigits_len7 f.a.toNat a1
  have b5 := decDigits_len7 f.g.toNat g1
  unfold lineB wordsOf
  split
  · have := join_len4' (kindB f.k) (Lib.decDigits f.c.toNat) (dirB f.d) (Lib.decDigits f.a.toNat)
    simp only [List.append_nil, List.length_append, List.length_cons, List.length_nil] at this ⊢
    omega
  · have := join_len5' (kindB f.k) (Lib.decDigits f.c.toNat) (dirB f.d) (Lib.decDigits f.a.toNat) (Lib.decDigits f.g.toNat)
    simp only [List.cons_append, List.nil_append, List.length_append, List.length_cons, List.length_nil] at this ⊢
    omega
/-- The text of faults. -/
def textB (fs : List Ft) : List UInt8 := (fs.map lineB).flatten
theorem textB_app (a b : List Ft) : textB (a ++ b) = textB a ++ textB b := by simp [textB]
theorem text_max : ∀ (fs : List Ft), (∀ f ∈ fs, f.ok = true) → (textB fs).length ≤ 40 * fs.length
  | [], _ => by simp [textB]
  | f :: r, h => by
    have h1 := line_max (h f (by simp))
    have h2 := text_max r (fun x hx => h x (List.mem_cons_of_mem _ hx))
    unfold textB at h2 ⊢
    simp only [List.map_cons, List.flatten_cons, List.length_append, List.length_cons]
    omega
theorem fr_below {w a c : World} (h : Fr [] w a) (k : Below w.heap.size a c) : Fr [] w c :=
  ⟨k.os.trans h.os, k.tape.trans h.tape, k.output.trans h.output, Nat.le_trans h.size k.size, fun i hi hn => (k.block i hi).trans (h.block i hi hn)⟩
theorem builder_keep {B b : Nat} {l : List Value} {w w' : World} (h : Lib.IsBuilder 74 5 B b l w) (hf : Fr [] w w') : Lib.IsBuilder 74 5 B b l w' := by
  rcases h with ⟨h1, v, h2, h3, h4⟩ | ⟨h1, v, h2, h3, h4⟩
  · exact .inl ⟨h1, v, (hf.block b (Array.getElem?_eq_some_iff.1 h2).1 (by simp)).trans h2, row_fr h3 hf, h4⟩
  · exact .inr ⟨h1, v, (hf.block b (Array.getElem?_eq_some_iff.1 h2).1 (by simp)).trans h2, row_fr h3 hf, h4⟩
theorem builder_new {B : Nat} {w : World} (hB : B ≤ w.heap.size) : Lib.IsBuilder 74 5 B w.heap.size (Lib.byteCells []) (w.alloc (.cells #[.pointer none, .slice none 0 0] 74)) :=
  .inl ⟨hB, .slice none 0 0, World.alloc_heap_new w _, World.ownsRow_nil _ _ _ _, by simp [Value.ownBlock]⟩
theorem byteCells_app (a b : List UInt8) : Lib.byteCells (a ++ b) = Lib.byteCells a ++ Lib.strCells (bs b) := by
  simp [Lib.byteCells, Lib.strCells, bs]
theorem byteCells_len (a : List UInt8) : (Lib.byteCells a).length = a.length := by simp [Lib.byteCells]

theorem text_bad (v : Value) (fs : List Ft) (hl : fs.length ≤ 100000) (w : World) (h : FtRow w v fs) (hb : planB fs = false) :
    Calls Tryd.prog 8 #[v] w fun e w' => e = .returned (.tuple #[.string (bs []), .int .i64 2]) ∧ Fr [] w w' := by
  have hP := plan_any v fs hl w h
  rw [show (decide (fs.length ≤ 64) && allOk fs) = false from hb] at hP
  have HP := Lib.hid hP
  clear hP
  go_enter Tryd.func8, Tryd.ntmps8
  go_wp2_with (go_at_call 25; refine HP.out.mono ?_; rintro e w1 ⟨rfl, f1⟩)
  go_ret2
  exact ⟨rfl, f1⟩
theorem text_ok (v : Value) (fs : List Ft) (w0 w : World) (he : Env w0) (hw : Fr [] w0 w) (h : FtRow w v fs) (hb : planB fs = true) :
    Calls Tryd.prog 8 #[v] w fun e w' => e = .returned (.tuple #[.string (bs (textB fs)), .int .i64 0]) ∧ Fr [] w w' := by
  have hb' := hb
  unfold planB at hb'
  simp only [Bool.and_eq_true, decide_eq_true_eq] at hb'
  obtain ⟨h64, hall⟩ := hb'
  have hP := plan_any v fs (by omega) w h
  rw [show (decide (fs.length ≤ 64) && allOk fs) = true from hb] at hP
  have hok : ∀ f ∈ fs, f.ok = true := by
    unfold allOk at hall
    exact List.all_eq_true.1 hall
  obtain ⟨a, cap, rfl⟩ := h.val
  have HP := Lib.hid hP
  have HO := Lib.hid hok
  have HH := Lib.hid h
  obtain ⟨m, hm⟩ : ∃ m, fs.length = m := ⟨_, rfl⟩
  rw [hm] at h64 HP HH
  have HM := Lib.hid hm
  rw [hm]
  clear hP hok h hm hb hall
  go_enter Tryd.func8, Tryd.ntmps8
  go_wp2_with (go_at_call 25; refine HP.out.mono ?_; rintro e w1 ⟨rfl, f1⟩)
  go_loopw [12] (fun i wr => ∃ k : Nat, i = .int .i64 k ∧ k ≤ m ∧ Lib.IsBuilder 74 5 w.heap.size w1.heap.size (Lib.byteCells (textB (fs.take k))) wr ∧ Fr [] w wr) (fun i _ => m - (intOf i).toNat)
  case atStart =>
    exact ⟨0, rfl, by omega, by simpa [textB] using builder_new f1.size, f1.alloc _⟩
  case round =>
    rename_i wr
    obtain ⟨k, rfl, hk, hB, hF⟩ := hrel
    by_cases hlt : k < m
    · have hx := List.getElem?_eq_getElem (l := fs) (i := k) (by rw [HM.out]; exact hlt)
      obtain ⟨x, hxe⟩ : ∃ x, fs[k]'(by rw [HM.out]; exact hlt) = x := ⟨_, rfl⟩
      rw [hxe] at hx
      have hxok := HO.out x (List.mem_of_getElem? hx)
      have hrow := HH.out.new hF
      rcases hrow with ⟨h1, _⟩ | ⟨g, off, cap', hv, hg, hcells⟩
      · rw [h1] at hx
        simp at hx
      rw [HM.out] at hv
      simp only [Value.slice.injEq] at hv
      obtain ⟨rfl, _, rfl⟩ := hv
      obtain ⟨c0, c1, c2, c3, c4⟩ := hcells k x hx
      have htk : textB (fs.take (k + 1)) = textB (fs.take k) ++ lineB x := by
        rw [List.take_add_one, hx, textB_app]
        simp [textB]
      have hmx := text_max (fs.take k) (fun f hf => HO.out f (List.mem_of_mem_take hf))
      rw [List.length_take] at hmx
      have hlx := line_max hxok
      have HL := Lib.hid (fun W (f : Fr [] wr W) => line_any x hxok w0 W he (hw.step (hF.step f)))
      simp only [ftV] at HL
      have HWS := Lib.hid (fun W (f : Fr [] wr W) => writeString_any w.heap.size w1.heap.size _ (bs (lineB x)) W (builder_keep hB f) (by rw [byteCells_len, bs_size]; omega) (by have := hF.size; have := f.size; omega))
      have HT := Lib.hid htk
      have HF := Lib.hid hF
      have HB := Lib.hid hB
      clear hx hcells htk hmx hlx hF hB hxok hxe
      go_wp2_with (first
        | (go_at_call 27; refine (HL.out _ ((Fr.refl [] wr).alloc _)).mono ?_; rintro e w2 ⟨rfl, g2⟩; replace g2 := Fr.step ((Fr.refl [] wr).alloc _) g2)
        | (go_at_call 26; refine (HWS.out _ g2).mono ?_; rintro e w3 ⟨rfl, b3, g3⟩))
      go_roundw
      case rel => exact ⟨k + 1, by go_num, by omega, .inr (by rw [HT.out, byteCells_app]; exact b3), fr_below (HF.out.step g2) g3⟩
      case measure => simp [intOf]; omega
    · have hkm : k = m := by omega
      subst hkm
      have ht : fs.take k = fs := List.take_of_length_le (by rw [HM.out]; omega)
      rw [ht] at hB
      have HS := Lib.hid (Tryd.Builder_String_any w.heap.size w1.heap.size _ wr hB hF.size)
      have HF := Lib.hid hF
      clear hB hF ht hlt
      go_wp2_with (go_at_call 28; refine HS.out.mono ?_; rintro e w4 ⟨rfl, g4⟩)
      go_ret2
      exact ⟨rfl, fr_below HF.out g4⟩
end Go.Proofs.YtededfkenlhokaaDoor
