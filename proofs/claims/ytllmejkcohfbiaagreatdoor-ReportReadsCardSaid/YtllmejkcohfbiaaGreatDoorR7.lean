/- Report: lists of the three kinds of lines, written (Tasks, Codes, Blocked). -/
import Derived.Test.YtllmejkcohfbiaaGreatDoorR6
import Derived.Test.YtllmejkcohfbiaaGreatDoorC10
namespace Go.Proofs.YtllmejkcohfbiaaGreatDoor
open Go.RowKit Go.Shelf Go.Sort Go.Lib
set_option linter.unusedVariables false
set_option linter.unusedSimpArgs false
set_option maxRecDepth 100000
set_option maxHeartbeats 8000000

theorem fr_below {w a c : World} (h : Fr [] w a) (k : Below w.heap.size a c) : Fr [] w c :=
  ⟨k.os.trans h.os, k.tape.trans h.tape, k.output.trans h.output, Nat.le_trans h.size k.size, fun i hi hn => (k.block i hi).trans (h.block i hi hn)⟩
theorem builder_keep {B b : Nat} {l : List Value} {w w' : World} (h : Lib.IsBuilder 151 5 B b l w) (hf : Fr [] w w') : Lib.IsBuilder 151 5 B b l w' := by
  rcases h with ⟨h1, v, h2, h3, h4⟩ | ⟨h1, v, h2, h3, h4⟩
  · exact .inl ⟨h1, v, (hf.block b (Array.getElem?_eq_some_iff.1 h2).1 (by simp)).trans h2, row_fr h3 hf, h4⟩
  · exact .inr ⟨h1, v, (hf.block b (Array.getElem?_eq_some_iff.1 h2).1 (by simp)).trans h2, row_fr h3 hf, h4⟩
theorem builder_new {B : Nat} {w : World} (hB : B ≤ w.heap.size) : Lib.IsBuilder 151 5 B w.heap.size (Lib.byteCells []) (w.alloc (.cells #[.pointer none, .slice none 0 0] 151)) :=
  .inl ⟨hB, .slice none 0 0, World.alloc_heap_new w _, World.ownsRow_nil _ _ _ _, by simp [Value.ownBlock]⟩
theorem byteCells_app (a b : List UInt8) : Lib.byteCells (a ++ b) = Lib.byteCells a ++ Lib.strCells (bs b) := by
  simp [Lib.byteCells, Lib.strCells, bs]
theorem byteCells_len (a : List UInt8) : (Lib.byteCells a).length = a.length := by simp [Lib.byteCells]
def textOf {α : Type} (line : α → List UInt8) (l : List α) : List UInt8 := (l.map line).flatten
theorem textOf_app {α : Type} (line : α → List UInt8) (a b : List α) : textOf line (a ++ b) = textOf line a ++ textOf line b := by simp [textOf]
theorem textOf_max {α : Type} (line : α → List UInt8) (m : Nat) : ∀ l : List α, (∀ f ∈ l, (line f).length ≤ m) → (textOf line l).length ≤ m * l.length
  | [], _ => by simp [textOf]
  | f :: r, h => by
    have h1 := h f (by simp)
    have h2 := textOf_max line m r (fun x hx => h x (List.mem_cons_of_mem _ hx))
    unfold textOf at h2 ⊢
    simp only [List.map_cons, List.flatten_cons, List.length_append, List.length_cons]
    rw [Nat.mul_add]
    omega
/-- A slice of such elements that can be read. -/
def TkRow (w : World) (v : Value) (xs : List Tk) : Prop :=
  (xs = [] ∧ ∃ a c, v = .slice a 0 c) ∨ ∃ g off cap, v = .slice (some ⟨g, off, none⟩) xs.length cap ∧ g < w.heap.size ∧ ∀ (i : Nat) x, xs[i]? = some x →
    w.cell? ⟨g, off + i * 8, none⟩ = some (.int .i64 x.t) ∧ w.cell? ⟨g, off + i * 8 + 1, none⟩ = some (.int .i64 x.calls) ∧ w.cell? ⟨g, off + i * 8 + 2, none⟩ = some (.int .i64 x.refused) ∧ w.cell? ⟨g, off + i * 8 + 3, none⟩ = some (.int .i64 x.steps) ∧ w.cell? ⟨g, off + i * 8 + 4, none⟩ = some (.int .i64 x.ended) ∧ w.cell? ⟨g, off + i * 8 + 5, none⟩ = some (.int .i64 x.failed) ∧ w.cell? ⟨g, off + i * 8 + 6, none⟩ = some (.int .i64 x.read) ∧ w.cell? ⟨g, off + i * 8 + 7, none⟩ = some (.int .i64 x.written)
theorem TkRow.new {w w' : World} {v : Value} {xs : List Tk} (h : TkRow w v xs) (hf : Fr [] w w') : TkRow w' v xs := by
  rcases h with h | ⟨g, off, cap, rfl, h1, h2⟩
  · exact .inl h
  · refine .inr ⟨g, off, cap, rfl, Nat.lt_of_lt_of_le h1 hf.size, fun i x hx => ?_⟩
    obtain ⟨c0, c1, c2, c3, c4, c5, c6, c7⟩ := h2 i x hx
    exact ⟨hf.keep c0 (by simp), hf.keep c1 (by simp), hf.keep c2 (by simp), hf.keep c3 (by simp), hf.keep c4 (by simp), hf.keep c5 (by simp), hf.keep c6 (by simp), hf.keep c7 (by simp)⟩
theorem TkRow.val {w : World} {v : Value} {xs : List Tk} (h : TkRow w v xs) : ∃ a c, v = .slice a xs.length c := by
  rcases h with ⟨rfl, a, c, rfl⟩ | ⟨g, off, cap, rfl, h1, h2⟩
  · exact ⟨a, c, rfl⟩
  · exact ⟨_, _, rfl⟩
def FnAt (w : World) (V : Nat) (f : Value) : Prop := w.cell? ⟨V, 0, none⟩ = some f
theorem tkBad_any (x : Tk) (V : Nat) (w : World) (hV : w.cell? ⟨V, 0, none⟩ = some (.func (.func 49) #[] #[])) :
    Calls Tryz.prog 80 #[tkV x, .pointer (some ⟨V, 0, none⟩)] w fun e w' => e = .returned (.bool (!x.ok)) ∧ Fr [] w w' := by
  have hV' : (w.alloc (.cells #[.int .i64 x.t, .int .i64 x.calls, .int .i64 x.refused, .int .i64 x.steps, .int .i64 x.ended, .int .i64 x.failed, .int .i64 x.read, .int .i64 x.written] 58)).cell? ⟨V, 0, none⟩ = some (.func (.func 49) #[] #[]) := ((Fr.refl [] w).alloc _).keep hV (by simp)
  have HV := Lib.hid (fun W => taskValid_any x W)
  unfold tkV at HV ⊢
  obtain ⟨ok, hok⟩ : ∃ b, x.ok = b := ⟨_, rfl⟩
  rw [hok] at HV ⊢
  clear hok
  go_enter Tryz.func80, Tryz.ntmps80
  go_wp2_with (go_at_call 49; refine (HV.out _).mono ?_; rintro e w1 ⟨rfl, f1⟩)
  go_ret
  exact ⟨rfl, ((Fr.refl [] w).alloc _).step f1⟩
def tkOk (xs : List Tk) : Bool := xs.all Tk.ok
theorem tkIndex_any (v : Value) (xs : List Tk) (hl : xs.length ≤ 100000) (V : Nat) (w : World) (hV : w.cell? ⟨V, 0, none⟩ = some (.func (.func 49) #[] #[])) (h : TkRow w v xs) :
    Calls Tryz.prog 111 #[v, .func (.func 80) #[] #[.pointer (some ⟨V, 0, none⟩)]] w fun e w' => (∃ i : Int, e = .returned (.int .i64 i) ∧ decide (0 ≤ i) = !tkOk xs) ∧ Fr [] w w' := by
  have HV := Lib.hid hV
  clear hV
  rcases h with ⟨rfl, a, c, rfl⟩ | ⟨g, off, cap, rfl, h1, h2⟩
  · go_enter Tryz.func111, Tryz.ntmps111
    go_wp2
    refine wp_loop_rounds 1 ?_
    rw [rounds_succ]
    go_wp2
    go_ret
    exact ⟨⟨-1, rfl, rfl⟩, Fr.refl _ _⟩
  · obtain ⟨n, hn⟩ : ∃ n, xs.length = n := ⟨_, rfl⟩
    rw [hn] at hl ⊢
    have HN := Lib.hid hn
    have H2 := Lib.hid h2
    clear h2 hn
    go_enter Tryz.func111, Tryz.ntmps111
    go_wp2
    go_loopw [8] (fun j wr => ∃ q : Nat, j = .int .i64 q ∧ q ≤ n ∧ tkOk (xs.take q) = true ∧ Fr [] w wr) (fun j _ => n - (intOf j).toNat)
    case atStart => exact ⟨0, rfl, by omega, rfl, Fr.refl _ _⟩
    case round =>
      rename_i wr
      obtain ⟨q, rfl, hq, hno, fr⟩ := hrel
      have HNO := Lib.hid hno
      have FR := Lib.hid fr
      clear hno fr
      by_cases hlt : q < n
      · have hx := List.getElem?_eq_getElem (l := xs) (i := q) (by rw [HN.out]; exact hlt)
        obtain ⟨c0, c1, c2, c3, c4, c5, c6, c7⟩ := H2.out q _ hx
        generalize xs[q]'(by rw [HN.out]; exact hlt) = y at hx c0 c1 c2 c3 c4 c5 c6 c7
        have k0 := FR.out.keep c0 (by simp)
        have k1 := FR.out.keep c1 (by simp)
        have k2 := FR.out.keep c2 (by simp)
        have k3 := FR.out.keep c3 (by simp)
        have k4 := FR.out.keep c4 (by simp)
        have k5 := FR.out.keep c5 (by simp)
        have k6 := FR.out.keep c6 (by simp)
        have k7 := FR.out.keep c7 (by simp)
        have HX := Lib.hid hx
        have HP := Lib.hid (fun W (f : Fr [] wr W) => tkBad_any y V W ((FR.out.step f).keep HV.out (by simp)))
        unfold tkV at HP
        clear hx c0 c1 c2 c3 c4 c5 c6 c7
        have hstep : tkOk (xs.take (q + 1)) = y.ok := by
          have ht : xs.take (q + 1) = xs.take q ++ [y] := by rw [List.take_add_one, HX.out]; rfl
          have h0 := HNO.out
          unfold tkOk at h0 ⊢
          rw [ht, List.all_append, h0]
          simp
        have HST := Lib.hid hstep
        clear hstep
        cases hy : y.ok
        · have HY := Lib.hid hy
          rw [hy] at HP
          clear hy
          go_wp2_with (go_at_call 80; refine (HP.out _ (Fr.refl _ _)).mono ?_; rintro e w1 ⟨rfl, f1⟩)
          go_ret
          refine ⟨⟨q, rfl, ?_⟩, FR.out.step f1⟩
          have hb : tkOk xs = false := by
            unfold tkOk
            rw [List.all_eq_false]
            exact ⟨y, List.mem_of_getElem? HX.out, by rw [HY.out]; simp⟩
          rw [hb]
          simp
        · have HY := Lib.hid hy
          rw [hy] at HP
          clear hy
          go_wp2_with (go_at_call 80; refine (HP.out _ (Fr.refl _ _)).mono ?_; rintro e w1 ⟨rfl, f1⟩)
          go_roundw
          case rel => exact ⟨q + 1, by go_num, by omega, HST.out.trans HY.out, FR.out.step f1⟩
          case measure => simp [intOf]; omega
      · go_wp2
        go_ret
        refine ⟨⟨-1, rfl, ?_⟩, FR.out⟩
        have : tkOk xs = true := by
          have := HNO.out
          rwa [List.take_of_length_le (by rw [HN.out]; omega)] at this
        rw [this]
        rfl
/-- A slice of such elements that can be read. -/
def CdRow (w : World) (v : Value) (xs : List Cd) : Prop :=
  (xs = [] ∧ ∃ a c, v = .slice a 0 c) ∨ ∃ g off cap, v = .slice (some ⟨g, off, none⟩) xs.length cap ∧ g < w.heap.size ∧ ∀ (i : Nat) x, xs[i]? = some x →
    w.cell? ⟨g, off + i * 3, none⟩ = some (.int .i64 x.call) ∧ w.cell? ⟨g, off + i * 3 + 1, none⟩ = some (.int .i64 x.err) ∧ w.cell? ⟨g, off + i * 3 + 2, none⟩ = some (.int .i64 x.n)
theorem CdRow.new {w w' : World} {v : Value} {xs : List Cd} (h : CdRow w v xs) (hf : Fr [] w w') : CdRow w' v xs := by
  rcases h with h | ⟨g, off, cap, rfl, h1, h2⟩
  · exact .inl h
  · refine .inr ⟨g, off, cap, rfl, Nat.lt_of_lt_of_le h1 hf.size, fun i x hx => ?_⟩
    obtain ⟨c0, c1, c2⟩ := h2 i x hx
    exact ⟨hf.keep c0 (by simp), hf.keep c1 (by simp), hf.keep c2 (by simp)⟩
theorem CdRow.val {w : World} {v : Value} {xs : List Cd} (h : CdRow w v xs) : ∃ a c, v = .slice a xs.length c := by
  rcases h with ⟨rfl, a, c, rfl⟩ | ⟨g, off, cap, rfl, h1, h2⟩
  · exact ⟨a, c, rfl⟩
  · exact ⟨_, _, rfl⟩
theorem cdBad_any (x : Cd) (V : Nat) (w : World) (hV : w.cell? ⟨V, 0, none⟩ = some (.func (.func 52) #[] #[])) :
    Calls Tryz.prog 88 #[cdV x, .pointer (some ⟨V, 0, none⟩)] w fun e w' => e = .returned (.bool (!x.ok)) ∧ Fr [] w w' := by
  have hV' : (w.alloc (.cells #[.int .i64 x.call, .int .i64 x.err, .int .i64 x.n] 62)).cell? ⟨V, 0, none⟩ = some (.func (.func 52) #[] #[]) := ((Fr.refl [] w).alloc _).keep hV (by simp)
  have HV := Lib.hid (fun W => codeValid_any x W)
  unfold cdV at HV ⊢
  obtain ⟨ok, hok⟩ : ∃ b, x.ok = b := ⟨_, rfl⟩
  rw [hok] at HV ⊢
  clear hok
  go_enter Tryz.func88, Tryz.ntmps88
  go_wp2_with (go_at_call 52; refine (HV.out _).mono ?_; rintro e w1 ⟨rfl, f1⟩)
  go_ret
  exact ⟨rfl, ((Fr.refl [] w).alloc _).step f1⟩
def cdOk (xs : List Cd) : Bool := xs.all Cd.ok
theorem cdIndex_any (v : Value) (xs : List Cd) (hl : xs.length ≤ 100000) (V : Nat) (w : World) (hV : w.cell? ⟨V, 0, none⟩ = some (.func (.func 52) #[] #[])) (h : CdRow w v xs) :
    Calls Tryz.prog 114 #[v, .func (.func 88) #[] #[.pointer (some ⟨V, 0, none⟩)]] w fun e w' => (∃ i : Int, e = .returned (.int .i64 i) ∧ decide (0 ≤ i) = !cdOk xs) ∧ Fr [] w w' := by
  have HV := Lib.hid hV
  clear hV
  rcases h with ⟨rfl, a, c, rfl⟩ | ⟨g, off, cap, rfl, h1, h2⟩
  · go_enter Tryz.func114, Tryz.ntmps114
    go_wp2
    refine wp_loop_rounds 1 ?_
    rw [rounds_succ]
    go_wp2
    go_ret
    exact ⟨⟨-1, rfl, rfl⟩, Fr.refl _ _⟩
  · obtain ⟨n, hn⟩ : ∃ n, xs.length = n := ⟨_, rfl⟩
    rw [hn] at hl ⊢
    have HN := Lib.hid hn
    have H2 := Lib.hid h2
    clear h2 hn
    go_enter Tryz.func114, Tryz.ntmps114
    go_wp2
    go_loopw [8] (fun j wr => ∃ q : Nat, j = .int .i64 q ∧ q ≤ n ∧ cdOk (xs.take q) = true ∧ Fr [] w wr) (fun j _ => n - (intOf j).toNat)
    case atStart => exact ⟨0, rfl, by omega, rfl, Fr.refl _ _⟩
    case round =>
      rename_i wr
      obtain ⟨q, rfl, hq, hno, fr⟩ := hrel
      have HNO := Lib.hid hno
      have FR := Lib.hid fr
      clear hno fr
      by_cases hlt : q < n
      · have hx := List.getElem?_eq_getElem (l := xs) (i := q) (by rw [HN.out]; exact hlt)
        obtain ⟨c0, c1, c2⟩ := H2.out q _ hx
        generalize xs[q]'(by rw [HN.out]; exact hlt) = y at hx c0 c1 c2
        have k0 := FR.out.keep c0 (by simp)
        have k1 := FR.out.keep c1 (by simp)
        have k2 := FR.out.keep c2 (by simp)
        have HX := Lib.hid hx
        have HP := Lib.hid (fun W (f : Fr [] wr W) => cdBad_any y V W ((FR.out.step f).keep HV.out (by simp)))
        unfold cdV at HP
        clear hx c0 c1 c2
        have hstep : cdOk (xs.take (q + 1)) = y.ok := by
          have ht : xs.take (q + 1) = xs.take q ++ [y] := by rw [List.take_add_one, HX.out]; rfl
          have h0 := HNO.out
          unfold cdOk at h0 ⊢
          rw [ht, List.all_append, h0]
          simp
        have HST := Lib.hid hstep
        clear hstep
        cases hy : y.ok
        · have HY := Lib.hid hy
          rw [hy] at HP
          clear hy
          go_wp2_with (go_at_call 88; refine (HP.out _ (Fr.refl _ _)).mono ?_; rintro e w1 ⟨rfl, f1⟩)
          go_ret
          refine ⟨⟨q, rfl, ?_⟩, FR.out.step f1⟩
          have hb : cdOk xs = false := by
            unfold cdOk
            rw [List.all_eq_false]
            exact ⟨y, List.mem_of_getElem? HX.out, by rw [HY.out]; simp⟩
          rw [hb]
          simp
        · have HY := Lib.hid hy
          rw [hy] at HP
          clear hy
          go_wp2_with (go_at_call 88; refine (HP.out _ (Fr.refl _ _)).mono ?_; rintro e w1 ⟨rfl, f1⟩)
          go_roundw
          case rel => exact ⟨q + 1, by go_num, by omega, HST.out.trans HY.out, FR.out.step f1⟩
          case measure => simp [intOf]; omega
      · go_wp2
        go_ret
        refine ⟨⟨-1, rfl, ?_⟩, FR.out⟩
        have : cdOk xs = true := by
          have := HNO.out
          rwa [List.take_of_length_le (by rw [HN.out]; omega)] at this
        rw [this]
        rfl
/-- A slice of such elements that can be read. -/
def BkRow (w : World) (v : Value) (xs : List Bk) : Prop :=
  (xs = [] ∧ ∃ a c, v = .slice a 0 c) ∨ ∃ g off cap, v = .slice (some ⟨g, off, none⟩) xs.length cap ∧ g < w.heap.size ∧ ∀ (i : Nat) x, xs[i]? = some x →
    w.cell? ⟨g, off + i * 3, none⟩ = some (.int .i64 x.t) ∧ w.cell? ⟨g, off + i * 3 + 1, none⟩ = some (.int .i64 x.why) ∧ w.cell? ⟨g, off + i * 3 + 2, none⟩ = some (.int .u64 x.till)
theorem BkRow.new {w w' : World} {v : Value} {xs : List Bk} (h : BkRow w v xs) (hf : Fr [] w w') : BkRow w' v xs := by
  rcases h with h | ⟨g, off, cap, rfl, h1, h2⟩
  · exact .inl h
  · refine .inr ⟨g, off, cap, rfl, Nat.lt_of_lt_of_le h1 hf.size, fun i x hx => ?_⟩
    obtain ⟨c0, c1, c2⟩ := h2 i x hx
    exact ⟨hf.keep c0 (by simp), hf.keep c1 (by simp), hf.keep c2 (by simp)⟩
theorem BkRow.val {w : World} {v : Value} {xs : List Bk} (h : BkRow w v xs) : ∃ a c, v = .slice a xs.length c := by
  rcases h with ⟨rfl, a, c, rfl⟩ | ⟨g, off, cap, rfl, h1, h2⟩
  · exact ⟨a, c, rfl⟩
  · exact ⟨_, _, rfl⟩
theorem bkBad_any (x : Bk) (V : Nat) (w : World) (hV : w.cell? ⟨V, 0, none⟩ = some (.func (.func 57) #[] #[])) :
    Calls Tryz.prog 90 #[bkV x, .pointer (some ⟨V, 0, none⟩)] w fun e w' => e = .returned (.bool (!x.ok)) ∧ Fr [] w w' := by
  have hV' : (w.alloc (.cells #[.int .i64 x.t, .int .i64 x.why, .int .u64 x.till] 67)).cell? ⟨V, 0, none⟩ = some (.func (.func 57) #[] #[]) := ((Fr.refl [] w).alloc _).keep hV (by simp)
  have HV := Lib.hid (fun W => blockedValid_any x W)
  unfold bkV at HV ⊢
  obtain ⟨ok, hok⟩ : ∃ b, x.ok = b := ⟨_, rfl⟩
  rw [hok] at HV ⊢
  clear hok
  go_enter Tryz.func90, Tryz.ntmps90
  go_wp2_with (go_at_call 57; refine (HV.out _).mono ?_; rintro e w1 ⟨rfl, f1⟩)
  go_ret
  exact ⟨rfl, ((Fr.refl [] w).alloc _).step f1⟩
def bkOk (xs : List Bk) : Bool := xs.all Bk.ok
theorem bkIndex_any (v : Value) (xs : List Bk) (hl : xs.length ≤ 100000) (V : Nat) (w : World) (hV : w.cell? ⟨V, 0, none⟩ = some (.func (.func 57) #[] #[])) (h : BkRow w v xs) :
    Calls Tryz.prog 115 #[v, .func (.func 90) #[] #[.pointer (some ⟨V, 0, none⟩)]] w fun e w' => (∃ i : Int, e = .returned (.int .i64 i) ∧ decide (0 ≤ i) = !bkOk xs) ∧ Fr [] w w' := by
  have HV := Lib.hid hV
  clear hV
  rcases h with ⟨rfl, a, c, rfl⟩ | ⟨g, off, cap, rfl, h1, h2⟩
  · go_enter Tryz.func115, Tryz.ntmps115
    go_wp2
    refine wp_loop_rounds 1 ?_
    rw [rounds_succ]
    go_wp2
    go_ret
    exact ⟨⟨-1, rfl, rfl⟩, Fr.refl _ _⟩
  · obtain ⟨n, hn⟩ : ∃ n, xs.length = n := ⟨_, rfl⟩
    rw [hn] at hl ⊢
    have HN := Lib.hid hn
    have H2 := Lib.hid h2
    clear h2 hn
    go_enter Tryz.func115, Tryz.ntmps115
    go_wp2
    go_loopw [8] (fun j wr => ∃ q : Nat, j = .int .i64 q ∧ q ≤ n ∧ bkOk (xs.take q) = true ∧ Fr [] w wr) (fun j _ => n - (intOf j).toNat)
    case atStart => exact ⟨0, rfl, by omega, rfl, Fr.refl _ _⟩
    case round =>
      rename_i wr
      obtain ⟨q, rfl, hq, hno, fr⟩ := hrel
      have HNO := Lib.hid hno
      have FR := Lib.hid fr
      clear hno fr
      by_cases hlt : q < n
      · have hx := List.getElem?_eq_getElem (l := xs) (i := q) (by rw [HN.out]; exact hlt)
        obtain ⟨c0, c1, c2⟩ := H2.out q _ hx
        generalize xs[q]'(by rw [HN.out]; exact hlt) = y at hx c0 c1 c2
        have k0 := FR.out.keep c0 (by simp)
        have k1 := FR.out.keep c1 (by simp)
        have k2 := FR.out.keep c2 (by simp)
        have HX := Lib.hid hx
        have HP := Lib.hid (fun W (f : Fr [] wr W) => bkBad_any y V W ((FR.out.step f).keep HV.out (by simp)))
        unfold bkV at HP
        clear hx c0 c1 c2
        have hstep : bkOk (xs.take (q + 1)) = y.ok := by
          have ht : xs.take (q + 1) = xs.take q ++ [y] := by rw [List.take_add_one, HX.out]; rfl
          have h0 := HNO.out
          unfold bkOk at h0 ⊢
          rw [ht, List.all_append, h0]
          simp
        have HST := Lib.hid hstep
        clear hstep
        cases hy : y.ok
        · have HY := Lib.hid hy
          rw [hy] at HP
          clear hy
          go_wp2_with (go_at_call 90; refine (HP.out _ (Fr.refl _ _)).mono ?_; rintro e w1 ⟨rfl, f1⟩)
          go_ret
          refine ⟨⟨q, rfl, ?_⟩, FR.out.step f1⟩
          have hb : bkOk xs = false := by
            unfold bkOk
            rw [List.all_eq_false]
            exact ⟨y, List.mem_of_getElem? HX.out, by rw [HY.out]; simp⟩
          rw [hb]
          simp
        · have HY := Lib.hid hy
          rw [hy] at HP
          clear hy
          go_wp2_with (go_at_call 90; refine (HP.out _ (Fr.refl _ _)).mono ?_; rintro e w1 ⟨rfl, f1⟩)
          go_roundw
          case rel => exact ⟨q + 1, by go_num, by omega, HST.out.trans HY.out, FR.out.step f1⟩
          case measure => simp [intOf]; omega
      · go_wp2
        go_ret
        refine ⟨⟨-1, rfl, ?_⟩, FR.out⟩
        have : bkOk xs = true := by
          have := HNO.out
          rwa [List.take_of_length_le (by rw [HN.out]; omega)] at this
        rw [this]
        rfl
end Go.Proofs.YtllmejkcohfbiaaGreatDoor
