/- The model in memory; contract of the law's own of. -/
import Derived.Test.YtededfkenlhokaaDoorPP
import Derived.BigQuiet
import Derived.Deep.CutRange
namespace Go.Proofs.YtededfkenlhokaaDoor
open Go.RowKit Go.Shelf
set_option linter.unusedVariables false
set_option linter.unusedSimpArgs false
set_option maxRecDepth 100000
set_option maxHeartbeats 4000000

/-- A lane of the model in a block of its own; a model in one. -/
def LnAt (W : World) (b : Nat) (x : Ft) : Prop := W.heap[b]? = some (.cells #[.int .i64 x.k, .int .i64 x.c, .int .i64 x.d, .int .i64 x.a, .int .i64 x.g] 97)
theorem LnAt.lt {W : World} {b : Nat} {x : Ft} (h : LnAt W b x) : b < W.heap.size := (Array.getElem?_eq_some_iff.1 h).1
theorem LnAt.c0 {W : World} {b : Nat} {x : Ft} (h : LnAt W b x) : W.cell? ⟨b, 0, none⟩ = some (.int .i64 x.k) := by simp [World.cell?, show W.heap[b]? = _ from h]
theorem LnAt.c1 {W : World} {b : Nat} {x : Ft} (h : LnAt W b x) : W.cell? ⟨b, 1, none⟩ = some (.int .i64 x.c) := by simp [World.cell?, show W.heap[b]? = _ from h]
theorem LnAt.c2 {W : World} {b : Nat} {x : Ft} (h : LnAt W b x) : W.cell? ⟨b, 2, none⟩ = some (.int .i64 x.d) := by simp [World.cell?, show W.heap[b]? = _ from h]
theorem LnAt.c3 {W : World} {b : Nat} {x : Ft} (h : LnAt W b x) : W.cell? ⟨b, 3, none⟩ = some (.int .i64 x.a) := by simp [World.cell?, show W.heap[b]? = _ from h]
theorem LnAt.c4 {W : World} {b : Nat} {x : Ft} (h : LnAt W b x) : W.cell? ⟨b, 4, none⟩ = some (.int .i64 x.g) := by simp [World.cell?, show W.heap[b]? = _ from h]
theorem LnAt.fz {W : World} {b : Nat} {x : Ft} (h : LnAt W b x) (o : Nat) : W.frozen? ⟨b, o, none⟩ = false := by simp [World.frozen?, show W.heap[b]? = _ from h]
theorem LnAt.keep {W : World} {b : Nat} {x : Ft} {S : List Nat} {W' : World} (h : LnAt W b x) (hf : Fr S W W') (hn : b ∉ S) : LnAt W' b x := (hf.block b h.lt hn).trans h
def setLn (W : World) (b : Nat) (y : Ft) : World := ((((W.setCell ⟨b, 0, none⟩ (.int .i64 y.k)).setCell ⟨b, 1, none⟩ (.int .i64 y.c)).setCell ⟨b, 2, none⟩ (.int .i64 y.d)).setCell ⟨b, 3, none⟩ (.int .i64 y.a)).setCell ⟨b, 4, none⟩ (.int .i64 y.g)
theorem LnAt.set0 {W : World} {b : Nat} {x : Ft} (h : LnAt W b x) (y : Int) : LnAt (W.setCell ⟨b, 0, none⟩ (.int .i64 y)) b ⟨y, x.c, x.d, x.a, x.g⟩ := by
  unfold LnAt at *
  show (W.heap.modify b _)[b]? = _
  rw [Array.getElem?_modify, if_pos rfl, h]
  rfl
theorem LnAt.set1 {W : World} {b : Nat} {x : Ft} (h : LnAt W b x) (y : Int) : LnAt (W.setCell ⟨b, 1, none⟩ (.int .i64 y)) b ⟨x.k, y, x.d, x.a, x.g⟩ := by
  unfold LnAt at *
  show (W.heap.modify b _)[b]? = _
  rw [Array.getElem?_modify, if_pos rfl, h]
  rfl
theorem LnAt.set2 {W : World} {b : Nat} {x : Ft} (h : LnAt W b x) (y : Int) : LnAt (W.setCell ⟨b, 2, none⟩ (.int .i64 y)) b ⟨x.k, x.c, y, x.a, x.g⟩ := by
  unfold LnAt at *
  show (W.heap.modify b _)[b]? = _
  rw [Array.getElem?_modify, if_pos rfl, h]
  rfl
theorem LnAt.set3 {W : World} {b : Nat} {x : Ft} (h : LnAt W b x) (y : Int) : LnAt (W.setCell ⟨b, 3, none⟩ (.int .i64 y)) b ⟨x.k, x.c, x.d, y, x.g⟩ := by
  unfold LnAt at *
  show (W.heap.modify b _)[b]? = _
  rw [Array.getElem?_modify, if_pos rfl, h]
  rfl
theorem LnAt.set4 {W : World} {b : Nat} {x : Ft} (h : LnAt W b x) (y : Int) : LnAt (W.setCell ⟨b, 4, none⟩ (.int .i64 y)) b ⟨x.k, x.c, x.d, x.a, y⟩ := by
  unfold LnAt at *
  show (W.heap.modify b _)[b]? = _
  rw [Array.getElem?_modify, if_pos rfl, h]
  rfl
theorem LnAt.setAll {W : World} {b : Nat} {x : Ft} (h : LnAt W b x) (y : Ft) : LnAt (setLn W b y) b y := ((((h.set0 y.k).set1 y.c).set2 y.d).set3 y.a).set4 y.g
theorem fr_setLn {S : List Nat} {w W : World} {b : Nat} (h : Fr S w W) (hb : b < w.heap.size → b ∈ S) (y : Ft) : Fr S w (setLn W b y) :=
  ((((h.setCell hb _).setCell hb _).setCell hb _).setCell hb _).setCell hb _
theorem LnAt.made (w : World) (x : Ft) : LnAt (w.alloc (.cells #[.int .i64 x.k, .int .i64 x.c, .int .i64 x.d, .int .i64 x.a, .int .i64 x.g] 97)) w.heap.size x := World.alloc_heap_new w _
def MdAt (W : World) (b : Nat) (u v : Value) : Prop := W.heap[b]? = some (.cells #[u, v] 58)
theorem MdAt.lt {W : World} {b : Nat} {u v : Value} (h : MdAt W b u v) : b < W.heap.size := (Array.getElem?_eq_some_iff.1 h).1
theorem MdAt.c0 {W : World} {b : Nat} {u v : Value} (h : MdAt W b u v) : W.cell? ⟨b, 0, none⟩ = some u := by simp [World.cell?, show W.heap[b]? = _ from h]
theorem MdAt.c1 {W : World} {b : Nat} {u v : Value} (h : MdAt W b u v) : W.cell? ⟨b, 1, none⟩ = some v := by simp [World.cell?, show W.heap[b]? = _ from h]
theorem MdAt.fz {W : World} {b : Nat} {u v : Value} (h : MdAt W b u v) (o : Nat) : W.frozen? ⟨b, o, none⟩ = false := by simp [World.frozen?, show W.heap[b]? = _ from h]
theorem MdAt.keep {W : World} {b : Nat} {u v : Value} {S : List Nat} {W' : World} (h : MdAt W b u v) (hf : Fr S W W') (hn : b ∉ S) : MdAt W' b u v := (hf.block b h.lt hn).trans h
theorem MdAt.made (w : World) (u v : Value) : MdAt (w.alloc (.cells #[u, v] 58)) w.heap.size u v := World.alloc_heap_new w _
/-- A lane as a value. -/
def lnV (x : Ft) : Value := .agg #[.int .i64 x.k, .int .i64 x.c, .int .i64 x.d, .int .i64 x.a, .int .i64 x.g]

theorem of_start (w : World) (u v : Value) : MdAt ((w.alloc (.cells #[u, v] 58)).alloc (.cells #[.int .i64 0, .int .i64 0, .int .i64 0, .int .i64 0, .int .i64 0] 97)) w.heap.size u v ∧
    LnAt ((w.alloc (.cells #[u, v] 58)).alloc (.cells #[.int .i64 0, .int .i64 0, .int .i64 0, .int .i64 0, .int .i64 0] 97)) (w.heap.size + 1) ⟨0, 0, 0, 0, 0⟩ ∧
    Fr [] w ((w.alloc (.cells #[u, v] 58)).alloc (.cells #[.int .i64 0, .int .i64 0, .int .i64 0, .int .i64 0, .int .i64 0] 97)) := by
  have f1 : Fr [] w (w.alloc (.cells #[u, v] 58)) := (Fr.refl [] w).alloc _
  have m1 := MdAt.made w u v
  have z1 : (w.alloc (.cells #[u, v] 58)).heap.size = w.heap.size + 1 := by simp
  generalize w.alloc (.cells #[u, v] 58) = W at f1 m1 z1
  have f2 : Fr [] W (W.alloc (.cells #[.int .i64 0, .int .i64 0, .int .i64 0, .int .i64 0, .int .i64 0] 97)) := (Fr.refl [] W).alloc _
  refine ⟨m1.keep f2 (by simp), ?_, f1.step f2⟩
  rw [← z1]
  exact LnAt.made W ⟨0, 0, 0, 0, 0⟩
theorem ofL_any (u v : Value) (L : List Ft) (hl : L.length ≤ 100000) (c d : Int) (w : World) (h : FtRow w v L) :
    Calls Tryd.prog 39 #[.agg #[u, v], .int .i64 c, .int .i64 d] w fun e w' => e = .returned (lnV (ofL L c d)) ∧ Fr [] w w' := by
  obtain ⟨a, cap, rfl⟩ := h.val
  obtain ⟨s1, s2, s3⟩ := of_start w u (.slice a L.length cap)
  obtain ⟨m, hm⟩ : ∃ m, L.length = m := ⟨_, rfl⟩
  rw [hm] at hl h s1 s2 s3 ⊢
  have HM := Lib.hid hm
  have HH := Lib.hid (h.new s3)
  have S1 := Lib.hid s1
  have S2 := Lib.hid s2
  have S3 := Lib.hid s3
  clear h hm s1 s2 s3
  go_enter Tryd.func39, Tryd.ntmps39
  go_wp2
  obtain ⟨W0, hW0⟩ : ∃ W, (w.alloc (.cells #[u, .slice a m cap] 58)).alloc (.cells #[.int .i64 0, .int .i64 0, .int .i64 0, .int .i64 0, .int .i64 0] 97) = W := ⟨_, rfl⟩
  simp only [hW0] at HH S1 S2 S3 ⊢
  clear hW0
  go_loopw [7] (fun i wr => ∃ k : Nat, i = .int .i64 k ∧ k ≤ m ∧ (∀ x ∈ L.take k, laneIs c d x = false) ∧ Fr [] W0 wr) (fun i _ => m - (intOf i).toNat)
  case atStart => exact ⟨0, rfl, by omega, by simp, Fr.refl _ _⟩
  case round =>
    rename_i wr
    obtain ⟨k, rfl, hk, hno, hF⟩ := hrel
    have t1 := S1.out.keep hF (by simp)
    have t2 := S2.out.keep hF (by simp)
    have md1 := t1.c1
    have fz := t2.fz
    obtain ⟨M, hM⟩ : ∃ M, w.heap.size = M := ⟨_, rfl⟩
    have HM2 := Lib.hid hM
    rw [hM] at t1 t2 md1 fz ⊢
    by_cases hlt : k < m
    · have hx := List.getElem?_eq_getElem (l := L) (i := k) (by rw [HM.out]; exact hlt)
      obtain ⟨x, hxe⟩ : ∃ x, L[k]'(by rw [HM.out]; exact hlt) = x := ⟨_, rfl⟩
      rw [hxe] at hx
      rcases HH.out.new hF with ⟨h1, _⟩ | ⟨g, off, cap', hv, hg, hcells⟩
      · rw [h1] at hx
        simp at hx
      rw [HM.out] at hv
      simp only [Value.slice.injEq] at hv
      obtain ⟨rfl, _, rfl⟩ := hv
      obtain ⟨c0, c1, c2, c3, c4⟩ := hcells k x hx
      have k0 : (0 : Int) ≤ (k : Int) := Int.natCast_nonneg _
      have k1 : (k : Int) < (m : Int) := by omega
      have HF := Lib.hid hF
      have HX := Lib.hid hx
      have HN := Lib.hid hno
      have T2 := Lib.hid t2
      clear hF hx hno hcells hxe t1 t2 hM hg
      have hnext : laneIs c d x = false → ∀ y ∈ L.take (k + 1), laneIs c d y = false := fun h y hy => by
        rw [List.take_add_one, HX.out] at hy
        rcases List.mem_append.1 hy with hy | hy
        · exact HN.out y hy
        · simp at hy
          rw [hy]
          exact h
      have HNX := Lib.hid hnext
      clear hnext
      by_cases e1 : x.k = c
      · by_cases e2 : x.c = d
        · have g1 : (x.k == c) = true := beq_iff_eq.2 e1
          have g2 : (x.c == d) = true := beq_iff_eq.2 e2
          have hof : ofL L c d = x := by
            unfold ofL
            have : L.find? (laneIs c d) = some x := by
              rw [List.find?_eq_some_iff_getElem]
              have hkl : k < L.length := by rw [HM.out]; exact hlt
              refine ⟨laneIs_iff.2 ⟨e1, e2⟩, k, hkl, ?_, fun j hj => ?_⟩
              · have := HX.out
                rw [List.getElem?_eq_getElem hkl] at this
                simpa using this
              · have := HN.out L[j] (List.mem_take_iff_getElem.2 ⟨j, by omega, rfl⟩)
                simp [this]
            rw [this]
          have HOF := Lib.hid hof
          have k0 := T2.out.c0
          have k1' := T2.out.c1
          have k2 := T2.out.c2
          have k3 := T2.out.c3
          have k4 := T2.out.c4
          clear hof e1 e2
          go_wp2
          have r1 := T2.out.setAll x
          unfold setLn at r1
          clear k0 k1' k2 k3 k4
          have m0 := r1.c0
          have m1 := r1.c1
          have m2 := r1.c2
          have m3 := r1.c3
          have m4 := r1.c4
          refine bodyPost_ret (v := .agg #[.int .i64 x.k, .int .i64 x.c, .int .i64 x.d, .int .i64 x.a, .int .i64 x.g]) (by simp [results, Tryd.results39, go_sem, m0, m1, m2, m3, m4]) rfl ?_
          exact ⟨by rw [HOF.out] <;> rfl, fr_setLn (S3.out.step HF.out) (fun h => by have := HM2.out; omega) x⟩
        · have g1 : (x.k == c) = true := beq_iff_eq.2 e1
          have g2 : (x.c == d) = false := beq_eq_false_iff_ne.2 e2
          have HR := Lib.hid (HNX.out (by unfold laneIs; rw [g1, g2] <;> rfl))
          clear e1 e2
          go_wp2
          go_roundw
          case rel => exact ⟨k + 1, by go_num, by omega, HR.out, HF.out⟩
          case measure => simp [intOf]; omega
      · have g1 : (x.k == c) = false := beq_eq_false_iff_ne.2 e1
        have HR := Lib.hid (HNX.out (by unfold laneIs; rw [g1] <;> rfl))
        clear e1
        go_wp2
        go_roundw
        case rel => exact ⟨k + 1, by go_num, by omega, HR.out, HF.out⟩
        case measure => simp [intOf]; omega
    · have hkm : k = m := by omega
      subst hkm
      have ht : L.take k = L := List.take_of_length_le (by rw [HM.out]; omega)
      rw [ht] at hno
      have hof : ofL L c d = ⟨c, d, 0, 0, 0⟩ := by
        unfold ofL
        rw [List.find?_eq_none.2 (fun x hx => by rw [hno x hx]; simp)]
      have HOF := Lib.hid hof
      have k0 := t2.c0
      have k1' := t2.c1
      have k2 := t2.c2
      have k3 := t2.c3
      have k4 := t2.c4
      have T2 := Lib.hid t2
      have HF := Lib.hid hF
      clear hof ht hlt hno t1 t2 hF hM
      go_wp2
      have r1 := T2.out.setAll ⟨c, d, 0, 0, 0⟩
      unfold setLn at r1
      clear k0 k1' k2 k3 k4
      have m0 := r1.c0
      have m1 := r1.c1
      have m2 := r1.c2
      have m3 := r1.c3
      have m4 := r1.c4
      simp only at m0 m1 m2 m3 m4
      refine bodyPost_ret (v := .agg #[.int .i64 c, .int .i64 d, .int .i64 0, .int .i64 0, .int .i64 0]) (by simp [results, Tryd.results39, go_sem, m0, m1, m2, m3, m4]) rfl ?_
      exact ⟨by rw [HOF.out] <;> rfl, fr_setLn (S3.out.step HF.out) (fun h => by have := HM2.out; omega) ⟨c, d, 0, 0, 0⟩⟩
end Go.Proofs.YtededfkenlhokaaDoor
