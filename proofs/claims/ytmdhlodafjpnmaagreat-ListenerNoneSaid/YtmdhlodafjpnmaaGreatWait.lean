/- Contracts of backlog's Waiting and Close. -/
import Derived.Maps.AppendAt
import Derived.Test.YtmdhlodafjpnmaaGreatFifo4
namespace Go.Proofs.YtmdhlodafjpnmaaGreat
open Go.RowKit Go.Shelf
open Go.Maps (Keyed)
set_option linter.unusedVariables false
set_option maxRecDepth 100000
set_option maxHeartbeats 4000000
attribute [local go_sem] Oper.semAt_some

theorem map_lt {w : World} {q m : Nat} {l : List (Nat × Int)} {g : Nat} (h : FifoIs w q m l g) : m < w.heap.size := by
  obtain ⟨f, h1, _⟩ := h.nodes
  exact h1.lt
theorem rowMono {w : World} {base base' : Nat} {e : TypeId} {size : Nat} {v : Value} {n : Nat} {xs : List Value} (h : w.ownsRow base e size v n xs) (hb : base' ≤ base) : w.ownsRow base' e size v n xs :=
  ⟨h.1, h.2.imp id fun ⟨g, cap, cur, h1, h2, h3⟩ => ⟨g, cap, cur, h1, Nat.le_trans hb h2, h3⟩⟩
theorem infoInt : (Tryz.prog.info? 3).map (fun i => (i.zero, i.size, i.bytes)) = some (some (.int .i64 0), 1, 8) := by kernel_rfl
def connV64 (x : Nat × Int) : Value := .int .i64 x.2

theorem waiting_any (b q m t : Nat) (most : Int) (closed : Bool) (l : List (Nat × Int)) (g : Nat) (hg : g < 4611686018427387904) (w : World) (h : BackIs w b q m t most closed l g) (hlen : l.length ≤ 100000) :
    Calls Tryz.prog 60 #[.pointer (some ⟨b, 0, none⟩)] w fun e W' => ∃ v, e = .returned v ∧ W'.ownsRow w.heap.size 3 1 v l.length (l.map connV64) ∧ Fr [] w W' := by
  obtain ⟨i0, hi, hz0, hz1, hz2⟩ := info_parts infoInt
  have HN := Lib.hid (backNone_any w h)
  have c0 := h.c0
  have HQ := Lib.hid h.queue
  have hro : Fence.wide.round = none := rfl
  have h1 : (1 : Nat) ≤ 4 := by omega
  clear h
  refine (callsIn_wide (n := 4)).1 ?_
  refine callsIn_of_wp_marks Tryz.func60 rfl trivial ?_ hro
  simp only [Tryz.ntmps60, List.size_toArray, List.length_cons, List.length_nil, Nat.reduceAdd, Nat.reduceSub, Array.replicate_succ, Array.replicate_zero, List.push_toArray, List.append_toArray, List.nil_append, List.cons_append]
  have g0 : Fr [] w (w.alloc (.cells #[.slice none 0 0] 75)) := (Fr.refl [] w).alloc _
  have d0 := g0.keep c0 (by simp)
  gi_wp2_with (first
    | (refine ⟨trivial, ?_⟩; gi_at_call 106; refine (callsIn_wide.2 HN.out).mono ?_; rintro e w' ⟨rfl, rfl⟩)
    | (refine ⟨trivial, ?_⟩; gi_at_call 107; refine (callsIn_wide.2 (fifoAll_any q m l g _ (HQ.out.keep g0 (by simp) (by simp)))).mono ?_; rintro e w1 ⟨Bn, b', m', rfl, hBn, hq1, f1, l1, l2, l3⟩))
  have bO : Boxed (w.alloc (.cells #[.slice none 0 0] 75)) w.heap.size 75 (.slice none 0 0) := Boxed.new w _ _
  have bO1 : Boxed w1 w.heap.size 75 (.slice none 0 0) := (f1.block _ (by simp) (by simp)).trans bO
  have hB1 : Below w.heap.size w w1 := (g0.step f1).below0
  have z1 : w.heap.size + 1 ≤ w1.heap.size := by simpa using f1.size
  have y1 := cell_lt hBn
  have y2 := cell_lt hq1.c0
  have y3 := map_lt hq1
  simp only [World.size_alloc] at l1 l2 l3
  obtain ⟨B, hBe⟩ : ∃ B, w.heap.size = B := ⟨_, rfl⟩
  rw [hBe] at bO1 hB1 z1 l1 l2 l3 ⊢
  refine wpIn_rangeFunc_ownG hro h1 (gf := 147) (lb := #[.pointer (some ⟨Bn, 0, none⟩)]) rfl trivial (enters_of Tryz.func147 (by kernel_rfl) rfl)
    (all_stops Fence.wide 3 trivial hro (by omega) Bn B w1.heap.size b' m' g l hg w1 hBn ⟨by omega, by omega⟩ ⟨by omega, by omega⟩ ⟨by omega, by omega⟩ (Nat.le_refl _) hq1) Kx.trans (Kx.put (Nat.le_refl _)) (Below.refl _ _) (fun _ => rfl)
    (fun pre W => (∃ v, Boxed W B 75 v ∧ W.ownsRow w1.heap.size 3 1 v pre.length (pre.map connV64) ∧ True) ∧ Below B w W ∧ w1.heap.size ≤ W.heap.size)
    (fun _ _ _ => False)
    (OwnFrom.and (Own.from (holdsRow_own w1.heap.size B 75 3 1 (fun pre : List (Nat × Int) => pre.length) (fun pre : List (Nat × Int) => pre.map connV64) (fun _ _ => True)) _) (OwnFrom.and (ownFrom_below (by omega) (by omega)) (fun _ _ _ _ hs hg _ => Nat.le_trans hs hg.size)))
    (fun _ _ _ _ _ hs _ _ => hs)
    ⟨⟨_, bO1, World.ownsRow_nil _ _ _ _, trivial⟩, hB1, Nat.le_refl _⟩
    (fun x => { tmps := #[.pointer (some ⟨b, 0, none⟩), undef, .slice none 0 0, .pointer (some ⟨B, 0, none⟩), undef, .int .i64 x.2, .pointer (some ⟨b, 0, none⟩), .bool false, .pointer (some ⟨b, 0, none⟩), .pointer (some ⟨b, 0, none⟩), .pointer (some ⟨b, 0, none⟩), .pointer (some ⟨q, 0, none⟩), .func (.func 147) #[] #[.pointer (some ⟨Bn, 0, none⟩)], .int .u64 x.1, .int .i64 x.2, undef, undef, undef, undef, undef], defers := [] }) ?assign ?body ?done ?stop
  case assign =>
    intro l x W K hK
    gi_wp2
    exact hK
  case body =>
    rintro lp pre x W ⟨⟨v, hv, hrow, _⟩, hB, hNW⟩ hlt
    have hc := hv.cell
    have hBs := hB.size
    have hrow0 := rowMono (base' := B) hrow (by omega)
    gi_wp2_with (gi_at_builtin; refine wpListIn_append_own _ rfl _ _ 75 rfl w1.heap.size 3 i0 (.int .i64 0) 1 8 Tryz.underlying75 hi hz0 hz1 hz2 rfl (by decide) _ _ _ rfl (hrow.alloc _) ⟨W.heap.size, 0, none⟩ 1 1 [.int .i64 x.2] rfl rfl (cell_one_new _ _ _) (by simp [Value.oneCell']) (by simp only [maxLen]; omega) (by omega) (by simp; omega) ?_; intro v' w2 hown' hgrow _; obtain ⟨g', cap', rfl⟩ := ownsRow_succ hown'; obtain ⟨hv1, hv2, hr2, hk2, hb2⟩ := hv.appended (by decide) hrow0 (by omega) (Nat.le_refl _) (rowMono (base' := B) hown' (by omega)) hgrow; have hc1 := hv1.cell; have hf1 := hv1.frozen)
    have hr3 := hown'.kept (grownBy_setCell' w2 B (.slice (some ⟨g', 0, none⟩) (pre.length + 1) cap')) (.inr (hv1.not_row (by decide) hown').symm)
    have hKx : Kx B w1.heap.size W (w2.setCell ⟨B, 0, none⟩ (.slice (some ⟨g', 0, none⟩) (pre.length + 1) cap')) := by
      refine Kx.trans (b := w2) ⟨v.ownBlock.toList, ?_, fun y hy => .inr ?_⟩ ⟨[B], (Fr.refl _ _).setCell (fun _ => by simp) _, fun y hy => .inl (by simpa using hy)⟩
      · exact (((Fr.refl [] W).alloc _).mono (fun x hx => by cases hx)).trans (grownFr hgrow (fun k hk => by have hk' : v.ownBlock = some k := hk; simp [hk'])) (fun x hx _ => hx)
      · rcases hrow.2 with ⟨rfl, _⟩ | ⟨g1, c1, cur, rfl, hb, _, _⟩
        · simp [Value.ownBlock] at hy
        · simp [Value.ownBlock] at hy
          omega
    refine ⟨hk2.from _, hKx, ⟨⟨_, hv2, by simpa [connV64] using hr3, trivial⟩, hB.trans hb2, Nat.le_trans hNW ?_⟩⟩
    exact hb2.size
  case done =>
    rintro D ys W hD rfl ⟨⟨v, hv, hrow, _⟩, hB, hNW⟩ hK
    have hc := hv.cell
    gi_wp2
    refine ⟨by simp, .inl ⟨_, _, rfl, run_takeDeferred hK, ?_⟩⟩
    exact ⟨_, results_tmp rfl _ _ _, v, rfl, ownsRow_putObj (rowMono hrow (by omega)) _ hK rfl, Fr.of_below (hBe ▸ hB.trans (belowK_b (w := w) (by omega) W D _ _ (by omega) hK rfl rfl))⟩
  case stop =>
    rintro D c pre W _ _ h _
    exact h.elim

/-- A list of cells behind a slice value: nil, or a block from lo on. -/
def RowOf (w : World) (lo : Nat) (v : Value) (xs : List Value) : Prop :=
  (xs = [] ∧ v = .slice none 0 0) ∨ ∃ g cap, v = .slice (some ⟨g, 0, none⟩) xs.length cap ∧ lo ≤ g ∧ g < w.heap.size ∧ ∀ j u, xs[j]? = some u → w.cell? ⟨g, j, none⟩ = some u
theorem RowOf.keep {S : List Nat} {w w' : World} {lo : Nat} {v : Value} {xs : List Value} (h : RowOf w lo v xs) (hf : Fr S w w') (hS : ∀ x ∈ S, x < lo) : RowOf w' lo v xs := by
  rcases h with h | ⟨g, cap, h1, h2, h3, h4⟩
  · exact .inl h
  · exact .inr ⟨g, cap, h1, h2, Nat.lt_of_lt_of_le h3 hf.size, fun j u hj => hf.keep (h4 j u hj) (fun hm => by have := hS g hm; omega)⟩
theorem RowOf.of {w : World} {lo n : Nat} {e : TypeId} {v : Value} {xs : List Value} (h : w.ownsRow lo e 1 v n xs) : RowOf w lo v xs := by
  obtain ⟨h0, h1 | ⟨g, cap, cur, h1, h2, h3, h4, h5, h6, h7⟩⟩ := h
  · refine .inl ⟨?_, h1.1⟩
    rw [h1.2] at h0
    exact List.eq_nil_of_length_eq_zero (by simpa using h0)
  · obtain rfl : xs.length = n := by omega
    refine .inr ⟨g, cap, h1, h2, (Array.getElem?_eq_some_iff.1 h3).1, fun j u hj => ?_⟩
    have hj' : j < xs.length := (List.getElem?_eq_some_iff.1 hj).1
    rw [← h7, List.getElem?_take_of_lt (by omega), Array.getElem?_toList] at hj
    simp [World.cell?, h3, hj]

theorem backClose_any (b q m t : Nat) (most : Int) (l : List (Nat × Int)) (g : Nat) (hg : g < 4611686018427387904) (w : World) (h : BackIs w b q m t most false l g) (hlen : l.length ≤ 100000) :
    Calls Tryz.prog 85 #[.pointer (some ⟨b, 0, none⟩)] w fun e W' => ∃ v, e = .returned (.tuple #[v, .int .i64 0]) ∧ RowOf W' w.heap.size v (l.map connV64) ∧ Fr [b] w W' := by
  have hmm := @run_makeMap Tryz.prog
  have HN := Lib.hid (backNone_any w h)
  have HW := Lib.hid (waiting_any b q m t most false l g hg w h hlen)
  have c0 := h.c0
  have c2 := h.c2
  have c3 := h.c3
  have hf := h.free
  have hb := cell_lt c0
  have HB := Lib.hid h
  clear h
  go_enter Tryz.func85, Tryz.ntmps85
  go_wp2_with (first
    | (go_at_call 106; refine HN.out.mono ?_; rintro e w' ⟨rfl, rfl⟩)
    | (go_at_call 60; refine HW.out.mono ?_; rintro e w1 ⟨v, rfl, hrow, f1⟩; have k0 := f1.keep c0 (by simp); have k2 := f1.keep c2 (by simp); have k3 := f1.keep c3 (by simp); have kf : ∀ o, w1.frozen? ⟨b, o, none⟩ = false := (fun o => by rw [f1.frozen hb (by simp)]; exact hf o))
    | (go_at_call 121; refine (fifoNew_any _).mono ?_; rintro e w2 ⟨rfl, q2, f2⟩; have j0 := f2.keep k0 (by simp); have j2 := f2.keep k2 (by simp); have j3 := f2.keep k3 (by simp); have jf : ∀ o, w2.frozen? ⟨b, o, none⟩ = false := (fun o => by rw [f2.frozen (Nat.lt_of_lt_of_le hb f1.size) (by simp)]; exact kf o); have hb2 : b < w2.heap.size := Nat.lt_of_lt_of_le (Nat.lt_of_lt_of_le hb f1.size) f2.size))
  go_ret2
  have hr2 : RowOf w2 w.heap.size v (l.map connV64) := (RowOf.of hrow).keep f2 (by simp)
  have fE : Fr [b] w2 ((((w2.setCell ⟨b, 0, none⟩ (.pointer (some ⟨w1.heap.size + 1, 0, none⟩))).setCell ⟨b, 3, none⟩ (.map (some w2.heap.size))).setCell ⟨b, 2, none⟩ (.bool true)).alloc (.map #[] 0)) := ((((Fr.refl [b] w2).setCell (p := ⟨b, 0, none⟩) (fun _ => by simp) _).setCell (p := ⟨b, 3, none⟩) (fun _ => by simp) _).setCell (p := ⟨b, 2, none⟩) (fun _ => by simp) _).alloc _
  refine ⟨v, rfl, hr2.keep fE (fun x hx => ?_), (((f1.step f2).mono (fun x hx => by cases hx)).trans fE (fun x hx _ => hx))⟩
  rw [List.mem_singleton] at hx
  omega
end Go.Proofs.YtmdhlodafjpnmaaGreat
