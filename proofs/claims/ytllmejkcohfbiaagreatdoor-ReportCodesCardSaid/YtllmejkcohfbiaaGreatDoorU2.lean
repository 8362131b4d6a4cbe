/- Report: how calls have ended, sorted. -/
import Derived.Test.YtllmejkcohfbiaaGreatDoorU1
import Derived.Test.YtllmejkcohfbiaaGreatDoorR18Cd
import Derived.Test.YtllmejkcohfbiaaGreatDoorSort
import Derived.StillTailTactics
namespace Go.Proofs.YtllmejkcohfbiaaGreatDoor
open Go.RowKit Go.Maps Go.Shelf Go.Sort Go.Lib Go.Proofs
set_option linter.unusedVariables false
set_option linter.unusedSimpArgs false
set_option maxRecDepth 100000
set_option maxHeartbeats 8000000

theorem ciC (a b : Int) : (a < b → Lib.compareInt a b = -1) ∧ (b < a → Lib.compareInt a b = 1) ∧ (a = b → Lib.compareInt a b = 0) := by
  unfold Lib.compareInt
  refine ⟨fun h => by simp [h], fun h => ?_, fun h => by simp [h]⟩
  have : ¬ a < b := by omega
  simp [h, this]
theorem newCell (W : World) (c : Array Value) (t : TypeId) (o : Nat) {b : Nat} {v : Value} {W' : World} (h : W'.heap = (W.alloc (.cells c t)).heap) (hb : b = W.heap.size) (hc : c[o]? = some v) : W'.cell? ⟨b, o, none⟩ = some v := by
  subst hb
  have : (W.alloc (.cells c t)).cell? ⟨W.heap.size, o, none⟩ = some v := by simpa using hc
  simpa [World.cell?, h] using this

theorem or_two (b : Nat) (x y : Int) (w : World) (h0 : w.cell? ⟨b, 0, none⟩ = some (.int .i64 x)) (h1 : w.cell? ⟨b, 1, none⟩ = some (.int .i64 y)) :
    Calls Tryz.prog 71 #[.slice (some ⟨b, 0, none⟩) 2 2] w fun e w' => e = .returned (.int .i64 (if x ≠ 0 then x else y)) ∧ w' = w := by
  by_cases hx : x = 0
  · subst hx
    by_cases hy : y = 0
    · subst hy
      go_enter Tryz.func71, Tryz.ntmps71
      go_wp2
      refine wp_loop_rounds 3 ?_
      rw [rounds_succ]
      go_wp2
      rw [rounds_succ]
      go_wp2
      rw [rounds_succ]
      go_wp2
      go_ret
      exact ⟨rfl, rfl⟩
    · have hy' : (y != 0) = true := by simp [hy]
      go_enter Tryz.func71, Tryz.ntmps71
      go_wp2
      refine wp_loop_rounds 3 ?_
      rw [rounds_succ]
      go_wp2
      rw [rounds_succ]
      go_wp2
      go_ret
      exact ⟨rfl, rfl⟩
  · have hx' : (x != 0) = true := by simp [hx]
    go_enter Tryz.func71, Tryz.ntmps71
    go_wp2
    refine wp_loop_rounds 3 ?_
    rw [rounds_succ]
    go_wp2
    go_ret
    exact ⟨by simp, rfl⟩

theorem cmpK_any (x y : Int) (w : World) : Calls Tryz.prog 72 #[.int .i64 x, .int .i64 y] w fun e w' => e = .returned (.int .i64 (Lib.compareInt x y)) ∧ w' = w := by
  have hN := fun (z : Int) (W : World) => (show Calls Tryz.prog 104 #[.int .i64 z] W fun e w' => e = .returned (.bool false) ∧ w' = W from by
    go_enter Tryz.func104, Tryz.ntmps104
    go_wp2
    go_ret
    exact ⟨by simp, rfl⟩)
  have HN := Lib.hid hN
  clear hN
  rcases Int.lt_trichotomy x y with h | h | h
  · have HV := Lib.hid (ciC x y).1
    have d1 : decide (x < y) = true := decide_eq_true h
    go_enter Tryz.func72, Tryz.ntmps72
    go_wp2_with (go_at_call 104; refine (HN.out _ _).mono ?_; rintro e w1 ⟨rfl, rfl⟩)
    go_ret
    exact ⟨by rw [HV.out h]; rfl, rfl⟩
  · subst h
    have HV := Lib.hid ((ciC x x).2.2 rfl)
    have d1 : decide (x < x) = false := decide_eq_false (by omega)
    go_enter Tryz.func72, Tryz.ntmps72
    go_wp2_with (go_at_call 104; refine (HN.out _ _).mono ?_; rintro e w1 ⟨rfl, rfl⟩)
    go_ret
    exact ⟨by rw [HV.out]; rfl, rfl⟩
  · have HV := Lib.hid (ciC x y).2.1
    have d1 : decide (x < y) = false := decide_eq_false (by omega)
    have d2 : decide (y < x) = true := decide_eq_true h
    have n1 : ¬ x < y := by omega
    go_enter Tryz.func72, Tryz.ntmps72
    go_wp2_with (go_at_call 104; refine (HN.out _ _).mono ?_; rintro e w1 ⟨rfl, rfl⟩)
    go_ret
    exact ⟨by rw [HV.out h]; rfl, rfl⟩
theorem cmpE_any (x y : Int) (w : World) : Calls Tryz.prog 73 #[.int .i64 x, .int .i64 y] w fun e w' => e = .returned (.int .i64 (Lib.compareInt x y)) ∧ w' = w := by
  have hN := fun (z : Int) (W : World) => (show Calls Tryz.prog 105 #[.int .i64 z] W fun e w' => e = .returned (.bool false) ∧ w' = W from by
    go_enter Tryz.func105, Tryz.ntmps105
    go_wp2
    go_ret
    exact ⟨by simp, rfl⟩)
  have HN := Lib.hid hN
  clear hN
  rcases Int.lt_trichotomy x y with h | h | h
  · have HV := Lib.hid (ciC x y).1
    have d1 : decide (x < y) = true := decide_eq_true h
    go_enter Tryz.func73, Tryz.ntmps73
    go_wp2_with (go_at_call 105; refine (HN.out _ _).mono ?_; rintro e w1 ⟨rfl, rfl⟩)
    go_ret
    exact ⟨by rw [HV.out h]; rfl, rfl⟩
  · subst h
    have HV := Lib.hid ((ciC x x).2.2 rfl)
    have d1 : decide (x < x) = false := decide_eq_false (by omega)
    go_enter Tryz.func73, Tryz.ntmps73
    go_wp2_with (go_at_call 105; refine (HN.out _ _).mono ?_; rintro e w1 ⟨rfl, rfl⟩)
    go_ret
    exact ⟨by rw [HV.out]; rfl, rfl⟩
  · have HV := Lib.hid (ciC x y).2.1
    have d1 : decide (x < y) = false := decide_eq_false (by omega)
    have d2 : decide (y < x) = true := decide_eq_true h
    have n1 : ¬ x < y := by omega
    go_enter Tryz.func73, Tryz.ntmps73
    go_wp2_with (go_at_call 105; refine (HN.out _ _).mono ?_; rintro e w1 ⟨rfl, rfl⟩)
    go_ret
    exact ⟨by rw [HV.out h]; rfl, rfl⟩
def cmpC (x y : Cd) : Int := if Lib.compareInt x.call y.call ≠ 0 then Lib.compareInt x.call y.call else Lib.compareInt x.err y.err
theorem cmpC_lt (x y : Cd) : cmpC x y < 0 ↔ cdLt x y := by
  unfold cmpC cdLt
  have a := ciC x.call y.call
  have b := ciC x.err y.err
  rcases Int.lt_trichotomy x.call y.call with h | h | h
  · rw [a.1 h, if_pos (by decide)]
    exact ⟨fun _ => .inl h, fun _ => by decide⟩
  · rw [a.2.2 h, if_neg (by simp)]
    rcases Int.lt_trichotomy x.err y.err with q | q | q
    · rw [b.1 q]
      exact ⟨fun _ => .inr ⟨h, q⟩, fun _ => by decide⟩
    · rw [b.2.2 q]
      exact ⟨fun e => absurd e (by decide), fun e => by omega⟩
    · rw [b.2.1 q]
      exact ⟨fun e => absurd e (by decide), fun e => by omega⟩
  · rw [a.2.1 h, if_pos (by decide)]
    exact ⟨fun e => absurd e (by decide), fun e => by omega⟩
theorem ltC (x y : Cd) : ltOf cmpC x y = true ↔ cdLt x y := by
  unfold ltOf
  rw [decide_eq_true_iff]
  exact cmpC_lt x y
theorem ltC_no (x y : Cd) : ltOf cmpC x y = false ↔ ¬ cdLt x y := by
  rw [← ltC]
  simp
theorem swoC : SWO (ltOf cmpC) := by
  refine ⟨fun x => ?_, fun x y z h1 h2 => ?_, fun x y z h1 h2 => ?_⟩
  · rw [ltC_no]
    unfold cdLt
    omega
  · rw [ltC] at *
    unfold cdLt at *
    omega
  · rw [ltC_no] at *
    unfold cdLt at *
    omega
theorem cmpCd_any (x y : Cd) (w : World) :
    Calls Tryz.prog 70 #[.agg #[.int .i64 x.call, .int .i64 x.err, .int .i64 x.n], .agg #[.int .i64 y.call, .int .i64 y.err, .int .i64 y.n]] w fun e w' => e = .returned (.int .i64 (cmpC x y)) ∧ ∃ q os', w' = grow (w.drewN q) os' := by
  have hS := fun W => cmpK_any x.call y.call W
  have hI := fun W => cmpE_any x.err y.err W
  unfold cmpC
  generalize Lib.compareInt x.call y.call = a at hS ⊢
  generalize Lib.compareInt x.err y.err = c at hI ⊢
  generalize hr : (if a ≠ 0 then a else c) = r
  have HR := Lib.hid hr
  clear hr
  obtain ⟨xc, xe, xn⟩ := x
  obtain ⟨yc, ye, yn⟩ := y
  dsimp only at hS hI ⊢
  go_enter Tryz.func70, Tryz.ntmps70
  go_wp2_with fail
  have k0 : ((w.alloc (.cells #[.int .i64 xc, .int .i64 xe, .int .i64 xn] 62)).alloc (.cells #[.int .i64 yc, .int .i64 ye, .int .i64 yn] 62)).cell? ⟨w.heap.size, 0, none⟩ = some (.int .i64 xc) := by simp
  have k1 : ((w.alloc (.cells #[.int .i64 xc, .int .i64 xe, .int .i64 xn] 62)).alloc (.cells #[.int .i64 yc, .int .i64 ye, .int .i64 yn] 62)).cell? ⟨w.heap.size, 1, none⟩ = some (.int .i64 xe) := by simp
  have k2 : ((w.alloc (.cells #[.int .i64 xc, .int .i64 xe, .int .i64 xn] 62)).alloc (.cells #[.int .i64 yc, .int .i64 ye, .int .i64 yn] 62)).cell? ⟨w.heap.size + 1, 0, none⟩ = some (.int .i64 yc) := newCell (w.alloc (.cells #[.int .i64 xc, .int .i64 xe, .int .i64 xn] 62)) #[.int .i64 yc, .int .i64 ye, .int .i64 yn] 62 0 rfl (by simp) rfl
  have k3 : ((w.alloc (.cells #[.int .i64 xc, .int .i64 xe, .int .i64 xn] 62)).alloc (.cells #[.int .i64 yc, .int .i64 ye, .int .i64 yn] 62)).cell? ⟨w.heap.size + 1, 1, none⟩ = some (.int .i64 ye) := newCell (w.alloc (.cells #[.int .i64 xc, .int .i64 xe, .int .i64 xn] 62)) #[.int .i64 yc, .int .i64 ye, .int .i64 yn] 62 1 rfl (by simp) rfl
  have hg : (w.alloc (.cells #[.int .i64 xc, .int .i64 xe, .int .i64 xn] 62)).alloc (.cells #[.int .i64 yc, .int .i64 ye, .int .i64 yn] 62) = grow w #[.cells #[.int .i64 xc, .int .i64 xe, .int .i64 xn] 62, .cells #[.int .i64 yc, .int .i64 ye, .int .i64 yn] 62] := by
    rw [alloc_eq_grow, alloc_eq_grow, grow_grow]
    rfl
  have hsz : ((w.alloc (.cells #[.int .i64 xc, .int .i64 xe, .int .i64 xn] 62)).alloc (.cells #[.int .i64 yc, .int .i64 ye, .int .i64 yn] 62)).heap.size = w.heap.size + 1 + 1 := by simp
  generalize (w.alloc (.cells #[.int .i64 xc, .int .i64 xe, .int .i64 xn] 62)).alloc (.cells #[.int .i64 yc, .int .i64 ye, .int .i64 yn] 62) = W0 at k0 k1 k2 k3 hg hsz ⊢
  have HG := Lib.hid (And.intro hg hsz)
  clear hg hsz
  have j0 : ({ W0 with drawn := W0.drawn + 1 } : World).cell? ⟨w.heap.size, 0, none⟩ = some (.int .i64 xc) := k0
  have j1 : ({ W0 with drawn := W0.drawn + 1 } : World).cell? ⟨w.heap.size, 1, none⟩ = some (.int .i64 xe) := k1
  have j2 : ({ W0 with drawn := W0.drawn + 1 } : World).cell? ⟨w.heap.size + 1, 0, none⟩ = some (.int .i64 yc) := k2
  have j3 : ({ W0 with drawn := W0.drawn + 1 } : World).cell? ⟨w.heap.size + 1, 1, none⟩ = some (.int .i64 ye) := k3
  go_still_tail 10, (by kernel_rfl)
  still_call (hS _)
  repeat still_step
  still_call (hI _)
  refine wpStill_nil ?_
  change wpList _ _ _ _ _ (World.drew W0)
  have hw1 : W0.drew = grow (w.drewN 1) #[.cells #[.int .i64 xc, .int .i64 xe, .int .i64 xn] 62, .cells #[.int .i64 yc, .int .i64 ye, .int .i64 yn] 62] := by rw [HG.out.1]; rfl
  have hs1 : W0.drew.heap.size = w.heap.size + 1 + 1 := HG.out.2
  clear j0 j1 j2 j3 k0 k1 k2 k3 HG hS hI
  generalize W0.drew = W1 at hw1 hs1 ⊢
  have HW := Lib.hid (And.intro hw1 hs1)
  clear hw1 hs1
  have hO : Calls Tryz.prog 71 #[.slice (some ⟨W1.heap.size, 0, none⟩) 2 2] (W1.alloc (.cells #[.int .i64 a, .int .i64 c] 3)) fun e w' => e = .returned (.int .i64 r) ∧ w' = W1.alloc (.cells #[.int .i64 a, .int .i64 c] 3) := by
    rw [← HR.out]
    exact or_two _ a c _ (by simp) (by simp)
  go_wp2_with (go_at_call 71; refine hO.mono ?_; rintro e w1 ⟨rfl, rfl⟩)
  go_ret
  exact ⟨rfl, 1, _, by rw [HW.out.1, alloc_eq_grow, grow_grow]⟩
instance : Inhabited Cd := ⟨⟨0, 0, 0⟩⟩
theorem cd_flat : ∀ l : List Cd, l.flatMap cdVals = cdCells l
  | [] => rfl
  | x :: r => by rw [List.flatMap_cons, cd_flat r]; rfl
theorem cdHolds {w : World} {lo : Nat} {v : Value} {l : List Cd} (h : w.ownsRow lo 62 3 v l.length (cdCells l)) (hn : 0 < l.length) :
    ∃ g cap, v = .slice (some ⟨g, 0, none⟩) l.length cap ∧ lo ≤ g ∧ g < w.heap.size ∧ HoldsK cdVals 3 w g 0 l.toArray := by
  have hc := fun {g : Nat} => World.ownsRow.cells (w := w) (base := lo) (e := 62) (size := 3) (v := v) (n := l.length) (xs := cdCells l) h (g := g)
  have hlt := World.ownsRow.lt (w := w) (base := lo) (e := 62) (size := 3) (v := v) (n := l.length) (xs := cdCells l) h
  obtain ⟨hl, h0 | ⟨g, cap, cur, hv, hb, hh, hcap, _⟩⟩ := h
  · omega
  · refine ⟨g, cap, hv, hb, (hlt g (by rw [hv]; rfl)).2, ?_⟩
    intro t ht
    rw [size_flatK] at ht
    have ht' : t < l.length * 3 := by simpa using ht
    have hx := List.getElem?_eq_getElem (l := l) (i := t / 3) (by omega)
    have hat := cdCells_at l (t / 3) _ hx (t % 3) (by omega)
    rw [show t / 3 * 3 + t % 3 = t from by omega] at hat
    have hlen : (cdVals (l[t / 3]'(by omega))).length = 3 := rfl
    rw [List.getElem?_eq_getElem (i := t % 3) (by omega)] at hat
    refine ⟨?_, by simp [World.frozen?, hh]⟩
    have := hc (g := g) (by rw [hv]; rfl) t _ hat
    rw [get_flatK _ _ _ _ (by simpa using ht')]
    simpa [Addr.add_lit, show t / 3 < l.length from by omega, hlen, show t % 3 < 3 from by omega] using this
theorem cdRow_held {w : World} {g c : Nat} {d : Array Cd} (hg : g < w.heap.size) (h : HoldsK cdVals 3 w g 0 d) : CdRow w (.slice (some ⟨g, 0, none⟩) d.toList.length c) d.toList := by
  refine .inr ⟨g, 0, c, rfl, hg, fun i x hx => ?_⟩
  have hi : i < d.size := by simpa using (List.getElem?_eq_some_iff.1 hx).1
  have hxd : d[i]! = x := by
    have h2 : d[i]? = some x := by simpa using hx
    rw [getElem!_def, h2]
  have hc : ∀ j, j < 3 → w.cell? ⟨g, 0 + i * 3 + j, none⟩ = some ((cdVals x)[j]!) := fun j hj => by
    have h1 := (h (i * 3 + j) (by rw [size_flatK]; omega)).1
    rw [get_flatK _ _ _ _ (by omega), show (i * 3 + j) / 3 = i from by omega, show (i * 3 + j) % 3 = j from by omega, hxd] at h1
    rw [show 0 + i * 3 + j = 0 + (i * 3 + j) from by omega]
    simpa using h1
  have h0 := hc 0 (by omega)
  have h1 := hc 1 (by omega)
  have h2 := hc 2 (by omega)
  exact ⟨h0, h1, h2⟩
theorem fr_sortedC (w : World) (g n : Nat) (d : Array Cd) (os : Array Obj) : Fr [g] w (sortWorldK cdVals 3 w g 0 n d os) := by
  refine ⟨rfl, rfl, rfl, ?_, ?_⟩
  · simp [sortWorldK, grow, putRowK, putRow, mapBlock]
  · intro k hk hn
    have hn' : g ≠ k := by simpa [eq_comm] using hn
    simp only [sortWorldK, grow, putRowK, putRow, mapBlock]
    rw [Array.getElem?_append_left (by simpa using hk), Array.getElem?_modify, if_neg hn']
    rfl
theorem sortC_any (lo : Nat) (v : Value) (l : List Cd) (w : World) (h : w.ownsRow lo 62 3 v l.length (cdCells l)) (hl : l.length ≤ 100000) :
    Calls Tryz.prog 69 #[v, .func (.func 70) #[] #[]] w fun e w' => e = .returned (.tuple #[]) ∧ ∃ L : List Cd, CdRow w' v L ∧ L.Perm l ∧ L.Pairwise (fun a b => ¬ cdLt b a) ∧ Fr v.ownBlock.toList w w' := by
  by_cases h0 : l.length = 0
  · obtain ⟨a, c, rfl⟩ := row_val' h
    rw [h0]
    have hn : l = [] := List.eq_nil_of_length_eq_zero h0
    refine (sortFunc_none _ w a c).mono ?_
    rintro e w' ⟨he, f⟩
    exact ⟨he, [], .inl ⟨rfl, a, c, rfl⟩, by rw [hn], List.Pairwise.nil, f.mono (fun _ hx => by cases hx)⟩
  · obtain ⟨g, cap, rfl, hlo, hg, hH⟩ := cdHolds h (by omega)
    have eg : ∀ args w, (callFunc 70 args).run Tryz.prog w = .ok (.enter 70 args) w := enters_of Tryz.func70 (by kernel_rfl) rfl
    have hcmp : CmpLays Tryz.prog 70 #[] cdVals 3 cmpC g 0 l.toArray.size w := fun _ _ _ _ x y => cmpCd_any x y _
    have hcon := AnyQ.slices_SortFunc Tryz.sortC 3 Tryz.isAgg62 Tryz.sizeOf62 cdVals (fun _ => rfl) cdVals_one cmpC swoC 70 #[] g 0 cap l.toArray w eg hcmp hH hg (by simp; omega)
    change Calls Tryz.prog 69 _ _ _ at hcon
    have e1 : l.toArray.size = l.length := by simp
    rw [e1] at hcon
    refine hcon.mono ?_
    rintro e w' ⟨he, d', n, os, hp, hs, rfl⟩
    obtain ⟨p1, p2, p3⟩ := hp
    have hsz : d'.size = l.length := by rw [p1]; simp
    have hx1 : d'.extract 0 l.length = d' := by rw [← hsz]; simp
    have hx2 : l.toArray.extract 0 l.length = l.toArray := by rw [← e1]; simp
    rw [hx1, hx2] at p3
    have hperm : d'.toList.Perm l := p3
    refine ⟨he, d'.toList, ?_, hperm, ?_, by simpa [Value.ownBlock] using fr_sortedC w g n d' os⟩
    · have h1 := holdsK_grow cdVals 3 _ os g 0 _ (by simpa [putRowK] using hg) (holdsK_putRowK cdVals 3 _ g 0 l.toArray d' (holdsK_ahead cdVals 3 _ n g 0 _ hH) (by rw [hsz, e1]))
      have h2 := cdRow_held (c := cap) (d := d') (by simpa [sortWorldK, grow, putRowK, putRow, mapBlock] using Nat.lt_of_lt_of_le hg (Nat.le_add_right _ os.size)) h1
      rw [Array.length_toList, hsz] at h2
      exact h2
    · rw [List.pairwise_iff_getElem]
      intro i j hi hj hij
      have := hs i j (Nat.zero_le _) hij (by rw [← hsz]; simpa using hj)
      rw [ltC_no] at this
      rw [Array.length_toList] at hi hj
      simpa [hi, hj] using this
end Go.Proofs.YtllmejkcohfbiaaGreatDoor
