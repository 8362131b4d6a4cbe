/- ReportFulls answers true. -/
import Derived.Test.YtllmejkcohfbiaaGreatDoorS3
import Derived.Test.YtllmejkcohfbiaaGreatDoorR22
import Derived.Test.YtllmejkcohfbiaaGreatDoorR18
namespace Go.Proofs.YtllmejkcohfbiaaGreatDoor
open Go.RowKit Go.Shelf Go.Sort Go.Lib
set_option linter.unusedVariables false
set_option linter.unusedSimpArgs false
set_option maxRecDepth 100000
set_option maxHeartbeats 16000000

theorem infoEv : (Tryz.prog.info? 103).map (fun i => (i.zero, i.size, i.bytes)) = some (some (.agg #[.int .i64 0, .int .i64 0, .int .i64 0, .int .i64 0, .int .i64 0, .int .i64 0, .int .i64 0, .string ⟨#[]⟩, .int .i64 0, .slice none 0 0, .int .i64 0, .int .i64 0, .int .i64 0, .int .u64 0, .int .i64 0, .bool false, .int .i64 0, .int .i64 0, .int .i64 0, .int .i64 0, .slice none 0 0, .int .i64 0, .int .i64 0, .int .i64 0, .int .i64 0, .string ⟨#[]⟩, .int .i64 0, .int .u64 0, .slice none 0 0, .int .u64 0]), 30, 304) := by kernel_rfl
theorem infoOc : (Tryz.prog.info? 49).map (fun i => (i.zero, i.size, i.bytes)) = some (some (.agg #[.int .u64 0, .slice none 0 0, .slice none 0 0, .slice none 0 0, .slice none 0 0, .slice none 0 0, .slice none 0 0, .slice none 0 0, .int .i64 0, .slice none 0 0, .slice none 0 0]), 11, 232) := by kernel_rfl
theorem infoI : (Tryz.prog.info? 3).map (fun i => (i.zero, i.size, i.bytes)) = some (some (.int .i64 0), 1, 8) := by kernel_rfl
theorem made_at (z : Array Value) (n k : Nat) (hk : k < n) : (madeCells z n).toList[k]? = some z[k % z.size]! := by
  unfold madeCells
  rw [Array.getElem?_toList, Array.getElem?_map, Array.getElem?_range]
  simp [hk]
theorem zeros_ev {w : World} {lo E : Nat} {g : Nat} (h : w.ownsRow lo 103 30 (.slice (some ⟨g, 0, none⟩) E E) E (madeCells (Value.cells (.agg #[.int .i64 0, .int .i64 0, .int .i64 0, .int .i64 0, .int .i64 0, .int .i64 0, .int .i64 0, .string ⟨#[]⟩, .int .i64 0, .slice none 0 0, .int .i64 0, .int .i64 0, .int .i64 0, .int .u64 0, .int .i64 0, .bool false, .int .i64 0, .int .i64 0, .int .i64 0, .int .i64 0, .slice none 0 0, .int .i64 0, .int .i64 0, .int .i64 0, .int .i64 0, .string ⟨#[]⟩, .int .i64 0, .int .u64 0, .slice none 0 0, .int .u64 0])) (E * 30)).toList) : EvRow w (.slice (some ⟨g, 0, none⟩) E E) (List.replicate E ev0) := by
  rcases h.2 with ⟨h1, h2⟩ | ⟨g', cap, cur, h1, h2, h3, _⟩
  · cases h1
  · simp only [Value.slice.injEq, Option.some.injEq, Addr.mk.injEq] at h1
    obtain ⟨⟨rfl, _⟩, _⟩ := h1
    refine .inr ⟨g, 0, E, by rw [List.length_replicate], (Array.getElem?_eq_some_iff.1 h3).1, fun i x hi j u hj => ?_⟩
    have hlen : j < 30 := by
      have := (List.getElem?_eq_some_iff.1 hj).1
      rwa [evL_len] at this
    have hiE : i < E := by
      have := (List.getElem?_eq_some_iff.1 hi).1
      rwa [List.length_replicate] at this
    have hx : x = ev0 := by
      rw [List.getElem?_replicate, if_pos hiE] at hi
      cases hi
      rfl
    subst hx
    have hc := World.ownsRow.cells h (g := g) rfl (i * 30 + j) u (by
      rw [made_at _ _ _ (by omega)]
      have hz : (Value.cells (.agg #[.int .i64 0, .int .i64 0, .int .i64 0, .int .i64 0, .int .i64 0, .int .i64 0, .int .i64 0, .string ⟨#[]⟩, .int .i64 0, .slice none 0 0, .int .i64 0, .int .i64 0, .int .i64 0, .int .u64 0, .int .i64 0, .bool false, .int .i64 0, .int .i64 0, .int .i64 0, .int .i64 0, .slice none 0 0, .int .i64 0, .int .i64 0, .int .i64 0, .int .i64 0, .string ⟨#[]⟩, .int .i64 0, .int .u64 0, .slice none 0 0, .int .u64 0])) = (evL ev0).toArray := rfl
      rw [hz]
      have hs : (evL ev0).toArray.size = 30 := rfl
      rw [hs, show (i * 30 + j) % 30 = j from by omega]
      have hj2 : (evL ev0).toArray[j]? = some u := by rw [List.getElem?_toArray]; exact hj
      rw [getElem!_def, hj2])
    rw [Addr.add_lit] at hc
    rw [show 0 + i * 30 + j = 0 + (i * 30 + j) from by omega]
    exact hc
theorem zeros_oc {w : World} {lo E : Nat} {g : Nat} (h : w.ownsRow lo 49 11 (.slice (some ⟨g, 0, none⟩) E E) E (madeCells (Value.cells (.agg #[.int .u64 0, .slice none 0 0, .slice none 0 0, .slice none 0 0, .slice none 0 0, .slice none 0 0, .slice none 0 0, .slice none 0 0, .int .i64 0, .slice none 0 0, .slice none 0 0])) (E * 11)).toList) : OcRow w (.slice (some ⟨g, 0, none⟩) E E) (List.replicate E ⟨0, []⟩) := by
  rcases h.2 with ⟨h1, h2⟩ | ⟨g', cap, cur, h1, h2, h3, _⟩
  · cases h1
  · simp only [Value.slice.injEq, Option.some.injEq, Addr.mk.injEq] at h1
    obtain ⟨⟨rfl, _⟩, _⟩ := h1
    refine .inr ⟨g, 0, E, by rw [List.length_replicate], (Array.getElem?_eq_some_iff.1 h3).1, fun i x hi => ?_⟩
    have hiE : i < E := by
      have := (List.getElem?_eq_some_iff.1 hi).1
      rwa [List.length_replicate] at this
    have hx : x = ⟨0, []⟩ := by
      rw [List.getElem?_replicate, if_pos hiE] at hi
      cases hi
      rfl
    subst hx
    have hc : ∀ (j : Nat) (u : Value), (Value.cells (.agg #[.int .u64 0, .slice none 0 0, .slice none 0 0, .slice none 0 0, .slice none 0 0, .slice none 0 0, .slice none 0 0, .slice none 0 0, .int .i64 0, .slice none 0 0, .slice none 0 0]))[j]? = some u → w.cell? ⟨g, 0 + i * 11 + j, none⟩ = some u := fun j u hj => by
      have hlen : j < 11 := (Array.getElem?_eq_some_iff.1 hj).1
      have hc := World.ownsRow.cells h (g := g) rfl (i * 11 + j) u (by
        rw [made_at _ _ _ (by omega)]
        have hs : (Value.cells (.agg #[.int .u64 0, .slice none 0 0, .slice none 0 0, .slice none 0 0, .slice none 0 0, .slice none 0 0, .slice none 0 0, .slice none 0 0, .int .i64 0, .slice none 0 0, .slice none 0 0])).size = 11 := rfl
        rw [hs, show (i * 11 + j) % 11 = j from by omega, getElem!_def, hj])
      rw [Addr.add_lit] at hc
      rw [show 0 + i * 11 + j = 0 + (i * 11 + j) from by omega]
      exact hc
    exact ⟨0, (none, 0, 0), (none, 0, 0), (none, 0, 0), (none, 0, 0), (none, 0, 0), (none, 0, 0), (none, 0, 0), .slice none 0 0, (none, 0, 0), .inl ⟨rfl, none, 0, rfl⟩, hc 0 _ rfl, hc 1 _ rfl, hc 2 _ rfl, hc 3 _ rfl, hc 4 _ rfl, hc 5 _ rfl, hc 6 _ rfl, hc 7 _ rfl, hc 8 _ rfl, hc 9 _ rfl, hc 10 _ rfl⟩
theorem zeros_int {w : World} {lo E : Nat} {g : Nat} (h : w.ownsRow lo 3 1 (.slice (some ⟨g, 0, none⟩) E E) E (madeCells (Value.cells (.int .i64 0)) (E * 1)).toList) : IntRow w (.slice (some ⟨g, 0, none⟩) E E) (List.replicate E 0) := by
  rcases h.2 with ⟨h1, h2⟩ | ⟨g', cap, cur, h1, h2, h3, _⟩
  · cases h1
  · simp only [Value.slice.injEq, Option.some.injEq, Addr.mk.injEq] at h1
    obtain ⟨⟨rfl, _⟩, _⟩ := h1
    refine .inr ⟨g, 0, E, by rw [List.length_replicate], (Array.getElem?_eq_some_iff.1 h3).1, fun i x hi => ?_⟩
    have hiE : i < E := by
      have := (List.getElem?_eq_some_iff.1 hi).1
      rwa [List.length_replicate] at this
    have hx : x = 0 := by
      rw [List.getElem?_replicate, if_pos hiE] at hi
      cases hi
      rfl
    subst hx
    have hc := World.ownsRow.cells h (g := g) rfl i (.int .i64 0) (by
      rw [made_at _ _ _ (by omega)]
      have hs : (Value.cells (.int .i64 0)).size = 1 := rfl
      rw [hs, Nat.mod_one]
      rfl)
    rw [Addr.add_lit] at hc
    exact hc
theorem i64_0 : I64 0 := ⟨by decide, by decide⟩
theorem none_rep (m : Nat) : noneNeg (List.replicate m 0) = true := by
  unfold noneNeg
  rw [List.all_eq_true]
  intro x hx
  rw [List.eq_of_mem_replicate hx]
  rfl
theorem ends_err (m : Nat) : (exText ⟨0, 0, 0, List.replicate m ⟨0, []⟩⟩).2 = if m ≤ 1000 then 0 else 2 := by
  have h : exOk ⟨0, 0, 0, List.replicate m ⟨0, []⟩⟩ = decide (m ≤ 1000) := by
    unfold exOk
    simp only [List.length_replicate]
    have : (List.replicate m (⟨0, []⟩ : Oc)).all ocOk = true := by
      rw [List.all_eq_true]
      intro x hx
      rw [List.eq_of_mem_replicate hx]
      rfl
    rw [this, Bool.and_true]
    rfl
  unfold exText
  rw [h]
  by_cases hm : m ≤ 1000
  · rw [if_pos (decide_eq_true hm), if_pos hm]
  · rw [if_neg (by rw [decide_eq_false hm]; simp), if_neg hm]
theorem picks_err (m : Nat) : (exText ⟨0, 0, 0, [⟨0, List.replicate m 0⟩]⟩).2 = if m ≤ 1000 then 0 else 2 := by
  have h : exOk ⟨0, 0, 0, [⟨0, List.replicate m 0⟩]⟩ = decide (m ≤ 1000) := by
    unfold exOk ocOk
    simp only [List.length_cons, List.length_nil, List.all_cons, List.all_nil, List.length_replicate, none_rep, Bool.and_true]
    rfl
  unfold exText
  rw [h]
  by_cases hm : m ≤ 1000
  · rw [if_pos (decide_eq_true hm), if_pos hm]
  · rw [if_neg (by rw [decide_eq_false hm]; simp), if_neg hm]
theorem fulls_big (e k : Int) (w : World) (he : EnvR w) (hb : e < 4995 ∨ 5005 < e ∨ k < 995 ∨ 1005 < k) :
    Calls Tryz.prog 8 #[.int .i64 e, .int .i64 k] w fun e w' => e = .returned (.bool true) ∧ Fr [] w w' := by
  have HK := Lib.hid (known_any w he)
  clear he
  by_cases h1 : e < 4995
  · have d1 := decide_eq_true h1
    clear hb h1
    go_enter Tryz.func8, Tryz.ntmps8
    go_wp2_with fail
    refine HK.out.mono ?_
    rintro e w1 ⟨rfl, f1⟩
    go_wp2
    go_ret
    exact ⟨rfl, f1⟩
  have d1 := decide_eq_false h1
  by_cases h2 : 5005 < e
  · have d2 := decide_eq_true h2
    clear hb h1 h2
    go_enter Tryz.func8, Tryz.ntmps8
    go_wp2_with fail
    refine HK.out.mono ?_
    rintro e w1 ⟨rfl, f1⟩
    go_wp2
    go_ret
    exact ⟨rfl, f1⟩
  have d2 := decide_eq_false h2
  by_cases h3 : k < 995
  · have d3 := decide_eq_true h3
    clear hb h1 h2 h3
    go_enter Tryz.func8, Tryz.ntmps8
    go_wp2_with fail
    refine HK.out.mono ?_
    rintro e w1 ⟨rfl, f1⟩
    go_wp2
    go_ret
    exact ⟨rfl, f1⟩
  have d3 := decide_eq_false h3
  have d4 : decide (1005 < k) = true := decide_eq_true (by omega)
  clear hb h1 h2 h3
  go_enter Tryz.func8, Tryz.ntmps8
  go_wp2_with fail
  refine HK.out.mono ?_
  rintro e w1 ⟨rfl, f1⟩
  go_wp2
  go_ret
  exact ⟨rfl, f1⟩
theorem fulls_main (E m : Nat) (w : World) (he : EnvR w) (h1 : 4995 ≤ E) (h2 : E ≤ 5005) (h3 : 995 ≤ m) (h4 : m ≤ 1005) (eE eM : Int) (hE : (eE = 7 ∧ 5000 < E) ∨ (eE = 0 ∧ ¬ 5000 < E)) (hM : (eM = 2 ∧ 1000 < m) ∨ (eM = 0 ∧ ¬ 1000 < m)) :
    Calls Tryz.prog 8 #[.int .i64 (E : Int), .int .i64 (m : Int)] w fun e w' => e = .returned (.bool true) ∧ Fr [] w w' := by
  have HE := Lib.hid he
  have d1 : decide ((E : Int) < 4995) = false := decide_eq_false (by omega)
  have d2 : decide ((5005 : Int) < (E : Int)) = false := decide_eq_false (by omega)
  have d3 : decide ((m : Int) < 995) = false := decide_eq_false (by omega)
  have d4 : decide ((1005 : Int) < (m : Int)) = false := decide_eq_false (by omega)
  obtain ⟨i0, hi, hz0, hz1, hz2⟩ := info_parts infoEv
  obtain ⟨i1, ki, kz0, kz1, kz2⟩ := info_parts infoOc
  obtain ⟨i2, li, lz0, lz1, lz2⟩ := info_parts infoI
  have hidle : idle (List.replicate E ev0) := fun x hx => by
    rw [List.eq_of_mem_replicate hx]
    exact ⟨rfl, rfl⟩
  have HT := Lib.hid (fun (g : Nat) (W : World) (h : EvRow W (.slice (some ⟨g, 0, none⟩) E E) (List.replicate E ev0)) => (show Calls Tryz.prog 36 #[.slice (some ⟨g, 0, none⟩) E E] W fun e w' => e = .returned (.tuple #[.slice none 0 0, .int .i64 eE]) ∧ Fr [] W w' from by
    rcases hE with ⟨rfl, hE⟩ | ⟨rfl, hE⟩
    · exact ofTasks_full _ _ _ W hE
    · exact ofTasks_idle _ _ W h hidle (by rw [List.length_replicate]; omega)))
  have HC := Lib.hid (fun (g : Nat) (W : World) (h : EvRow W (.slice (some ⟨g, 0, none⟩) E E) (List.replicate E ev0)) => (show Calls Tryz.prog 34 #[.slice (some ⟨g, 0, none⟩) E E] W fun e w' => e = .returned (.tuple #[.slice none 0 0, .int .i64 eE]) ∧ Fr [] W w' from by
    rcases hE with ⟨rfl, hE⟩ | ⟨rfl, hE⟩
    · exact ofCodes_full _ _ _ W hE
    · exact ofCodes_idle _ _ W h hidle (by rw [List.length_replicate]; omega)))
  have heM : (if m ≤ 1000 then (0 : Int) else 2) = eM := by
    rcases hM with ⟨rfl, hM⟩ | ⟨rfl, hM⟩
    · rw [if_neg (by omega)]
    · rw [if_pos (by omega)]
  have HX1 := Lib.hid (fun (g : Nat) (W : World) (ht : Tab W) (h : OcRow W (.slice (some ⟨g, 0, none⟩) m m) (List.replicate m ⟨0, []⟩)) => (show Calls Tryz.prog 18 #[.agg #[.int .i64 0, .int .i64 0, .int .i64 0, .slice (some ⟨g, 0, none⟩) m m]] W fun e w' => ∃ s, e = .returned (.tuple #[.string s, .int .i64 eM]) ∧ Fr [] W w' from by
    have q := Explored_any ⟨0, 0, 0, List.replicate m ⟨0, []⟩⟩ (.slice (some ⟨g, 0, none⟩) m m) W ht ⟨⟨i64_0, i64_0, i64_0⟩, fun o ho => by
      rw [List.eq_of_mem_replicate ho]
      exact ⟨i64_0, fun p hp => by cases hp⟩⟩ h
    rw [ends_err, heM] at q
    exact q.mono fun e w' ⟨e1, e2⟩ => ⟨_, e1, e2⟩))
  have HX2 := Lib.hid (fun (v : Value) (W : World) (ht : Tab W) (h : OcRow W v [⟨0, List.replicate m 0⟩]) => (show Calls Tryz.prog 18 #[.agg #[.int .i64 0, .int .i64 0, .int .i64 0, v]] W fun e w' => ∃ s, e = .returned (.tuple #[.string s, .int .i64 eM]) ∧ Fr [] W w' from by
    have q := Explored_any ⟨0, 0, 0, [⟨0, List.replicate m 0⟩]⟩ v W ht ⟨⟨i64_0, i64_0, i64_0⟩, fun o ho => by
      rw [List.mem_singleton] at ho
      subst ho
      exact ⟨i64_0, fun p hp => by rw [List.eq_of_mem_replicate hp]; exact i64_0⟩⟩ h
    rw [picks_err, heM] at q
    exact q.mono fun e w' ⟨e1, e2⟩ => ⟨_, e1, e2⟩))
  clear he hidle heM
  go_enter Tryz.func8, Tryz.ntmps8
  go_wp2_with (first
    | (at_make; refine wpList_make_full _ rfl _ _ 85 rfl w.heap.size 103 i0 _ 30 Tryz.underlying85 hi hz0 hz1 _ _ _ _ E rfl rfl rfl rfl (by rw [hz2]; omega) (by unfold maxLen; omega) (Nat.le_refl _) ?_; intro w1 hrow hgrow)
    | fail)
  have ROW := Lib.hid (zeros_ev hrow)
  have F1 := Lib.hid (grownFr (S := []) hgrow (fun k e => by cases e))
  obtain ⟨G, hG⟩ : ∃ G, w.heap.size = G := ⟨_, rfl⟩
  rw [hG] at ROW
  clear hrow hgrow
  simp only [hG]
  clear hG
  go_wp2_with fail
  refine (HT.out _ _ ROW.out).mono ?_
  rintro e w2 ⟨rfl, f2⟩
  have F2 := Lib.hid (F1.out.step f2)
  have ROW2 := Lib.hid (ROW.out.new f2)
  clear f2 HT
  go_wp2_with fail
  refine (HC.out _ _ ROW2.out).mono ?_
  rintro e w3 ⟨rfl, f3⟩
  have F3 := Lib.hid (F2.out.step f3)
  clear f3 HC
  rcases hE with ⟨rfl, hE⟩ | ⟨rfl, hE⟩
  all_goals (
    first
      | (have dE : decide ((5000 : Int) < (E : Int)) = true := decide_eq_true (by omega); clear hE)
      | (have dE : decide ((5000 : Int) < (E : Int)) = false := decide_eq_false (by omega); clear hE)
    go_wp2_with (first
      | (at_make; refine wpList_make_full _ rfl _ _ 25 rfl w3.heap.size 49 i1 _ 11 Tryz.underlying25 ki kz0 kz1 _ _ _ _ m rfl rfl rfl rfl (by rw [kz2]; omega) (by unfold maxLen; omega) (Nat.le_refl _) ?_; intro w4 hrow hgrow)
      | fail)
    have ROW4 := Lib.hid (zeros_oc hrow)
    have F4 := Lib.hid (F3.out.step (grownFr (S := []) hgrow (fun k e => by cases e)))
    clear hrow hgrow
    go_wp2_with fail
    refine (HX1.out _ _ (HE.out.new F4.out).tab ROW4.out).mono ?_
    rintro e w5 ⟨s5, rfl, f5⟩
    have F5 := Lib.hid (F4.out.step f5)
    clear f5 ROW4
    go_wp2_with (first
      | (at_make; refine wpList_make_full _ rfl _ _ 41 rfl w5.heap.size 3 i2 _ 1 Tryz.underlying41 li lz0 lz1 _ _ _ _ m rfl rfl rfl rfl (by rw [lz2]; omega) (by unfold maxLen; omega) (Nat.le_refl _) ?_; intro w6 hrow hgrow)
      | fail)
    have ROW6 := Lib.hid (zeros_int hrow)
    have F6 := Lib.hid (F5.out.step (grownFr (S := []) hgrow (fun k e => by cases e)))
    have hg6 : w5.heap.size < w6.heap.size := hrow.lt _ rfl |>.2
    obtain ⟨G6, hG6⟩ : ∃ G, w5.heap.size = G := ⟨_, rfl⟩
    rw [hG6] at ROW6 hg6
    clear hrow hgrow
    simp only [hG6]
    clear hG6
    have fA : Fr [] w6 (w6.alloc (.cells #[.int .u64 0, .slice none 0 0, .slice none 0 0, .slice none 0 0, .slice none 0 0, .slice none 0 0, .slice none 0 0, .slice none 0 0, .int .i64 0, .slice (some ⟨G6, 0, none⟩) m m, .slice none 0 0] 49)) := (Fr.refl [] w6).alloc _
    have ROW7 := Lib.hid (show OcRow (w6.alloc (.cells #[.int .u64 0, .slice none 0 0, .slice none 0 0, .slice none 0 0, .slice none 0 0, .slice none 0 0, .slice none 0 0, .slice none 0 0, .int .i64 0, .slice (some ⟨G6, 0, none⟩) m m, .slice none 0 0] 49)) (.slice (some ⟨w6.heap.size, 0, none⟩) 1 1) [⟨0, List.replicate m 0⟩] from .inr ⟨w6.heap.size, 0, 1, rfl, by simp, fun i x hi => by
      match i with
      | 0 =>
        cases hi
        refine ⟨0, (none, 0, 0), (none, 0, 0), (none, 0, 0), (none, 0, 0), (none, 0, 0), (none, 0, 0), (none, 0, 0), .slice (some ⟨G6, 0, none⟩) m m, (none, 0, 0), ROW6.out.new fA, ?_, ?_, ?_, ?_, ?_, ?_, ?_, ?_, ?_, ?_, ?_⟩
        all_goals simp
      | i + 1 => simp at hi⟩)
    have FA := Lib.hid (F6.out.step fA)
    clear fA
    go_wp2_with fail
    refine (HX2.out _ _ (HE.out.new FA.out).tab ROW7.out).mono ?_
    rintro e w8 ⟨s8, rfl, f8⟩
    have F8 := Lib.hid (FA.out.step f8)
    have HK := Lib.hid (known_any _ (HE.out.new F8.out))
    clear f8 ROW7
    rcases hM with ⟨rfl, hM⟩ | ⟨rfl, hM⟩
    all_goals (
      first
        | (have dM : decide ((1000 : Int) < (m : Int)) = true := decide_eq_true (by omega); clear hM)
        | (have dM : decide ((1000 : Int) < (m : Int)) = false := decide_eq_false (by omega); clear hM)
      go_wp2_with fail
      refine HK.out.mono ?_
      rintro e w9 ⟨rfl, f9⟩
      go_wp2
      go_ret
      exact ⟨rfl, F8.out.step f9⟩))
end Go.Proofs.YtllmejkcohfbiaaGreatDoor
