/- The contract of the reference's Sort of addresses, the walk. -/
import Derived.Test.YtbilaapikclhlaaDoorRefSort
import Derived.Laws.AppendOwnNone
import Derived.Deep.CutRange
namespace Go.Proofs.YtbilaapikclhlaaDoor
open Go.RowKit Go.Sort Go.Shelf
set_option linter.unusedVariables false
set_option maxRecDepth 100000
set_option maxHeartbeats 16000000
attribute [local go_sem ↓] Go.wp_at_zero Go.wp_at_succ

section
variable {P : Program} (w : World)
theorem step_append_none {ops : Array Oper} {o : Oper} {a : Act} {K : Act → World → Prop} {Q : Exit → Act → World → Prop} {E : Prop} (hgd : o.guard = none) (s x : Operand) (t : TypeId)
    (ho : o.op = .call { callee := .builtin .append, args := #[s, x], argTypes := #[t, t] })
    (base : Nat) (e : TypeId) (i : TypeInfo) (size : Nat) (ht : P.underlying t = some (.slice e)) (hi : P.info? e = some i)
    (v : Value) (n : Nat) (xs : List Value) (hs : a.eval s = v) (hown : w.ownsRow base e size v n xs) (hx : a.eval x = .slice none 0 0)
    (h : K (a.put o.dst v) w) :
    if Region.wanted o (yielded ops a.tmps) = true then Oper.wp P o a w K Q else E := by
  have hw : Region.wanted o (yielded ops a.tmps) = true := by simp [Region.wanted, hgd]
  rw [if_pos hw]
  have hrun := run_append_owned_none (P := P) (w := w) base t o.type e i size ht hi v n xs hown
  unfold Oper.wp execOp
  simp only [ho, resolve, invoke, builtin, Sem.run_bind, Sem.run_pure, Result.andThen_ok, List.map_toArray, List.map_cons, List.map_nil, hs, hx, hrun]
  exact h
end
theorem news_if {W : World} {g k n cp : Nat} {f : Nat → Ad} (h : RowA W g (k * 2) (n - k) f) (hn : n ≤ cp) : ∀ j u, ((upto f (n - k)).flatMap encA)[j]? = some u → W.cell? ((if cp = k then (⟨g, 0, none⟩ : Addr) else ⟨g, k * 2, none⟩).add j) = some u := by
  intro j u hu
  by_cases hc : cp = k
  · have : n - k = 0 := by omega
    rw [this] at hu
    simp [upto] at hu
  · rw [if_neg hc]
    exact news_row h j u hu
theorem slice_if {g k n cp : Nat} : Value.slice (if cp = k then some (⟨g, 0, none⟩ : Addr) else some ⟨g, k * 2, none⟩) (n - k) (cp - k) = .slice (some (if cp = k then (⟨g, 0, none⟩ : Addr) else ⟨g, k * 2, none⟩)) (n - k) (cp - k) := by
  by_cases hc : cp = k <;> simp [hc]
theorem news_keep {w w' : World} {r : Nat} {xs : List Value} (h : ∀ j u, xs[j]? = some u → w.cell? ((⟨r, 0, none⟩ : Addr).add j) = some u) (hf : Fr [] w w') : ∀ j u, xs[j]? = some u → w'.cell? ((⟨r, 0, none⟩ : Addr).add j) = some u := by
  intro j u hu
  have h1 := h j u hu
  have ha : (⟨r, 0, none⟩ : Addr).add j = ⟨r, j, none⟩ := by unfold Addr.add; split <;> simp_all
  rw [ha] at h1 ⊢
  exact hf.keep h1 (by simp)
theorem insA_flat (L : List Ad) (x : Ad) (k : Nat) : (insA L x k).flatMap encA = (L.take k).flatMap encA ++ (encA x ++ (L.drop k).flatMap encA) := by
  simp [insA]
theorem owns_ins {w : World} {lo : Nat} {v : Value} {L : List Ad} {x : Ad} {k n : Nat} (hn : L.length = n) (hk : k ≤ n) (h : w.ownsRow lo 23 2 v (0 + k + (1 + (n - k))) ([] ++ (upto (fun i => L[i]!) k).flatMap encA ++ (encA x ++ (upto (fun i => L[k + i]!) (n - k)).flatMap encA))) :
    w.ownsRow lo 23 2 v (insA L x k).length ((insA L x k).flatMap encA) := by
  subst hn
  rw [insA_length L x k hk, insA_flat]
  rw [upto_take L k hk, upto_drop L k hk, List.nil_append] at h
  rwa [show 0 + k + (1 + (L.length - k)) = L.length + 1 by omega] at h
theorem owns_keep {w w' : World} {lo : Nat} {e : TypeId} {sz : Nat} {v : Value} {n : Nat} {xs : List Value} (h : w.ownsRow lo e sz v n xs) (hf : Fr [] w w') : w'.ownsRow lo e sz v n xs := by
  refine ⟨h.1, ?_⟩
  rcases h.2 with h0 | ⟨g, cap, cur, hv, hb, hh, rest⟩
  · exact .inl h0
  · refine .inr ⟨g, cap, cur, hv, hb, ?_, rest⟩
    rw [hf.block g (Array.getElem?_eq_some_iff.1 hh).1 (by simp)]
    exact hh
theorem owns_new (B : Nat) (x : Ad) (t : World) (ht : t.heap[B]? = some (.cells #[.string x.1, .int .i64 x.2] 23 (0, 0))) : t.ownsRow B 23 2 (.slice (some ⟨B, 0, none⟩) 1 1) 1 (encA x) :=
  ⟨rfl, .inr ⟨B, 1, #[.string x.1, .int .i64 x.2], rfl, Nat.le_refl _, ht, Nat.le_refl _, by simp [maxLen], rfl, rfl⟩⟩

theorem mem_next {L : List Ad} {f : Nat → Ad} {j k : Nat} {x : Ad} (h : ∀ e, e ∈ L ↔ e ∈ upto f j) (hx : x = f j) : ∀ e, e ∈ insA L x k ↔ e ∈ upto f (j + 1) := by
  intro e
  rw [insA_mem, upto_succ, h e, List.mem_append, List.mem_singleton, hx]
theorem mem_same {L : List Ad} {f : Nat → Ad} {j : Nat} (h : ∀ e, e ∈ L ↔ e ∈ upto f j) (hx : f j ∈ L) : ∀ e, e ∈ L ↔ e ∈ upto f (j + 1) := by
  intro e
  rw [upto_succ, List.mem_append, List.mem_singleton, ← h e]
  exact ⟨.inl, fun q => q.elim id (fun q => by rw [q]; exact hx)⟩

theorem refSort_any (b off len cap : Nat) (f : Nat → Ad) (w : World) (h0 : 0 < len) (hlen : len ≤ 1000) (hR : RowA w b off len f) :
    Calls Tryd.prog 21 #[.slice (some ⟨b, off, none⟩) len cap] w fun e w' => (∃ v, e = .returned v ∧ w'.ownsRow w.heap.size 23 2 v (csA (upto f len)).length ((csA (upto f len)).flatMap encA)) ∧ Fr [] w w' := by
  obtain ⟨i0, hi, hz0, hz1, hz2⟩ := info_parts infoA
  have HI := Lib.hid (And.intro hi (And.intro hz0 (And.intro hz1 hz2)))
  clear hi hz0 hz1 hz2
  have HR := Lib.hid hR
  clear hR
  go_enter Tryd.func21, Tryd.ntmps21
  go_wp2_with fail
  go_loopw [4, 3] (fun i v wr => ∃ (j : Nat) (L : List Ad), i = .int .i64 j ∧ j ≤ len ∧ wr.ownsRow w.heap.size 23 2 v L.length (L.flatMap encA) ∧ (L = [] → v = .slice none 0 0) ∧ (L.Pairwise (fun a b => cmpA a b < 0) ∧ ∀ e, e ∈ L ↔ e ∈ upto f j) ∧ L.length ≤ j ∧ Fr [] w wr) (fun i _ _ => len - (intOf i).toNat)
  case atStart => exact ⟨0, [], rfl, by omega, World.ownsRow_nil _ _ _ _, fun _ => rfl, ⟨List.Pairwise.nil, fun e => by simp [upto]⟩, by simp, Fr.refl _ _⟩
  case round =>
    obtain ⟨j, L, rfl, hj, hown, hnil, hset, hLj, fr⟩ := hrel
    have HL := Lib.hid hset
    clear hset
    by_cases hl : j < len
    · have hl' : (j : Int) < (len : Int) := by omega
      have hl0 : (0 : Int) ≤ (j : Int) := by omega
      have x0 := (HR.out.new fr).s j hl
      have x1 := (HR.out.new fr).p j hl
      obtain ⟨x, hx⟩ : ∃ x, x = f j := ⟨_, rfl⟩
      rw [← hx] at x0 x1
      have HX := Lib.hid hx
      clear hx
      rcases Nat.eq_zero_or_pos L.length with hL0 | hL0
      · obtain rfl : L = [] := List.length_eq_zero_iff.1 hL0
        obtain rfl := hnil rfl
        clear hnil hL0
        have kx0 : ∀ n os, (grow (wr.drewN n) os).cell? ⟨b, off + j * 2, none⟩ = some (.string x.1) := fun n os => cell_grown (cell_lt x0) x0 n os
        have kx1 : ∀ n os, (grow (wr.drewN n) os).cell? ⟨b, off + j * 2 + 1, none⟩ = some (.int .i64 x.2) := fun n os => cell_grown (cell_lt x0) x1 n os
        have mixed : Tryd.prog.follows .mixedOrders = true := by kernel_rfl
        have zb := cell_lt x0
        go_wp2_with fail
        go_loopw [5] (fun s ws => s = .int .i64 0 ∧ Gr wr ws) (fun _ _ => 0)
        case atStart => exact ⟨rfl, Gr.refl _⟩
        case round =>
          obtain ⟨rfl, gr⟩ := hrel
          have fg := gr.fr
          have y0 := fg.keep x0 (by simp)
          have y1 := fg.keep x1 (by simp)
          have zb2 := cell_lt y0
          have hown0 := World.ownsRow_nil wr wr.heap.size 23 2
          clear x0 x1
          go_wp2_with fail
          go_quiet (fail)
          go_wp2_with fail
          go_quiet (fail)
          go_wp2_with fail
          go_region_held3 (fun w' => w'.cell? ⟨b, off + j * 2, none⟩ = some (.string x.1) ∧ w'.cell? ⟨b, off + j * 2 + 1, none⟩ = some (.int .i64 x.2)) (go_keep)
            (fail)
          obtain ⟨hi, hz0, hz1, hz2⟩ := HI.out
          go_wp2_with (at_builtin; refine wpList_append_own _ rfl _ _ 35 rfl w.heap.size 23 i0 (.agg #[.string ⟨#[]⟩, .int .i64 0]) 2 24 Tryd.underlying35 hi hz0 hz1 hz2 rfl (by decide) _ 0 [] rfl (World.ownsRow_nil _ _ _ _) ⟨wr.heap.size, 0, none⟩ 1 1 (encA x) rfl rfl ?c1 ?c2 (by simp [maxLen]) (by simp) ?c5 ?_)
          case c1 =>
            intro q u hq
            match q, hq with
            | 0, hq => simp [encA] at hq; subst hq; exact newCell (wr.drewN _) _ _ 0 rfl rfl rfl
            | 1, hq => simp [encA] at hq; subst hq; exact newCell (wr.drewN _) _ _ 1 rfl rfl rfl
          case c2 => exact fun u hu => flat_one [x] u (by simpa using hu)
          case c5 => have := fr.size; have := fg.size; simp; omega
          intro v' wn hown' hgrow _
          have fn : Fr [] w wn := ((fr.step fg).step (((Fr.refl [] wr).drewN _).alloc _)).step (fr_grown hgrow (fun k hk => by cases hk))
          go_wp2
          go_roundw
          case rel => exact ⟨j + 1, [x], by go_num, by omega, hown', fun h => (by cases h), ⟨List.pairwise_singleton _ _, mem_next (k := 0) HL.out.2 HX.out⟩, by simp, fn⟩
          case measure => simp [intOf]; omega
      · obtain ⟨g, cp, rfl, hcp, hlo, hglt, _⟩ := holds_owned hown hL0
        have hRow := row_owned hown
        clear hnil
        have HO := Lib.hid hown
        have HRow := Lib.hid hRow
        clear hown hRow
        generalize hn : L.length = n at *
        have HN := Lib.hid hn
        clear hn
        have mixed : Tryd.prog.follows .mixedOrders = true := by kernel_rfl
        have zb := cell_lt x0
        go_wp2_with fail
        go_loopw [5] (fun s ws => (∃ k : Nat, s = .int .i64 k ∧ k ≤ n ∧ (∀ i, i < k → cmpA L[i]! x < 0)) ∧ Gr wr ws) (fun s _ => n - (intOf s).toNat)
        case atStart => exact ⟨⟨0, rfl, by omega, fun i hi => by omega⟩, Gr.refl _⟩
        case round =>
          obtain ⟨⟨k, rfl, hk, hlow⟩, gr⟩ := hrel
          have fg := gr.fr
          have c0 := fg.keep x0 (by simp)
          have c1 := fg.keep x1 (by simp)
          have FX := Lib.hid (And.intro (fr.step fg) (And.intro c0 c1))
          have HO2 := Lib.hid (And.intro fg (HRow.out.new fg))
          have GR := Lib.hid gr
          have zb3 := cell_lt c0
          have kx0 : ∀ n os, (grow (wr.drewN n) os).cell? ⟨b, off + j * 2, none⟩ = some (.string x.1) := fun n os => cell_grown (cell_lt c0) c0 n os
          have kx1 : ∀ n os, (grow (wr.drewN n) os).cell? ⟨b, off + j * 2 + 1, none⟩ = some (.int .i64 x.2) := fun n os => cell_grown (cell_lt c0) c1 n os
          have HLow := Lib.hid hlow
          have zg : g < wr.heap.size := Nat.lt_of_lt_of_le hglt fg.size
          clear hlow x0 x1 c0 c1 fr fg hglt gr
          have hyp : ∀ W, Calls Tryd.prog 18 #[.agg #[.string (L[k]!).1, .int .i64 (L[k]!).2], .agg #[.string x.1, .int .i64 x.2]] W fun e w' => e = .returned (.int .i64 (cmpA L[k]! x)) ∧ ∃ q os', w' = grow (W.drewN q) os' := fun W => refCompare_any L[k]! x W
          have HD := Lib.hid hyp
          clear hyp
          have hky : k < n → (∀ n os, (grow (wr.drewN n) os).cell? ⟨g, k * 2, none⟩ = some (.string (L[k]!).1)) ∧ ∀ n os, (grow (wr.drewN n) os).cell? ⟨g, k * 2 + 1, none⟩ = some (.int .i64 (L[k]!).2) := fun hkn => by
            have y0 := HO2.out.2.s k hkn
            have y1 := HO2.out.2.p k hkn
            simp only [Nat.zero_add] at y0 y1
            exact ⟨fun n os => cell_grown (cell_lt y0) y0 n os, fun n os => cell_grown (cell_lt y0) y1 n os⟩
          have HKY := Lib.hid hky
          clear hky
          have hcc : cmpA L[k]! x = 0 ↔ L[k]! = x := cmpA_zero _ _
          have HCC := Lib.hid hcc
          clear hcc
          generalize hy : L[k]! = y at HD HKY HCC
          have HY := Lib.hid hy
          clear hy
          generalize hc : cmpA y x = c at HD HCC
          have HC := Lib.hid hc
          clear hc
          by_cases hgo : k < n ∧ c < 0
          · obtain ⟨hkn, hneg⟩ := hgo
            have hkn' : (k : Int) < (n : Int) := by omega
            obtain ⟨ky0, ky1⟩ := HKY.out hkn
            go_wp2_with fail
            go_quiet_grown ((go_at_call 18; exact Calls.grown_of (HD.out _)))
            go_wp2_with fail
            go_roundw
            case rel =>
              refine ⟨⟨k + 1, by go_num, by omega, fun i hi => ?_⟩, GR.out.trans ⟨_, _, rfl⟩⟩
              rcases Nat.lt_or_ge i k with q | q
              · exact HLow.out i q
              · obtain rfl : i = k := by omega
                rw [HY.out, HC.out]; exact hneg
            case measure => simp [intOf]; omega
          · go_wp2_with fail
            go_cut [28] from 13 to 30 (fun v ws => v = .bool false ∧ Gr wr ws)
            case first =>
              by_cases hkn : k < n
              · have hkn' : (k : Int) < (n : Int) := by omega
                have hge : ¬ c < 0 := fun h => hgo ⟨hkn, h⟩
                obtain ⟨ky0, ky1⟩ := HKY.out hkn
                clear hgo
                go_quiet_grown ((go_at_call 18; exact Calls.grown_of (HD.out _)))
                go_wp2
                go_meet
                case' rel => skip
                all_goals exact ⟨rfl, ⟨_, _, rfl⟩⟩
              · obtain rfl : k = n := by omega
                clear hgo hkn
                go_quiet (fail)
                go_wp2
                go_meet
                case' rel => skip
                all_goals exact ⟨rfl, ⟨_, #[], by rw [grow_empty]⟩⟩
            case rest =>
              obtain ⟨rfl, g1⟩ := hcut
              have hlow2 : k < n → 0 ≤ c := fun h => by
                rcases Int.lt_or_le c 0 with q | q
                · exact absurd ⟨h, q⟩ hgo
                · exact q
              have HLow2 := Lib.hid hlow2
              have f1 := g1.fr
              have c0 := f1.keep FX.out.2.1 (by simp)
              have c1 := f1.keep FX.out.2.2 (by simp)
              have F1 := Lib.hid (FX.out.1.step f1)
              have HO3 := Lib.hid (And.intro (HO2.out.1.step f1) (HO2.out.2.new f1))
              have zb4 := cell_lt c0
              have zg4 : g < wc.heap.size := Nat.lt_of_lt_of_le zg f1.size
              clear hlow2 hgo kx0 kx1 HKY FX HO2 g1 f1 zb3 zg HD
              have hyc : k < n → wc.cell? ⟨g, k * 2, none⟩ = some (.string y.1) ∧ wc.cell? ⟨g, k * 2 + 1, none⟩ = some (.int .i64 y.2) := fun hkn => by
                have y0 := HO3.out.2.s k hkn
                have y1 := HO3.out.2.p k hkn
                simp only [Nat.zero_add, HY.out] at y0 y1
                exact ⟨y0, y1⟩
              have HYC := Lib.hid hyc
              clear hyc
              go_wp2_with fail
              by_cases hd : k < n ∧ y = x
              · obtain ⟨hkn, rfl⟩ := hd
                have hkn' : (k : Int) < (n : Int) := by omega
                obtain ⟨y0, y1⟩ := HYC.out hkn
                have hr : ∀ W, (Op.equalIn 10000 23 (.agg #[.string y.1, .int .i64 y.2]) (.agg #[.string y.1, .int .i64 y.2])).run Tryd.prog W = .ok true W := fun W => by rw [eqRaw]; simp
                go_quiet (fail)
                go_wp2_with fail
                go_roundw
                case rel =>
                  have hx : f j ∈ L := by
                    rw [← HX.out, ← HY.out, getElem!_pos L k (by rw [HN.out]; exact hkn)]
                    exact List.getElem_mem _
                  exact ⟨j + 1, L, by go_num, by omega, (by rw [HN.out]; exact owns_keep HO.out (HO3.out.1.drewN _)), fun h => by (have := HN.out; rw [h] at this; simp at this; omega), ⟨HL.out.1, mem_same HL.out.2 hx⟩, by (rw [HN.out]; omega), F1.out.drewN _⟩
                case measure => simp [intOf]; omega
              · go_cut [45] from 7 to 60 (fun v ws => v = .bool false ∧ Gr wc ws)
                case first =>
                  by_cases hkn : k < n
                  · have hkn' : (k : Int) < (n : Int) := by omega
                    obtain ⟨y0, y1⟩ := HYC.out hkn
                    have hne : ¬ y = x := fun h => hd ⟨hkn, h⟩
                    have hr : ∀ W, (Op.equalIn 10000 23 (.agg #[.string y.1, .int .i64 y.2]) (.agg #[.string x.1, .int .i64 x.2])).run Tryd.prog W = .ok false W := fun W => by rw [eqRaw]; simp [hne]
                    clear hd hne
                    go_quiet (fail)
                    go_wp2
                    go_meet
                    case' rel => skip
                    all_goals exact ⟨rfl, ⟨_, #[], by rw [grow_empty]⟩⟩
                  · obtain rfl : k = n := by omega
                    clear hd hkn
                    go_quiet (fail)
                    go_wp2
                    go_meet
                    case' rel => skip
                    all_goals exact ⟨rfl, ⟨_, #[], by rw [grow_empty]⟩⟩
                case rest =>
                  obtain ⟨rfl, g2⟩ := hcut
                  have f2 := g2.fr
                  have e0 := f2.keep c0 (by simp)
                  have e1 := f2.keep c1 (by simp)
                  have F2 := Lib.hid (F1.out.step f2)
                  have HO4 := Lib.hid (And.intro (HO3.out.1.step f2) (HO3.out.2.new f2))
                  have HNE := Lib.hid (fun (h : k < n) (e : y = x) => hd ⟨h, e⟩)
                  have zb5 := cell_lt e0
                  have zg5 : g < wc.heap.size := Nat.lt_of_lt_of_le zg4 f2.size
                  clear hd c0 c1 g2 f2 HO3 F1 HYC zb4 zg4
                  have hk0 : (0 : Int) ≤ (k : Int) := by omega
                  have hk1 : (k : Int) ≤ (n : Int) := by omega
                  have hk2 : (n : Int) ≤ (cp : Int) := by omega
                  have hk3 : (k : Int) ≤ (cp : Int) := by omega
                  have hsub : RowA wc g (k * 2) (n - k) (fun i => L[k + i]!) := by
                    have := HO4.out.2.sub k (n - k) (by omega)
                    rwa [Nat.zero_add] at this
                  have hpre : RowA wc g 0 k (fun i => L[i]!) := ⟨fun i hi => HO4.out.2.s i (by omega), fun i hi => HO4.out.2.p i (by omega)⟩
                  have HS := Lib.hid (And.intro hsub hpre)
                  clear hsub hpre
                  obtain ⟨hi, hz0, hz1, hz2⟩ := HI.out
                  go_wp2_with fail
                  go_region_held3 (fun w' => w'.cell? ⟨b, off + j * 2, none⟩ = some (.string x.1) ∧ w'.cell? ⟨b, off + j * 2 + 1, none⟩ = some (.int .i64 x.2))
                    (first
                      | go_keep
                      | (go_split_ands
                         refine ⟨?_, ?_⟩
                         · (rw [hgrow1.cell_far _ (by simp; omega) (by simp [Value.ownBlock]; omega)]; assumption)
                         · (rw [hgrow1.cell_far _ (by simp; omega) (by simp [Value.ownBlock]; omega)]; assumption)))
                    ((refine step_append_own _ (by rfl) _ _ _ (by rfl) wc.heap.size 23 i0 _ 2 24 Tryd.underlying35 hi hz0 hz1 hz2 rfl (by omega) _ 1 (encA x) (by rfl) (owns_new wc.heap.size x _ (by first | exact heap_alloc_new wc _ | exact heap_alloc_new (wc.drewN _) _ | simp)) (if cp = k then (⟨g, 0, none⟩ : Addr) else ⟨g, k * 2, none⟩) (n - k) (cp - k) ((upto (fun i => L[k + i]!) (n - k)).flatMap encA) (by exact slice_if) (by rw [flat_length, upto_length]) (news_if (HS.out.1.new (by first | exact ((Fr.refl [] wc).drewN _).alloc _ | exact ((Fr.refl [] wc).alloc _).drewN _ | exact ((Fr.refl [] wc).alloc _).drew)) hcp) (flat_one _) (by simp only [maxLen]; omega) (by omega) (by simp) ?_; intro v1 w1 hown1 hgrow1))
                  obtain ⟨r, rc, rfl, hr1, hr2⟩ := hown1.form (by omega)
                  have fw1 : Fr [] wc w1 := Fr.trans (S := []) (T := [wc.heap.size]) (by first | exact ((Fr.refl [] wc).drewN _).alloc _ | exact ((Fr.refl [] wc).alloc _).drewN _ | exact ((Fr.refl [] wc).alloc _).drew) (fr_grown hgrow1 (fun q hq _ => by simp [Value.ownBlock] at hq; simp [hq])) (fun q hq hlt => by simp at hq; omega)
                  have hcells : ∀ j u, (encA x ++ (upto (fun i => L[k + i]!) (n - k)).flatMap encA)[j]? = some u → w1.cell? ((⟨r, 0, none⟩ : Addr).add j) = some u := fun j u hu => World.ownsRow.cells hown1 (g := r) rfl j u hu
                  have z1 : w.heap.size ≤ w1.heap.size := Nat.le_trans F2.out.size fw1.size
                  have F3 := Lib.hid (F2.out.step fw1)
                  have HP := Lib.hid (HS.out.2.new fw1)
                  have HC1 := Lib.hid hcells
                  clear hcells hown1 hgrow1 fw1 HS HO4 e0 e1
                  go_wp2_with (first
                    | (at_builtin; refine wpList_append_own _ rfl _ _ 35 rfl w.heap.size 23 i0 (.agg #[.string ⟨#[]⟩, .int .i64 0]) 2 24 Tryd.underlying35 hi hz0 hz1 hz2 rfl (by decide) (.slice none 0 0) 0 [] rfl (World.ownsRow_nil _ _ _ _) ⟨g, 0, none⟩ k cp ((upto (fun i => L[i]!) k).flatMap encA) rfl (by rw [flat_length, upto_length]) (news_row HP.out) (flat_one _) (by simp only [maxLen]; omega) (by omega) z1 ?_; intro v2 w2 hown2 hgrow2 _; have fw2 := fr_grown (S := []) hgrow2 (fun q hq _ => by cases hq))
                    | (at_builtin; refine wpList_append_own _ rfl _ _ 35 rfl w.heap.size 23 i0 (.agg #[.string ⟨#[]⟩, .int .i64 0]) 2 24 Tryd.underlying35 hi hz0 hz1 hz2 rfl (by decide) _ _ _ rfl hown2 ⟨r, 0, none⟩ (1 + (n - k)) rc (encA x ++ (upto (fun i => L[k + i]!) (n - k)).flatMap encA) rfl (by simp only [List.length_append, flat_length, upto_length]; simp [encA]; omega) (news_keep HC1.out fw2) (fun u hu => by rcases List.mem_append.1 hu with q | q; exact flat_one [x] u (by simpa using q); exact flat_one _ u q) (by simp only [maxLen]; omega) (by omega) (Nat.le_trans z1 fw2.size) ?_; intro v3 w3 hown3 hgrow3 _))
                  go_roundw
                  case rel =>
                    have hg3 : w2.grownBy w3 v2.ownBlock := hgrow3
                    refine ⟨j + 1, insA L x k, by go_num, by omega, owns_ins HN.out hk hown3, fun h => ?_, ⟨insA_strict L x k (by rw [HN.out]; exact hk) HL.out.1 HLow.out ?_, mem_next HL.out.2 HX.out⟩, by (rw [insA_length L x k (by rw [HN.out]; exact hk), HN.out]; omega), ?_⟩
                    · simp [insA] at h
                    · intro h
                      rw [HN.out] at h
                      rw [HY.out]
                      exact ⟨by rw [HC.out]; exact HLow2.out h, HNE.out h⟩
                    · exact (F3.out.step fw2).trans (fr_grown (S := v2.ownBlock.toList) hg3 (fun q hq _ => by simp [hq])) (fun q hq hlt => by have := (hown2.lt q (by simpa using hq)).1; omega)
                  case measure => simp [intOf]; omega
    · have hl' : ¬ (j : Int) < (len : Int) := by omega
      obtain rfl : j = len := by omega
      have hLe := csA_eq HL.out.1 HL.out.2
      have HO := Lib.hid hown
      clear hown
      go_wp2
      go_ret
      exact ⟨⟨_, rfl, HO.out⟩, fr⟩
end Go.Proofs.YtbilaapikclhlaaDoor
