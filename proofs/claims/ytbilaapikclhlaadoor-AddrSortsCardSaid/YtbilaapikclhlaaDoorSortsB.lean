/- The law AddrSorts' walk. -/
import Derived.Test.YtbilaapikclhlaaDoorSortsA
namespace Go.Proofs.YtbilaapikclhlaaDoor
open Go.RowKit Go.Sort Go.Lib
set_option linter.unusedVariables false
set_option maxRecDepth 100000
set_option maxHeartbeats 16000000

theorem sorts_pos (b off len cap : Nat) (f : Nat → Ad) (h0 : 0 < len) (hl : len ≤ 40) (sa sb : ByteArray) (pa pb m : Int) (w : World) (he : Env w) (hR : RowA w b off len f) (la : sa.size ≤ 100) (lb : sb.size ≤ 100) :
    Calls Tryd.prog 6 #[.slice (some ⟨b, off, none⟩) len cap, .agg #[.string sa, .int .i64 pa], .agg #[.string sb, .int .i64 pb], .int .i64 m] w fun e w' => e = .returned (.bool true) ∧ Fr [] w w' := by
  have h2 : ¬ 100 < (sa.size : Int) := by omega
  have h3 : ¬ 100 < (sb.size : Int) := by omega
  have f0 : Fr [] w ((w.alloc (.cells #[.string sa, .int .i64 pa] 23)).alloc (.cells #[.string sb, .int .i64 pb] 23)) := ((Fr.refl [] w).alloc _).alloc _
  have a0 : ((w.alloc (.cells #[.string sa, .int .i64 pa] 23)).alloc (.cells #[.string sb, .int .i64 pb] 23)).cell? ⟨w.heap.size, 0, none⟩ = some (.string sa) := by simp
  have a1 : ((w.alloc (.cells #[.string sa, .int .i64 pa] 23)).alloc (.cells #[.string sb, .int .i64 pb] 23)).cell? ⟨w.heap.size, 1, none⟩ = some (.int .i64 pa) := by simp
  have b0 : ((w.alloc (.cells #[.string sa, .int .i64 pa] 23)).alloc (.cells #[.string sb, .int .i64 pb] 23)).cell? ⟨w.heap.size + 1, 0, none⟩ = some (.string sb) := newCell (w.alloc (.cells #[.string sa, .int .i64 pa] 23)) _ _ 0 rfl (by simp) rfl
  have b1 : ((w.alloc (.cells #[.string sa, .int .i64 pa] 23)).alloc (.cells #[.string sb, .int .i64 pb] 23)).cell? ⟨w.heap.size + 1, 1, none⟩ = some (.int .i64 pb) := newCell (w.alloc (.cells #[.string sa, .int .i64 pa] 23)) _ _ 1 rfl (by simp) rfl
  obtain ⟨i0, hi, hz0, hz1, hz2⟩ := info_parts infoA
  have HI := Lib.hid (And.intro hi (And.intro hz0 (And.intro hz1 hz2)))
  clear hi hz0 hz1 hz2
  have HE := Lib.hid he
  clear he
  have h1 : ¬ 40 < (len : Int) := by omega
  have HR := Lib.hid (hR.new f0)
  clear hR
  go_enter Tryd.func6, Tryd.ntmps6
  go_wp2_with fail
  generalize ((w.alloc (.cells #[.string sa, .int .i64 pa] 23)).alloc (.cells #[.string sb, .int .i64 pb] 23)) = W0 at f0 a0 a1 b0 b1 HR ⊢
  have hz := f0.size
  go_loopw [9, 10] (fun fi i wr => ∃ j : Nat, i = .int .i64 j ∧ j ≤ len ∧ fi = .bool ((upto f j).all okA) ∧ (∀ q, q < j → (f q).1.size ≤ 100) ∧ Fr [] W0 wr) (fun _ i _ => len - (intOf i).toNat)
  case atStart => exact ⟨0, rfl, by omega, rfl, fun q hq => by omega, Fr.refl _ _⟩
  case round =>
    obtain ⟨j, rfl, hj, rfl, hsz, fr⟩ := hrel
    have HS := Lib.hid hsz
    clear hsz
    by_cases hlt : j < len
    · have hlt' : (j : Int) < (len : Int) := by omega
      have x0 := (HR.out.new fr).s j hlt
      have x1 := (HR.out.new fr).p j hlt
      by_cases hs : 100 < ((f j).1.size : Int)
      · go_wp2_with fail
        refine (known_any _ (HE.out.new (f0.step fr))).mono ?_
        rintro e wz ⟨rfl, fz⟩
        go_wp2_with fail
        go_ret
        exact ⟨rfl, (f0.step fr).step fz⟩
      · have hv := fun W => refValid_any (f j).1 (f j).2 (by omega) W
        have hs' : (f j).1.size ≤ 100 := by omega
        have hnext : ∀ q, q < j + 1 → (f q).1.size ≤ 100 := fun q hq => by
          rcases Nat.lt_or_ge q j with z | z
          · exact HS.out q z
          · obtain rfl : q = j := by omega
            exact hs'
        have HN := Lib.hid hnext
        clear hnext
        have hall : (upto f (j + 1)).all okA = ((upto f j).all okA && okA (f j)) := by rw [upto_succ, List.all_append]; simp
        have hok : okA (f j) = addrB (f j).1.data.toList (f j).2 := rfl
        rw [hok] at hall
        generalize addrB (f j).1.data.toList (f j).2 = r at hv hall
        have HV := Lib.hid hv
        have HAL := Lib.hid hall
        clear hv hall hok
        generalize (upto f j).all okA = al at HAL
        cases al
        · go_wp2_with fail
          go_roundw
          case rel => exact ⟨j + 1, by go_num, by omega, by rw [HAL.out]; rfl, HN.out, fr⟩
          case measure => simp [intOf]; omega
        · go_wp2_with fail
          refine (HV.out _).mono ?_
          rintro e wv ⟨rfl, fv⟩
          go_wp2_with fail
          go_roundw
          case rel => exact ⟨j + 1, by go_num, by omega, by rw [HAL.out]; rfl, HN.out, fr.step fv⟩
          case measure => simp [intOf]; omega
    · have hlt' : ¬ (j : Int) < (len : Int) := by omega
      obtain rfl : j = len := by omega
      have a0 := fr.keep a0 (by simp)
      have a1 := fr.keep a1 (by simp)
      have b0 := fr.keep b0 (by simp)
      have b1 := fr.keep b1 (by simp)
      have HRR := Lib.hid (HR.out.new fr)
      have FR := Lib.hid (f0.step fr)
      have hzr := FR.out.size
      clear HR f0 fr
      have D1 : ∀ W, Calls Tryd.prog 17 #[.agg #[.string sa, .int .i64 pa], .agg #[.string sb, .int .i64 pb]] W fun e w' => e = .returned (.int .i64 (cmpA (sa, pa) (sb, pb))) ∧ ∃ q os', w' = grow (W.drewN q) os' := fun W => compare_any (sa, pa) (sb, pb) W
      have D2 : ∀ W, Calls Tryd.prog 18 #[.agg #[.string sa, .int .i64 pa], .agg #[.string sb, .int .i64 pb]] W fun e w' => e = .returned (.int .i64 (cmpA (sa, pa) (sb, pb))) ∧ ∃ q os', w' = grow (W.drewN q) os' := fun W => refCompare_any (sa, pa) (sb, pb) W
      generalize cmpA (sa, pa) (sb, pb) = c at D1 D2
      have H1 := Lib.hid D1
      have H2 := Lib.hid D2
      clear D1 D2
      have hcc : (c != c) = false := by simp
      have mixed : Tryd.prog.follows .mixedOrders = true := by kernel_rfl
      have ka0 : ∀ n os, (grow (wr.drewN n) os).cell? ⟨w.heap.size, 0, none⟩ = some (.string sa) := fun n os => cell_grown (cell_lt a0) a0 n os
      have ka1 : ∀ n os, (grow (wr.drewN n) os).cell? ⟨w.heap.size, 1, none⟩ = some (.int .i64 pa) := fun n os => cell_grown (cell_lt a0) a1 n os
      have kb0 : ∀ n os, (grow (wr.drewN n) os).cell? ⟨w.heap.size + 1, 0, none⟩ = some (.string sb) := fun n os => cell_grown (cell_lt b0) b0 n os
      have kb1 : ∀ n os, (grow (wr.drewN n) os).cell? ⟨w.heap.size + 1, 1, none⟩ = some (.int .i64 pb) := fun n os => cell_grown (cell_lt b0) b1 n os
      have HA := Lib.hid (And.intro a0 a1)
      clear a0 a1 b0 b1
      go_wp2_with fail
      go_quiet_grown (first
        | (go_at_call 17; exact Calls.grown_of (H1.out _))
        | (go_at_call 18; exact Calls.grown_of (H2.out _)))
      clear ka0 ka1 kb0 kb1 H1 H2
      have hzz : ∀ n os, w.heap.size ≤ (grow (wr.drewN n) os).heap.size := fun n os => Nat.le_trans hzr (fr_grow wr n os).size
      obtain ⟨hi, hz0, hz1, hz2⟩ := HI.out
      go_wp2_with (first
        | (at_builtin; refine wpList_append_own _ rfl _ _ 35 rfl w.heap.size 23 i0 (.agg #[.string ⟨#[]⟩, .int .i64 0]) 2 24 Tryd.underlying35 hi hz0 hz1 hz2 rfl (by decide) (.slice none 0 0) 0 [] rfl (World.ownsRow_nil _ _ _ _) ⟨b, off, none⟩ j cap ((upto f j).flatMap encA) rfl (by rw [flat_length, upto_length]) (news_row (HRR.out.new (fr_grow _ _ _))) (flat_one _) (by simp only [maxLen]; omega) (by omega) (hzz _ _) ?_; intro v1 w1 hown1 hgrow1 _; rw [Nat.zero_add, List.nil_append] at hown1; have fw1 := (fr_grow wr _ _).step (fr_grown (S := []) hgrow1 (fun q hq _ => by cases hq)); obtain ⟨g, c1, rfl, _, hgl⟩ := hown1.form (by omega)))
      clear hi hz0 hz1 hz2
      have R1 := Lib.hid (row_of_owns hown1)
      have L1 := Lib.hid (HRR.out.new fw1)
      have F1 := Lib.hid (FR.out.step fw1)
      have A1 := Lib.hid (And.intro (fw1.keep HA.out.1 (by simp)) (fw1.keep HA.out.2 (by simp)))
      have HN := Lib.hid (fun i hi => HS.out i hi)
      clear hown1 hgrow1 fw1 HRR FR HA HS hzz
      have hsz : ∀ i, i < j → (f i).1.size ≤ 1000000 := fun i hi => by have := HN.out i hi; omega
      cases hall : (upto f j).all okA
      · obtain ⟨k, hkj, hkb, hkl⟩ := first_bad f j hall
        have HSO := Lib.hid (sort_bad g 0 j c1 k f w1 (by omega) (by omega) R1.out hsz hkl (fun _ => hkb) (.inr hkj))
        clear hall hkb hkl hsz
        go_wp2_with fail
        refine HSO.out.mono ?_
        rintro e w2 ⟨rfl, f2⟩
        go_wp2_with fail
        refine (same_row (f := f) (by omega) (R1.out.new f2) (L1.out.new f2)).mono ?_
        rintro e w3 ⟨rfl, f3⟩
        go_wp2_with fail
        refine (known_any _ (HE.out.new ((F1.out.step f2).step f3))).mono ?_
        rintro e wz ⟨rfl, fz⟩
        go_wp2_with fail
        go_ret
        exact ⟨rfl, ((F1.out.step f2).step f3).step fz⟩
      · have HSO := Lib.hid (sort_ok g 0 j c1 f w1 (by omega) (by omega) R1.out hsz (all_good hall))
        have HCP := Lib.hid (And.intro (csA_pos (upto f j) (by rw [upto_length]; omega)) (csA_length (upto f j)))
        have HRS := Lib.hid (fun W (hW : RowA W b off j f) => refSort_any b off j cap f W h0 (by omega) hW)
        clear hall hsz
        rw [upto_length] at HCP
        generalize csA (upto f j) = C at HSO HCP HRS
        go_wp2_with fail
        refine HSO.out.mono ?_
        rintro e w2 ⟨g2, c2, rfl, hR2, hg2, f2⟩
        have R2 := Lib.hid hR2
        clear hR2 hg2
        go_wp2_with fail
        refine (same_row (f := f) (by omega) (R1.out.new f2) (L1.out.new f2)).mono ?_
        rintro e w3 ⟨rfl, f3⟩
        go_wp2_with fail
        refine (HRS.out _ (L1.out.new (f2.step f3))).mono ?_
        rintro e w4 ⟨⟨v4, rfl, hown4⟩, f4⟩
        obtain ⟨g4, c4, rfl, _, hg4⟩ := hown4.form HCP.out.1
        have R4 := Lib.hid (row_owned hown4)
        have R2b := Lib.hid (R2.out.new (f3.step f4))
        have f5 := (f2.step f3).step f4
        have F5 := Lib.hid (F1.out.step f5)
        have A5 := Lib.hid (And.intro (f5.keep A1.out.1 (by simp)) (f5.keep A1.out.2 (by simp)))
        have hCl : C.length ≤ 100000 := by have := HCP.out.2; omega
        have HCL := Lib.hid hCl
        clear hown4 f2 f3 f4 f5 R1 L1 R2 F1 A1 HSO HRS hCl
        generalize hCn : C.length = n4 at *
        have HCN := Lib.hid hCn
        clear hCn
        go_wp2_with fail
        refine (same_row (f := fun i => C[i]!) HCL.out R2b.out R4.out).mono ?_
        rintro e w6 ⟨rfl, f6⟩
        have TA := Lib.hid (And.intro (f6.keep A5.out.1 (by simp)) (f6.keep A5.out.2 (by simp)))
        have FT := Lib.hid (F5.out.step f6)
        by_cases m1 : m < 995
        · go_wp2_with fail
          refine (known_any _ (HE.out.new (FT.out))).mono ?_
          rintro e wz ⟨rfl, fz⟩
          go_wp2_with fail
          go_ret
          exact ⟨rfl, (FT.out).step fz⟩
        by_cases m2 : 1005 < m
        · go_wp2_with fail
          refine (known_any _ (HE.out.new (FT.out))).mono ?_
          rintro e wz ⟨rfl, fz⟩
          go_wp2_with fail
          go_ret
          exact ⟨rfl, (FT.out).step fz⟩
        obtain ⟨N, rfl⟩ := Int.eq_ofNat_of_zero_le (by omega : 0 ≤ m)
        obtain ⟨t0, t1⟩ := TA.out
        have HV := Lib.hid (fun W => refValid_any sa pa (by omega) W)
        cases hva : addrB sa.data.toList pa
        · rw [hva] at HV
          go_wp2_with fail
          refine (HV.out _).mono ?_
          rintro e wv ⟨rfl, fv⟩
          go_wp2_with fail
          refine (known_any _ (HE.out.new (FT.out.step fv))).mono ?_
          rintro e wz ⟨rfl, fz⟩
          go_wp2_with fail
          go_ret
          exact ⟨rfl, (FT.out.step fv).step fz⟩
        rw [hva] at HV
        have HVA := Lib.hid hva
        clear hva
        go_wp2_with fail
        refine (HV.out _).mono ?_
        rintro e wv ⟨rfl, fv⟩
        have s0 := fv.keep t0 (by simp)
        have s1 := fv.keep t1 (by simp)
        have FV := Lib.hid (FT.out.step fv)
        have zv := FV.out.size
        clear t0 t1 TA FT fv HV
        obtain ⟨hi, hz0, hz1, hz2⟩ := HI.out
        go_wp2_with fail
        go_loopw [15, 14] (fun i l wr => ∃ j : Nat, i = .int .i64 j ∧ j ≤ N ∧ wr.ownsRow wv.heap.size 23 2 l j ((upto (fun _ => (sa, pa)) j).flatMap encA) ∧ Fr [] wv wr) (fun i _ _ => N - (intOf i).toNat)
        case atStart => exact ⟨0, rfl, by omega, World.ownsRow_nil _ _ _ _, Fr.refl _ _⟩
        case round =>
          obtain ⟨j, rfl, hj, hown, fr⟩ := hrel
          have zr := fr.size
          have r0 := fr.keep s0 (by simp)
          have r1 := fr.keep s1 (by simp)
          by_cases hlt : j < N
          · have hlt' : (j : Int) < (N : Int) := by omega
            go_wp2_with (first
              | (at_builtin; refine wpList_append_own _ rfl _ _ 35 rfl wv.heap.size 23 i0 (.agg #[.string ⟨#[]⟩, .int .i64 0]) 2 24 Tryd.underlying35 hi hz0 hz1 hz2 rfl (by decide) _ _ _ rfl (hown.alloc _) ⟨wr.heap.size, 0, none⟩ 1 1 (encA (sa, pa)) rfl rfl ?c1 ?c2 ?c3 ?c4 ?c5 ?_))
            case c1 =>
              intro q u hq
              match q, hq with
              | 0, hq => simp [encA] at hq; subst hq; exact newCell wr _ _ 0 rfl rfl rfl
              | 1, hq => simp [encA] at hq; subst hq; exact newCell wr _ _ 1 rfl rfl rfl
            case c2 => exact fun u hu => flat_one [(sa, pa)] u (by simpa using hu)
            case c3 => simp only [maxLen]; omega
            case c4 => omega
            case c5 => simp; omega
            intro v' wn hown' hgrow _
            have hg3 : World.grownBy _ wn (Value.ownBlock _) := hgrow
            have fn : Fr [] wv wn := (fr.alloc _).trans (fr_grown (S := u14.ownBlock.toList) hg3 (fun k hk _ => by simpa using hk)) (fun x hx hlt => by have := (hown.lt x (by simpa using hx)).1; omega)
            have hown2 : wn.ownsRow wv.heap.size 23 2 v' (j + 1) ((upto (fun _ => (sa, pa)) (j + 1)).flatMap encA) := by
              rw [upto_succ, List.flatMap_append]
              simpa using hown'
            clear hown hgrow hown' hg3
            go_wp2
            go_roundw
            case rel => exact ⟨j + 1, by go_num, by omega, hown2, fn⟩
            case measure => simp [intOf]; omega
          · have hlt' : ¬ (j : Int) < (N : Int) := by omega
            obtain rfl : j = N := by omega
            obtain ⟨gl, cl, rfl, _, hgl⟩ := hown.form (by omega)
            have RL := Lib.hid (row_of_owns hown)
            have FL := Lib.hid (FV.out.step fr)
            have HR0 := Lib.hid (And.intro r0 r1)
            clear hown fr FV s0 s1 r0 r1
            by_cases hk : 1000 < j
            · have hk' : 1000 < (j : Int) := by omega
              go_wp2_with fail
              refine (sort_bad gl 0 j cl j (fun _ => (sa, pa)) _ (Nat.le_refl _) (by omega) RL.out (fun i hi => by simp only; omega) (fun i hi => HVA.out) (fun h => absurd h (Nat.lt_irrefl _)) (.inl hk)).mono ?_
              rintro e w8 ⟨rfl, f8⟩
              go_wp2_with fail
              refine (known_any _ (HE.out.new (FL.out.step f8))).mono ?_
              rintro e wz ⟨rfl, fz⟩
              go_wp2_with fail
              go_ret
              exact ⟨rfl, (FL.out.step f8).step fz⟩
            · have hk' : ¬ 1000 < (j : Int) := by omega
              have hso := sort_ok gl 0 j cl (fun _ => (sa, pa)) wr (by omega) (by omega) RL.out (fun i hi => by simp only; omega) (fun i hi => HVA.out)
              rw [csA_const _ _ (by omega)] at hso
              have HSO := Lib.hid hso
              clear hso
              go_wp2_with fail
              refine HSO.out.mono ?_
              rintro e w8 ⟨g8, c8, rfl, hR8, hg8, f8⟩
              have q0 := f8.keep HR0.out.1 (by simp)
              have q1 := f8.keep HR0.out.2 (by simp)
              have R8 := Lib.hid hR8
              clear hR8
              go_wp2_with fail
              have f9 : Fr [] w8 (w8.alloc (.cells #[.string sa, .int .i64 pa] 23)) := (Fr.refl [] w8).alloc _
              have hone : RowA (w8.alloc (.cells #[.string sa, .int .i64 pa] 23)) w8.heap.size 0 1 (fun i => [(sa, pa)][i]!) := by
                refine ⟨fun i hi => ?_, fun i hi => ?_⟩
                · obtain rfl : i = 0 := by omega
                  exact newCell w8 _ _ 0 rfl rfl rfl
                · obtain rfl : i = 0 := by omega
                  exact newCell w8 _ _ 1 rfl rfl rfl
              refine (same_row (f := fun i => [(sa, pa)][i]!) (by simp) (R8.out.new f9) hone).mono ?_
              rintro e w9 ⟨rfl, f10⟩
              go_wp2_with fail
              refine (known_any _ (HE.out.new (((FL.out.step f8).step f9).step f10))).mono ?_
              rintro e wz ⟨rfl, fz⟩
              go_wp2_with fail
              go_ret
              exact ⟨rfl, (((FL.out.step f8).step f9).step f10).step fz⟩
end Go.Proofs.YtbilaapikclhlaaDoor
