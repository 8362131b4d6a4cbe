/- The walk of DialHolds. -/
import Derived.Test.YtgbmenfmaphciaaHd4
import Derived.Deep.RegionHeld3
import Derived.Deep.CutRange
namespace Go.Proofs.Ytgbmenfmaphciaa
open Go.RowKit
open Go.Maps (Keyed)
set_option linter.unusedVariables false
set_option maxRecDepth 100000
set_option maxHeartbeats 8000000

theorem dialHolds_walk (sa la : Option Addr) (ns sc nl lc : Nat) (f : Nat → St) (g : Nat → Ac) (w : World) (hs : StRow w sa ns f) (hl : AcRow w la nl g) (h1 : ns ≤ maxLen) (h2 : nl ≤ maxLen)
    (hA : ∀ j, j < nl → (-9223372036854775808 ≤ (g j).which ∧ (g j).which ≤ 9223372036854775807) ∧ (-9223372036854775808 ≤ (g j).n ∧ (g j).n ≤ 9223372036854775807) ∧ (0 ≤ (g j).now ∧ (g j).now ≤ 18446744073709551615)) :
    Calls Try.prog 6 #[.slice sa ns sc, .slice la nl lc] w fun e w' => e = .returned (.bool true) ∧ Fr [] w w' := by
  have HF := Lib.hid (few_any sa la ns sc nl lc f g w hs hl h1 h2)
  have HS := Lib.hid hs
  have HL := Lib.hid hl
  have HA := Lib.hid hA
  obtain ⟨i6, hi6, hz6, hs6, hb6⟩ := info_parts infoDl
  obtain ⟨i7, hi7, hz7, hs7, hb7⟩ := info_parts infoSt
  clear hs hl h1 h2 hA
  go_enter Try.func6, Try.ntmps6
  go_wp2_with fail
  refine HF.out.mono ?_
  rintro e w' ⟨r, rfl, rfl, hr⟩
  cases r with
  | false =>
    go_wp2_with fail
    refine (known_true _).mono ?_
    rintro e w2 ⟨rfl, f2⟩
    go_wp2_with fail
    go_ret
    exact ⟨rfl, f2⟩
  | true =>
    obtain ⟨b1, b2, hfs, hgs⟩ := hr rfl
    have HFS := Lib.hid hfs
    have HGS := Lib.hid hgs
    clear hfs hgs hr HF
    go_wp2_with fail
    refine (netNew_any _).mono ?_
    rintro e w1 ⟨n, r, m, lm, cm, rfl, hn, f1, l1, l2, l3, l4, l5⟩
    have hE0 : Ext w (fun _ => 4) (ownNew w (fun _ => 4) 0) := Ext.new _ _ _
    have hN0 : NetW w1 (ownNew w (fun _ => 4) 0) ⟨n, r, m, lm, cm⟩ [] [] 0 :=
      ⟨hn, ⟨ownNew_ge l1, ownNew_ge l2, ownNew_ge l3, ownNew_ge l4, ownNew_ge l5⟩, (by intro x hx; cases hx), (by intro x hx; cases hx), by simp, by simp, by simp, (by intro k hk; simp [qs] at hk), by simp [qs], by simp, by simp⟩
    have hM0 : MadeR w (fun _ => 4) ⟨n, r, m, lm, cm⟩ w.heap.size 0 w1 (ownNew w (fun _ => 4) 0) (fun _ => (0, 0)) [] [] (.slice none 0 0) (.slice none 0 0) :=
      ⟨⟨by simp, rfl⟩, hN0, (by intro i x hi; simp at hi), (by intro x hx; cases hx), (by intro i h; simp at h), World.ownsRow_nil _ _ _ _, World.ownsRow_nil _ _ _ _, (fun _ => ⟨rfl, rfl⟩), (by intro g hg; simp [Value.ownBlock] at hg), (by intro g hg; simp [Value.ownBlock] at hg), hE0, f1⟩
    have HM0 := Lib.hid hM0
    clear hM0 hN0 hE0 hn l1 l2 l3 l4 l5 f1
    go_wp2_with fail
    go_loopw [8, 6, 7] (fun i v6 v7 wr => ∃ (k : Nat) (own' : Nat → Nat) (ids : Nat → Nat × Nat) (D : List PN.PD) (O : List St) (x6 x7 : Value), x6 = v6 ∧ x7 = v7 ∧ i = .int .i64 k ∧ k ≤ ns ∧ MadeR w (fun _ => 4) ⟨n, r, m, lm, cm⟩ w.heap.size k wr own' ids D O x6 x7) (fun i _ _ _ => ns - (intOf i).toNat)
    case atStart => exact ⟨0, _, _, [], [], _, _, rfl, rfl, rfl, by omega, HM0.out⟩
    case round =>
      obtain ⟨k, own1, ids, D, O, x6, x7, rfl, rfl, rfl, hk, hM⟩ := hrel
      have HM := Lib.hid hM
      clear hM
      by_cases hlt : k < ns
      · as_aux_lemma =>
        rcases HS.out with h0 | ⟨b, off, rfl, hbl, hc⟩
        · omega
        · obtain ⟨c0, c1, c2, c3⟩ := hc k hlt
          have fr := HM.out.fr
          have k0 := fr.keep c0 (by simp)
          have k1 := fr.keep c1 (by simp)
          have k2 := fr.keep c2 (by simp)
          have k3 := fr.keep c3 (by simp)
          have hsz := HFS.out k hlt
          obtain ⟨x, hx⟩ : ∃ x, f k = x := ⟨_, rfl⟩
          have HFX := Lib.hid hx
          rw [hx] at k0 k1 k2 k3 hsz
          have FR := Lib.hid fr
          clear hc c0 c1 c2 c3 fr hx
          obtain ⟨xs, xp, xc, xu⟩ := x
          simp only at k0 k1 k2 k3 hsz
          by_cases hv : addrB xs.data.toList xp = true ∧ xp ≠ 0 ∧ 0 ≤ xc ∧ xc ≤ 4096
          · as_aux_lemma =>
            obtain ⟨v1, v2, v3, v4⟩ := hv
            obtain ⟨cn, rfl⟩ : ∃ cn : Nat, xc = cn := ⟨xc.toNat, by omega⟩
            have v5 : (xp == 0) = false := by rw [beq_eq_false_iff_ne]; exact v2
            have V1 := Lib.hid v1
            clear v1 v2
            go_wp2_with fail
            go_region_held3 (fun w' => w'.cell? ⟨b, off + k * 4, none⟩ = some (.string xs) ∧ w'.cell? ⟨b, off + k * 4 + 1, none⟩ = some (.int .i64 xp) ∧ w'.cell? ⟨b, off + k * 4 + 2, none⟩ = some (.int .i64 (cn : Int)) ∧ w'.cell? ⟨b, off + k * 4 + 3, none⟩ = some (.int .u64 xu))
              (first | exact ⟨k0, k1, k2, k3⟩ | exact ⟨f3.keep k0 (by simp), f3.keep k1 (by simp), f3.keep k2 (by simp), f3.keep k3 (by simp)⟩)
              (first | (go_at_call 9; refine (dialNew_ok xs xp xu cn _ (by omega) V1.out v5 (by omega)).mono ?_; rintro e w3 ⟨d, u, rfl, hd, ld, lu, f3⟩))
            have j0 := f3.keep k0 (by simp)
            have j1 := f3.keep k1 (by simp)
            have j2 := f3.keep k2 (by simp)
            have j3 := f3.keep k3 (by simp)
            have z3 : wr.heap.size ≤ w3.heap.size := f3.size
            have ob6 := ownNe HM.out.r6 hbl
            have ob7 := ownNe HM.out.r7 hbl
            have AP := Lib.hid (ownApart HM.out.r6 HM.out.r7 (by decide))
            have zw := FR.out.size
            have hDk := HM.out.len.1
            have n6 : ∀ g, x6.ownBlock = some g → g ∉ ([] : List Nat) := fun g _ => by simp
            have n7 : ∀ g, x7.ownBlock = some g → g ∉ ([] : List Nat) := fun g _ => by simp
            have R6 := Lib.hid (rowFr HM.out.r6 (show Fr [] wr w3 from ⟨f3.os, f3.tape, f3.output, f3.size, f3.block⟩) n6)
            have R7 := Lib.hid (rowFr HM.out.r7 (show Fr [] wr w3 from ⟨f3.os, f3.tape, f3.output, f3.size, f3.block⟩) n7)
            have HD := Lib.hid hd
            clear hd k0 k1 k2 k3 n6 n7
            go_wp2_with fail
            go_region_held3 (fun w' => w'.cell? ⟨b, off + k * 4, none⟩ = some (.string xs) ∧ w'.cell? ⟨b, off + k * 4 + 1, none⟩ = some (.int .i64 xp) ∧ w'.cell? ⟨b, off + k * 4 + 2, none⟩ = some (.int .i64 (cn : Int)) ∧ w'.cell? ⟨b, off + k * 4 + 3, none⟩ = some (.int .u64 xu))
              (first
                | exact ⟨j0, j1, j2, j3⟩
                | go_keep
                | exact ⟨(ownFrD hgrow6).keep j0 ob6, (ownFrD hgrow6).keep j1 ob6, (ownFrD hgrow6).keep j2 ob6, (ownFrD hgrow6).keep j3 ob6⟩
                | exact ⟨(ownFrDD hgrow6).keep j0 ob6, (ownFrDD hgrow6).keep j1 ob6, (ownFrDD hgrow6).keep j2 ob6, (ownFrDD hgrow6).keep j3 ob6⟩
                | exact ⟨(ownFr hgrow7).keep ((ownFrD hgrow6).keep j0 ob6) ob7, (ownFr hgrow7).keep ((ownFrD hgrow6).keep j1 ob6) ob7, (ownFr hgrow7).keep ((ownFrD hgrow6).keep j2 ob6) ob7, (ownFr hgrow7).keep ((ownFrD hgrow6).keep j3 ob6) ob7⟩
                | exact ⟨(grownFr hgrow7 (S := x7.ownBlock.toList) (fun k hk => by simp [hk])).keep ((ownFrDD hgrow6).keep j0 ob6) ob7, (grownFr hgrow7 (S := x7.ownBlock.toList) (fun k hk => by simp [hk])).keep ((ownFrDD hgrow6).keep j1 ob6) ob7, (grownFr hgrow7 (S := x7.ownBlock.toList) (fun k hk => by simp [hk])).keep ((ownFrDD hgrow6).keep j2 ob6) ob7, (grownFr hgrow7 (S := x7.ownBlock.toList) (fun k hk => by simp [hk])).keep ((ownFrDD hgrow6).keep j3 ob6) ob7⟩)
              (first
                | (have hg6 := hgrow6; refine step_append_lies _ (by rfl) (.tmp 82) (.tmp 87) _ (by rfl) w.heap.size 27 i7 _ 4 40 Try.underlying29 hi7 hz7 hs7 hb7 rfl (by omega) x7 D.length (O.flatMap cellsOfSt) (by rfl) (by first | exact (rowFr R7.out (ownFrD hgrow6) AP.out).alloc _ | exact rowFr R7.out (ownFrDD hgrow6) AP.out) _ 1 1 [.string xs, .int .i64 xp, .int .i64 (cn : Int), .int .u64 xu] (by rfl) (by rfl) (World.news_of_block (cs := #[.string xs, .int .i64 xp, .int .i64 (cn : Int), .int .u64 xu]) (t := 27) (fr := (0, 0)) (by first | exact heap_alloc_new w4 _ | exact heap3 hgrow6 (ownLt R6.out) | exact heap3b hgrow6 (ownLt R6.out))) (by simp [Value.oneCell']) (by omega) (by simp only [maxLen]; omega) (by omega) (by first | (have := (ownFrD hgrow6).size; simp; omega) | (have := (ownFrDD hgrow6).size; omega)) _ rfl ?_; intro g7 cap7 w5 hown7 hgrow7 hat7 hlt7)
                | (refine step_append_lies _ (by rfl) (.tmp 78) (.tmp 80) _ (by rfl) w.heap.size 31 i6 _ 1 8 Try.underlying46 hi6 hz6 hs6 hb6 rfl (by omega) x6 D.length (ptrs ids D.length) (by rfl) (by first | exact (R6.out.alloc _).drew | exact ((R6.out.alloc _).alloc _).drew) _ 1 1 [.pointer (some ⟨d, 0, none⟩)] (by rfl) (by rfl) (World.news_of_block (cs := #[.pointer (some ⟨d, 0, none⟩)]) (t := 31) (fr := (0, 0)) (by first | exact heap_alloc_new w3 _ | exact heap2 w3 _ _ | exact heap2b w3 _ _)) (by simp [Value.oneCell']) (by omega) (by simp only [maxLen]; omega) (by omega) (by simp; omega) _ rfl ?_; intro g6 cap6 w4 hown6 hgrow6 hat6 hlt6))
            all_goals (
              have F4 : Fr x6.ownBlock.toList w3 w4 := by first | exact ownFrD hgrow6 | exact ownFrDD hgrow6
              have F5 : Fr x7.ownBlock.toList w4 w5 := by first | exact ownFr hgrow7 | exact grownFr hgrow7 (fun k hk => by simp [hk])
              have h6 : x6.ownBlock = some g6 ∨ w3.heap.size ≤ g6 := hat6.imp id (fun h => by rw [h]; simp; try omega)
              have h7 : x7.ownBlock = some g7 ∨ w3.heap.size ≤ g7 := hat7.imp id (fun h => by rw [h]; have := F4.size; simp; try omega)
              obtain ⟨own2, ids2, hM2⟩ := MadeR.step HM.out HD.out ld lu (show Fr [] wr w3 from ⟨f3.os, f3.tape, f3.output, f3.size, f3.block⟩) F4 F5 V1.out (by omega) (by omega) hown6 hown7 h6 h7
              have HM2 := Lib.hid hM2
              clear hM2 h6 h7 F4 F5 hown6 hown7 hgrow6 hgrow7 hat6 hat7
              go_wp2_with fail
              go_roundw
              case rel => exact ⟨k + 1, own2, ids2, _, _, _, _, rfl, rfl, by go_num, by omega, HM2.out⟩
              case measure => simp [intOf]; omega)
          · as_aux_lemma =>
            have hbad : addrB xs.data.toList xp = false ∨ xp = 0 ∨ xc < 0 ∨ 4096 < xc := by
              rcases hab : addrB xs.data.toList xp with _ | _
              · exact .inl rfl
              · by_cases hp : xp = 0
                · exact .inr (.inl hp)
                · by_cases h0 : xc < 0
                  · exact .inr (.inr (.inl h0))
                  · by_cases h1 : 4096 < xc
                    · exact .inr (.inr (.inr h1))
                    · exact absurd ⟨hab, hp, by omega, by omega⟩ hv
            have HBAD := Lib.hid hbad
            clear hv hbad
            go_wp2_with fail
            go_region_held3 (fun w' => w'.cell? ⟨b, off + k * 4, none⟩ = some (.string xs) ∧ w'.cell? ⟨b, off + k * 4 + 1, none⟩ = some (.int .i64 xp) ∧ w'.cell? ⟨b, off + k * 4 + 2, none⟩ = some (.int .i64 xc) ∧ w'.cell? ⟨b, off + k * 4 + 3, none⟩ = some (.int .u64 xu))
              (first | exact ⟨k0, k1, k2, k3⟩ | exact ⟨f3.keep k0 (by simp), f3.keep k1 (by simp), f3.keep k2 (by simp), f3.keep k3 (by simp)⟩)
              (first | (go_at_call 9; refine (dialNew_bad xs xp xc xu _ (by omega) HBAD.out).mono ?_; rintro e w3 ⟨rfl, f3⟩))
            go_wp2_with fail
            go_roundw
            case rel => exact ⟨k + 1, own1, ids, D, O, x6, x7, rfl, rfl, by go_num, by omega, MadeR.skip HM.out ⟨f3.os, f3.tape, f3.output, f3.size, f3.block⟩⟩
            case measure => simp [intOf]; omega
      · go_wp2_with fail
        obtain ⟨g6, g7, s6, s7, hH⟩ := HM.out.hold
        have hO8 : O.length ≤ 8 := by have := HM.out.len; omega
        have S6 := Lib.hid s6
        have S7 := Lib.hid s7
        have hl6 := fun W : World => s6.len Try.underlying46 W
        have HH0 := Lib.hid hH
        clear s6 s7 hH HM HM0 HS HFS hi6 hz6 hs6 hb6 hi7 hz7 hs7 hb7
        go_loopw [11] (fun i wr2 => ∃ (j : Nat) (own' : Nat → Nat) (L : List LB) (C : List CB) (G T : Nat) (D' : List PN.PD), i = .int .i64 j ∧ j ≤ nl ∧ G ≤ j ∧ T ≤ j ∧ HoldR w ⟨n, r, m, lm, cm⟩ ids O g6 g7 wr2 own' L C G T D') (fun i _ => nl - (intOf i).toNat)
        case atStart => exact ⟨0, own1, [], [], 0, 0, D, rfl, by omega, by omega, by omega, HH0.out⟩
        case round =>
          obtain ⟨j, own2, L, C, G, T, D2, rfl, hj, hG, hT, hH⟩ := hrel
          have HH := Lib.hid hH
          clear hH
          by_cases hlt2 : j < nl
          · as_aux_lemma =>
            rcases HL.out with h0 | ⟨b, off, rfl, hbl, hc⟩
            · omega
            · obtain ⟨c0, c1, c2, c3, c4, c5⟩ := hc j hlt2
              have fr := HH.out.fr
              have k0 := fr.keep c0 (by simp)
              have k1 := fr.keep c1 (by simp)
              have k2 := fr.keep c2 (by simp)
              have k3 := fr.keep c3 (by simp)
              have k4 := fr.keep c4 (by simp)
              have k5 := fr.keep c5 (by simp)
              have hsz := HGS.out j hlt2
              have hab := HA.out j hlt2
              obtain ⟨x, hx⟩ : ∃ x, g j = x := ⟨_, rfl⟩
              rw [hx] at k0 k1 k2 k3 k4 k5 hsz hab
              clear hc c0 c1 c2 c3 c4 c5 fr hx
              obtain ⟨what, which, an, as_, ap, now⟩ := x
              simp only at k0 k1 k2 k3 k4 k5 hsz hab
              obtain ⟨⟨w1', w2'⟩, ⟨n1, n2⟩, t1, t2⟩ := hab
              have fbx : Fr [] wr (wr.alloc (.cells #[.int .i64 what, .int .i64 which, .int .i64 an, .string as_, .int .i64 ap, .int .u64 now] 66)) := (Fr.refl [] _).alloc _
              have hB := HH.out.own4.new fbx
              have HB := Lib.hid hB
              clear hB fbx
              by_cases e3 : what = 3
              · as_aux_lemma =>
                subst e3
                go_wp2_with (go_at_call 21; refine (listen_h as_ ap an HB.out (by omega)).mono ?_; rintro e w3 ⟨r1, s1, p1, r2, rfl, hby⟩)
                obtain ⟨own3, L3, C3, hR3, _⟩ := hby
                go_roundw
                case rel => exact ⟨j + 1, own3, L3, C3, G, T, D2, by go_num, by omega, by omega, by omega, hR3⟩
                case measure => simp [intOf]; omega
              · by_cases e4 : what = 4
                · as_aux_lemma =>
                  subst e4
                  go_wp2_with (go_at_call 22; refine (accept_h an HB.out n1 n2 (by omega)).mono ?_; rintro e w3 ⟨r1, r2, rfl, hby⟩)
                  obtain ⟨own3, L3, C3, hR3, _⟩ := hby
                  go_roundw
                  case rel => exact ⟨j + 1, own3, L3, C3, G, T, D2, by go_num, by omega, by omega, by omega, hR3⟩
                  case measure => simp [intOf]; omega
                · by_cases e5 : what = 5
                  · as_aux_lemma =>
                    subst e5
                    go_wp2_with (go_at_call 23; refine (close_h an HB.out n1 n2 (by omega)).mono ?_; rintro e w3 ⟨v, r2, rfl, hby⟩)
                    obtain ⟨own3, L3, C3, hR3, _⟩ := hby
                    go_roundw
                    case rel => exact ⟨j + 1, own3, L3, C3, G, T, D2, by go_num, by omega, by omega, by omega, hR3⟩
                    case measure => simp [intOf]; omega
                  · by_cases hO0 : O.length = 0
                    · as_aux_lemma =>
                      have hO0' : ((O.length : Int) == 0) = true := by rw [hO0]; rfl
                      go_wp2_with fail
                      go_roundw
                      case rel => exact ⟨j + 1, own2, L, C, G, T, D2, by go_num, by omega, by omega, by omega, HH.out.new ((Fr.refl [] _).alloc _)⟩
                      case measure => simp [intOf]; omega
                    · rcases S6.out with ⟨_, h0⟩ | ⟨_, cap6, rfl⟩
                      · exact absurd h0 hO0
                      · rcases S7.out with ⟨_, h0⟩ | ⟨_, cap7, rfl⟩
                        · exact absurd h0 hO0
                        · as_aux_lemma =>
                          obtain ⟨nO, hnO⟩ : ∃ nO, O.length = nO := ⟨_, rfl⟩
                          have HNO := Lib.hid hnO
                          have hnp : (0 : Int) < (nO : Int) := by omega
                          have q1 := Int.tmod_lt_of_pos which hnp
                          have q2 := Int.lt_tmod_of_pos which hnp
                          obtain ⟨mm, hmm⟩ : ∃ mm, which.tmod (nO : Int) = mm := ⟨_, rfl⟩
                          rw [hmm] at q1 q2
                          have q3 := Int.emod_nonneg (mm + nO) (Int.ne_of_gt hnp)
                          have q4 := Int.emod_lt_of_pos (mm + nO) hnp
                          obtain ⟨kk, hkk⟩ : ∃ kk : Nat, (mm + (nO : Int)) % (nO : Int) = kk := ⟨((mm + (nO : Int)) % (nO : Int)).toNat, by omega⟩
                          rw [hkk] at q3 q4
                          have hkO : kk < O.length := by omega
                          have hkD : kk < D2.length := by rw [HH.out.len]; exact hkO
                          have hkn : kk < nO := by omega
                          have hO0' : ((nO : Int) == 0) = false := by rw [beq_eq_false_iff_ne]; omega
                          rw [hnO] at hl6 hO8 hO0 ⊢
                          obtain ⟨e7a, e7b, e7c, e7d⟩ := HB.out.c7 kk hkO
                          have b5 : (wr.alloc (.cells #[.int .i64 what, .int .i64 which, .int .i64 an, .string as_, .int .i64 ap, .int .u64 now] 66)).cell? ⟨wr.heap.size, 5, none⟩ = some (.int .u64 now) := by simp
                          have hdv := HB.out.dials kk _ (List.getElem?_eq_getElem hkD)
                          have hsm := HB.out.same kk hkD hkO
                          have hadr := hdv.adr
                          have hsz2 := hdv.sz
                          rw [hsm.1, hsm.2.1] at hadr
                          rw [hsm.1] at hsz2
                          have HFI := Lib.hid (find_h (O[kk]).s (O[kk]).p HB.out hsz2 hadr)
                          have HSM := Lib.hid hsm
                          have og6 := (HB.out.o6 (by omega)).1
                          have og7 := (HB.out.o6 (by omega)).2
                          have ogb : ownNew wr own2 4 wr.heap.size = 4 := ownNew_ge (Nat.le_refl _)
                          have OG := Lib.hid (And.intro og6 (And.intro og7 ogb))
                          clear hdv hadr hsz2 hsm hnO og6 og7 ogb S6 S7
                          go_wp2_with fail
                          refine HFI.out.mono ?_
                          rintro e w3 ⟨fv, fc, rfl, hfc, f3⟩
                          have HB3 := Lib.hid (HB.out.new f3)
                          have HFC := Lib.hid hfc
                          have b5' := f3.keep b5 (by simp)
                          have d6 := HB3.out.c6 kk hkO
                          have HST := Lib.hid (state_h kk HB3.out hkD)
                          clear b5 e7a e7b e7c e7d hfc
                          go_wp2_with fail
                          refine HST.out.mono ?_
                          rintro e w4 ⟨rfl, f4⟩
                          have HB4 := Lib.hid (HB3.out.new f4)
                          have b54 := f4.keep b5' (by simp)
                          have d64 := f4.keep d6 (by simp)
                          clear b5' d6
                          go_wp2_with fail
                          go_region_held3 (fun w' => w'.cell? ⟨g6, kk, none⟩ = some (.pointer (some ⟨(ids kk).1, 0, none⟩)) ∧ w'.cell? ⟨wr.heap.size, 5, none⟩ = some (.int .u64 now))
                            (first | exact ⟨d64, b54⟩ | exact ⟨cellOwn (w := w4.drew) d64 OG.out.1 hfo, cellOwn (w := w4.drew) b54 OG.out.2.2 hfo⟩)
                            (first | (go_at_call 26; refine (try_h kk now (HB4.out.new ((Fr.refl [] w4).drew)) hkD (by omega) (by omega)).mono ?_; rintro e w5 ⟨tc, tf, x', rfl, hok, own5, L5, C5, hR5, hfo⟩))
                          have HB5 := Lib.hid hR5
                          have HOK := Lib.hid hok
                          have d65 := hR5.c6 kk hkO
                          have b55 := cellOwn (w := w4.drew) b54 OG.out.2.2 hfo
                          have HSS := Lib.hid (state_set kk x' hR5 hkD)
                          clear hR5 hok d64 b54
                          go_wp2_with fail
                          refine HSS.out.mono ?_
                          rintro e w6 ⟨rfl, f6⟩
                          have HB6 := Lib.hid (HB5.out.new f6)
                          have b56 := f6.keep b55 (by simp)
                          obtain ⟨e7a, e7b, e7c, e7d⟩ := HB6.out.c7 kk hkO
                          clear b55 d65 e7a e7b e7c
                          obtain ⟨y, hy⟩ : ∃ y, D2[kk] = y := ⟨_, rfl⟩
                          rw [hy]
                          have HY := Lib.hid hy
                          have hok := HOK.out
                          have hsm2 := HSM.out
                          rw [hy] at hok hsm2
                          rw [hsm2.2.2] at hok
                          have hov : PN.pass (O[kk]).un now = true → ∀ W, Calls Try.prog 27 #[.int .u64 (O[kk]).un, .int .u64 now] W fun e w' => e = .returned (.bool true) ∧ ∃ n, w' = W.drewN n := fun hp W => by
                            have := refOver_any (O[kk]).un now W
                            rw [over_pass hp t2] at this
                            exact this
                          have HOV := Lib.hid hov
                          clear hov
                          by_cases hst : y.st = 0
                          · have hok2 := hok.2 hst
                            clear hok
                            rcases hok2 with ⟨rfl, hp⟩ | ⟨rfl, hat⟩ | rfl | ⟨rfl, hs1, hc1⟩ | ⟨rfl, hs0⟩
                            · as_aux_lemma =>
                              have HO := Lib.hid (HOV.out hp)
                              clear hp
                              go_wp2_with fail
                              go_quiet ((go_at_call 27; exact Calls.quiet_of (HO.out _)))
                              go_wp2_with fail
                              go_roundw
                              case rel => exact ⟨j + 1, own5, L5, C5, G + 1, T + 1, _, by go_num, by omega, by omega, by omega, HB6.out.new ((Fr.refl [] w6).drewN nq)⟩
                              case measure => simp [intOf]; omega
                            · as_aux_lemma =>
                              have hfc1 : (fc == 0) = false := by
                                rw [beq_eq_false_iff_ne]
                                intro h0
                                obtain ⟨z, hz⟩ := HFC.out h0
                                exact hat ⟨z, by rw [hsm2.1, hsm2.2.1]; exact hz⟩
                              clear hat
                              go_wp2_with fail
                              go_quiet (fail)
                              go_wp2_with fail
                              go_roundw
                              case rel => exact ⟨j + 1, own5, L5, C5, G + 1, T + 1, _, by go_num, by omega, by omega, by omega, HB6.out.new ((Fr.refl [] w6).drewN nq)⟩
                              case measure => simp [intOf]; omega
                            · go_wp2_with fail
                              go_quiet (fail)
                              go_wp2_with fail
                              go_roundw
                              case rel => exact ⟨j + 1, own5, L5, C5, G + 1, T + 1, _, by go_num, by omega, by omega, by omega, HB6.out.new ((Fr.refl [] w6).drewN nq)⟩
                              case measure => simp [intOf]; omega
                            · as_aux_lemma =>
                              rw [hs1, hc1]
                              go_wp2_with fail
                              go_quiet (fail)
                              go_wp2_with fail
                              go_roundw
                              case rel => exact ⟨j + 1, own5, L5, C5, G + 1, T + 1, _, by go_num, by omega, by omega, by omega, HB6.out.new ((Fr.refl [] w6).drewN nq)⟩
                              case measure => simp [intOf]; omega
                            · as_aux_lemma =>
                              rw [hs0]
                              go_wp2_with fail
                              go_quiet (fail)
                              go_wp2_with fail
                              go_roundw
                              case rel => exact ⟨j + 1, own5, L5, C5, G + 1, T + 1, _, by go_num, by omega, by omega, by omega, HB6.out.new ((Fr.refl [] w6).drewN nq)⟩
                              case measure => simp [intOf]; omega
                          · as_aux_lemma =>
                            obtain ⟨a1, a2, a3, rfl⟩ := hok.1 hst
                            have hst1 : (y.st != 0) = true := by simp [hst]
                            have hst2 : (y.st == 0) = false := by simp [hst]
                            rw [a1, a2, a3]
                            clear hok
                            go_wp2_with fail
                            go_quiet (fail)
                            go_wp2_with fail
                            go_roundw
                            case rel => exact ⟨j + 1, own5, L5, C5, G + 1, T + 1, _, by go_num, by omega, by omega, by omega, HB6.out.new ((Fr.refl [] w6).drewN nq)⟩
                            case measure => simp [intOf]; omega
          · as_aux_lemma =>
            have hj25 : j ≤ 25 := by omega
            have hjl : j = nl := by omega
            go_upto_if 243 with (fail)
            go_cut [24] from 244 to 250 (fun s24 wc => ∃ now : Int, s24 = .int .u64 now ∧ wc = wr)
            case first =>
              rcases HL.out with h0 | ⟨b, off, rfl, hbl, hc⟩
              · have h00 : ¬ (0 : Nat) < nl := by omega
                go_wp2_with fail
                go_meet
                case rel => exact ⟨0, rfl, rfl⟩
              · by_cases hn0 : nl = 0
                · have h00 : ¬ (0 : Nat) < nl := by omega
                  go_wp2_with fail
                  go_meet
                  case rel => exact ⟨0, rfl, rfl⟩
                · have c5 := (hc (nl - 1) (by omega)).2.2.2.2.2
                  have k5 := HH.out.fr.keep c5 (by simp)
                  clear hc c5
                  go_wp2_with fail
                  go_meet
                  case rel => exact ⟨_, rfl, rfl⟩
            case rest =>
              obtain ⟨now, rfl, rfl⟩ := hcut
              go_wp2_with fail
              have hA1 := all_x now wc HH.out S6.out hO8 (by omega) (by omega)
              refine hA1.mono ?_
              rintro e w2 ⟨own3, L3, C3, D3, r3, hr3, rfl, hD3, hp3, hR3, _⟩
              have hl3 : D3.length = O.length := hR3.len
              have HR3 := Lib.hid hR3.own4
              have H3 := Lib.hid (And.intro hr3 (And.intro hD3 hp3))
              obtain ⟨z3, hz3⟩ : ∃ z, r3.2.2 = z := ⟨_, rfl⟩
              rw [hz3]
              clear hA1 hr3 hD3 hp3 hR3 hz3
              obtain ⟨i8, hi8, hz8, hs8, hb8⟩ := info_parts infoState
              go_wp2_with fail
              go_loopw [29, 27, 28] (fun i t v wr => ∃ (m : Nat) (x8 : Value), x8 = v ∧ i = .int .i64 m ∧ m ≤ O.length ∧ t = .int .i64 (PN.trying (D3.take m) : Nat) ∧ Fr [] w2 wr ∧ wr.ownsRow w2.heap.size 43 1 x8 m ((D3.take m).map fun d => .int .i64 d.st)) (fun i _ _ _ => O.length - (intOf i).toNat)
              case atStart => exact ⟨0, _, rfl, rfl, by omega, rfl, Fr.refl _ _, World.ownsRow_nil _ _ _ _⟩
              case round =>
                obtain ⟨m, x8, rfl, rfl, hm, rfl, fr, hrow⟩ := hrel
                by_cases hlt3 : m < O.length
                · have hmD : m < D3.length := by omega
                  have hS3 := HR3.out.new fr
                  have d6 := hS3.c6 m hlt3
                  have HST := Lib.hid (state_h m hS3 hmD)
                  rcases S6.out with ⟨_, h0⟩ | ⟨_, cap6, rfl⟩
                  · omega
                  · as_aux_lemma =>
                    have HTK := Lib.hid (trying_take D3 m hmD)
                    have htl : PN.trying (D3.take m) ≤ m := by
                      unfold PN.trying
                      exact Nat.le_trans (List.length_filter_le _ _) (List.length_take_le _ _)
                    have HRW := Lib.hid (show ((D3.take m).map fun d => Value.int .i64 d.st) ++ [.int .i64 (D3[m]).st] = (D3.take (m + 1)).map fun d => Value.int .i64 d.st by rw [List.take_succ_eq_append_getElem hmD, List.map_append]; rfl)
                    generalize D3[m] = y at HST HTK HRW
                    generalize hrx : ((D3.take m).map fun d => Value.int .i64 d.st) = rx at hrow HRW
                    generalize PN.trying (D3.take m) = tm at htl HTK
                    clear hrx
                    go_wp2_with fail
                    refine HST.out.mono ?_
                    rintro e w3 ⟨rfl, f3⟩
                    have hrow3 := rowFr hrow (show Fr [] wr w3 from ⟨f3.os, f3.tape, f3.output, f3.size, f3.block⟩) (fun g _ => by simp)
                    have HF3 := Lib.hid (fr.step (show Fr [] wr w3 from ⟨f3.os, f3.tape, f3.output, f3.size, f3.block⟩))
                    have z3 := HF3.out.size
                    obtain ⟨ys, hys⟩ : ∃ z, y.st = z := ⟨_, rfl⟩
                    rw [hys] at HTK HRW ⊢
                    clear hS3 d6 fr f3 hys
                    go_wp2_with (first
                      | (at_builtin; refine wpList_append_own _ rfl _ _ 78 rfl w2.heap.size 43 i8 (.int .i64 0) 1 8 Try.underlying78 hi8 hz8 hs8 hb8 rfl (by decide) _ _ _ rfl (hrow3.alloc _) ⟨w3.heap.size, 0, none⟩ 1 1 [.int .i64 ys] rfl rfl ?c1 ?c2 ?c3 ?c4 ?c5 ?_))
                    case c1 =>
                      intro q x hq
                      match q, hq with
                      | 0, hq => simp at hq; subst hq; simp [Addr.add]
                    case c2 => intro x hx; simp at hx; subst hx; rfl
                    case c3 => unfold maxLen; omega
                    case c4 => omega
                    case c5 => simp; omega
                    intro v' wn hown' hgrow _
                    have HFN := Lib.hid ((HF3.out.alloc _).trans (grownFr (S := x8.ownBlock.toList) hgrow (fun k hk => by simp [hk])) (fun x hx hlt => absurd hx (ownNe hrow hlt)))
                    have HOW := Lib.hid hown'
                    rw [HRW.out] at HOW
                    clear hrow hrow3 hown' hgrow HF3
                    by_cases hy : ys = 0
                    · subst hy
                      have htk := HTK.out
                      rw [if_pos rfl] at htk
                      go_wp2_with fail
                      go_roundw
                      case rel => exact ⟨m + 1, _, rfl, by go_num, by omega, by rw [htk]; go_num, HFN.out, HOW.out⟩
                      case measure => simp [intOf]; omega
                    · have hyf : (ys == 0) = false := by rw [beq_eq_false_iff_ne]; exact hy
                      have htk := HTK.out
                      rw [if_neg hy] at htk
                      go_wp2_with fail
                      go_roundw
                      case rel => exact ⟨m + 1, _, rfl, by go_num, by omega, by rw [htk]; rfl, HFN.out, HOW.out⟩
                      case measure => simp [intOf]; omega
                · as_aux_lemma =>
                  have hmO : m = O.length := by omega
                  subst hmO
                  have hT3 : D3.take O.length = D3 := List.take_of_length_le (by omega)
                  rw [hT3] at hrow ⊢
                  have HR4 := Lib.hid (HR3.out.new fr)
                  have HRW := Lib.hid (fun h => owns_at hrow h)
                  obtain ⟨h31, h32, h33⟩ := H3.out
                  have htw := PN.allD_twice (now := now) (PN.trying D2 + 1) (PN.trying D3 + 1) D2 (plainN L C) (by omega) (by omega)
                  rw [← h31, ← h32, ← h33] at htw
                  have hA4 := all_x now wr HR4.out S6.out hO8 (by omega) (by omega)
                  have zw := fr.size
                  have HTW := Lib.hid htw
                  clear hT3 hrow h31 h32 h33 htw fr
                  generalize PN.trying D3 = t3 at hA4 HTW ⊢
                  go_wp2_with fail
                  refine hA4.mono ?_
                  rintro e w4 ⟨own5, L5, C5, D5, r5, hr5, rfl, hD5, hp5, hR5, hf5⟩
                  have htw := HTW.out
                  rw [← hr5, ← hD5] at htw
                  rw [htw.1]
                  have HR5 := Lib.hid hR5
                  have HF5 := Lib.hid hf5
                  have HST5 := Lib.hid htw.2
                  have hl5 : D5.length = O.length := hR5.len
                  clear hA4 hr5 hD5 hp5 hR5 hf5 htw HTW
                  go_wp2_with fail
                  go_loopw [35] (fun i wr => ∃ q : Nat, i = .int .i64 q ∧ q ≤ O.length ∧ Fr [] w4 wr) (fun i _ => O.length - (intOf i).toNat)
                  case atStart => exact ⟨0, rfl, by omega, Fr.refl _ _⟩
                  case round =>
                    obtain ⟨q, rfl, hq, frq⟩ := hrel
                    by_cases hlt4 : q < O.length
                    · as_aux_lemma =>
                      have hq3 : q < D3.length := by omega
                      have hq5 : q < D5.length := by omega
                      have hS5 := HR5.out.new frq
                      have d6 := hS5.c6 q hlt4
                      have HST := Lib.hid (state_h q hS5 hq5)
                      have hsq := sts_at HST5.out q hq5 hq3
                      obtain ⟨g8, cap8, rfl, lg8, hc8⟩ := HRW.out (by omega)
                      have c8 := hc8 q (.int .i64 (D3[q]).st) (by simp [hq3])
                      have c8w := frq.keep (cellOwn c8 (ownNew_ge lg8) HF5.out) (by simp)
                      rw [hsq] at HST
                      generalize (D3[q]).st = ys at HST c8w
                      generalize (D5[q]) = y at HST
                      have FRQ := Lib.hid frq
                      clear hS5 hsq hc8 c8 frq
                      rcases S6.out with ⟨_, h0⟩ | ⟨_, cap6, rfl⟩
                      · omega
                      · go_wp2_with fail
                        refine HST.out.mono ?_
                        rintro e w5 ⟨rfl, f5⟩
                        have c8x := f5.keep c8w (by simp)
                        have FRX := Lib.hid (FRQ.out.step (show Fr [] wr w5 from ⟨f5.os, f5.tape, f5.output, f5.size, f5.block⟩))
                        clear d6 c8w f5 FRQ
                        go_wp2_with fail
                        go_roundw
                        case rel => exact ⟨q + 1, by go_num, by omega, FRX.out⟩
                        case measure => simp [intOf]; omega
                    · go_wp2_with fail
                      refine (known_true _).mono ?_
                      rintro e w5 ⟨rfl, f5⟩
                      have hfin := HR5.out.fr.step (frq.step f5)
                      go_wp2_with fail
                      go_ret
                      exact ⟨rfl, hfin⟩
end Go.Proofs.Ytgbmenfmaphciaa
