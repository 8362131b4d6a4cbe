/- The law DialErrors' walk: it returns true at every number, place and choice. -/
import Derived.Test.YtgbmenfmaphciaaAll2
import Derived.OwnWalk
namespace Go.Proofs.Ytgbmenfmaphciaa
open Go.RowKit
open Go.Maps (Keyed)
set_option linter.unusedVariables false
set_option maxRecDepth 100000
set_option maxHeartbeats 4000000

theorem infoD : (Try.prog.info? 31).map (fun i => (i.zero, i.size, i.bytes)) = some (some (.pointer none), 1, 8) := by kernel_rfl

/-- What a call owns from lo on: its cells, by place. -/
theorem owns_cells {w : World} {lo n : Nat} {e : TypeId} {v : Value} {xs : List Value} (h : w.ownsRow lo e 1 v n xs) (hn : 0 < n) :
    ∃ g cap, v = .slice (some ⟨g, 0, none⟩) n cap ∧ lo ≤ g ∧ (∀ j u, xs[j]? = some u → w.cell? ⟨g, j, none⟩ = some u) ∧ (∀ o, w.frozen? ⟨g, o, none⟩ = false) := by
  obtain ⟨hl, h0 | ⟨g, cap, cur, hv, hb, hh, h1, h2, h3, h4⟩⟩ := h
  · omega
  · refine ⟨g, cap, hv, hb, fun j u hj => ?_, fun o => ?_⟩
    · have := World.ownsRow.cells (w := w) (base := lo) (e := e) (size := 1) (v := v) (n := n) (xs := xs) ⟨hl, .inr ⟨g, cap, cur, hv, hb, hh, h1, h2, h3, h4⟩⟩ (g := g) (by rw [hv]; rfl) j u hj
      simpa [Addr.add_lit] using this
    · simp [World.frozen?, hh]

theorem grown_fr {w w' : World} {row : Option Nat} {S : List Nat} (h : w.grownBy w' row) (hs : ∀ k, row = some k → k ∈ S) : Fr S w w' :=
  ⟨h.os, h.tape, h.output, h.size, fun k hk hn => h.block k hk (fun he => hn (hs k he.symm))⟩

theorem dialErrors_walk (many at_ : Int) (zero : Bool) (w : World) (ha : 0 ≤ at_ ∧ at_ ≤ 255) :
    Calls Try.prog 5 #[.int .i64 many, .int .u8 at_, .bool zero] w fun e w' => e = .returned (.bool true) ∧ Fr [] w w' := by
  by_cases hm : many < 995 ∨ 1005 < many
  · rcases hm with hm | hm
    · go_enter Try.func5, Try.ntmps5
      go_wp2_with (go_at_call 8; refine (known_true _).mono ?_; rintro e w2 ⟨rfl, f2⟩)
      go_ret
      exact ⟨rfl, f2⟩
    · have h0 : ¬ many < 995 := by omega
      go_enter Try.func5, Try.ntmps5
      go_wp2_with (go_at_call 8; refine (known_true _).mono ?_; rintro e w2 ⟨rfl, f2⟩)
      go_ret
      exact ⟨rfl, f2⟩
  · have m1 : ¬ many < 995 := by omega
    have m2 : ¬ 1005 < many := by omega
    obtain ⟨N, rfl⟩ := Int.eq_ofNat_of_zero_le (show 0 ≤ many by omega)
    clear hm
    go_enter Try.func5, Try.ntmps5
    go_wp2_with fail
    refine (to_any _ _ _).mono ?_
    rintro e w1 ⟨rfl, f1⟩
    go_wp2_with fail
    refine (dialNew_ok aName 1 5 1 _ (by decide) a1 (by decide) (by omega)).mono ?_
    rintro e w2 ⟨d, u, rfl, hd, ld, lu, f2⟩
    have F2 := f1.step f2
    have zd := cell_lt hd.c0
    go_wp2_with fail
    refine (netNew_any _).mono ?_
    rintro e w3 ⟨n, r, m, lm, cm, rfl, hn, f3, bn, br, bm, bl, bc⟩
    have F3 := F2.step f3
    have hd3 := hd.new f3
    have hdn : d ∉ [n, r, m, lm, cm] := by
      intro h
      simp only [List.mem_cons, List.not_mem_nil, or_false] at h
      omega
    go_wp2_with fail
    obtain ⟨i0, hi, hz0, hz1, hz2⟩ := info_parts infoD
    go_loopw [11, 10] (fun i l wr => ∃ j : Nat, i = .int .i64 j ∧ j ≤ N ∧ wr.ownsRow w3.heap.size 31 1 l j (List.replicate j (.pointer (some ⟨d, 0, none⟩))) ∧ Fr [] w3 wr) (fun i _ _ => N - (intOf i).toNat)
    case atStart => exact ⟨0, rfl, by omega, World.ownsRow_nil _ _ _ _, Fr.refl _ _⟩
    case round =>
      obtain ⟨j, rfl, hj, hown, fr⟩ := hrel
      by_cases hl : j < N
      · have hl' : (j : Int) < (N : Int) := by omega
        go_wp2_with (first
          | (at_builtin; refine wpList_append_own _ rfl _ _ 46 rfl w3.heap.size 31 i0 (.pointer none) 1 8 Try.underlying46 hi hz0 hz1 hz2 rfl (by decide) _ _ _ rfl (hown.alloc _) ⟨wr.heap.size, 0, none⟩ 1 1 [.pointer (some ⟨d, 0, none⟩)] rfl rfl ?c1 ?c2 ?c3 ?c4 ?c5 ?_))
        case c1 =>
          intro q x hq
          match q, hq with
          | 0, hq => simp at hq; subst hq; simp [Addr.add]
        case c2 => intro x hx; simp at hx; subst hx; rfl
        case c3 => unfold maxLen; omega
        case c4 => omega
        case c5 => have := fr.size; simp; omega
        intro v' wn hown' hgrow _
        have fn : Fr [] w3 wn := (fr.alloc _).trans (grown_fr (S := u10.ownBlock.toList) hgrow (fun k hk => by simp [hk])) (fun x hx hlt => by have := (hown.lt x (by simpa using hx)).1; omega)
        have hown2 : wn.ownsRow w3.heap.size 31 1 v' (j + 1) (List.replicate (j + 1) (.pointer (some ⟨d, 0, none⟩))) := by
          rw [List.replicate_succ']
          exact hown'
        clear hown hgrow hown'
        go_wp2
        go_roundw
        case rel => exact ⟨j + 1, by go_num, by omega, hown2, fn⟩
        case measure => simp [intOf]; omega
      · have hl' : ¬ (j : Int) < (N : Int) := by omega
        have hjN : j = N := by omega
        subst hjN
        obtain ⟨g, cap, rfl, lg, hcells, hfz⟩ := owns_cells hown (by omega)
        have CR := Lib.hid (fun i (hi : i < j) => hcells i (.pointer (some ⟨d, 0, none⟩)) (by simp [hi]))
        have NR := Lib.hid (And.intro (hn.new fr) (hd3.new fr))
        have FR := F3.step fr
        have HD := Lib.hid hdn
        have zn := cell_lt hn.c0
        have zr := cell_lt hn.reg.c0
        have zm := hn.reg.map.lt
        have zl := hn.ls.lt
        have zc := hn.cs.lt
        have zu := cell_lt hd.cu
        have z23 := f3.size
        have zw3 := F3.size
        have zw2 := F2.size
        have zw1 := f1.size
        have hg : n ≠ g ∧ r ≠ g ∧ m ≠ g ∧ lm ≠ g ∧ cm ≠ g := by omega
        have hgd : d ≠ g := by omega
        have hgd' : g ≠ d := by omega
        have hgu : u ≠ g := by omega
        have hn5 : n ≠ d ∧ r ≠ d ∧ m ≠ d ∧ lm ≠ d ∧ cm ≠ d := by omega
        obtain ⟨A, rfl⟩ := Int.eq_ofNat_of_zero_le ha.1
        clear hown hcells hn hd hd3 hdn fr F3 F2 f1 f2 f3
        go_wp2_with fail
        by_cases hk0 : 1000 < j
        · have hk : 1000 < (j : Int) := by omega
          refine (all_many g j cap (fun _ => .pointer (some ⟨d, 0, none⟩)) 0 _ NR.out.1 (by omega) (by omega) CR.out (fun i hi W hW => dialNone_any d u aName 1 1 5 0 0 0 0 W (NR.out.2.new hW))).mono ?_
          rintro e w4 ⟨rfl, f4⟩
          have N4 := Lib.hid (And.intro (NR.out.1.new f4) (NR.out.2.new f4))
          have C4 := Lib.hid (fun i (hi : i < j) => f4.keep (CR.out i hi) (by simp))
          have fz4 : ∀ o, w4.frozen? ⟨g, o, none⟩ = false := fun o => by rw [f4.frozen (cell_lt (CR.out 0 (by omega))) (by simp)]; exact hfz o
          have F4 := FR.step f4
          clear f4 hfz
          go_wp2_with fail
          refine (dialTries_any d u aName 1 1 5 0 0 0 0 _ N4.out.2).mono ?_
          rintro e w' ⟨rfl, rfl⟩
          cases zero
          · have hl1 : (A : Int) < (j : Int) := by omega
            have cA := C4.out A (by omega)
            have fA := fz4 A
            have fS : Fr [g] w4 (w4.setCell ⟨g, A, none⟩ (.pointer none)) := (Fr.refl _ w4).setCell (fun _ => by simp) _
            have cS : (w4.setCell ⟨g, A, none⟩ (.pointer none)).cell? ⟨g, A, none⟩ = some (.pointer none) := World.cell?_setCell_same _ _ _ cA
            have cO : ∀ i, i < j → i ≠ A → (w4.setCell ⟨g, A, none⟩ (.pointer none)).cell? ⟨g, i, none⟩ = some (.pointer (some ⟨d, 0, none⟩)) := fun i hi hne => by
              rw [World.cell?_setCell_other _ _ _ _ (by first | (simp; done) | (simp; omega))]
              exact C4.out i hi
            have cZ : True := trivial
            have HS := Lib.hid (And.intro cS (And.intro cO (And.intro cZ fS)))
            clear cS cO cZ fS
            go_wp2_with fail
            have hN5 := N4.out.1.keep HS.out.2.2.2 (by simpa using hg.1) (by simpa using hg.2.1) (by simpa using hg.2.2.1) (by simpa using hg.2.2.2.1) (by simpa using hg.2.2.2.2)
            have hd5 := N4.out.2.keep HS.out.2.2.2 (by simpa using hgd) (by simpa using hgu)
            refine (all_none g j cap A (fun i => if i = A then (.pointer none) else .pointer (some ⟨d, 0, none⟩)) 0 _ hN5 (by omega) (by omega) (fun i hi => ?_) (fun i hi W hW => ?_) ?_).mono ?_
            · by_cases h : i = A
              · subst h
                simp only [if_true]
                exact HS.out.1
              · simp only [if_neg h]
                exact HS.out.2.1 i hi h
            · simp only [if_neg (show ¬ i = A by omega)]
              exact dialNone_any d u aName 1 1 5 0 0 0 0 W (hd5.new hW)
            · simp only [if_true]
              exact (fun W hW => dialNone_nil W)
            rintro e w5 ⟨rfl, f5⟩
            have hN6 := hN5.new f5
            have F5 := (F4.trans HS.out.2.2.2 (fun x hx hlt => by simp at hx; omega)).step f5
            clear hN5 hd5 f5
            go_wp2_with fail
            refine (all_dead 0 _ (.inl rfl)).mono ?_
            rintro e w6 ⟨rfl, f6⟩
            go_wp2_with fail
            have f7 : Fr [] w6 (w6.alloc (.cells #[.pointer none, .map none, .map none] 60)) := (Fr.refl [] w6).alloc _
            refine (all_dead 0 _ (.inr ⟨_, rfl, by simp⟩)).mono ?_
            rintro e w7 ⟨rfl, f8⟩
            go_wp2_with fail
            refine (all_empty 0 _ (((hN6.new f6).new f7).new f8)).mono ?_
            rintro e w8 ⟨rfl, f9⟩
            go_wp2_with fail
            refine (known_true _).mono ?_
            rintro e w9 ⟨rfl, f10⟩
            go_wp2_with fail
            go_ret
            exact ⟨rfl, ((((F5.step f6).step f7).step f8).step f9).step f10⟩
          · have hl1 : (A : Int) < (j : Int) := by omega
            have cA := C4.out A (by omega)
            have fA := fz4 A
            have gl := cell_lt cA
            have cA2 : ((w4.setCell ⟨g, A, none⟩ (.pointer none)).alloc (.cells #[.string ⟨#[]⟩, .int .i64 0, .int .i64 0, .int .u64 0, .nilFunc, .int .i64 0, .int .i64 0, .int .i64 0, .int .i64 0] 45)).cell? ⟨g, A, none⟩ = some (.pointer none) := by
              rw [Fr.cell (S := []) (w := w4.setCell ⟨g, A, none⟩ (.pointer none)) ((Fr.refl [] _).alloc _) (by simpa using gl) (by simp)]
              exact World.cell?_setCell_same _ _ _ cA
            have fA2 : ((w4.setCell ⟨g, A, none⟩ (.pointer none)).alloc (.cells #[.string ⟨#[]⟩, .int .i64 0, .int .i64 0, .int .u64 0, .nilFunc, .int .i64 0, .int .i64 0, .int .i64 0, .int .i64 0] 45)).frozen? ⟨g, A, none⟩ = false := by
              rw [Fr.frozen (S := []) (w := w4.setCell ⟨g, A, none⟩ (.pointer none)) ((Fr.refl [] _).alloc _) (by simpa using gl) (by simp)]
              simpa using fA
            have fA0 : Fr [] ((w4.setCell ⟨g, A, none⟩ (.pointer none)).setCell ⟨g, A, none⟩ (.pointer (some ⟨w4.heap.size, 0, none⟩))) (((w4.setCell ⟨g, A, none⟩ (.pointer none)).setCell ⟨g, A, none⟩ (.pointer (some ⟨w4.heap.size, 0, none⟩))).alloc (.cells #[.string ⟨#[]⟩, .int .i64 0, .int .i64 0, .int .u64 0, .nilFunc, .int .i64 0, .int .i64 0, .int .i64 0, .int .i64 0] 45)) := (Fr.refl [] _).alloc _
            have fS : Fr [g] w4 (((w4.setCell ⟨g, A, none⟩ (.pointer none)).setCell ⟨g, A, none⟩ (.pointer (some ⟨w4.heap.size, 0, none⟩))).alloc (.cells #[.string ⟨#[]⟩, .int .i64 0, .int .i64 0, .int .u64 0, .nilFunc, .int .i64 0, .int .i64 0, .int .i64 0, .int .i64 0] 45)) := (((Fr.refl _ w4).setCell (fun _ => by simp) _).setCell (fun _ => by simp) _).alloc _
            have cS : (((w4.setCell ⟨g, A, none⟩ (.pointer none)).setCell ⟨g, A, none⟩ (.pointer (some ⟨w4.heap.size, 0, none⟩))).alloc (.cells #[.string ⟨#[]⟩, .int .i64 0, .int .i64 0, .int .u64 0, .nilFunc, .int .i64 0, .int .i64 0, .int .i64 0, .int .i64 0] 45)).cell? ⟨g, A, none⟩ = some (.pointer (some ⟨w4.heap.size, 0, none⟩)) := fA0.keep (World.cell?_setCell_same _ _ _ (World.cell?_setCell_same _ _ _ cA)) (by simp)
            have cO : ∀ i, i < j → i ≠ A → (((w4.setCell ⟨g, A, none⟩ (.pointer none)).setCell ⟨g, A, none⟩ (.pointer (some ⟨w4.heap.size, 0, none⟩))).alloc (.cells #[.string ⟨#[]⟩, .int .i64 0, .int .i64 0, .int .u64 0, .nilFunc, .int .i64 0, .int .i64 0, .int .i64 0, .int .i64 0] 45)).cell? ⟨g, i, none⟩ = some (.pointer (some ⟨d, 0, none⟩)) := fun i hi hne => fA0.keep (by
              rw [World.cell?_setCell_other _ _ _ _ (by first | (simp; done) | (simp; omega)), World.cell?_setCell_other _ _ _ _ (by first | (simp; done) | (simp; omega))]
              exact C4.out i hi) (by simp)
            have cZ : (((w4.setCell ⟨g, A, none⟩ (.pointer none)).setCell ⟨g, A, none⟩ (.pointer (some ⟨w4.heap.size, 0, none⟩))).alloc (.cells #[.string ⟨#[]⟩, .int .i64 0, .int .i64 0, .int .u64 0, .nilFunc, .int .i64 0, .int .i64 0, .int .i64 0, .int .i64 0] 45)).cell? ⟨w4.heap.size, 4, none⟩ = some .nilFunc := netCell _ _ _ 4 rfl (by simp) rfl
            have HS := Lib.hid (And.intro cS (And.intro cO (And.intro cZ fS)))
            clear cS cO cZ fS
            go_wp2_with fail
            have hN5 := N4.out.1.keep HS.out.2.2.2 (by simpa using hg.1) (by simpa using hg.2.1) (by simpa using hg.2.2.1) (by simpa using hg.2.2.2.1) (by simpa using hg.2.2.2.2)
            have hd5 := N4.out.2.keep HS.out.2.2.2 (by simpa using hgd) (by simpa using hgu)
            refine (all_none g j cap A (fun i => if i = A then (.pointer (some ⟨w4.heap.size, 0, none⟩)) else .pointer (some ⟨d, 0, none⟩)) 0 _ hN5 (by omega) (by omega) (fun i hi => ?_) (fun i hi W hW => ?_) ?_).mono ?_
            · by_cases h : i = A
              · subst h
                simp only [if_true]
                exact HS.out.1
              · simp only [if_neg h]
                exact HS.out.2.1 i hi h
            · simp only [if_neg (show ¬ i = A by omega)]
              exact dialNone_any d u aName 1 1 5 0 0 0 0 W (hd5.new hW)
            · simp only [if_true]
              exact (fun W hW => dialNone_zero _ W (hW.keep HS.out.2.2.1 (by simp)))
            rintro e w5 ⟨rfl, f5⟩
            have hN6 := hN5.new f5
            have F5 := (F4.trans HS.out.2.2.2 (fun x hx hlt => by simp at hx; omega)).step f5
            clear hN5 hd5 f5
            go_wp2_with fail
            refine (all_dead 0 _ (.inl rfl)).mono ?_
            rintro e w6 ⟨rfl, f6⟩
            go_wp2_with fail
            have f7 : Fr [] w6 (w6.alloc (.cells #[.pointer none, .map none, .map none] 60)) := (Fr.refl [] w6).alloc _
            refine (all_dead 0 _ (.inr ⟨_, rfl, by simp⟩)).mono ?_
            rintro e w7 ⟨rfl, f8⟩
            go_wp2_with fail
            refine (all_empty 0 _ (((hN6.new f6).new f7).new f8)).mono ?_
            rintro e w8 ⟨rfl, f9⟩
            go_wp2_with fail
            refine (known_true _).mono ?_
            rintro e w9 ⟨rfl, f10⟩
            go_wp2_with fail
            go_ret
            exact ⟨rfl, ((((F5.step f6).step f7).step f8).step f9).step f10⟩
        · have hk : ¬ 1000 < (j : Int) := by omega
          refine (all_refused g j cap d u n r m lm cm _ NR.out.1 NR.out.2 HD.out (by omega) (by omega) (by omega) CR.out).mono ?_
          rintro e w4 ⟨rfl, hd4, f4⟩
          have N4 := Lib.hid (And.intro (NR.out.1.keep f4 (by simpa using hn5.1) (by simpa using hn5.2.1) (by simpa using hn5.2.2.1) (by simpa using hn5.2.2.2.1) (by simpa using hn5.2.2.2.2)) hd4)
          have C4 := Lib.hid (fun i (hi : i < j) => f4.keep (CR.out i hi) (by simpa using hgd'))
          have fz4 : ∀ o, w4.frozen? ⟨g, o, none⟩ = false := fun o => by rw [f4.frozen (cell_lt (CR.out 0 (by omega))) (by simpa using hgd')]; exact hfz o
          have F4 := FR.trans f4 (fun x hx hlt => by simp at hx; omega)
          clear f4 hfz hd4
          go_wp2_with fail
          refine (stands_any 2 0 15 2 0 15 _ _ (dialState_any d u aName 1 1 5 2 0 15 1 _ N4.out.2)).mono ?_
          rintro e w4' ⟨rfl, f4⟩
          have N4' := Lib.hid (And.intro (N4.out.1.new f4) (N4.out.2.new f4))
          have C4' := Lib.hid (fun i (hi : i < j) => f4.keep (C4.out i hi) (by simp))
          have fz4' : ∀ o, w4'.frozen? ⟨g, o, none⟩ = false := fun o => by rw [f4.frozen (cell_lt (C4.out 0 (by omega))) (by simp)]; exact fz4 o
          have F4' := F4.step f4
          clear f4 N4 C4 fz4 F4
          cases zero
          · have hl1 : (A : Int) < (j : Int) := by omega
            have cA := C4'.out A (by omega)
            have fA := fz4' A
            have fS : Fr [g] w4' (w4'.setCell ⟨g, A, none⟩ (.pointer none)) := (Fr.refl _ w4').setCell (fun _ => by simp) _
            have cS : (w4'.setCell ⟨g, A, none⟩ (.pointer none)).cell? ⟨g, A, none⟩ = some (.pointer none) := World.cell?_setCell_same _ _ _ cA
            have cO : ∀ i, i < j → i ≠ A → (w4'.setCell ⟨g, A, none⟩ (.pointer none)).cell? ⟨g, i, none⟩ = some (.pointer (some ⟨d, 0, none⟩)) := fun i hi hne => by
              rw [World.cell?_setCell_other _ _ _ _ (by first | (simp; done) | (simp; omega))]
              exact C4'.out i hi
            have cZ : True := trivial
            have HS := Lib.hid (And.intro cS (And.intro cO (And.intro cZ fS)))
            clear cS cO cZ fS
            go_wp2_with fail
            have hN5 := N4'.out.1.keep HS.out.2.2.2 (by simpa using hg.1) (by simpa using hg.2.1) (by simpa using hg.2.2.1) (by simpa using hg.2.2.2.1) (by simpa using hg.2.2.2.2)
            have hd5 := N4'.out.2.keep HS.out.2.2.2 (by simpa using hgd) (by simpa using hgu)
            refine (all_none g j cap A (fun i => if i = A then (.pointer none) else .pointer (some ⟨d, 0, none⟩)) 0 _ hN5 (by omega) (by omega) (fun i hi => ?_) (fun i hi W hW => ?_) ?_).mono ?_
            · by_cases h : i = A
              · subst h
                simp only [if_true]
                exact HS.out.1
              · simp only [if_neg h]
                exact HS.out.2.1 i hi h
            · simp only [if_neg (show ¬ i = A by omega)]
              exact dialNone_any d u aName 1 1 5 2 0 15 1 W (hd5.new hW)
            · simp only [if_true]
              exact (fun W hW => dialNone_nil W)
            rintro e w5 ⟨rfl, f5⟩
            have hN6 := hN5.new f5
            have F5 := (F4'.trans HS.out.2.2.2 (fun x hx hlt => by simp at hx; omega)).step f5
            clear hN5 hd5 f5
            go_wp2_with fail
            refine (all_dead 0 _ (.inl rfl)).mono ?_
            rintro e w6 ⟨rfl, f6⟩
            go_wp2_with fail
            have f7 : Fr [] w6 (w6.alloc (.cells #[.pointer none, .map none, .map none] 60)) := (Fr.refl [] w6).alloc _
            refine (all_dead 0 _ (.inr ⟨_, rfl, by simp⟩)).mono ?_
            rintro e w7 ⟨rfl, f8⟩
            go_wp2_with fail
            refine (all_empty 0 _ (((hN6.new f6).new f7).new f8)).mono ?_
            rintro e w8 ⟨rfl, f9⟩
            go_wp2_with fail
            refine (known_true _).mono ?_
            rintro e w9 ⟨rfl, f10⟩
            go_wp2_with fail
            go_ret
            exact ⟨rfl, ((((F5.step f6).step f7).step f8).step f9).step f10⟩
          · have hl1 : (A : Int) < (j : Int) := by omega
            have cA := C4'.out A (by omega)
            have fA := fz4' A
            have gl := cell_lt cA
            have cA2 : ((w4'.setCell ⟨g, A, none⟩ (.pointer none)).alloc (.cells #[.string ⟨#[]⟩, .int .i64 0, .int .i64 0, .int .u64 0, .nilFunc, .int .i64 0, .int .i64 0, .int .i64 0, .int .i64 0] 45)).cell? ⟨g, A, none⟩ = some (.pointer none) := by
              rw [Fr.cell (S := []) (w := w4'.setCell ⟨g, A, none⟩ (.pointer none)) ((Fr.refl [] _).alloc _) (by simpa using gl) (by simp)]
              exact World.cell?_setCell_same _ _ _ cA
            have fA2 : ((w4'.setCell ⟨g, A, none⟩ (.pointer none)).alloc (.cells #[.string ⟨#[]⟩, .int .i64 0, .int .i64 0, .int .u64 0, .nilFunc, .int .i64 0, .int .i64 0, .int .i64 0, .int .i64 0] 45)).frozen? ⟨g, A, none⟩ = false := by
              rw [Fr.frozen (S := []) (w := w4'.setCell ⟨g, A, none⟩ (.pointer none)) ((Fr.refl [] _).alloc _) (by simpa using gl) (by simp)]
              simpa using fA
            have fA0 : Fr [] ((w4'.setCell ⟨g, A, none⟩ (.pointer none)).setCell ⟨g, A, none⟩ (.pointer (some ⟨w4'.heap.size, 0, none⟩))) (((w4'.setCell ⟨g, A, none⟩ (.pointer none)).setCell ⟨g, A, none⟩ (.pointer (some ⟨w4'.heap.size, 0, none⟩))).alloc (.cells #[.string ⟨#[]⟩, .int .i64 0, .int .i64 0, .int .u64 0, .nilFunc, .int .i64 0, .int .i64 0, .int .i64 0, .int .i64 0] 45)) := (Fr.refl [] _).alloc _
            have fS : Fr [g] w4' (((w4'.setCell ⟨g, A, none⟩ (.pointer none)).setCell ⟨g, A, none⟩ (.pointer (some ⟨w4'.heap.size, 0, none⟩))).alloc (.cells #[.string ⟨#[]⟩, .int .i64 0, .int .i64 0, .int .u64 0, .nilFunc, .int .i64 0, .int .i64 0, .int .i64 0, .int .i64 0] 45)) := (((Fr.refl _ w4').setCell (fun _ => by simp) _).setCell (fun _ => by simp) _).alloc _
            have cS : (((w4'.setCell ⟨g, A, none⟩ (.pointer none)).setCell ⟨g, A, none⟩ (.pointer (some ⟨w4'.heap.size, 0, none⟩))).alloc (.cells #[.string ⟨#[]⟩, .int .i64 0, .int .i64 0, .int .u64 0, .nilFunc, .int .i64 0, .int .i64 0, .int .i64 0, .int .i64 0] 45)).cell? ⟨g, A, none⟩ = some (.pointer (some ⟨w4'.heap.size, 0, none⟩)) := fA0.keep (World.cell?_setCell_same _ _ _ (World.cell?_setCell_same _ _ _ cA)) (by simp)
            have cO : ∀ i, i < j → i ≠ A → (((w4'.setCell ⟨g, A, none⟩ (.pointer none)).setCell ⟨g, A, none⟩ (.pointer (some ⟨w4'.heap.size, 0, none⟩))).alloc (.cells #[.string ⟨#[]⟩, .int .i64 0, .int .i64 0, .int .u64 0, .nilFunc, .int .i64 0, .int .i64 0, .int .i64 0, .int .i64 0] 45)).cell? ⟨g, i, none⟩ = some (.pointer (some ⟨d, 0, none⟩)) := fun i hi hne => fA0.keep (by
              rw [World.cell?_setCell_other _ _ _ _ (by first | (simp; done) | (simp; omega)), World.cell?_setCell_other _ _ _ _ (by first | (simp; done) | (simp; omega))]
              exact C4'.out i hi) (by simp)
            have cZ : (((w4'.setCell ⟨g, A, none⟩ (.pointer none)).setCell ⟨g, A, none⟩ (.pointer (some ⟨w4'.heap.size, 0, none⟩))).alloc (.cells #[.string ⟨#[]⟩, .int .i64 0, .int .i64 0, .int .u64 0, .nilFunc, .int .i64 0, .int .i64 0, .int .i64 0, .int .i64 0] 45)).cell? ⟨w4'.heap.size, 4, none⟩ = some .nilFunc := netCell _ _ _ 4 rfl (by simp) rfl
            have HS := Lib.hid (And.intro cS (And.intro cO (And.intro cZ fS)))
            clear cS cO cZ fS
            go_wp2_with fail
            have hN5 := N4'.out.1.keep HS.out.2.2.2 (by simpa using hg.1) (by simpa using hg.2.1) (by simpa using hg.2.2.1) (by simpa using hg.2.2.2.1) (by simpa using hg.2.2.2.2)
            have hd5 := N4'.out.2.keep HS.out.2.2.2 (by simpa using hgd) (by simpa using hgu)
            refine (all_none g j cap A (fun i => if i = A then (.pointer (some ⟨w4'.heap.size, 0, none⟩)) else .pointer (some ⟨d, 0, none⟩)) 0 _ hN5 (by omega) (by omega) (fun i hi => ?_) (fun i hi W hW => ?_) ?_).mono ?_
            · by_cases h : i = A
              · subst h
                simp only [if_true]
                exact HS.out.1
              · simp only [if_neg h]
                exact HS.out.2.1 i hi h
            · simp only [if_neg (show ¬ i = A by omega)]
              exact dialNone_any d u aName 1 1 5 2 0 15 1 W (hd5.new hW)
            · simp only [if_true]
              exact (fun W hW => dialNone_zero _ W (hW.keep HS.out.2.2.1 (by simp)))
            rintro e w5 ⟨rfl, f5⟩
            have hN6 := hN5.new f5
            have F5 := (F4'.trans HS.out.2.2.2 (fun x hx hlt => by simp at hx; omega)).step f5
            clear hN5 hd5 f5
            go_wp2_with fail
            refine (all_dead 0 _ (.inl rfl)).mono ?_
            rintro e w6 ⟨rfl, f6⟩
            go_wp2_with fail
            have f7 : Fr [] w6 (w6.alloc (.cells #[.pointer none, .map none, .map none] 60)) := (Fr.refl [] w6).alloc _
            refine (all_dead 0 _ (.inr ⟨_, rfl, by simp⟩)).mono ?_
            rintro e w7 ⟨rfl, f8⟩
            go_wp2_with fail
            refine (all_empty 0 _ (((hN6.new f6).new f7).new f8)).mono ?_
            rintro e w8 ⟨rfl, f9⟩
            go_wp2_with fail
            refine (known_true _).mono ?_
            rintro e w9 ⟨rfl, f10⟩
            go_wp2_with fail
            go_ret
            exact ⟨rfl, ((((F5.step f6).step f7).step f8).step f9).step f10⟩
end Go.Proofs.Ytgbmenfmaphciaa
