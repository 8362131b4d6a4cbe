/- Contract of report's Check. -/
/- Report: lists of numbers, and whether one of them is negative. -/
import Derived.Test.YtllmejkcohfbiaaGreatDoorR10
namespace Go.Proofs.YtllmejkcohfbiaaGreatDoor
open Go.RowKit Go.Shelf Go.Sort Go.Lib
set_option linter.unusedVariables false
set_option linter.unusedSimpArgs false
set_option maxRecDepth 100000
set_option maxHeartbeats 4000000

theorem check_any (p f b : Int) (ip : I64 p) (ib : I64 b) (w : World) (ht : Tab w) :
    Calls Tryz.prog 16 #[ckV p f b] w fun e w' => e = .returned (.tuple #[.string (bs (checkB p f b).1), .int .i64 (checkB p f b).2]) ∧ Fr [] w w' := by
  cases hok : checkOk p f b with
  | false =>
    have hB : checkB p f b = ([], 2) := by unfold checkB; rw [hok]; rfl
    rw [hB]
    unfold checkOk at hok
    rw [decide_eq_false_iff_not] at hok
    by_cases h1 : p < -1
    · exact checkBad1 p f b h1 w
    · by_cases h2 : b < -1
      · exact checkBad2 p f b h1 h2 w
      · by_cases h3 : f < 0
        · exact checkBad3 p f b h1 h2 h3 w
        · by_cases h4 : 4 ≤ f
          · exact checkBad4 p f b h1 h2 h3 h4 w
          · by_cases h5 : f = 0
            · by_cases h6 : p = -1
              · exact absurd ⟨by omega, by omega, by omega, by omega, ⟨fun _ => h6, fun _ => h5⟩⟩ hok
              · exact checkBad5 p f b h1 h2 h3 h4 h5 h6 w
            · by_cases h6 : p = -1
              · exact checkBad6 p f b h1 h2 h3 h4 h5 h6 w
              · exact absurd ⟨by omega, by omega, by omega, by omega, ⟨fun h => absurd h h5, fun h => absurd h h6⟩⟩ hok
  | true =>
    have hB : checkB p f b = (check1 p f ++ [10] ++ check2 b ++ [10], 0) := by unfold checkB; rw [hok]; rfl
    rw [hB]
    unfold checkOk at hok
    rw [decide_eq_true_eq] at hok
    obtain ⟨h1, h2, h3, h4, h5⟩ := hok
    by_cases hp : p = -1
    · have hf := h5.2 hp
      subst hp hf
      have e1 : check1 (-1) 0 = [112, 105, 112, 101, 115, 32, 102, 105, 110, 101] := rfl
      rw [e1]
      by_cases hb : b = -1
      · subst hb
        exact checkOk1 w ht
      · have e2 : check2 b = Lib.join [[99, 111, 100, 101], Lib.itoa b] [32] := if_neg hb
        rw [e2]
        exact checkOk2 b ib (by omega) w ht
    · have hf : f ≠ 0 := fun h => hp (h5.1 h)
      obtain ⟨n, rfl⟩ : ∃ n : Nat, f = n := ⟨f.toNat, by omega⟩
      have e1 : check1 p (n : Int) = Lib.join [[112, 105, 112, 101], Lib.itoa p, flawWs.getD n []] [32] := if_neg hp
      rw [e1]
      by_cases hb : b = -1
      · subst hb
        exact checkOk3 p n ip (by omega) (by omega) (by omega) w ht
      · have e2 : check2 b = Lib.join [[99, 111, 100, 101], Lib.itoa b] [32] := if_neg hb
        rw [e2]
        exact checkOk4 p n ip (by omega) (by omega) (by omega) b ib (by omega) w ht
end Go.Proofs.YtllmejkcohfbiaaGreatDoor
namespace Go.Proofs.YtllmejkcohfbiaaGreatDoor
open Go.RowKit Go.Shelf Go.Sort Go.Lib
set_option linter.unusedVariables false
set_option linter.unusedSimpArgs false
set_option maxRecDepth 100000
set_option maxHeartbeats 4000000

def IntRow (w : World) (v : Value) (ns : List Int) : Prop :=
  (ns = [] ∧ ∃ a c, v = .slice a 0 c) ∨ ∃ g off cap, v = .slice (some ⟨g, off, none⟩) ns.length cap ∧ g < w.heap.size ∧ ∀ (i : Nat) n, ns[i]? = some n → w.cell? ⟨g, off + i, none⟩ = some (.int .i64 n)
theorem IntRow.new {w w' : World} {v : Value} {ns : List Int} (h : IntRow w v ns) (hf : Fr [] w w') : IntRow w' v ns := by
  rcases h with h | ⟨g, off, cap, rfl, h1, h2⟩
  · exact .inl h
  · exact .inr ⟨g, off, cap, rfl, Nat.lt_of_lt_of_le h1 hf.size, fun i x hx => hf.keep (h2 i x hx) (by simp)⟩
theorem IntRow.val {w : World} {v : Value} {ns : List Int} (h : IntRow w v ns) : ∃ a c, v = .slice a ns.length c := by
  rcases h with ⟨rfl, a, c, rfl⟩ | ⟨g, off, cap, rfl, h1, h2⟩
  · exact ⟨a, c, rfl⟩
  · exact ⟨_, _, rfl⟩
theorem negI_any (n : Int) (w : World) :
    Calls Tryz.prog 46 #[.int .i64 n] w fun e w' => e = .returned (.bool (decide (n < 0))) ∧ w = w' := by
  go_enter Tryz.func46, Tryz.ntmps46
  go_wp2
  go_ret
  exact ⟨rfl, rfl⟩
def noneNeg (ns : List Int) : Bool := ns.all fun n => decide (0 ≤ n)
theorem indexNegI_any (v : Value) (ns : List Int) (hl : ns.length ≤ 9223372036854775807) (w : World) (h : IntRow w v ns) :
    Calls Tryz.prog 78 #[v, .func (.func 46) #[] #[]] w fun e w' => (∃ i : Int, e = .returned (.int .i64 i) ∧ decide (0 ≤ i) = !noneNeg ns) ∧ w = w' := by
  rcases h with ⟨rfl, a, c, rfl⟩ | ⟨g, off, cap, rfl, h1, h2⟩
  · go_enter Tryz.func78, Tryz.ntmps78
    go_wp2
    refine wp_loop_rounds 1 ?_
    rw [rounds_succ]
    go_wp2
    go_ret
    exact ⟨⟨-1, rfl, rfl⟩, rfl⟩
  · obtain ⟨m, hm⟩ : ∃ m, ns.length = m := ⟨_, rfl⟩
    rw [hm] at hl ⊢
    have HM := Lib.hid hm
    have H2 := Lib.hid h2
    clear h2 hm
    go_enter Tryz.func78, Tryz.ntmps78
    go_wp2
    go_loopw [8] (fun j wr => ∃ q : Nat, j = .int .i64 q ∧ q ≤ m ∧ noneNeg (ns.take q) = true ∧ Fr [] w wr ∧ w = wr) (fun j _ => m - (intOf j).toNat)
    case atStart => exact ⟨0, rfl, by omega, rfl, Fr.refl _ _, rfl⟩
    case round =>
      obtain ⟨q, rfl, hq, hno, fr, rfl⟩ := hrel
      have HNO := Lib.hid hno
      clear hno fr
      by_cases hlt : q < m
      · have hx := List.getElem?_eq_getElem (l := ns) (i := q) (by rw [HM.out]; exact hlt)
        have k1 := H2.out q _ hx
        generalize ns[q]'(by rw [HM.out]; exact hlt) = n at hx k1
        have HG := Lib.hid hx
        have HN := Lib.hid (negI_any n w)
        have hstep : noneNeg (ns.take (q + 1)) = decide (0 ≤ n) := by
          have h0 := HNO.out
          unfold noneNeg at h0 ⊢
          rw [List.take_add_one, HG.out, List.all_append, h0]
          simp
        have HST := Lib.hid hstep
        clear hx hstep
        by_cases hn : n < 0
        · rw [decide_eq_true hn] at HN
          have HNN := Lib.hid hn
          clear hn
          go_wp2_with (go_at_call 46; refine HN.out.mono ?_; rintro e w1 ⟨rfl, rfl⟩)
          go_ret
          refine ⟨⟨q, rfl, ?_⟩, rfl⟩
          have hb : noneNeg ns = false := by
            unfold noneNeg
            rw [List.all_eq_false]
            exact ⟨n, List.mem_of_getElem? HG.out, by have := HNN.out; simp; omega⟩
          rw [hb]
          simp
        · rw [decide_eq_false hn] at HN
          have HNN := Lib.hid hn
          clear hn
          go_wp2_with (go_at_call 46; refine HN.out.mono ?_; rintro e w1 ⟨rfl, rfl⟩)
          go_roundw
          case rel => exact ⟨q + 1, by go_num, by omega, HST.out.trans (decide_eq_true (by have := HNN.out; omega)), Fr.refl _ _, by simp⟩
          case measure => simp [intOf]; omega
      · go_wp2
        go_ret
        refine ⟨⟨-1, rfl, ?_⟩, rfl⟩
        have : noneNeg ns = true := by
          have := HNO.out
          rwa [List.take_of_length_le (by rw [HM.out]; omega)] at this
        rw [this]
        rfl
theorem containsNegI_any (v : Value) (ns : List Int) (hl : ns.length ≤ 9223372036854775807) (w : World) (h : IntRow w v ns) :
    Calls Tryz.prog 47 #[v, .func (.func 46) #[] #[]] w fun e w' => e = .returned (.bool (!noneNeg ns)) ∧ w = w' := by
  have HI := Lib.hid (indexNegI_any v ns hl w h)
  obtain ⟨a, cap, rfl⟩ := h.val
  obtain ⟨ok, hok⟩ : ∃ b, noneNeg ns = b := ⟨_, rfl⟩
  obtain ⟨n, hn⟩ : ∃ n, ns.length = n := ⟨_, rfl⟩
  rw [hok, hn] at HI
  rw [hok, hn]
  clear hok hn h hl
  cases ok
  all_goals
    go_enter Tryz.func47, Tryz.ntmps47
    go_wp2_with (go_at_call 78; refine HI.out.mono ?_; rintro e w1 ⟨⟨i, rfl, hi⟩, rfl⟩)
    go_ret
    exact ⟨rfl, rfl⟩
end Go.Proofs.YtllmejkcohfbiaaGreatDoor
