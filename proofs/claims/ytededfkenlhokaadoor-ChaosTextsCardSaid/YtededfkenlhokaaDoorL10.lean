/- Contract of the law's own words. -/
import Derived.Test.YtededfkenlhokaaDoorL9
import Derived.RegionTactic
namespace Go.Proofs.YtededfkenlhokaaDoor
open Go.RowKit Go.Shelf
set_option linter.unusedVariables false
set_option linter.unusedSimpArgs false
set_option maxRecDepth 100000
set_option maxHeartbeats 4000000

def strV (y : List UInt8) : Value := .string (bs y)
/-- A row of words of one's own. -/
def OwnWords (W : World) (lo g cap : Nat) (ws : List (List UInt8)) : Prop := W.ownsRow lo 9 1 (.slice (some ⟨g, 0, none⟩) ws.length cap) ws.length (ws.map strV)
theorem words_fr {w W : World} {lo g n : Nat} {xs : List Value} {cap j : Nat} {u : Value} (hf : Fr [] w W) (hl : lo = w.heap.size) (h : W.ownsRow lo 9 1 (.slice (some ⟨g, 0, none⟩) n cap) n xs) : Fr [] w (W.setCell ⟨g, j, none⟩ u) :=
  hf.setCell (fun hlt => by have := h.lt g rfl; simp at hlt; omega) _
theorem map_set_last (ws : List (List UInt8)) (a b : List UInt8) : ((ws ++ [a]).map strV).set ws.length (strV b) = (ws ++ [b]).map strV := by
  simp [List.map_append, List.set_append]
theorem wordsL_any (x : List UInt8) (hx : x.length ≤ 100000) (w : World) :
    Calls Tryd.prog 33 #[.string (bs x)] w fun e w' => ∃ g cap, e = .returned (.slice (some ⟨g, 0, none⟩) (splitGo [] x).length cap) ∧ OwnWords w' w.heap.size g cap (splitGo [] x) ∧ Fr [] w w' := by
  obtain ⟨t, ht⟩ : ∃ t, t = bs x := ⟨_, rfl⟩
  have hsz : t.size = x.length := by rw [ht, bs_size]
  have hdl : t.data.toList = x := by rw [ht, bs_list]
  have hat : ∀ (k : Nat) (h : k < t.size), x[k]? = some t[k] := fun k h => by
    rw [← hdl, List.getElem?_eq_getElem (by simpa using h)]
    rfl
  have hex : ∀ (k : Nat) (h : k < t.size), t.extract k (k + 1) = bs [t[k]] := fun k h => by
    rw [← bs_of (t.extract k (k + 1))]
    congr 1
    have h1 := hat k h
    rw [show (t.extract k (k + 1)).data.toList = (t.data.toList.drop k).take 1 from by
      rw [ByteArray.data_extract, Array.toList_extract]
      simp [List.extract], hdl]
    rw [List.getElem?_eq_getElem (by omega)] at h1
    simp only [Option.some.injEq] at h1
    rw [List.drop_eq_getElem_cons (by omega), h1]
    simp
  rw [← ht]
  obtain ⟨i0, hi, hz0, hz1, hz2⟩ := info_parts infoStr
  have HS := Lib.hid hsz
  have HA := Lib.hid hat
  have HX := Lib.hid hex
  have hmx : t.size ≤ 100000 := by omega
  clear hsz hdl hat ht hx hex
  go_enter Tryd.func33, Tryd.ntmps33
  go_wp2
  go_loopw [3, 4] (fun v i wr => ∃ (k : Nat) (dn : List (List UInt8)) (cur : List UInt8) (g cap : Nat), i = .int .i64 k ∧ k ≤ t.size ∧ splitGo [] x = dn ++ splitGo cur (x.drop k) ∧ dn.length ≤ k ∧ cur.length ≤ k ∧
      v = .slice (some ⟨g, 0, none⟩) (dn.length + 1) cap ∧ wr.ownsRow w.heap.size 9 1 (.slice (some ⟨g, 0, none⟩) (dn.length + 1) cap) (dn.length + 1) ((dn ++ [cur]).map strV) ∧ Fr [] w wr) (fun _ i _ => t.size - (intOf i).toNat)
  case atStart =>
    refine ⟨0, [], [], w.heap.size, 1, rfl, Nat.zero_le _, by simp, by simp, by simp, rfl, ?_, (Fr.refl [] w).alloc _⟩
    exact World.ownsRow_lit w #[.string ⟨#[]⟩] 1 (Nat.le_refl _) (by decide) rfl
  case round =>
    rename_i wr
    obtain ⟨k, dn, cur, g, cap, rfl, hk, hs, hdk, hck, rfl, hown, hF⟩ := hrel
    by_cases hlt : k < t.size
    · have hc := HA.out k hlt
      have hdr : x.drop k = t[k] :: x.drop (k + 1) := by
        have := HS.out
        rw [List.drop_eq_getElem_cons (by omega)]
        congr 1
        rw [List.getElem?_eq_getElem (by omega)] at hc
        simpa using hc
      rw [hdr, splitGo] at hs
      obtain ⟨N, hN⟩ : ∃ N, dn.length + 1 = N := ⟨_, rfl⟩
      rw [hN] at hown
      have HN := Lib.hid hN
      have HO := Lib.hid hown
      have HF := Lib.hid hF
      have HSp := Lib.hid hs
      have hcm : (t[k].toNat : Int) < 256 := by have := t[k].toNat_lt; omega
      have hcell := hown.cellAt dn.length (by omega)
      rw [List.getElem?_map, List.getElem?_append_right (Nat.le_refl _)] at hcell
      simp only [Nat.sub_self, List.getElem?_cons_zero, Option.map_some, strV] at hcell
      have hfz := hown.frozenAt dn.length
      have hN1 : dn.length < N := by omega
      have hN2 : N ≤ 100001 := by omega
      rw [hN]
      by_cases h32 : t[k] = 32
      · have hb : ((t[k].toNat : Int) == 32) = true := by rw [h32]; rfl
        have HB := Lib.hid h32
        clear hc hdr hs hN hown hF hcell hfz h32
        go_wp2_with (at_builtin; refine wpList_append_own _ rfl _ _ 85 rfl w.heap.size 9 i0 _ 1 16 Tryd.underlying85 hi hz0 hz1 hz2 rfl (by omega) _ _ _ rfl (HO.out.alloc _) ⟨wr.heap.size, 0, none⟩ 1 1 [.string ⟨#[]⟩] rfl rfl ?qc1 ?qc2 ?qc3 ?qc4 ?qc5 ?_)
        case qc1 =>
          intro j u hj
          match j with
          | 0 => cases hj; simp [Addr.add]
          | j + 1 => simp at hj
        case qc2 =>
          intro u hu
          rw [List.mem_singleton] at hu
          subst hu
          rfl
        case qc3 => unfold maxLen; omega
        case qc4 => omega
        case qc5 => have := HF.out.size; simp; omega
        intro v' w3 hown' hgrow hnil
        obtain ⟨g', cap', rfl⟩ := ownsRow_succ hown'
        have HO3 := Lib.hid hown'
        have HG3 := Lib.hid hgrow
        clear hown' hgrow hnil
        go_wp2
        go_roundw
        case rel =>
          refine ⟨k + 1, dn ++ [cur], [], g', cap', by go_num, by omega, ?_, by simp; omega, by simp, ?_, ?_, ?_⟩
          · rw [HSp.out, if_pos HB.out]
            simp
          · simp [HN.out]
          · have := HO3.out
            rw [← HN.out] at this
            simpa [strV, List.map_append, List.append_assoc, show bs [] = ⟨#[]⟩ from rfl] using this
          · exact (HF.out.alloc _).trans (grownFr (S := [g]) HG3.out (fun q e => by simp [Value.ownBlock] at e; simp [e])) (fun q hq hl => by
              have := HO.out.lt g rfl
              simp at hq
              omega)
        case measure => simp [intOf]; omega
      · have hb : ((t[k].toNat : Int) == 32) = false := by
          rw [beq_eq_false_iff_ne]
          intro e
          exact h32 (UInt8.toNat_inj.1 (by have : (32 : UInt8).toNat = 32 := rfl; omega))
        have HB := Lib.hid h32
        have he := HX.out k hlt
        have e0 : (0 : Int) ≤ (dn.length : Int) := Int.natCast_nonneg _
        have e1 : IntKind.i64.wrap ((N : Int) - 1) = (dn.length : Int) := by rw [IntWalk.i64_in _ (by omega)]; omega
        have e2 : (dn.length : Int) < (N : Int) := by omega
        have e3 : IntKind.i64.wrap ((k : Int) + 1) = (k : Int) + 1 := IntWalk.i64_in _ (by omega)
        have e4 : (0 : Int) ≤ (k : Int) := Int.natCast_nonneg _
        have e5 : (k : Int) + 1 ≤ (t.size : Int) := by omega
        have e6 : (0 : Int) ≤ (k : Int) + 1 := by omega
        have e7 : ((k : Int) + 1).toNat = k + 1 := by omega
        have e8 : (k : Int) ≤ (k : Int) + 1 := by omega
        have hz : ¬ 9223372036854775807 < (bs cur).size + (bs [t[k]]).size := by rw [bs_size, bs_size]; simp; omega
        clear hc hdr hs hN hown hF h32
        go_wp2
        go_region
        all_goals go_wp2
        all_goals (
          go_roundw
          case rel =>
            refine ⟨k + 1, dn, cur ++ [t[k]], g, cap, by go_num, by omega, ?_, by omega, by simp; omega, by simp [HN.out], ?_, ?_⟩
            · rw [HSp.out, if_neg HB.out]
            · have := (HO.out.stored dn.length (strV (cur ++ [t[k]]))).1
              rw [map_set_last, ← HN.out] at this
              rw [bs_append]
              exact this
            · exact (words_fr HF.out rfl HO.out).drew
          case measure => simp [intOf]; omega)
    · have hkm : k = t.size := by omega
      have hd : x.drop k = [] := List.drop_eq_nil_of_le (by have := HS.out; omega)
      rw [hd, splitGo] at hs
      have HO := Lib.hid hown
      have HF := Lib.hid hF
      have HSp := Lib.hid hs
      clear hs hown hF hd hlt
      go_wp2
      go_ret
      refine ⟨g, cap, ?_, ?_, HF.out⟩
      · rw [HSp.out]
        simp
      · unfold OwnWords
        rw [HSp.out]
        simpa using HO.out
end Go.Proofs.YtededfkenlhokaaDoor
