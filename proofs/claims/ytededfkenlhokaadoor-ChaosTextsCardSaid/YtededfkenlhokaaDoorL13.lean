/- ChaosTexts answers true. -/
import Derived.Test.YtededfkenlhokaaDoorL12
import Derived.Deep.CutRange
import Derived.Outline
namespace Go.Proofs.YtededfkenlhokaaDoor
open Go.RowKit Go.Shelf
set_option linter.unusedVariables false
set_option linter.unusedSimpArgs false
set_option maxRecDepth 100000
set_option maxHeartbeats 4000000

theorem texts_big (v : Value) (fs : List Ft) (s : List UInt8) (many : Int) (w : World) (he : Env w) (h : FtRow w v fs) (hb : 70 < fs.length ∨ 300 < s.length) :
    Calls Tryd.prog 3 #[v, .string (bs s), .int .i64 many] w fun e w' => e = .returned (.bool true) ∧ Fr [] w w' := by
  obtain ⟨a, cap, rfl⟩ := h.val
  have HK := Lib.hid (known_any w he)
  obtain ⟨m, hm⟩ : ∃ m, fs.length = m := ⟨_, rfl⟩
  obtain ⟨t, ht⟩ : ∃ t, t = bs s := ⟨_, rfl⟩
  have hsz : t.size = s.length := by rw [ht, bs_size]
  rw [hm] at hb ⊢
  rw [← ht]
  clear h he hm ht
  by_cases h70 : 70 < m
  · have h1 : (70 : Int) < (m : Int) := by omega
    clear hb hsz h70
    go_enter Tryd.func3, Tryd.ntmps3
    go_wp2_with (go_at_call 7; refine HK.out.mono ?_; rintro e w5 ⟨rfl, g5⟩)
    go_ret
    exact ⟨rfl, g5⟩
  · have h1 : ¬ (70 : Int) < (m : Int) := by omega
    have h2 : (300 : Int) < (t.size : Int) := by omega
    clear hb hsz h70
    go_enter Tryd.func3, Tryd.ntmps3
    go_wp2_with (go_at_call 7; refine HK.out.mono ?_; rintro e w5 ⟨rfl, g5⟩)
    go_ret
    exact ⟨rfl, g5⟩
theorem texts_main (v : Value) (fs : List Ft) (s : List UInt8) (many : Int) (w : World) (he : Env w) (h : FtRow w v fs) (h70 : fs.length ≤ 70) (h300 : s.length ≤ 300) :
    Calls Tryd.prog 3 #[v, .string (bs s), .int .i64 many] w fun e w' => e = .returned (.bool true) ∧ Fr [] w w' := by
  obtain ⟨a, cap, rfl⟩ := h.val
  have HE := Lib.hid he
  have HR := Lib.hid h
  have HT := Lib.hid (text_any _ fs (by omega) w he h)
  obtain ⟨m, hm⟩ : ∃ m, fs.length = m := ⟨_, rfl⟩
  obtain ⟨t, ht⟩ : ∃ t, t = bs s := ⟨_, rfl⟩
  have hsz : t.size = s.length := by rw [ht, bs_size]
  have hdl : t.data.toList = s := by rw [ht, bs_list]
  rw [hm] at h70 HT HR ⊢
  rw [← ht]
  have HM := Lib.hid hm
  have HB := Lib.hid ht
  have HD := Lib.hid hdl
  have HS := Lib.hid hsz
  have ht300 : t.size ≤ 300 := by omega
  have HPL := Lib.hid (fun W (f : Fr [] w W) => planL_any (.slice a m cap) fs (by rw [hm]; omega) W (HR.out.new f))
  have hall : (planB fs = true ∧ txtA fs = textB fs ∧ txtE fs = 0 ∧ ∀ f ∈ fs, f.ok = true) ∨ (planB fs = false ∧ txtA fs = [] ∧ txtE fs = 2) := by
    cases hb : planB fs with
    | true =>
      refine .inl ⟨rfl, by unfold txtA; rw [hb]; rfl, by unfold txtE; rw [hb]; rfl, ?_⟩
      unfold planB allOk at hb
      simp only [Bool.and_eq_true, decide_eq_true_eq] at hb
      exact List.all_eq_true.1 hb.2
    | false => exact .inr ⟨rfl, by unfold txtA; rw [hb]; rfl, by unfold txtE; rw [hb]; rfl⟩
  generalize planB fs = pb at HPL hall
  generalize txtE fs = E at HT hall
  generalize txtA fs = A0 at HT hall
  obtain ⟨A, hA⟩ : ∃ A, A = bs A0 := ⟨_, rfl⟩
  rw [← hA] at HT
  have HALL := Lib.hid (And.intro hA hall)
  clear h he hm ht hsz hdl hA hall
  go_enter Tryd.func3, Tryd.ntmps3
  go_upto_if 40 with (first
    | (go_at_call 8; refine HT.out.mono ?_; rintro e w1 ⟨rfl, f1⟩)
    | (go_at_call 9; refine (HPL.out _ f1).mono ?_; rintro e w2 ⟨rfl, f2⟩))
  have F2 := Lib.hid (f1.step f2)
  clear f1 f2 HT
  go_cut [] from 41 to 66 (fun wc => Fr [] w wc)
  case first =>
    obtain ⟨hA, ⟨hpb, hA0, hE, hall⟩ | ⟨hpb, hA0, hE⟩⟩ := HALL.out
    rotate_left
    · subst hpb
      subst hE
      have e3 : A.toList.isEmpty = true := by rw [hA, hA0, ByteArray.toList_eq, bs_list]; rfl
      have e4 : (A.toList == ([] : List UInt8)) = true := by rw [hA, hA0, ByteArray.toList_eq, bs_list]; rfl
      clear hA hA0
      simp only [Bool.not_false]
      go_wp2
      go_meet
      exact F2.out
    · subst hpb
      subst hE
      subst hA0
      subst hA
      have HO := Lib.hid hall
      clear hall
      simp only [Bool.not_true]
      go_wp2
      go_loopw [9, 10] (fun wv i wr => ∃ k : Nat, i = .int .i64 k ∧ k ≤ m ∧ wv = .string (bs (textB (fs.take k))) ∧ Fr [] w wr) (fun _ i _ => m - (intOf i).toNat)
      case atStart => exact ⟨0, rfl, by omega, rfl, F2.out⟩
      case round =>
        rename_i wr
        obtain ⟨k, rfl, hk, rfl, hF⟩ := hrel
        by_cases hlt : k < m
        · have hx := List.getElem?_eq_getElem (l := fs) (i := k) (by rw [HM.out]; exact hlt)
          obtain ⟨x, hxe⟩ : ∃ x, fs[k]'(by rw [HM.out]; exact hlt) = x := ⟨_, rfl⟩
          rw [hxe] at hx
          have hxok := HO.out x (List.mem_of_getElem? hx)
          rcases HR.out.new hF with ⟨h1, _⟩ | ⟨g, off, cap', hv, hg, hcells⟩
          · rw [h1] at hx
            simp at hx
          rw [HM.out] at hv
          simp only [Value.slice.injEq] at hv
          obtain ⟨rfl, _, rfl⟩ := hv
          obtain ⟨c0, c1, c2, c3, c4⟩ := hcells k x hx
          have htk : textB (fs.take (k + 1)) = textB (fs.take k) ++ lineB x := by
            rw [List.take_add_one, hx, textB_app]
            simp [textB]
          have hmx := text_max (fs.take k) (fun f hf => HO.out f (List.mem_of_mem_take hf))
          rw [List.length_take] at hmx
          have hlx := line_max hxok
          have hz : ¬ 9223372036854775807 < (bs (textB (fs.take k))).size + (bs (lineB x)).size := by rw [bs_size, bs_size]; omega
          have HL := Lib.hid (fun W => lineL_any x hxok W)
          simp only [ftV] at HL
          have k0 : (0 : Int) ≤ (k : Int) := Int.natCast_nonneg _
          have k1 : (k : Int) < (m : Int) := by omega
          have HTk := Lib.hid htk
          have HF := Lib.hid hF
          clear hx hcells htk hmx hlx hF hxok hxe
          go_wp2_with (go_at_call 10; (with_reducible refine (HL.out _).mono ?_); rintro e w3 ⟨rfl, f3⟩)
          go_roundw
          case rel => exact ⟨k + 1, by go_num, by omega, by rw [HTk.out, ← bs_append], HF.out.step f3⟩
          case measure => simp [intOf]; omega
        · have hkm : k = m := by omega
          subst hkm
          have ht : fs.take k = fs := List.take_of_length_le (by rw [HM.out]; omega)
          rw [ht]
          have HF := Lib.hid hF
          clear hF ht hlt
          go_wp2
          go_meet
          exact HF.out
  case rest =>
    have FC := Lib.hid hcut
    clear hcut F2
    by_cases h65 : many = 65
    · subst h65
      go_wp2
      go_loop [11, 12] (fun lv i => ∃ k : Nat, k ≤ 64 ∧ i = .int .i64 k ∧ lv = .string (bs (textB (cuts k)))) (fun _ i => 64 - (intOf i).toNat)
      case atStart => exact ⟨0, by omega, rfl, rfl⟩
      case round =>
        obtain ⟨k, hk, rfl, rfl⟩ := hrel
        by_cases hlt : k < 64
        · have hl := cuts_len k
          rw [← bs_size] at hl
          have hz : ¬ 9223372036854775807 < (bs (textB (cuts k))).size + 13 := by omega
          have hI : (k : Int) < 64 := by omega
          have hc := cuts_succ k
          have HC := Lib.hid hc
          clear hl hc
          go_wp2
          go_round
          case rel => exact ⟨k + 1, by omega, by go_num, by rw [HC.out, ← bs_append] <;> rfl⟩
          case measure => simp [intOf]; omega
        · have hk64 : k = 64 := by omega
          subst hk64
          have hl := cuts_len 64
          have HP1 := Lib.hid (fun W (f : Fr [] w W) => parse_any (textB (cuts 64)) (by omega) W (HE.out.new f))
          have HP2 := Lib.hid (fun W (f : Fr [] w W) => parse_any (textB (cuts 64) ++ [120]) (by rw [List.length_append]; simp; omega) W (HE.out.new f))
          rw [cuts_parse] at HP1
          rw [cuts_over, ← bs_append, show bs [120] = ⟨#[120]⟩ from rfl] at HP2
          rw [← bs_size] at hl
          obtain ⟨T, hT⟩ : ∃ T, T = bs (textB (cuts 64)) := ⟨_, rfl⟩
          rw [← hT] at HP1 HP2 hl ⊢
          have hz : ¬ 9223372036854775807 < T.size + 1 := by omega
          clear hT hl hlt
          go_wp2_with fail
          refine (HP1.out _ FC.out).mono ?_
          rintro e w3 ⟨v3, rfl, r3, f3⟩
          obtain ⟨a3, c3, rfl⟩ := r3.val
          have F3 := Lib.hid (FC.out.step f3)
          clear r3 f3
          simp only [show (cuts 64).length = 64 from rfl]
          go_wp2_with fail
          refine (HP2.out _ F3.out).mono ?_
          rintro e w4 ⟨v4, rfl, r4, f4⟩
          obtain ⟨a4, c4, rfl⟩ := r4.val
          have F4 := Lib.hid (F3.out.step f4)
          clear r4 f4
          simp only [List.length_nil]
          go_wp2_with fail
          refine (known_any w4 (HE.out.new F4.out)).mono ?_
          rintro e w5 ⟨rfl, f5⟩
          go_wp2_with fail
          go_ret
          exact ⟨rfl, F4.out.step f5⟩
    · have h65' : (many == 65) = false := by rw [beq_eq_false_iff_ne]; exact h65
      clear h65
      have hq := parse_any s (by omega) wc (HE.out.new FC.out)
      have hpr := parse_ref s [] [] (by simp; omega) (by simp)
      rw [← HB.out] at hq
      generalize parseP (linesGo [] s) [] = y at hq hpr
      obtain ⟨yl, ye⟩ := y
      go_wp2_with fail
      refine hq.mono ?_
      clear hq
      rintro e w3 ⟨v5, rfl, r5, f3⟩
      simp only at r5
      obtain ⟨a5, c5, rfl⟩ := r5.val
      obtain ⟨L5, hL5⟩ : ∃ L5, yl.length = L5 := ⟨_, rfl⟩
      rw [hL5] at r5 ⊢
      have F3 := Lib.hid (FC.out.step f3)
      have R5 := Lib.hid r5
      have HL5 := Lib.hid hL5
      have HPR := Lib.hid hpr
      have hat : ∀ (k : Nat) (h : k < t.size), s[k]? = some t[k] := fun k h => by
        rw [← HD.out, List.getElem?_eq_getElem (by simpa using h)]
        rfl
      have hex : ∀ (k : Nat) (h : k < t.size), t.extract k (k + 1) = bs [t[k]] := fun k h => by
        rw [← bs_of (t.extract k (k + 1))]
        congr 1
        have h1 := hat k h
        rw [show (t.extract k (k + 1)).data.toList = (t.data.toList.drop k).take 1 from by
          rw [ByteArray.data_extract, Array.toList_extract]
          simp [List.extract], HD.out]
        have hks : k < s.length := by rw [← HS.out]; exact h
        rw [List.getElem?_eq_getElem hks] at h1
        simp only [Option.some.injEq] at h1
        rw [List.drop_eq_getElem_cons hks, h1]
        simp
      have hfail : refGo [] s [] = none → ((L5 : Int) == 0) = true ∧ (ye == 6) = true := fun h => by
        have := HPR.out
        rw [h] at this
        simp only [Prod.mk.injEq] at this
        obtain ⟨h1, h2⟩ := this
        have h3 := HL5.out
        rw [h1] at h3
        exact ⟨by rw [beq_iff_eq, ← h3]; rfl, by rw [h2]; rfl⟩
      have HA := Lib.hid hat
      have HX := Lib.hid hex
      have HFl := Lib.hid hfail
      obtain ⟨i0, hi, hz0, hz1, hz2⟩ := info_parts infoFt
      clear r5 f3 hL5 hpr hat hex hfail
      go_wp2
      go_loopw [19, 20, 21] (fun wv tv i wr => ∃ (k : Nat) (cur : List UInt8) (fw : List Ft), i = .int .i64 k ∧ k ≤ t.size ∧ tv = .string (bs cur) ∧ cur.length ≤ k ∧ refGo [] s [] = refGo cur (s.drop k) fw ∧ fw.length ≤ k ∧
          wr.ownsRow w3.heap.size 32 5 wv fw.length (ftCells fw) ∧ Fr [] w3 wr) (fun _ _ i _ => t.size - (intOf i).toNat)
      case atStart => exact ⟨0, [], [], rfl, Nat.zero_le _, rfl, by simp, by simp, by simp, World.ownsRow_nil _ _ _ _, Fr.refl _ _⟩
      case round =>
        rename_i wr
        obtain ⟨k, cur, fw, rfl, hk, rfl, hck, hs, hfk, hown, hF3⟩ := hrel
        have hF := F3.out.step hF3
        have hR5 := R5.out.new hF3
        have HF3 := Lib.hid hF3
        obtain ⟨aw, cw, rfl⟩ := row_val hown
        by_cases hlt : k < t.size
        · have hc := HA.out k hlt
          have hdr : s.drop k = t[k] :: s.drop (k + 1) := by
            have hks : k < s.length := by rw [← HS.out]; exact hlt
            rw [List.getElem?_eq_getElem hks] at hc
            simp only [Option.some.injEq] at hc
            rw [List.drop_eq_getElem_cons hks, hc]
          rw [hdr] at hs
          have he := HX.out k hlt
          have e3 : IntKind.i64.wrap ((k : Int) + 1) = (k : Int) + 1 := IntWalk.i64_in _ (by omega)
          have e4 : (0 : Int) ≤ (k : Int) := Int.natCast_nonneg _
          have e5 : (k : Int) + 1 ≤ (t.size : Int) := by omega
          have e6 : (0 : Int) ≤ (k : Int) + 1 := by omega
          have e7 : ((k : Int) + 1).toNat = k + 1 := by omega
          have hcm : (t[k].toNat : Int) < 256 := by have := t[k].toNat_lt; omega
          have HO := Lib.hid hown
          have HF := Lib.hid hF
          have HSp := Lib.hid hs
          clear hc hdr hs hown hF hR5 hF3
          by_cases h10 : t[k] = 10
          · have hb : ((t[k].toNat : Int) == 10) = true := by rw [h10]; rfl
            have hb' : ((t[k].toNat : Int) != 10) = false := by rw [h10]; rfl
            have HRd := Lib.hid (readL_any cur (by omega) wr)
            have hsr : refGo [] s [] = match readR cur with
                | none => none
                | some x => refGo [] (s.drop (k + 1)) (fw ++ [x]) := by
              rw [HSp.out, h10]
              exact refGo_10 _ _ _
            cases hrd : readR cur with
            | none =>
              rw [hrd] at HRd hsr
              simp only at hsr
              obtain ⟨q1, q2⟩ := HFl.out hsr
              simp only [ftV, Option.isSome_none] at HRd
              clear hsr hrd h10 he
              go_wp2_with (first
                | (go_at_call 12; (with_reducible refine (HRd.out).mono ?_); rintro e w7 ⟨f, rfl, -, f7⟩)
                | (go_at_call 7; refine (known_any _ (HE.out.new ((HF.out.step f7).alloc _))).mono ?_; rintro e w9 ⟨rfl, f9⟩))
              go_ret
              exact ⟨rfl, ((HF.out.step f7).alloc _).step f9⟩
            | some x =>
              rw [hrd] at HRd hsr
              simp only at hsr
              simp only [ftV, Option.isSome_some] at HRd
              have HSr := Lib.hid hsr
              have hfw : fw.length ≤ 300 := by omega
              obtain ⟨nf, hnf⟩ : ∃ nf, fw.length = nf := ⟨_, rfl⟩
              rw [hnf] at HO hfw ⊢
              have HNf := Lib.hid hnf
              clear hsr hrd h10 he hnf
              go_wp2_with (first
                | (go_at_call 12; (with_reducible refine (HRd.out).mono ?_); rintro e w7 ⟨f, rfl, hfx, f7⟩; have HFX := Lib.hid hfx; clear hfx; have gA : Fr [] wr (w7.alloc (.cells #[.int .i64 f.k, .int .i64 f.c, .int .i64 f.d, .int .i64 f.a, .int .i64 f.g] 32)) := f7.alloc _)
                | (at_builtin; refine wpList_append_own _ rfl _ _ 22 rfl w3.heap.size 32 i0 _ 5 40 Tryd.underlying22 hi hz0 hz1 hz2 rfl (by omega) _ _ _ rfl (row_fr HO.out (gA.alloc _)) ⟨w7.heap.size + 1, 0, none⟩ 1 1 [.int .i64 f.k, .int .i64 f.c, .int .i64 f.d, .int .i64 f.a, .int .i64 f.g] rfl rfl (cells5_new _ _ _ (by simp)) (cells5_one f) (by unfold maxLen; omega) (by omega) (by have h1 := gA.size; have h2 := HF3.out.size; simp at h1 ⊢; omega) ?_; intro v' w8 hown' hgrow hnil; have HO8 := Lib.hid hown'; have HG8 := Lib.hid (show World.grownBy _ w8 (Value.slice aw nf cw).ownBlock from hgrow); clear hown' hgrow hnil))
              go_roundw
              case rel =>
                have hfx := HFX.out x rfl
                subst hfx
                have hlt' := (row_fr HO.out (gA.alloc (.cells #[.int .i64 f.k, .int .i64 f.c, .int .i64 f.d, .int .i64 f.a, .int .i64 f.g] 32))).lt
                have f8 := (HF3.out.step (gA.alloc (.cells #[.int .i64 f.k, .int .i64 f.c, .int .i64 f.d, .int .i64 f.a, .int .i64 f.g] 32))).trans (grownFr (S := (Value.slice aw nf cw).ownBlock.toList) HG8.out (fun q e => by rw [e]; simp)) (fun q hq hl => by
                  have := hlt' q (by simpa using hq)
                  omega)
                refine ⟨k + 1, [], fw ++ [f], by go_num, by omega, rfl, by simp, HSr.out, by rw [List.length_append]; simp only [List.length_cons, List.length_nil]; omega, ?_, f8⟩
                rw [ftCells_app, List.length_append, HNf.out]
                exact HO8.out
              case measure => simp [intOf]; omega
          · have hb : ((t[k].toNat : Int) == 10) = false := by
              rw [beq_eq_false_iff_ne]
              intro e
              exact h10 (UInt8.toNat_inj.1 (by have : (10 : UInt8).toNat = 10 := rfl; omega))
            have hb' : ((t[k].toNat : Int) != 10) = true := by simpa using hb
            have hz : ¬ 9223372036854775807 < (bs cur).size + (bs [t[k]]).size := by rw [bs_size, bs_size]; simp; omega
            have H10 := Lib.hid h10
            clear h10
            go_wp2
            go_roundw
            case rel => exact ⟨k + 1, cur ++ [t[k]], fw, by go_num, by omega, by rw [bs_append], by simp; omega, by rw [HSp.out, refGo_n H10.out], by omega, HO.out, HF3.out⟩
            case measure => simp [intOf]; omega
        · have hkm : k = t.size := by omega
          have hd : s.drop k = [] := List.drop_eq_nil_of_le (by have := HS.out; omega)
          rw [hd, refGo] at hs
          have HKN := Lib.hid (fun W (f : Fr [] wr W) => known_any W (HE.out.new (hF.step f)))
          have HF := Lib.hid hF
          cases cur with
          | cons b r =>
            rw [if_neg (by simp)] at hs
            obtain ⟨q1, q2⟩ := HFl.out hs
            have e3 : (bs (b :: r)).toList.isEmpty = false := by rw [ByteArray.toList_eq, bs_list]; rfl
            have e4 : ((bs (b :: r)).toList == ([] : List UInt8)) = false := by rw [ByteArray.toList_eq, bs_list]; rfl
            clear hs hown hF hd hlt hR5 hF3
            go_wp2_with (go_at_call 7; refine (HKN.out _ (Fr.refl [] wr)).mono ?_; rintro e w9 ⟨rfl, f9⟩)
            go_ret
            exact ⟨rfl, HF.out.step f9⟩
          | nil =>
            rw [if_pos rfl] at hs
            have hpr := HPR.out
            rw [hs] at hpr
            simp only [Prod.mk.injEq] at hpr
            obtain ⟨hy, he0⟩ := hpr
            subst he0
            have hsm := same_any (.slice a5 L5 c5) (.slice aw fw.length cw) yl fw (by rw [hy]; omega) (by omega) wr hR5 (FtRow.of hown).1
            rw [decide_eq_true hy] at hsm
            have HSm := Lib.hid hsm
            have e3 : (bs []).toList.isEmpty = true := by rw [ByteArray.toList_eq, bs_list]; rfl
            have e4 : ((bs []).toList == ([] : List UInt8)) = true := by rw [ByteArray.toList_eq, bs_list]; rfl
            clear hs hown hF hd hlt hR5 hsm hF3
            go_wp2_with (first
              | (go_at_call 13; refine (HSm.out).mono ?_; rintro e w8 ⟨rfl, f8⟩)
              | (go_at_call 7; refine (HKN.out _ f8).mono ?_; rintro e w9 ⟨rfl, f9⟩))
            go_ret
            exact ⟨rfl, (HF.out.step f8).step f9⟩
end Go.Proofs.YtededfkenlhokaaDoor
