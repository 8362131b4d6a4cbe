/- Report: lines at api.Blocked, walked. -/
import Derived.Test.YtllmejkcohfbiaaGreatDoorR18Bk
namespace Go.Proofs.YtllmejkcohfbiaaGreatDoor
open Go.RowKit Go.Shelf Go.Sort Go.Lib
set_option linter.unusedVariables false
set_option linter.unusedSimpArgs false
set_option maxRecDepth 100000
set_option maxHeartbeats 8000000

attribute [local go_sem] Oper.semAt_some
theorem bkLines_any (rdf : List UInt8 → Bk) (s : List UInt8) (hs : s.length ≤ 100000) (w : World) (ht : Tab w)
    (hR : ∀ x ∈ linesGo [] s, ∀ W, Fr [] w W → Calls Tryz.prog 60 #[.string (bs (Lib.trimSuffix x [10]))] W fun e w' => e = .returned (bkV (rdf (Lib.trimSuffix x [10]))) ∧ Fr [] W w')
    (hwf : ∀ x ∈ linesGo [] s, (rdf (Lib.trimSuffix x [10])).wf) :
    Calls Tryz.prog 59 #[.string (bs s), .func (.func 60) #[] #[], .func (.func 57) #[] #[], .func (.func 58) #[] #[]] w (BkPost w (parseL (rdOf rdf Bk.ok bkB) (linesGo [] s) [])) := by
  have HR := Lib.hid hR
  have HWF := Lib.hid hwf
  have HS := Lib.hid hs
  have HT := Lib.hid ht
  obtain ⟨rd, hrd⟩ : ∃ rd, rdOf rdf Bk.ok bkB = rd := ⟨_, rfl⟩
  rw [hrd]
  have HRD := Lib.hid hrd
  clear hR hwf ht hrd
  obtain ⟨i0, hi, hz0, hz1, hz2⟩ := info_parts infoBk
  refine (callsIn_wide (n := 6)).1 ?_
  refine callsIn_of_wp_marks Tryz.func59 rfl trivial ?_ rfl
  simp only [Tryz.ntmps59, List.size_toArray, List.length_cons, List.length_nil, Nat.reduceAdd, Nat.reduceSub, Array.replicate_succ, Array.replicate_zero, List.push_toArray, List.append_toArray, List.nil_append, List.cons_append]
  gi_wp2_with (refine ⟨trivial, ?_⟩; gi_at_call 93; refine (callsIn_wide.2 (lines_any _ _)).mono ?_; rintro e w1 ⟨rfl, rfl⟩)
  obtain ⟨N, hN⟩ : ∃ N, w.heap.size = N := ⟨_, rfl⟩
  have hPI := own_BkI rd w
  have hPX := own_BkX rd w
  obtain ⟨W0, hW0⟩ : ∃ W0, ((((((w.alloc (.cells #[.func (.func 60) #[] #[]] 127)).alloc (.cells #[.func (.func 57) #[] #[]] 124)).alloc (.cells #[.func (.func 58) #[] #[]] 125)).alloc (.cells #[.slice none 0 0] 54)).alloc (.cells #[.int .i64 0] 3)).alloc (.cells #[.int .i64 0] 28)).alloc (.cells #[.string (bs s)] 9) = W0 := ⟨_, rfl⟩
  obtain ⟨hz, fr0, q8, q9, qa, q1, q2, q3, hX0⟩ := allocs7 w _ _ _ _ _ _ _ W0 hW0
  rw [hN] at hz q8 q9 qa q1 q2 q3 hX0
  simp only [hN] at hPI hPX ⊢
  rw [hW0]
  clear hW0
  have h0 : BkI rd w N [] W0 := ⟨[], .slice none 0 0, SoFar.start rd, W0.ownsRow_nil _ _ _, q1, q2, q3, q8, q9, qa, fr0, by omega⟩
  have HX0 := Lib.hid hX0
  have HPI := Lib.hid hPI
  have HPX := Lib.hid hPX
  have HN := Lib.hid hN
  have HZ := Lib.hid hz
  clear hX0 q1 q2 q3 q8 q9 qa hPI hPX fr0
  refine range_box (X := N + 6) (encs := fun x => #[.string (bs x)]) rfl (by omega) (gf := 117) (lb := #[.pointer (some ⟨N + 6, 0, none⟩)]) rfl trivial (enters_of Tryz.func117 (by kernel_rfl) rfl)
    (lines_seq 5 (by omega) (N + 6) s (by omega) W0 HX0.out (by omega)) (Below.refl _ _) (by omega) (fun _ => rfl) (BkI rd w N) (BkX rd w N) (by rw [hz]; exact HPI.out) (by rw [hz]; exact HPX.out) h0
    (fun x => { tmps := #[.string (bs s), .func (.func 60) #[] #[], .func (.func 57) #[] #[], .func (.func 58) #[] #[], undef, .pointer (some ⟨N, 0, none⟩), .pointer (some ⟨N + 1, 0, none⟩), .pointer (some ⟨N + 1 + 1, 0, none⟩), .pointer (some ⟨N + 1 + 1 + 1, 0, none⟩), .pointer (some ⟨N + 1 + 1 + 1 + 1, 0, none⟩), .pointer (some ⟨N + 1 + 1 + 1 + 1 + 1, 0, none⟩), .string (bs x), undef, .string (bs s), .func (.func 117) #[] #[.pointer (some ⟨N + 6, 0, none⟩)], .string (bs x), undef, undef, undef, undef, undef, undef, undef, undef, undef, undef, undef, undef, undef, undef, undef, undef, undef, undef, undef, undef, undef, undef, undef, undef, undef, undef, undef, undef], defers := [] }) ?assign ?body ?done ?stop
  case assign =>
    intro l x W K hK
    simp
    gi_wp2
    exact hK
  case body =>
    intro l pre x W ⟨fs, v, h1, h2, h3, h4, h5, h8, h9, ha, h6, hWN⟩ hG
    have hmem : x ∈ linesGo [] s := hG.subset (by simp)
    have hrd := fun W' (f : Fr [] W W') => HR.out x hmem W' (h6.step f)
    have hfw := HWF.out x hmem
    have htr := fun W' => (show Calls Tryz.prog 94 #[.string (bs x), .string ⟨#[10]⟩] W' fun e w' => e = .returned (.string (bs (Lib.trimSuffix x [10]))) ∧ w' = W' from by
      have h := Tryz.strings_TrimSuffix (bs x) ⟨#[10]⟩ W' (by
        have := lines_len s [] x hmem
        simp only [List.length_nil] at this
        have := HS.out
        rw [bs_size]
        omega)
      rw [bs_list] at h
      exact h)
    have hxl : x.length ≤ 100000 := by
      have := lines_len s [] x hmem
      simp only [List.length_nil] at this
      have := HS.out
      omega
    obtain ⟨tx, htx⟩ : ∃ tx, Lib.trimSuffix x [10] = tx := ⟨_, rfl⟩
    rw [htx] at hrd hfw htr
    have hrx : rd x = if (rdf tx).ok = true ∧ bkB (rdf tx) = x then some (rdf tx) else none := by rw [← HRD.out]; unfold rdOf; rw [htx]
    obtain ⟨f, hf⟩ : ∃ f, rdf tx = f := ⟨_, rfl⟩
    rw [hf] at hrd hfw hrx
    simp only [bkV] at hrd
    have HRF := Lib.hid hrd
    have HTR := Lib.hid htr
    have HRX := Lib.hid hrx
    have HFW := Lib.hid hfw
    obtain ⟨a, cap, rfl⟩ : ∃ a c, v = .slice a fs.length c := row_val h2
    have H1 := Lib.hid h1
    have H2 := Lib.hid h2
    have H3 := Lib.hid h3
    have H4 := Lib.hid h4
    have H5 := Lib.hid h5
    have H6 := Lib.hid h6
    have H8 := Lib.hid h8
    have H9 := Lib.hid h9
    have HA := Lib.hid ha
    obtain ⟨m, hm⟩ : ∃ m, fs.length = m := ⟨_, rfl⟩
    have hm64 : m ≤ 1000 := by rw [← hm]; exact h1.2
    rw [hm] at H2 H3
    have HM := Lib.hid hm
    have hmx : Tryz.prog.follows .mixedOrders = true := by kernel_rfl
    have d8 := (boxed_keep H8.out (Fr.refl [] W).drew (by simp)).cell
    have d8' := (boxed_keep H8.out ((Fr.refl [] W).alloc (.cells #[.int .i64 0, .int .i64 0, .int .u64 0] 67)) (by simp)).cell
    have MD := Lib.hid (show BkAt (W.alloc (.cells #[.int .i64 0, .int .i64 0, .int .u64 0] 67)).drew W.heap.size ⟨0, 0, 0⟩ from BkAt.made W ⟨0, 0, 0⟩)
    clear hrd hrx hfw htr h1 h2 h3 h4 h5 h6 h8 h9 ha hG hm h0 hmem htx hf
    rw [HZ.out]
    gi_wp2
    gi_cut [12] from 16 (fun s12 wc => ∃ B, s12 = .pointer (some ⟨B, 0, none⟩) ∧ BkAt wc B f ∧ Fr [] W wc ∧ W.heap.size ≤ B)
    case first =>
      gi_region_with_o (first
        | ((first | refine ⟨trivial, ?_⟩ | skip); gi_at_call 94; refine (CallsIn.inRound l (callsIn_wide.2 (HTR.out _))).mono ?_; rintro e w' ⟨rfl, rfl⟩)
        | ((first | refine ⟨trivial, ?_⟩ | skip); gi_at_call 60; refine (CallsIn.inRound l (callsIn_wide.2 (HRF.out _ (by first | exact (Fr.refl [] W).drew | exact ((Fr.refl [] W).alloc _).drew)))).mono ?_; rintro e w1 ⟨rfl, g1⟩; (try have XB := MD.out.keep g1 (by simp)); (try have GB := Fr.step (((Fr.refl [] W).alloc (.cells #[.int .i64 0, .int .i64 0, .int .u64 0] 67)).drew) g1); (try have GA := Fr.step (Fr.refl [] W).drew g1); (try have XB0 := XB.c0; have XB1 := XB.c1; have XB2 := XB.c2; have XBz := XB.fz)))
      all_goals gi_wp2
      all_goals gi_meet
      case' rel => skip
      all_goals first
        | exact ⟨_, rfl, BkAt.made _ f, GA.alloc _, GA.size⟩
        | exact ⟨_, rfl, XB.setAll f, (((GB).setCell (fun h => absurd h (Nat.lt_irrefl _)) _).setCell (fun h => absurd h (Nat.lt_irrefl _)) _).setCell (fun h => absurd h (Nat.lt_irrefl _)) _, Nat.le_refl _⟩
    case rest =>
      obtain ⟨B, rfl, hx0, g0, hB⟩ := hcut
      have X0 := Lib.hid hx0
      have G0 := Lib.hid g0
      have c8 := (boxed_keep H3.out g0 (by simp)).cell
      have z8 := (boxed_keep H3.out g0 (by simp)).frozen
      have c9 := (boxed_keep H4.out g0 (by simp)).cell
      have z9 := (boxed_keep H4.out g0 (by simp)).frozen
      have c10 := (boxed_keep H5.out g0 (by simp)).cell
      have z10 := (boxed_keep H5.out g0 (by simp)).frozen
      clear hx0 g0 d8 d8' MD HRF HTR
      by_cases h64 : m = 1000
      · subst h64
        gi_wp2
        exact bk_ret HN.out (fun rest => H1.out.full HM.out x rest) H4.out H5.out H3.out H6.out hWN G0.out
      have h64' : ((m : Int) == 1000) = false := by rw [beq_eq_false_iff_ne]; omega
      have c6 := (boxed_keep H9.out G0.out (by simp)).cell
      have xc0 := X0.out.c0
      have xc1 := X0.out.c1
      have xc2 := X0.out.c2
      cases hok : f.ok with
      | false =>
        have hn : rd x = none := by rw [HRX.out, hok]; rfl
        have HV := Lib.hid (fun W' => bkValidC f W')
        rw [hok] at HV
        have HN2 := Lib.hid hn
        clear hok hn
        gi_wp2_with (first | (refine ⟨fun _ h => (by cases h), ?_⟩; go_at_K) | (refine ⟨trivial, ?_⟩; gi_at_call 57; refine (CallsIn.inRound l (callsIn_wide.2 (HV.out _))).mono ?_; rintro e w2 ⟨rfl, g2⟩; have GG := G0.out.step g2; have e8 := (boxed_keep H3.out GG (by simp)).cell; have y8 := (boxed_keep H3.out GG (by simp)).frozen; have e9 := (boxed_keep H4.out GG (by simp)).cell; have y9 := (boxed_keep H4.out GG (by simp)).frozen; have e10 := (boxed_keep H5.out GG (by simp)).cell; have y10 := (boxed_keep H5.out GG (by simp)).frozen))
        have hret := bk_ret (a := ⟨#[], []⟩) HN.out (fun rest => H1.out.bad (by rw [HM.out]; exact h64) HN2.out rest) H4.out H5.out H3.out H6.out hWN GG
        rw [HM.out] at hret
        exact hret
      | true =>
        have HV := Lib.hid (fun W' => bkValidC f W')
        rw [hok] at HV
        have HLI := Lib.hid (fun W' (g : Fr [] W W') => bkLineC f HFW.out hok W' (tab_new HT.out (H6.out.step g)))
        by_cases hln : bkB f = x
        · have hn : rd x = some f := by rw [HRX.out, hok, if_pos ⟨rfl, hln⟩]
          have HN2 := Lib.hid hn
          rw [hln] at HLI
          clear hok hn hln
          gi_wp2_with (first
            | (refine ⟨trivial, ?_⟩; gi_at_call 57; refine (CallsIn.inRound l (callsIn_wide.2 (HV.out _))).mono ?_; rintro e w2 ⟨rfl, g2⟩; have GG := G0.out.step g2; have c7 := (boxed_keep HA.out GG (by simp)).cell; have X2 := X0.out.keep g2 (by simp); have xd0 := X2.c0; have xd1 := X2.c1; have xd2 := X2.c2)
            | (refine ⟨trivial, ?_⟩; gi_at_call 58; refine (CallsIn.inRound l (callsIn_wide.2 (HLI.out _ GG))).mono ?_; rintro e w3 ⟨rfl, g3⟩; have GH := GG.step g3; have e8 := (boxed_keep H3.out GH (by simp)).cell; have y8 := (boxed_keep H3.out GH (by simp)).frozen; have X3 := X2.keep g3 (by simp); have xe0 := X3.c0; have xe1 := X3.c1; have xe2 := X3.c2; have GI := GH.alloc (.cells #[.int .i64 f.t, .int .i64 f.why, .int .u64 f.till] 67); have i8 := (boxed_keep H3.out GI (by simp)).cell; have k8 := (boxed_keep H3.out GI (by simp)).frozen)
            | (gi_at_builtin; refine wpListIn_append_own _ rfl _ _ 54 rfl (N + 7) 67 i0 _ 3 24 Tryz.underlying54 hi hz0 hz1 hz2 rfl (by omega) _ _ _ rfl (row_fr H2.out GI) ⟨w3.heap.size, 0, none⟩ 1 1 (bkVals f) rfl rfl (bkVals_new w3 f) (bkVals_one f) (by unfold maxLen; omega) (by omega) (by have := GI.size; omega) ?_; intro v' w4 hown' hgrow hnil; obtain ⟨a', cap', rfl⟩ := row_val' hown'; have r2 := row_fr H2.out GI; have b3 := grown_box' (boxed_keep H3.out GI (by simp)) r2 (by omega) hgrow; have e4 := b3.cell; have y4 := b3.frozen; have HGR := Lib.hid hgrow; have HOW := Lib.hid hown'; clear hgrow hown' hnil r2 b3))
          exact bk_more HM.out HN.out H1.out h64 HN2.out H2.out H3.out H4.out H5.out H8.out H9.out HA.out H6.out hWN GI HGR.out HOW.out
        · have hn : rd x = none := by rw [HRX.out, if_neg (fun h => hln h.2)]
          have HN2 := Lib.hid hn
          have hne : ((bs (bkB f)).toList == (bs x).toList) = false := by rw [toList_bs, toList_bs, beq_eq_false_iff_ne]; exact hln
          clear hok hn hln
          gi_wp2_with (first
            | (refine ⟨trivial, ?_⟩; gi_at_call 57; refine (CallsIn.inRound l (callsIn_wide.2 (HV.out _))).mono ?_; rintro e w2 ⟨rfl, g2⟩; have GG := G0.out.step g2; have c7 := (boxed_keep HA.out GG (by simp)).cell; have X2 := X0.out.keep g2 (by simp); have xd0 := X2.c0; have xd1 := X2.c1; have xd2 := X2.c2)
            | (refine ⟨trivial, ?_⟩; gi_at_call 58; refine (CallsIn.inRound l (callsIn_wide.2 (HLI.out _ GG))).mono ?_; rintro e w3 ⟨rfl, g3⟩; have GH := GG.step g3; have e8 := (boxed_keep H3.out GH (by simp)).cell; have y8 := (boxed_keep H3.out GH (by simp)).frozen; have e9 := (boxed_keep H4.out GH (by simp)).cell; have y9 := (boxed_keep H4.out GH (by simp)).frozen; have e10 := (boxed_keep H5.out GH (by simp)).cell; have y10 := (boxed_keep H5.out GH (by simp)).frozen))
          have hret := bk_ret (a := ⟨#[], []⟩) HN.out (fun rest => H1.out.bad (by rw [HM.out]; exact h64) HN2.out rest) H4.out H5.out H3.out H6.out hWN GH
          rw [HM.out] at hret
          exact hret
  case done =>
    intro D xs W hD hxs ⟨fs, v, h1, h2, h3, h4, h5, h8, h9, ha, h6, h7⟩ hK
    obtain ⟨a, cap, rfl⟩ := row_val h2
    have hy : parseL rd (linesGo [] s) [] = (fs, 0, 0) := by
      have := h1.1 []
      rw [List.append_nil, hxs] at this
      rw [this]
      rfl
    have HY := Lib.hid hy
    have hlt : ∀ g off n c, Value.slice a fs.length cap = .slice (some ⟨g, off, none⟩) n c → g ≠ D ∧ N + 7 ≤ g := by
      intro g off n c e
      have h8 := (BkRow.of h2).2 g off n c e
      refine ⟨?_, h8⟩
      rintro rfl
      have hr := h2.2
      rcases hr with ⟨e', _⟩ | ⟨g', cap', cur, e', _, hgb, _⟩
      · rw [e'] at e
        cases e
      · rw [e'] at e
        cases e
        rw [hK] at hgb
        cases hgb
    have hrow := (BkRow.of h2).1
    have c8 := h3.cell
    have z8 := h3.frozen
    have c9 := h4.cell
    have z9 := h4.frozen
    have c10 := h5.cell
    have z10 := h5.frozen
    rw [hz] at hD
    have H2 := Lib.hid hrow
    have H3 := Lib.hid h3
    have H4 := Lib.hid h4
    have H5 := Lib.hid h5
    have H6 := Lib.hid h6
    have HK := Lib.hid hK
    have HL := Lib.hid hlt
    clear h1 h2 h3 h4 h5 h6 hK hlt hy hxs hrow h0 h8 h9 ha
    gi_wp2
    rw [HY.out]
    have f7 : Fr [N + 1 + 1 + 1, N + 1 + 1 + 1 + 1, N + 1 + 1 + 1 + 1 + 1] W (((W.setCell ⟨N + 1 + 1 + 1, 0, none⟩ (.slice a fs.length cap)).setCell ⟨N + 1 + 1 + 1 + 1, 0, none⟩ (.int .i64 0)).setCell ⟨N + 1 + 1 + 1 + 1 + 1, 0, none⟩ (.int .i64 0)) := (((Fr.refl _ _).setCell (fun _ => by simp) _).setCell (fun _ => by simp) _).setCell (fun _ => by simp) _
    exact bkEnd _ (fs, 0, 0) w _ (.slice a fs.length cap) N D rfl rfl rfl ((f7.block D (Array.getElem?_eq_some_iff.1 HK.out).1 (by simp; omega)).trans HK.out) (by omega) (by omega) (((H3.out.set _).other (by omega) _).other (by omega) _) (((H4.out.other (by omega) _).set _).other (by omega) _) (((H5.out.other (by omega) _).other (by omega) _).set _)
      (H2.out.keep f7 (fun g off n c e => by have := (HL.out g off n c e).2; simp; omega)) (fun g off n c e => (HL.out g off n c e).1) (H6.out.trans f7 (fun x hx hl => by simp at hx; omega))
  case stop =>
    intro D pre W hD hp ⟨e, h1, h4, h5, h6, h7⟩ hK
    have hy : parseL rd (linesGo [] s) [] = ([], e, 6) := by
      obtain ⟨rest, hrest⟩ := hp
      rw [← hrest]
      exact h1 rest
    rw [hy]
    rw [hz] at hD
    have H4 := Lib.hid h4
    have H5 := Lib.hid h5
    have H6 := Lib.hid h6
    have H7 := Lib.hid h7
    have HK := Lib.hid hK
    clear h1 h4 h5 h6 h7 hK hy h0
    gi_wp2
    exact bkEnd _ ([], e, 6) w W (.slice none 0 0) N D rfl rfl rfl HK.out (by omega) (by omega) H4.out H5.out H6.out (.inl ⟨rfl, _, _, rfl⟩) (fun g off n c e => by cases e) H7.out
end Go.Proofs.YtllmejkcohfbiaaGreatDoor
