/- Contract of chaos's Parse, walked. -/
import Derived.Test.YtededfkenlhokaaDoorC15
namespace Go.Proofs.YtededfkenlhokaaDoor
open Go.RowKit Go.Shelf
set_option linter.unusedVariables false
set_option maxRecDepth 100000
set_option maxHeartbeats 4000000

theorem others_fr {S : List Nat} {W W' : World} (h : Fr [] W W') : KeepsOthers W W' := ⟨h.size, fun k o hk _ => (h.block k (Array.getElem?_eq_some_iff.1 hk).1 (by simp)).trans hk⟩
theorem row_fr {n k : Nat} {W W' : World} {v : Value} {xs : List Value} {E : TypeId} {sz : Nat} (hs : W.ownsRow n E sz v k xs) (h : Fr [] W W') : W'.ownsRow n E sz v k xs := by
  refine hs.kept (row := none) ⟨h.os, h.tape, h.output, h.size, fun k hk _ => h.block k hk (by simp)⟩ ?_
  rcases hs.2 with ⟨rfl, _⟩ | ⟨g, cap, cur, rfl, _⟩
  · exact .inl rfl
  · exact .inr (by simp [Value.ownBlock])
theorem row_val {n k : Nat} {W : World} {v : Value} {xs : List Value} {E : TypeId} {sz : Nat} (hs : W.ownsRow n E sz v k xs) : ∃ a c, v = .slice a k c := by
  rcases hs.2 with ⟨rfl, rfl⟩ | ⟨g, cap, cur, rfl, _⟩
  · exact ⟨_, _, rfl⟩
  · exact ⟨_, _, rfl⟩
theorem grown_box {n k b : Nat} {W W' : World} {v u : Value} {xs : List Value} {t : TypeId} {sz : Nat} (hb : Boxed W b t u) (hs : W.ownsRow n 32 sz v k xs) (hn : b < n) (hg : W.grownBy W' v.ownBlock) : Boxed W' b t u :=
  hb.kept hg (fun e => by have := hs.lt b e.symm; omega)
theorem cells5_new (w : World) (b : Nat) (f : Ft) (hb : b = w.heap.size) : ∀ j u, [Value.int .i64 f.k, .int .i64 f.c, .int .i64 f.d, .int .i64 f.a, .int .i64 f.g][j]? = some u →
    (w.alloc (.cells #[.int .i64 f.k, .int .i64 f.c, .int .i64 f.d, .int .i64 f.a, .int .i64 f.g] 32)).cell? ((⟨b, 0, none⟩ : Addr).add j) = some u := by
  intro j u hj
  subst hb
  match j with
  | 0 => cases hj; simp [Addr.add]
  | 1 => cases hj; simp [Addr.add]
  | 2 => cases hj; simp [Addr.add]
  | 3 => cases hj; simp [Addr.add]
  | 4 => cases hj; simp [Addr.add]
  | j + 5 => simp at hj
theorem cells5_one (f : Ft) : ∀ u ∈ [Value.int .i64 f.k, .int .i64 f.c, .int .i64 f.d, .int .i64 f.a, .int .i64 f.g], u.oneCell' = true := by
  intro u hu
  simp only [List.mem_cons, List.not_mem_nil, or_false] at hu
  rcases hu with rfl | rfl | rfl | rfl | rfl <;> rfl
theorem pi_ret {w W W2 : World} {N : Nat} {pre : List (List UInt8)} {x : List UInt8} {a : Act} {e : Int} (hw : w.heap.size = N) (he : ∀ rest, parseP ((pre ++ [x]) ++ rest) [] = ([], e)) (h4 : Boxed W N 22 (.slice none 0 0)) (h5 : Boxed W (N + 1) 24 (.int .i64 0)) (h6 : Fr [] w W) (g : Fr [] W W2) :
    boxPost (N + 4) (N + 3) (PI w N) (PX w N) (pre ++ [x]) W .ret a ((W2.setCell ⟨N, 0, none⟩ (.slice none 0 0)).setCell ⟨N + 1, 0, none⟩ (.int .i64 e)) := by
  refine ⟨((others_fr (S := []) g).trans ((KeepsOthers.setCell _ _ _).trans (KeepsOthers.setCell _ _ _))).from _, e, he, ?_, ?_, ?_⟩
  · exact ((boxed_keep h4 g (by simp)).set _).other (by omega) _
  · exact ((boxed_keep h5 g (by simp)).other (by omega) _).set _
  · exact ((h6.step g).setCell (fun h => by simp at h; omega) _).setCell (fun h => by simp at h; omega) _
theorem pi_more {w W W2 W3 : World} {N m : Nat} {pre : List (List UInt8)} {x : List UInt8} {a : Act} {fs : List Ft} {f : Ft} {v v' : Value} (hm : fs.length = m) (hw : w.heap.size = N) (h1 : SoFar pre fs) (h64 : m ≠ 64) (hx : readP x = some f)
    (h2 : W.ownsRow (N + 4) 32 5 v m (ftCells fs)) (h3 : Boxed W (N + 1 + 1) 22 v) (h4 : Boxed W N 22 (.slice none 0 0)) (h5 : Boxed W (N + 1) 24 (.int .i64 0)) (h6 : Fr [] w W) (hX : N + 4 ≤ W.heap.size)
    (g : Fr [] W W2) (hg : W2.grownBy W3 v.ownBlock) (hown : W3.ownsRow (N + 4) 32 5 v' (m + 1) (ftCells fs ++ [.int .i64 f.k, .int .i64 f.c, .int .i64 f.d, .int .i64 f.a, .int .i64 f.g])) :
    boxPost (N + 4) (N + 3) (PI w N) (PX w N) (pre ++ [x]) W .normal a (W3.setCell ⟨N + 1 + 1, 0, none⟩ v') := by
  subst hm
  have h2' := row_fr h2 g
  have hne : ∀ b, b < N + 4 → some b ≠ v.ownBlock := fun b hb e => by have := h2'.lt b e.symm; omega
  have hne' : v'.ownBlock = none ∨ v'.ownBlock ≠ some (N + 1 + 1) := by
    refine .inr (fun e => ?_)
    have := hown.lt _ e
    omega
  have kk : KeepsOthers W2 W3 := KeepsOthers.of_grownBy hg (fun j o hj ho => by
    rcases h2'.2 with ⟨rfl, _⟩ | ⟨g', cap, cur, rfl, _, hgb, _⟩
    · simp [Value.ownBlock] at hj
    · simp [Value.ownBlock] at hj
      subst hj
      rw [hgb] at ho
      cases ho
      rfl)
  have b3 := (boxed_keep h3 g (by simp)).kept hg (hne _ (by omega))
  have b4 := (boxed_keep h4 g (by simp)).kept hg (hne _ (by omega))
  have b5 := (boxed_keep h5 g (by simp)).kept hg (hne _ (by omega))
  have f3 : Fr [] w W3 := (h6.step g).trans (grownFr (S := v.ownBlock.toList) hg (fun k e => by simp [e])) (fun x hx hl => by
    have := h2'.lt x (by simpa using hx)
    omega)
  refine ⟨((others_fr (S := []) g).trans (kk.trans (KeepsOthers.setCell _ _ _))).from _, ?_, fs ++ [f], v', h1.more h64 hx, ?_, b3.set _, b4.other (by omega) _, b5.other (by omega) _, f3.setCell (fun h => by simp at h; omega) _, by have := g.size; have := hg.size; simp [World.setCell]; omega⟩
  · exact ((Below.heap_setCell _ _ _ _ (by simp)).trans (hg.block _ (by have := g.size; omega) (hne _ (by omega)))).trans (g.block _ (by omega) (by simp))
  · have := hown.kept (grownBy_setCell' W3 (N + 1 + 1) v') hne'
    rw [ftCells_app, List.length_append]
    exact this

attribute [local go_sem] Oper.semAt_some
theorem parse_any (s : List UInt8) (hs : s.length ≤ 10000) (w : World) (he : Env w) :
    Calls Tryd.prog 11 #[.string (bs s)] w (ParsePost w (parseP (linesGo [] s) [])) := by
  have HR := Lib.hid (fun (x : List UInt8) (hx : x.length ≤ 10000) W (hf : Fr [] w W) => read_any x hx W (he.new hf))
  have HS := Lib.hid hs
  obtain ⟨i0, hi, hz0, hz1, hz2⟩ := info_parts infoFt
  refine (callsIn_wide (n := 6)).1 ?_
  refine callsIn_of_wp_marks Tryd.func11 rfl trivial ?_ rfl
  simp only [Tryd.ntmps11, List.size_toArray, List.length_cons, List.length_nil, Nat.reduceAdd, Nat.reduceSub, Array.replicate_succ, Array.replicate_zero, List.push_toArray, List.append_toArray, List.nil_append, List.cons_append]
  gi_wp2_with (refine ⟨trivial, ?_⟩; gi_at_call 31; refine (callsIn_wide.2 (lines_any _ _)).mono ?_; rintro e w1 ⟨rfl, rfl⟩)
  obtain ⟨N, hN⟩ : ∃ N, w.heap.size = N := ⟨_, rfl⟩
  have hPI := own_PI w
  have hPX := own_PX w
  obtain ⟨W0, hW0⟩ : ∃ W0, (((w.alloc (.cells #[.slice none 0 0] 22)).alloc (.cells #[.int .i64 0] 24)).alloc (.cells #[.slice none 0 0] 22)).alloc (.cells #[.string (bs s)] 9) = W0 := ⟨_, rfl⟩
  have hz : W0.heap.size = N + 4 := by rw [← hW0, ← hN]; simp
  have fr0 : Fr [] w W0 := by rw [← hW0]; exact ((((Fr.refl [] w).alloc _).alloc _).alloc _).alloc _
  have hX0 : LeftAt W0 (N + 3) s := by
    rw [← hW0, ← hN]
    have := World.alloc_heap_new (((w.alloc (.cells #[.slice none 0 0] 22)).alloc (.cells #[.int .i64 0] 24)).alloc (.cells #[.slice none 0 0] 22)) (.cells #[.string (bs s)] 9)
    rw [show (((w.alloc (.cells #[.slice none 0 0] 22)).alloc (.cells #[.int .i64 0] 24)).alloc (.cells #[.slice none 0 0] 22)).heap.size = w.heap.size + 3 from by simp] at this
    exact this
  have q1 : Boxed W0 N 22 (.slice none 0 0) := by
    rw [← hW0, ← hN]
    exact (((Boxed.new w _ _).alloc _).alloc _).alloc _
  have q2 : Boxed W0 (N + 1) 24 (.int .i64 0) := by
    rw [← hW0, ← hN]
    have := ((Boxed.new (w.alloc (.cells #[.slice none 0 0] 22)) 24 (.int .i64 0)).alloc (.cells #[.slice none 0 0] 22)).alloc (.cells #[.string (bs s)] 9)
    simpa using this
  have q3 : Boxed W0 (N + 1 + 1) 22 (.slice none 0 0) := by
    rw [← hW0, ← hN]
    have := (Boxed.new ((w.alloc (.cells #[.slice none 0 0] 22)).alloc (.cells #[.int .i64 0] 24)) 22 (.slice none 0 0)).alloc (.cells #[.string (bs s)] 9)
    simpa using this
  simp only [hN] at hPI hPX ⊢
  rw [hW0]
  clear hW0
  have h0 : PI w N [] W0 := ⟨[], .slice none 0 0, SoFar.start, W0.ownsRow_nil _ _ _, q3, q1, q2, fr0, by omega⟩
  have HX0 := Lib.hid hX0
  have HPI := Lib.hid hPI
  have HPX := Lib.hid hPX
  have HN := Lib.hid hN
  have HZ := Lib.hid hz
  clear hX0 q1 q2 q3 hPI hPX fr0
  refine range_box (X := N + 3) (encs := fun x => #[.string (bs x)]) rfl (by omega) (gf := 52) (lb := #[.pointer (some ⟨N + 3, 0, none⟩)]) rfl trivial (enters_of Tryd.func52 (by kernel_rfl) rfl)
    (lines_seq 5 (by omega) (N + 3) s (by omega) W0 HX0.out (by omega)) (Below.refl _ _) (by omega) (fun _ => rfl) (PI w N) (PX w N) (by rw [hz]; exact HPI.out) (by rw [hz]; exact HPX.out) h0
    (fun x => { tmps := #[.string (bs s), undef, .pointer (some ⟨N, 0, none⟩), .pointer (some ⟨N + 1, 0, none⟩), .pointer (some ⟨N + 1 + 1, 0, none⟩), .string (bs x), undef, undef, .string (bs s), .func (.func 52) #[] #[.pointer (some ⟨N + 3, 0, none⟩)], .string (bs x), undef, undef, undef, undef, undef, undef, undef, undef, undef, undef, undef, undef, undef, undef, undef, undef, undef], defers := [] }) ?assign ?body ?done ?stop
  case assign =>
    intro l x W K hK
    simp
    gi_wp2
    exact hK
  case body =>
    intro l pre x W ⟨fs, v, h1, h2, h3, h4, h5, h6, hWN⟩ hG
    have hx : x.length ≤ 10000 := by
      have := lines_len s [] x (hG.subset (by simp))
      simp only [List.length_nil] at this
      have := HS.out
      omega
    have hrd := HR.out x hx
    simp only [ftV] at hrd
    obtain ⟨a, cap, rfl⟩ : ∃ a c, v = .slice a fs.length c := (FtRow.of h2).1.val
    have HRD := Lib.hid hrd
    have H1 := Lib.hid h1
    have H2 := Lib.hid h2
    have H3 := Lib.hid h3
    have H4 := Lib.hid h4
    have H5 := Lib.hid h5
    have H6 := Lib.hid h6
    obtain ⟨m, hm⟩ : ∃ m, fs.length = m := ⟨_, rfl⟩
    have hm64 : m ≤ 64 := by rw [← hm]; exact h1.2
    rw [hm] at H2 H3
    have HM := Lib.hid hm
    clear hrd hx h1 h2 h3 h4 h5 h6 hG hm h0
    cases hrp : readP x with
    | none =>
      have HRX := Lib.hid hrp
      rw [hrp] at HRD
      simp only [Option.isSome_none] at HRD
      clear hrp
      by_cases h64 : m = 64
      · subst h64
        rw [HZ.out]
        gi_wp2_with (first
          | (refine ⟨trivial, ?_⟩; gi_at_call 32; refine (CallsIn.inRound l (callsIn_wide.2 (HRD.out _ H6.out))).mono ?_; rintro e w1 ⟨f, rfl, hf, g1⟩; have H7 := Lib.hid hf; clear hf; have gA : Fr [] W (w1.alloc (.cells #[.int .i64 f.k, .int .i64 f.c, .int .i64 f.d, .int .i64 f.a, .int .i64 f.g] 32)) := g1.alloc _; have c4 := (boxed_keep H3.out gA (by simp)).cell; have z4 := (boxed_keep H3.out gA (by simp)).frozen; have c2 := (boxed_keep H4.out gA (by simp)).cell; have z2 := (boxed_keep H4.out gA (by simp)).frozen; have c3 := (boxed_keep H5.out gA (by simp)).cell; have z3 := (boxed_keep H5.out gA (by simp)).frozen))
        exact pi_ret HN.out (fun rest => H1.out.full HM.out x rest) H4.out H5.out H6.out gA
      · have h64' : ((m : Int) == 64) = false := by rw [beq_eq_false_iff_ne]; omega
        rw [HZ.out]
        gi_wp2_with (first
          | (refine ⟨trivial, ?_⟩; gi_at_call 32; refine (CallsIn.inRound l (callsIn_wide.2 (HRD.out _ H6.out))).mono ?_; rintro e w1 ⟨f, rfl, hf, g1⟩; have H7 := Lib.hid hf; clear hf; have gA : Fr [] W (w1.alloc (.cells #[.int .i64 f.k, .int .i64 f.c, .int .i64 f.d, .int .i64 f.a, .int .i64 f.g] 32)) := g1.alloc _; have c4 := (boxed_keep H3.out gA (by simp)).cell; have z4 := (boxed_keep H3.out gA (by simp)).frozen; have c2 := (boxed_keep H4.out gA (by simp)).cell; have z2 := (boxed_keep H4.out gA (by simp)).frozen; have c3 := (boxed_keep H5.out gA (by simp)).cell; have z3 := (boxed_keep H5.out gA (by simp)).frozen))
        exact pi_ret HN.out (fun rest => H1.out.bad (by rw [HM.out]; exact h64) HRX.out rest) H4.out H5.out H6.out gA
    | some f0 =>
      have HRX := Lib.hid hrp
      rw [hrp] at HRD
      simp only [Option.isSome_some] at HRD
      clear hrp
      by_cases h64 : m = 64
      · subst h64
        rw [HZ.out]
        gi_wp2_with (first
          | (refine ⟨trivial, ?_⟩; gi_at_call 32; refine (CallsIn.inRound l (callsIn_wide.2 (HRD.out _ H6.out))).mono ?_; rintro e w1 ⟨f, rfl, hf, g1⟩; have H7 := Lib.hid hf; clear hf; have gA : Fr [] W (w1.alloc (.cells #[.int .i64 f.k, .int .i64 f.c, .int .i64 f.d, .int .i64 f.a, .int .i64 f.g] 32)) := g1.alloc _; have c4 := (boxed_keep H3.out gA (by simp)).cell; have z4 := (boxed_keep H3.out gA (by simp)).frozen; have c2 := (boxed_keep H4.out gA (by simp)).cell; have z2 := (boxed_keep H4.out gA (by simp)).frozen; have c3 := (boxed_keep H5.out gA (by simp)).cell; have z3 := (boxed_keep H5.out gA (by simp)).frozen))
        exact pi_ret HN.out (fun rest => H1.out.full HM.out x rest) H4.out H5.out H6.out gA
      · have h64' : ((m : Int) == 64) = false := by rw [beq_eq_false_iff_ne]; omega
        rw [HZ.out]
        gi_wp2_with (first
          | (refine ⟨trivial, ?_⟩; gi_at_call 32; refine (CallsIn.inRound l (callsIn_wide.2 (HRD.out _ H6.out))).mono ?_; rintro e w1 ⟨f, rfl, hf, g1⟩; have H7 := Lib.hid hf; clear hf; have gA : Fr [] W (w1.alloc (.cells #[.int .i64 f.k, .int .i64 f.c, .int .i64 f.d, .int .i64 f.a, .int .i64 f.g] 32)) := g1.alloc _; have c4 := (boxed_keep H3.out gA (by simp)).cell; have z4 := (boxed_keep H3.out gA (by simp)).frozen; have c2 := (boxed_keep H4.out gA (by simp)).cell; have z2 := (boxed_keep H4.out gA (by simp)).frozen; have c3 := (boxed_keep H5.out gA (by simp)).cell; have z3 := (boxed_keep H5.out gA (by simp)).frozen)
          | (gi_at_builtin; refine wpListIn_append_own _ rfl _ _ 22 rfl (N + 4) 32 i0 _ 5 40 Tryd.underlying22 hi hz0 hz1 hz2 rfl (by omega) _ _ _ rfl (row_fr H2.out (gA.alloc _)) ⟨w1.heap.size + 1, 0, none⟩ 1 1 [.int .i64 f.k, .int .i64 f.c, .int .i64 f.d, .int .i64 f.a, .int .i64 f.g] rfl rfl (cells5_new _ _ _ (by simp)) (cells5_one f) (by unfold maxLen; omega) (by omega) (by have := gA.size; simp at this ⊢; omega) ?_; intro v' w3 hown' hgrow hnil; obtain ⟨a', cap', rfl⟩ := row_val hown'; have r2 := row_fr H2.out (gA.alloc (.cells #[.int .i64 f.k, .int .i64 f.c, .int .i64 f.d, .int .i64 f.a, .int .i64 f.g] 32)); have b3 := grown_box (boxed_keep H3.out (gA.alloc (.cells #[.int .i64 f.k, .int .i64 f.c, .int .i64 f.d, .int .i64 f.a, .int .i64 f.g] 32)) (by simp)) r2 (by omega) hgrow; have e4 := b3.cell; have y4 := b3.frozen; have HGR := Lib.hid hgrow; have HOW := Lib.hid hown'; clear hgrow hown' hnil r2 b3))
        obtain rfl := H7.out f0 rfl
        exact pi_more HM.out HN.out H1.out h64 HRX.out H2.out H3.out H4.out H5.out H6.out hWN (gA.alloc _) HGR.out HOW.out
  case done =>
    intro D xs W hD hxs ⟨fs, v, h1, h2, h3, h4, h5, h6, h7⟩ hK
    obtain ⟨a, cap, rfl⟩ := row_val h2
    have hy : parseP (linesGo [] s) [] = (fs, 0) := by
      have := h1.1 []
      rw [List.append_nil, hxs] at this
      rw [this]
      rfl
    have HY := Lib.hid hy
    have hlt : ∀ g off n c, Value.slice a fs.length cap = .slice (some ⟨g, off, none⟩) n c → g ≠ D ∧ N + 4 ≤ g := by
      intro g off n c e
      obtain ⟨h8, h9⟩ := (FtRow.of h2).2 g off n c e
      refine ⟨?_, h8⟩
      rintro rfl
      have hr := h2.2
      rcases hr with ⟨e', _⟩ | ⟨g', cap', cur, e', _, hgb, _⟩
      · rw [e'] at e
        cases e
      · rw [e'] at e
        cases e
        rw [hK] at hgb
        cases hgb
    have hrow := (FtRow.of h2).1
    have c4 := h3.cell
    have c2 := h4.cell
    have z2 := h4.frozen
    have c3 := h5.cell
    have z3 := h5.frozen
    rw [hz] at hD
    have H2 := Lib.hid hrow
    have H4 := Lib.hid h4
    have H5 := Lib.hid h5
    have H6 := Lib.hid h6
    have HK := Lib.hid hK
    have HL := Lib.hid hlt
    clear h1 h2 h3 h4 h5 h6 hK hlt hy hxs hrow h0
    gi_wp2
    rw [HY.out]
    have f7 : Fr [N, N + 1] W ((W.setCell ⟨N, 0, none⟩ (.slice a fs.length cap)).setCell ⟨N + 1, 0, none⟩ (.int .i64 0)) := ((Fr.refl _ _).setCell (fun _ => by simp) _).setCell (fun _ => by simp) _
    exact parseEnd _ (fs, 0) w _ (.slice a fs.length cap) N D rfl rfl ((f7.block D (Array.getElem?_eq_some_iff.1 HK.out).1 (by simp; omega)).trans HK.out) (by omega) (by omega) ((H4.out.set _).other (by omega) _) ((H5.out.other (by omega) _).set _)
      (H2.out.keep f7 (fun g off n c e => by have := (HL.out g off n c e).2; simp; omega)) (fun g off n c e => (HL.out g off n c e).1) (H6.out.trans f7 (fun x hx hl => by simp at hx; omega))
  case stop =>
    intro D pre W hD hp ⟨e, h1, h4, h5, h6⟩ hK
    have hy : parseP (linesGo [] s) [] = ([], e) := by
      obtain ⟨rest, hrest⟩ := hp
      rw [← hrest]
      exact h1 rest
    rw [hy]
    rw [hz] at hD
    have H4 := Lib.hid h4
    have H5 := Lib.hid h5
    have H6 := Lib.hid h6
    have HK := Lib.hid hK
    clear h1 h4 h5 h6 hK hy h0
    gi_wp2
    exact parseEnd _ ([], e) w W (.slice none 0 0) N D rfl rfl HK.out (by omega) (by omega) H4.out H5.out (.inl ⟨rfl, _, _, rfl⟩) (fun g off n c e => by cases e) H6.out
end Go.Proofs.YtededfkenlhokaaDoor
