/- Report: lines at api.TaskCount, of no text. -/
/- Report: ReadTasks of no text. -/
import Derived.Test.YtllmejkcohfbiaaGreatDoorR18Tk
import Derived.Test.YtllmejkcohfbiaaGreatDoorR20
namespace Go.Proofs.YtllmejkcohfbiaaGreatDoor
open Go.RowKit Go.Shelf Go.Sort Go.Lib
set_option linter.unusedVariables false
set_option linter.unusedSimpArgs false
set_option maxRecDepth 100000
set_option maxHeartbeats 8000000

attribute [local go_sem] Oper.semAt_some
theorem tkLines_none (rdf : List UInt8 → Tk) (s : List UInt8) (hs : s.length ≤ 100000) (w : World) (ht : Tab w)
    (hno : linesGo [] s = []) :
    Calls Tryz.prog 61 #[.string (bs s), .func (.func 62) #[] #[], .func (.func 49) #[] #[], .func (.func 50) #[] #[]] w (TkPost w (parseL (rdOf rdf Tk.ok taskB) (linesGo [] s) [])) := by
  have HNO := Lib.hid hno
  have HS := Lib.hid hs
  have HT := Lib.hid ht
  obtain ⟨rd, hrd⟩ : ∃ rd, rdOf rdf Tk.ok taskB = rd := ⟨_, rfl⟩
  rw [hrd]
  have HRD := Lib.hid hrd
  clear hno ht hrd
  obtain ⟨i0, hi, hz0, hz1, hz2⟩ := info_parts infoTk
  refine (callsIn_wide (n := 6)).1 ?_
  refine callsIn_of_wp_marks Tryz.func61 rfl trivial ?_ rfl
  simp only [Tryz.ntmps61, List.size_toArray, List.length_cons, List.length_nil, Nat.reduceAdd, Nat.reduceSub, Array.replicate_succ, Array.replicate_zero, List.push_toArray, List.append_toArray, List.nil_append, List.cons_append]
  gi_wp2_with (refine ⟨trivial, ?_⟩; gi_at_call 93; refine (callsIn_wide.2 (lines_any _ _)).mono ?_; rintro e w1 ⟨rfl, rfl⟩)
  obtain ⟨N, hN⟩ : ∃ N, w.heap.size = N := ⟨_, rfl⟩
  have hPI := own_TkI rd w
  have hPX := own_TkX rd w
  obtain ⟨W0, hW0⟩ : ∃ W0, ((((((w.alloc (.cells #[.func (.func 62) #[] #[]] 129)).alloc (.cells #[.func (.func 49) #[] #[]] 117)).alloc (.cells #[.func (.func 50) #[] #[]] 118)).alloc (.cells #[.slice none 0 0] 52)).alloc (.cells #[.int .i64 0] 3)).alloc (.cells #[.int .i64 0] 28)).alloc (.cells #[.string (bs s)] 9) = W0 := ⟨_, rfl⟩
  obtain ⟨hz, fr0, q8, q9, qa, q1, q2, q3, hX0⟩ := allocs7 w _ _ _ _ _ _ _ W0 hW0
  rw [hN] at hz q8 q9 qa q1 q2 q3 hX0
  simp only [hN] at hPI hPX ⊢
  rw [hW0]
  clear hW0
  have h0 : TkI rd w N [] W0 := ⟨[], .slice none 0 0, SoFar.start rd, W0.ownsRow_nil _ _ _, q1, q2, q3, q8, q9, qa, fr0, by omega⟩
  have HX0 := Lib.hid hX0
  have HPI := Lib.hid hPI
  have HPX := Lib.hid hPX
  have HN := Lib.hid hN
  have HZ := Lib.hid hz
  clear hX0 q1 q2 q3 q8 q9 qa hPI hPX fr0
  refine range_box (X := N + 6) (encs := fun x => #[.string (bs x)]) rfl (by omega) (gf := 117) (lb := #[.pointer (some ⟨N + 6, 0, none⟩)]) rfl trivial (enters_of Tryz.func117 (by kernel_rfl) rfl)
    (lines_seq 5 (by omega) (N + 6) s (by omega) W0 HX0.out (by omega)) (Below.refl _ _) (by omega) (fun _ => rfl) (TkI rd w N) (TkX rd w N) (by rw [hz]; exact HPI.out) (by rw [hz]; exact HPX.out) h0
    (fun x => { tmps := #[.string (bs s), .func (.func 62) #[] #[], .func (.func 49) #[] #[], .func (.func 50) #[] #[], undef, .pointer (some ⟨N, 0, none⟩), .pointer (some ⟨N + 1, 0, none⟩), .pointer (some ⟨N + 1 + 1, 0, none⟩), .pointer (some ⟨N + 1 + 1 + 1, 0, none⟩), .pointer (some ⟨N + 1 + 1 + 1 + 1, 0, none⟩), .pointer (some ⟨N + 1 + 1 + 1 + 1 + 1, 0, none⟩), .string (bs x), undef, .string (bs s), .func (.func 117) #[] #[.pointer (some ⟨N + 6, 0, none⟩)], .string (bs x), undef, undef, undef, undef, undef, undef, undef, undef, undef, undef, undef, undef, undef, undef, undef, undef, undef, undef, undef, undef, undef, undef, undef, undef, undef, undef, undef, undef], defers := [] }) ?assign ?body ?done ?stop
  case assign =>
    intro l x W K hK
    simp
    gi_wp2
    exact hK
  case body =>
    intro l pre x W _ hG
    exact absurd hG (by rw [HNO.out]; simp)
  case done =>
    intro D xs W hD hxs ⟨fs, v, h1, h2, h3, h4, h5, h8, h9, ha, h6, h7⟩ hK
    obtain ⟨a, cap, rfl⟩ := row_val h2
    have hy : parseL rd (linesGo [] s) [] = (fs, 0, 0) := by
      have := h1.1 []
      rw [List.append_nil, hxs] at this
      rw [this]
      rfl
    have HY := Lib.hid hy
    have hlt : ∀ g off n c, Value.slice a fs.length cap = .slice (some ⟨g, off, none⟩) n c → g ≠ D ∧ N + 7 ≤ g := by
      intro g off n c e
      have h8 := (TkRow.of h2).2 g off n c e
      refine ⟨?_, h8⟩
      rintro rfl
      have hr := h2.2
      rcases hr with ⟨e', _⟩ | ⟨g', cap', cur, e', _, hgb, _⟩
      · rw [e'] at e
        cases e
      · rw [e'] at e
        cases e
        rw [hK] at hgb
        cases hgb
    have hrow := (TkRow.of h2).1
    have c8 := h3.cell
    have z8 := h3.frozen
    have c9 := h4.cell
    have z9 := h4.frozen
    have c10 := h5.cell
    have z10 := h5.frozen
    rw [hz] at hD
    have H2 := Lib.hid hrow
    have H3 := Lib.hid h3
    have H4 := Lib.hid h4
    have H5 := Lib.hid h5
    have H6 := Lib.hid h6
    have HK := Lib.hid hK
    have HL := Lib.hid hlt
    clear h1 h2 h3 h4 h5 h6 hK hlt hy hxs hrow h0 h8 h9 ha
    gi_wp2
    rw [HY.out]
    have f7 : Fr [N + 1 + 1 + 1, N + 1 + 1 + 1 + 1, N + 1 + 1 + 1 + 1 + 1] W (((W.setCell ⟨N + 1 + 1 + 1, 0, none⟩ (.slice a fs.length cap)).setCell ⟨N + 1 + 1 + 1 + 1, 0, none⟩ (.int .i64 0)).setCell ⟨N + 1 + 1 + 1 + 1 + 1, 0, none⟩ (.int .i64 0)) := (((Fr.refl _ _).setCell (fun _ => by simp) _).setCell (fun _ => by simp) _).setCell (fun _ => by simp) _
    exact tkEnd _ (fs, 0, 0) w _ (.slice a fs.length cap) N D rfl rfl rfl ((f7.block D (Array.getElem?_eq_some_iff.1 HK.out).1 (by simp; omega)).trans HK.out) (by omega) (by omega) (((H3.out.set _).other (by omega) _).other (by omega) _) (((H4.out.other (by omega) _).set _).other (by omega) _) (((H5.out.other (by omega) _).other (by omega) _).set _)
      (H2.out.keep f7 (fun g off n c e => by have := (HL.out g off n c e).2; simp; omega)) (fun g off n c e => (HL.out g off n c e).1) (H6.out.trans f7 (fun x hx hl => by simp at hx; omega))
  case stop =>
    intro D pre W hD hp ⟨e, h1, h4, h5, h6, h7⟩ hK
    have hy : parseL rd (linesGo [] s) [] = ([], e, 6) := by
      obtain ⟨rest, hrest⟩ := hp
      rw [← hrest]
      exact h1 rest
    rw [hy]
    rw [hz] at hD
    have H4 := Lib.hid h4
    have H5 := Lib.hid h5
    have H6 := Lib.hid h6
    have H7 := Lib.hid h7
    have HK := Lib.hid hK
    clear h1 h4 h5 h6 h7 hK hy h0
    gi_wp2
    exact tkEnd _ ([], e, 6) w W (.slice none 0 0) N D rfl rfl rfl HK.out (by omega) (by omega) H4.out H5.out H6.out (.inl ⟨rfl, _, _, rfl⟩) (fun g off n c e => by cases e) H7.out
end Go.Proofs.YtllmejkcohfbiaaGreatDoor
namespace Go.Proofs.YtllmejkcohfbiaaGreatDoor
open Go.RowKit Go.Shelf Go.Sort Go.Lib
set_option linter.unusedVariables false
set_option linter.unusedSimpArgs false
set_option maxRecDepth 100000
set_option maxHeartbeats 4000000

theorem readTasks_none (w : World) (he : EnvR w) : Calls Tryz.prog 26 #[.string ⟨#[]⟩] w (TkPost w ([], 0, 0)) := by
  have H := Lib.hid (show Calls Tryz.prog _ #[.string ⟨#[]⟩, _, _, _] w (TkPost w ([], 0, 0)) from tkLines_none (fun _ => ⟨0, 0, 0, 0, 0, 0, 0, 0⟩) [] (by simp) w he.tab rfl)
  clear he
  go_enter Tryz.func26, Tryz.ntmps26
  go_wp2_with fail
  refine H.out.mono ?_
  rintro e w1 ⟨v, rfl, hr, f1⟩
  simp only at hr
  have HR := Lib.hid hr
  clear hr
  go_wp2
  go_ret3
  exact ⟨v, rfl, HR.out, f1⟩
end Go.Proofs.YtllmejkcohfbiaaGreatDoor
