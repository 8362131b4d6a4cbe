/- Report: what a world must hold for the library's calls; field and value. -/
import Derived.Test.YtllmejkcohfbiaaGreatDoorR12
import Derived.Lib.AtoiAllCases
namespace Go.Proofs.YtllmejkcohfbiaaGreatDoor
open Go.RowKit Go.Shelf Go.Sort Go.Lib
set_option linter.unusedVariables false
set_option linter.unusedSimpArgs false
set_option maxRecDepth 100000
set_option maxHeartbeats 4000000

theorem gSyn : Tryz.prog.globalNamed "strconv.ErrSyntax" = some 2 := by kernel_rfl
theorem gRan : Tryz.prog.globalNamed "strconv.ErrRange" = some 3 := by kernel_rfl
structure EnvR (w : World) : Prop where
  tab : Tab w
  syn : ∃ tp p, w.var? Tryz.prog "strconv.ErrSyntax" = some #[.iface tp p]
  ran : ∃ tp p, w.var? Tryz.prog "strconv.ErrRange" = some #[.iface tp p]
  mx : ∃ m, w.cell? ⟨1, 0, none⟩ = some (.int .i64 m)
theorem EnvR.new {w w' : World} (h : EnvR w) (hf : Fr [] w w') : EnvR w' := by
  obtain ⟨tp, p, h1⟩ := h.syn
  obtain ⟨tq, q, h2⟩ := h.ran
  exact ⟨tab_new h.tab hf, ⟨tp, p, var?_keep hf gSyn (by simp) h1⟩, ⟨tq, q, var?_keep hf gRan (by simp) h2⟩, h.mx.imp fun _ h => hf.keep h (by simp)⟩
theorem fr_bytes {w w' : World} {t : TypeId} (h : w' = w ∨ ∃ u, w' = Lib.bytesWorld w t u) : Fr [] w w' := by
  rcases h with rfl | ⟨u, rfl⟩
  · exact Fr.refl _ _
  · exact Fr.of_below (Lib.bytesWorld_below _ _ _)
/-- The number of a word, or -1. -/
def valB (x : List UInt8) : Int := match Lib.atoiAll x with | .ok v => v | _ => -1
theorem value_any (x : List UInt8) (hx : x.length ≤ 100000) (w : World) (he : EnvR w) :
    Calls Tryz.prog 98 #[.string (bs x)] w fun e w' => e = .returned (.int .i64 (valB x)) ∧ Fr [] w w' := by
  have hbl : (bs x).size ≤ 281474976710656 := by rw [bs_size]; omega
  have hbm : (bs x).size ≤ 9223372036854775806 := by rw [bs_size]; omega
  have hd : (bs x).data.toList = x := bs_list x
  obtain ⟨v, hv⟩ : ∃ v, valB x = v := ⟨_, rfl⟩
  rw [hv]
  unfold valB at hv
  obtain ⟨tp, p, syn⟩ := he.syn
  obtain ⟨tq, q, ran⟩ := he.ran
  rcases hr : Lib.atoiAll x with u | _ | _
  · rw [hr] at hv
    simp only at hv
    subst hv
    have H := Lib.hid (Tryz.strconv_Atoi_ok (bs x) hbm u (by rw [hd]; exact hr) w)
    clear hbl hbm hd hr hx syn ran he
    go_enter Tryz.func98, Tryz.ntmps98
    go_wp2_with (go_at_call 122; refine H.out.mono ?_; rintro e w1 ⟨rfl, f1⟩)
    go_ret
    exact ⟨rfl, fr_bytes f1⟩
  · rw [hr] at hv
    simp only at hv
    subst hv
    have H := Lib.hid (Tryz.strconv_Atoi_syntax_var (bs x) hbl (by rw [hd]; exact hr) tp p w syn)
    clear hbl hbm hd hr hx syn ran he
    go_enter Tryz.func98, Tryz.ntmps98
    go_wp2_with (go_at_call 122; refine H.out.mono ?_; rintro e w1 ⟨N, rfl, -, -, f1⟩)
    go_ret
    exact ⟨rfl, Fr.of_below f1⟩
  · rw [hr] at hv
    simp only at hv
    subst hv
    have H := Lib.hid (Tryz.strconv_Atoi_range_var (bs x) hbl (by rw [hd]; exact hr) tq q w ran)
    clear hbl hbm hd hr hx syn ran he
    go_enter Tryz.func98, Tryz.ntmps98
    go_wp2_with (go_at_call 122; refine H.out.mono ?_; rintro e w1 ⟨N, rfl, -, -, f1⟩)
    go_ret
    exact ⟨rfl, Fr.of_below f1⟩
theorem field_any (g c : Nat) (ws : List (List UInt8)) (i : Nat) (hi : i < 1000) (hn : ws.length ≤ 9223372036854775807) (w : World) (hc : ∀ (j : Nat) x, ws[j]? = some x → w.cell? ⟨g, 0 + j, none⟩ = some (.string (bs x))) :
    Calls Tryz.prog 97 #[.slice (some ⟨g, 0, none⟩) ws.length c, .int .i64 i] w fun e w' => e = .returned (.string (bs (ws.getD i []))) ∧ w = w' := by
  have hi0 : (0 : Int) ≤ (i : Int) := Int.natCast_nonneg _
  by_cases hlt : i < ws.length
  · obtain ⟨x, hx⟩ : ∃ x, ws[i]? = some x := ⟨_, List.getElem?_eq_getElem hlt⟩
    have c1 := hc i x hx
    rw [Nat.zero_add] at c1
    have e : ws.getD i [] = x := by rw [List.getD_eq_getElem?_getD, hx]; rfl
    rw [e]
    obtain ⟨n, hnn⟩ : ∃ n, ws.length = n := ⟨_, rfl⟩
    rw [hnn] at hlt hn ⊢
    have d1 : (i : Int) < (n : Int) := by omega
    clear hx hc e hnn
    go_enter Tryz.func97, Tryz.ntmps97
    go_wp2
    go_ret
    exact ⟨rfl, rfl⟩
  · have e : ws.getD i [] = [] := by rw [List.getD_eq_getElem?_getD, List.getElem?_eq_none (by omega)]; rfl
    rw [e]
    obtain ⟨n, hnn⟩ : ∃ n, ws.length = n := ⟨_, rfl⟩
    rw [hnn] at hlt hn ⊢
    have d1 : ¬ (i : Int) < (n : Int) := by omega
    clear hc e hnn
    go_enter Tryz.func97, Tryz.ntmps97
    go_wp2
    go_ret
    exact ⟨rfl, rfl⟩
end Go.Proofs.YtllmejkcohfbiaaGreatDoor
