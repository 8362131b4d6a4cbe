/- Contract of chaos's read: its numbers, its words, its line. -/
import Derived.Test.YtededfkenlhokaaDoorC12
namespace Go.Proofs.YtededfkenlhokaaDoor
open Go.RowKit Go.Shelf
set_option linter.unusedVariables false
set_option maxRecDepth 100000
set_option maxHeartbeats 4000000

theorem fieldsGoD_len : ∀ (f : Nat) (cur l x : List UInt8), x ∈ Lib.fieldsGoD f cur l → x.length ≤ cur.length + l.length
  | 0, cur, l, x, h => by
    unfold Lib.fieldsGoD at h
    split at h
    · cases h
    · rw [List.mem_singleton] at h
      subst h
      omega
  | f + 1, cur, l, x, h => by
    unfold Lib.fieldsGoD at h
    split at h
    · split at h
      · cases h
      · rw [List.mem_singleton] at h
        subst h
        omega
    · split at h
      · rcases List.mem_append.1 h with h | h
        · split at h
          · cases h
          · rw [List.mem_singleton] at h
            subst h
            omega
        · have := fieldsGoD_len f _ _ x h
          simp only [List.length_nil, List.length_drop] at this
          omega
      · have := fieldsGoD_len f _ _ x h
        simp only [List.length_append, List.length_take, List.length_drop] at this
        omega
theorem fieldsD_len (l x : List UInt8) (h : x ∈ Lib.fieldsD l) : x.length ≤ l.length := by
  have := fieldsGoD_len _ _ _ x h
  simpa using this

/-- The words of a line in memory: the cell of block b holds the slice. -/
structure WordsAt (w : World) (b A : Nat) (ws : List (List UInt8)) : Prop where
  cell : w.cell? ⟨b, 0, none⟩ = some (.slice (some ⟨A, 0, none⟩) ws.length ws.length)
  at' : ∀ (j : Nat) x, ws[j]? = some x → w.cell? ⟨A, 0 + j, none⟩ = some (.string (bs x))
theorem WordsAt.new {w w' : World} {b A : Nat} {ws : List (List UInt8)} (h : WordsAt w b A ws) (f : Fr [] w w') : WordsAt w' b A ws :=
  ⟨f.keep h.cell (by simp), fun j x hx => f.keep (h.at' j x hx) (by simp)⟩

theorem fr_bytes {w w' : World} {t : TypeId} (h : w' = w ∨ ∃ u, w' = Lib.bytesWorld w t u) : Fr [] w w' := by
  rcases h with rfl | ⟨u, rfl⟩
  · exact Fr.refl _ _
  · exact Fr.of_below (Lib.bytesWorld_below _ _ _)

theorem number_any (ws : List (List UInt8)) (i : Nat) (hi : i < 100) (hn : ws.length ≤ 100000) (hlen : ∀ x ∈ ws, x.length ≤ 100000) (b A : Nat) (w : World) (he : Env w) (h : WordsAt w b A ws) :
    Calls Tryd.prog 55 #[.int .i64 i, .pointer (some ⟨b, 0, none⟩)] w fun e w' => e = .returned (.int .i64 (numP ws i)) ∧ Fr [] w w' := by
  have c0 := h.cell
  by_cases hge : ws.length ≤ i
  · have e : numP ws i = 0 := by unfold numP; rw [List.getElem?_eq_none hge]
    rw [e]
    have hg : ((ws.length : Nat) : Int) ≤ (i : Int) := by omega
    go_enter Tryd.func55, Tryd.ntmps55
    go_wp2_with fail
    go_ret
    exact ⟨rfl, Fr.refl _ _⟩
  · have hlt : i < ws.length := by omega
    have hg : ¬ ((ws.length : Nat) : Int) ≤ (i : Int) := by omega
    have hg0 : (0 : Int) ≤ (i : Int) := by omega
    have hg1 : (i : Int) < (ws.length : Nat) := by omega
    obtain ⟨x, hx⟩ : ∃ x, ws[i]? = some x := ⟨_, List.getElem?_eq_getElem hlt⟩
    have c1 := h.at' i x hx
    rw [Nat.zero_add] at c1
    have hxl := hlen x (List.mem_of_getElem? hx)
    have hbl : (bs x).size ≤ 281474976710656 := by rw [bs_size]; omega
    have hbm : (bs x).size ≤ 9223372036854775806 := by rw [bs_size]; omega
    have hd : (bs x).data.toList = x := bs_list x
    obtain ⟨v, hv⟩ : ∃ v, numP ws i = v := ⟨_, rfl⟩
    rw [hv]
    unfold numP at hv
    rw [hx] at hv
    simp only at hv
    obtain ⟨tp, p, syn⟩ := he.syn
    obtain ⟨tq, q, ran⟩ := he.ran
    rcases hr : Lib.atoiAll x with u | _ | _
    · rw [hr] at hv
      simp only at hv
      subst hv
      have H := Lib.hid (Tryd.strconv_Atoi_ok (bs x) hbm u (by rw [hd]; exact hr) w)
      clear hbl hbm hd hr hx hxl hlen syn ran he h
      go_enter Tryd.func55, Tryd.ntmps55
      go_wp2_with (go_at_call 56; refine H.out.mono ?_; rintro e w1 ⟨rfl, f1⟩)
      go_ret
      exact ⟨rfl, fr_bytes f1⟩
    · rw [hr] at hv
      simp only at hv
      subst hv
      have H := Lib.hid (Tryd.strconv_Atoi_syntax_var (bs x) hbl (by rw [hd]; exact hr) tp p w syn)
      clear hbl hbm hd hr hx hxl hlen syn ran he h
      go_enter Tryd.func55, Tryd.ntmps55
      go_wp2_with (go_at_call 56; refine H.out.mono ?_; rintro e w1 ⟨N, rfl, -, -, f1⟩)
      go_ret
      exact ⟨rfl, Fr.of_below f1⟩
    · rw [hr] at hv
      simp only at hv
      subst hv
      have H := Lib.hid (Tryd.strconv_Atoi_range_var (bs x) hbl (by rw [hd]; exact hr) tq q w ran)
      clear hbl hbm hd hr hx hxl hlen syn ran he h
      go_enter Tryd.func55, Tryd.ntmps55
      go_wp2_with (go_at_call 56; refine H.out.mono ?_; rintro e w1 ⟨N, rfl, -, -, f1⟩)
      go_ret
      exact ⟨rfl, Fr.of_below f1⟩
end Go.Proofs.YtededfkenlhokaaDoor
