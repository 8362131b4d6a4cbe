/- ChaosPlays: a copy of the faults made by append, a row whose cells are written, a plan beside a model in a block of its own; and the law's answer when it only runs the chapter's examples. -/
import Derived.Test.YtededfkenlhokaaDoorQ12
import Derived.Laws.AppendOwnNone
namespace Go.Proofs.YtededfkenlhokaaDoor
open Go.RowKit Go.Shelf
set_option linter.unusedVariables false
set_option linter.unusedSimpArgs false
set_option maxRecDepth 100000
set_option maxHeartbeats 4000000

theorem wpList_append_fts {ops : Array Oper} {rest : List Oper} {o : Oper} {a : Act} {w : World} {Q : Exit → Act → World → Prop} (hgd : o.guard = none) (s x : Operand)
    (ho : o.op = .call { callee := .builtin .append, args := #[s, x], argTypes := #[22, 22] })
    (v : Value) (fs : List Ft) (hl : fs.length ≤ 100000) (hx : a.eval x = v) (hs : a.eval s = .slice none 0 0) (h : FtRow w v fs) (hn : ∀ n c, v = .slice none n c → n = 0 ∧ c = 0)
    (k : ∀ v' w', w'.ownsRow w.heap.size 32 5 v' fs.length (ftCells fs) → Fr [] w w' → wpList Tryd.prog ops Q rest (a.put o.dst v') w') : wpList Tryd.prog ops Q (o :: rest) a w := by
  obtain ⟨i0, hi, hz0, hz1, hz2⟩ := info_parts infoFt
  have hlen := ftCells_len fs
  have hone := ftCells_one fs
  have law : ∀ (ad : Addr) (c : Nat) (hv : v = .slice (some ad) fs.length c) (hnews : ∀ j u, (ftCells fs)[j]? = some u → w.cell? (ad.add j) = some u), wpList Tryd.prog ops Q (o :: rest) a w := fun ad c hv hnews =>
    wpList_append_own w hgd s x 22 ho w.heap.size 32 i0 _ 5 40 Tryd.underlying22 hi hz0 hz1 hz2 rfl (by omega) (.slice none 0 0) 0 [] hs (World.ownsRow_nil _ _ _ _) ad fs.length c (ftCells fs) (by rw [hx, hv]) hlen hnews hone (by unfold maxLen; omega) (by omega) (Nat.le_refl _)
      (fun v' w' hown hgrow _ => k v' w' (by simpa using hown) (grownFr hgrow (fun q e => by cases e)))
  rcases h with ⟨rfl, ad, c, rfl⟩ | ⟨g, off, cap, rfl, h1, h2⟩
  · cases ad with
    | none =>
      obtain ⟨_, rfl⟩ := hn 0 c rfl
      exact wpList_append_own_none hgd s x 22 ho w.heap.size 32 i0 5 Tryd.underlying22 hi (.slice none 0 0) 0 [] hs (World.ownsRow_nil _ _ _ _) hx (k _ _ (World.ownsRow_nil _ _ _ _) (Fr.refl _ _))
    | some p => exact law p c rfl (fun j u hj => by simp [ftCells] at hj)
  · exact law ⟨g, off, none⟩ cap rfl (fun j u hj => by rw [Addr.add_lit]; exact ftCells_read h2 j u hj)
/-- A block of faults with at least n cells. -/
def RowB (W : World) (g n : Nat) : Prop := ∃ cur : Array Value, W.heap[g]? = some (.cells cur 32) ∧ n ≤ cur.size
theorem RowB.set {W : World} {g n : Nat} (h : RowB W g n) (o : Nat) (u : Value) : RowB (W.setCell ⟨g, o, none⟩ u) g n := by
  obtain ⟨cur, h1, h2⟩ := h
  refine ⟨cur.setIfInBounds o u, ?_, by simpa using h2⟩
  show (W.heap.modify g _)[g]? = _
  rw [Array.getElem?_modify, if_pos rfl, h1]
  rfl
theorem RowB.drew {W : World} {g n : Nat} (h : RowB W g n) : RowB W.drew g n := h
theorem RowB.fz {W : World} {g n : Nat} (h : RowB W g n) (o : Nat) : W.frozen? ⟨g, o, none⟩ = false := by
  obtain ⟨cur, h1, h2⟩ := h
  simp [World.frozen?, h1]
theorem RowB.at {W : World} {g n : Nat} (h : RowB W g n) {o : Nat} (ho : o < n) : ∃ u, W.cell? ⟨g, o, none⟩ = some u := by
  obtain ⟨cur, h1, h2⟩ := h
  exact ⟨cur[o], by simp [World.cell?, h1]⟩
theorem RowB.of {W : World} {lo n : Nat} {v : Value} {xs : List Value} (h : W.ownsRow lo 32 5 v n xs) : (v = .slice none 0 0 ∧ n = 0) ∨ ∃ g cap, v = .slice (some ⟨g, 0, none⟩) n cap ∧ lo ≤ g ∧ g < W.heap.size ∧ RowB W g (n * 5) := by
  rcases h.2 with ⟨h1, h2⟩ | ⟨g, cap, cur, hv, hb, hh, h1, h2, h3, h4⟩
  · exact .inl ⟨h1, h2⟩
  · refine .inr ⟨g, cap, hv, hb, (Array.getElem?_eq_some_iff.1 hh).1, cur, hh, ?_⟩
    have h5 := h.1
    have : xs.length ≤ cur.size := by
      rw [← h3] at *
      first
        | (have := congrArg List.length h4; simp at this; omega)
        | omega
    omega
theorem Mods.new {w w' : World} {p m : Nat} {v vf : Value} {fs : List Ft} {F : LF} {vl : Value} {L : List Ft} {k : Nat} (h : Mods w p m v vf fs F vl L k) (f : Fr [] w w') : Mods w' p m v vf fs F vl L k :=
  ⟨h.plan.new f, h.fts.new f, h.row.new f, h.lf, h.inv, h.len, h.sepf, h.sep⟩
theorem FtRow.offMd {w : World} {B : Nat} {a1 a2 : Option Addr} {n1 c1 n2 c2 : Nat} (hd : MdAt w B (.slice a1 n1 c1) (.slice a2 n2 c2)) {v : Value} {fs : List Ft} (h : FtRow w v fs) (hne : fs ≠ []) : ∀ g off n c, v = .slice (some ⟨g, off, none⟩) n c → g ≠ B := fun g off n c e hg => by
  subst hg
  rcases h with ⟨h1, _⟩ | ⟨g', off', c', h1, h2, h3⟩
  · exact hne h1
  · rw [h1] at e
    cases e
    obtain ⟨x, hx⟩ : ∃ x, fs[0]? = some x := ⟨_, List.getElem?_eq_getElem (List.length_pos_iff.2 hne)⟩
    have h4 := (h3 0 x hx).1
    unfold MdAt at hd
    simp only [World.cell?, hd] at h4
    simp at h4
    match off, h4 with
    | 0, h4 => simp at h4
    | 1, h4 => simp at h4
    | n + 2, h4 => simp at h4
theorem Mods.offMd {w : World} {p m : Nat} {v vf : Value} {fs : List Ft} {F : LF} {vl : Value} {L : List Ft} {k : Nat} (h : Mods w p m v vf fs F vl L k) {B : Nat} {a1 a2 : Option Addr} {n1 c1 n2 c2 : Nat} (hd : MdAt w B (.slice a1 n1 c1) (.slice a2 n2 c2)) : p ≠ B ∧ m ≠ B := by
  constructor
  · intro e
    subst e
    have h1 := h.plan.c1
    rw [hd.c1] at h1
    cases h1
  · intro e
    subst e
    obtain ⟨f, ⟨es, clock, h1, _⟩, _⟩ := h.plan.lanes
    unfold MdAt at hd
    rw [hd] at h1
    cases h1
/-- Behind a store of another model into that block. -/
theorem Mods.stored {w w' : World} {p m : Nat} {v vf : Value} {fs : List Ft} {F : LF} {vl : Value} {L : List Ft} {k B : Nat} (h : Mods w p m v vf fs F vl L k) (hv : ∀ g off n c, v = .slice (some ⟨g, off, none⟩) n c → g ≠ B) {a1 a2 : Option Addr} {n1 c1 n2 c2 : Nat} (hd : MdAt w B (.slice a1 n1 c1) (.slice a2 n2 c2)) (f : Fr [B] w w') : Mods w' p m v vf fs F vl L k :=
  h.ret f (h.offMd hd).1 (h.offMd hd).2 hv (h.fts.offMd hd) (h.row.offMd hd)
theorem acRow_val {w : World} {v : Value} {l : List Ac} (h : AcRow w v l) : ∃ a c, v = .slice a l.length c := by
  rcases h with ⟨rfl, a, c, rfl⟩ | ⟨g, off, cap, rfl, h1, h2⟩
  · exact ⟨a, c, rfl⟩
  · exact ⟨_, _, rfl⟩
theorem plays_known (v va : Value) (fs : List Ft) (l : List Ac) (x2 x3 : Int) (w : World) (he : Env w) (h : FtRow w v fs) (ha : AcRow w va l) (hb : 70 < fs.length ∨ 24 < l.length) (h1 : fs.length ≤ 9223372036854775807) (h2 : l.length ≤ 9223372036854775807) :
    Calls Tryd.prog 5 #[v, va, .int .i64 x2, .int .i64 x3] w fun e w' => e = .returned (.bool true) ∧ Fr [] w w' := by
  obtain ⟨a, cap, rfl⟩ := h.val
  obtain ⟨a2, cap2, rfl⟩ := acRow_val ha
  have HK := Lib.hid (known_any w he)
  obtain ⟨n, hn⟩ : ∃ n, l.length = n := ⟨_, rfl⟩
  obtain ⟨m, hm⟩ : ∃ n, fs.length = n := ⟨_, rfl⟩
  rw [hn] at hb h2 ⊢
  rw [hm] at hb h1 ⊢
  clear h ha he hn hm
  by_cases h70 : 70 < m
  · have g1 : (70 : Int) < (m : Int) := by omega
    clear hb h70
    go_enter Tryd.func5, Tryd.ntmps5
    go_wp2_with (go_at_call 7; refine HK.out.mono ?_; rintro e w2 ⟨rfl, f2⟩)
    go_ret
    exact ⟨rfl, f2⟩
  · have g1 : ¬ (70 : Int) < (m : Int) := by omega
    have g2 : (24 : Int) < (n : Int) := by omega
    clear hb h70
    go_enter Tryd.func5, Tryd.ntmps5
    go_wp2_with (go_at_call 7; refine HK.out.mono ?_; rintro e w2 ⟨rfl, f2⟩)
    go_ret
    exact ⟨rfl, f2⟩
end Go.Proofs.YtededfkenlhokaaDoor
