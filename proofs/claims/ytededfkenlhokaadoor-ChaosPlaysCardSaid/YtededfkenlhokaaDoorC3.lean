/- Contracts of chaos's New, none, may, Calls, Bytes, Moved and Copy over a plan in memory. -/
import Derived.Test.YtededfkenlhokaaDoorC2
namespace Go.Proofs.YtededfkenlhokaaDoor
open Go.RowKit
open Go.Maps (Keyed)
set_option linter.unusedVariables false
set_option maxRecDepth 100000
set_option maxHeartbeats 4000000

def ftCells : List Ft → List Value
  | [] => []
  | x :: r => .int .i64 x.k :: .int .i64 x.c :: .int .i64 x.d :: .int .i64 x.a :: .int .i64 x.g :: ftCells r
theorem ftCells_len : ∀ fs : List Ft, (ftCells fs).length = fs.length * 5
  | [] => rfl
  | x :: r => by simp only [ftCells, List.length_cons, ftCells_len r]; omega
theorem ftCells_at : ∀ (fs : List Ft) (i : Nat) (x : Ft), fs[i]? = some x → (ftCells fs)[i * 5]? = some (.int .i64 x.k) ∧ (ftCells fs)[i * 5 + 1]? = some (.int .i64 x.c) ∧ (ftCells fs)[i * 5 + 2]? = some (.int .i64 x.d) ∧ (ftCells fs)[i * 5 + 3]? = some (.int .i64 x.a) ∧ (ftCells fs)[i * 5 + 4]? = some (.int .i64 x.g)
  | [], i, x, h => by simp at h
  | y :: r, 0, x, h => by
    simp only [List.getElem?_cons_zero, Option.some.injEq] at h
    subst h
    simp [ftCells]
  | y :: r, i + 1, x, h => by
    have := ftCells_at r i x (by simpa using h)
    have e : ∀ q, (i + 1) * 5 + q = i * 5 + q + 1 + 1 + 1 + 1 + 1 := fun q => by omega
    have e0 := e 0
    simp only [Nat.add_zero] at e0
    simp only [ftCells, e0, List.getElem?_cons_succ]
    exact this
theorem ftCells_one (fs : List Ft) : ∀ u ∈ ftCells fs, u.oneCell' = true := by
  induction fs with
  | nil => intro u hu; cases hu
  | cons x r ih =>
    intro u hu
    simp only [ftCells, List.mem_cons] at hu
    rcases hu with rfl | rfl | rfl | rfl | rfl | hu
    all_goals first | rfl | exact ih u hu
theorem ftCells_read {w : World} {g off : Nat} {fs : List Ft} (h : ∀ (i : Nat) x, fs[i]? = some x →
    w.cell? ⟨g, off + i * 5, none⟩ = some (.int .i64 x.k) ∧ w.cell? ⟨g, off + i * 5 + 1, none⟩ = some (.int .i64 x.c) ∧ w.cell? ⟨g, off + i * 5 + 2, none⟩ = some (.int .i64 x.d) ∧ w.cell? ⟨g, off + i * 5 + 3, none⟩ = some (.int .i64 x.a) ∧ w.cell? ⟨g, off + i * 5 + 4, none⟩ = some (.int .i64 x.g)) :
    ∀ j u, (ftCells fs)[j]? = some u → w.cell? ⟨g, off + j, none⟩ = some u := by
  intro j u hj
  have hlt := (List.getElem?_eq_some_iff.1 hj).1
  rw [ftCells_len] at hlt
  obtain ⟨i, r, rfl, hr⟩ : ∃ i r, j = i * 5 + r ∧ r < 5 := ⟨j / 5, j % 5, by omega, by omega⟩
  have hi : i < fs.length := by omega
  have hx := List.getElem?_eq_getElem hi
  obtain ⟨c0, c1, c2, c3, c4⟩ := h i _ hx
  obtain ⟨d0, d1, d2, d3, d4⟩ := ftCells_at fs i _ hx
  rw [← Nat.add_assoc]
  match r, hr with
  | 0, _ => rw [Nat.add_zero] at hj ⊢; rw [d0] at hj; cases hj; exact c0
  | 1, _ => rw [d1] at hj; cases hj; exact c1
  | 2, _ => rw [d2] at hj; cases hj; exact c2
  | 3, _ => rw [d3] at hj; cases hj; exact c3
  | 4, _ => rw [d4] at hj; cases hj; exact c4
theorem FtRow.of {w : World} {lo : Nat} {v : Value} {fs : List Ft} (h : w.ownsRow lo 32 5 v fs.length (ftCells fs)) : FtRow w v fs ∧ ∀ g off n c, v = .slice (some ⟨g, off, none⟩) n c → lo ≤ g ∧ g < w.heap.size := by
  have h0 := h
  obtain ⟨hl, ⟨hv, hn⟩ | ⟨g, cap, cur, hv, hb, hh, h1, h2, h3, h4⟩⟩ := h
  · subst hv
    exact ⟨.inl ⟨List.eq_nil_of_length_eq_zero hn, _, _, rfl⟩, fun g off n c he => by cases he⟩
  · have hlt : g < w.heap.size := (Array.getElem?_eq_some_iff.1 hh).1
    have hc : ∀ j u, (ftCells fs)[j]? = some u → w.cell? ⟨g, j, none⟩ = some u := fun j u hj => by
      have := World.ownsRow.cells h0 (g := g) (by rw [hv]; rfl) j u hj
      simpa [Addr.add_lit] using this
    refine ⟨.inr ⟨g, 0, cap, hv, hlt, fun i x hx => ?_⟩, fun g' off n c he => ?_⟩
    · obtain ⟨d0, d1, d2, d3, d4⟩ := ftCells_at fs i x hx
      simp only [Nat.zero_add]
      exact ⟨hc _ _ d0, hc _ _ d1, hc _ _ d2, hc _ _ d3, hc _ _ d4⟩
    · rw [hv] at he
      cases he
      exact ⟨hb, hlt⟩

theorem infoFt : (Tryd.prog.info? 32).map (fun i => (i.zero, i.size, i.bytes)) = some (some (.agg #[.int .i64 0, .int .i64 0, .int .i64 0, .int .i64 0, .int .i64 0]), 5, 40) := by kernel_rfl
/-- What a clone of a slice of faults is. -/
def CloneOf (w w' : World) (v : Value) (fs : List Ft) : Prop := FtRow w' v fs ∧ (∀ g off n c, v = .slice (some ⟨g, off, none⟩) n c → w.heap.size ≤ g ∧ g < w'.heap.size) ∧ Fr [] w w'
theorem clone_any (v : Value) (fs : List Ft) (hl : fs.length ≤ 100000) (w : World) (h : FtRow w v fs) :
    Calls Tryd.prog 35 #[v] w fun e w' => ∃ v', e = .returned v' ∧ CloneOf w w' v' fs := by
  obtain ⟨i0, hi, hz0, hz1, hz2⟩ := info_parts infoFt
  have q22 : ∀ (w : World) (a : Option Addr) (n c n' c' : Nat), (binOp .eql 22 (.slice a n c) (.slice none n' c')).run Tryd.prog w = .ok (.bool a.isNone) w := fun w a n c n' c' => Lib.run_eql_slice_nil w _ _ a n c n' c' Tryd.underlying22
  rcases h with ⟨rfl, a, c, rfl⟩ | ⟨g, off, cap, rfl, h1, h2⟩
  · cases a with
    | none =>
      go_enter Tryd.func35, Tryd.ntmps35
      go_wp2
      go_ret
      exact ⟨_, rfl, .inl ⟨rfl, _, _, rfl⟩, (fun g off n c he => by cases he), Fr.refl _ _⟩
    | some p =>
      go_enter Tryd.func35, Tryd.ntmps35
      go_wp2_with (at_builtin; refine wpList_append_own _ rfl _ _ 22 rfl w.heap.size 32 i0 _ 5 40 Tryd.underlying22 hi hz0 hz1 hz2 rfl (by omega) _ _ _ rfl (World.ownsRow_made w #[] 0 (Nat.le_refl _) (Nat.zero_le _) (by simp)) p 0 c [] rfl ?qc1 ?qc2 ?qc3 ?qc4 ?qc5 ?qc6 ?_)
      case qc1 => rfl
      case qc2 => intro j u hj; simp at hj
      case qc3 => intro u hu; cases hu
      case qc4 => unfold maxLen; omega
      case qc5 => omega
      case qc6 => simp
      intro v' w1 hown hgrow hnil
      go_wp2
      go_ret
      obtain ⟨k1, k2⟩ := FtRow.of (fs := []) (by simpa [ftCells] using hown)
      refine ⟨v', rfl, k1, fun g off n c he => k2 g off n c he, Fr.of_below (((Below.refl _ w).alloc (Nat.le_refl _) _).grown hgrow (by simp) (by intro k hk; simp [Value.ownBlock] at hk; omega))⟩
  · have HC := Lib.hid (ftCells_read h2)
    have hlen := ftCells_len fs
    have hone := ftCells_one fs
    generalize hnews : ftCells fs = news at HC hlen hone
    have HNW := Lib.hid hnews
    have HL := Lib.hid hlen
    have HO := Lib.hid hone
    clear h2 hnews hlen hone
    go_enter Tryd.func35, Tryd.ntmps35
    go_wp2_with (at_builtin; refine wpList_append_own _ rfl _ _ 22 rfl w.heap.size 32 i0 _ 5 40 Tryd.underlying22 hi hz0 hz1 hz2 rfl (by omega) _ _ _ rfl (World.ownsRow_made w #[] 0 (Nat.le_refl _) (Nat.zero_le _) (by simp)) ⟨g, off, none⟩ fs.length cap news rfl ?qc1 ?qc2 ?qc3 ?qc4 ?qc5 ?qc6 ?_)
    case qc1 => exact HL.out
    case qc2 =>
      intro j u hj
      rw [Addr.add_lit]
      exact Lib.cell?_alloc_some _ (HC.out j u hj)
    case qc3 => exact HO.out
    case qc4 => unfold maxLen; omega
    case qc5 => omega
    case qc6 => simp
    intro v' w1 hown hgrow hnil
    go_wp2
    go_ret
    obtain ⟨k1, k2⟩ := FtRow.of (fs := fs) (by rw [HNW.out]; simpa using hown)
    refine ⟨v', rfl, k1, fun g off n c he => k2 g off n c he, Fr.of_below (((Below.refl _ w).alloc (Nat.le_refl _) _).grown hgrow (by simp) (by intro k hk; simp [Value.ownBlock] at hk; omega))⟩

/-- A plan in block p: its faults in the slice v, its lanes in the map m. -/
structure PlanIs (w : World) (p m : Nat) (v : Value) (fs : List Ft) (F : LF) : Prop where
  c0 : w.cell? ⟨p, 0, none⟩ = some v
  c1 : w.cell? ⟨p, 1, none⟩ = some (.map (some m))
  row : FtRow w v fs
  lanes : LanesIs w m F
  ne : p ≠ m
  sep : ∀ g off n c, v = .slice (some ⟨g, off, none⟩) n c → g ≠ m ∧ g ≠ p
  ok : allOk fs = true
  len : fs.length ≤ 64
  low : ∀ g off n c, v = .slice (some ⟨g, off, none⟩) n c → g < w.heap.size
theorem PlanIs.keep {S : List Nat} {w w' : World} {p m : Nat} {v : Value} {fs : List Ft} {F : LF} (h : PlanIs w p m v fs F) (hf : Fr S w w') (h1 : p ∉ S) (h2 : m ∉ S) (h3 : ∀ g off n c, v = .slice (some ⟨g, off, none⟩) n c → g ∉ S) : PlanIs w' p m v fs F :=
  ⟨hf.keep h.c0 h1, hf.keep h.c1 h1, h.row.keep hf h3, h.lanes.keep hf h2, h.ne, h.sep, h.ok, h.len, fun g off n c he => Nat.lt_of_lt_of_le (h.low g off n c he) hf.size⟩
theorem PlanIs.new {w w' : World} {p m : Nat} {v : Value} {fs : List Ft} {F : LF} (h : PlanIs w p m v fs F) (hf : Fr [] w w') : PlanIs w' p m v fs F :=
  h.keep hf (by simp) (by simp) (fun _ _ _ _ _ => by simp)
theorem PlanIs.turn {w w' : World} {p m : Nat} {v : Value} {fs : List Ft} {F F' : LF} (h : PlanIs w p m v fs F) (hf : Fr [m] w w') (hl : LanesIs w' m F') : PlanIs w' p m v fs F' :=
  ⟨hf.keep h.c0 (by simpa using h.ne), hf.keep h.c1 (by simpa using h.ne), h.row.keep hf (fun g off n c he => by simpa using (h.sep g off n c he).1), hl, h.ne, h.sep, h.ok, h.len, fun g off n c he => Nat.lt_of_lt_of_le (h.low g off n c he) hf.size⟩

def planB (fs : List Ft) : Bool := decide (fs.length ≤ 64) && allOk fs
theorem new_bad (v : Value) (fs : List Ft) (hl : fs.length ≤ 100000) (w : World) (h : FtRow w v fs) (hb : planB fs = false) :
    Calls Tryd.prog 14 #[v] w fun e w' => e = .returned (.tuple #[.pointer none, .int .i64 2]) ∧ Fr [] w w' := by
  have hP := plan_any v fs hl w h
  rw [show (decide (fs.length ≤ 64) && allOk fs) = planB fs from rfl, hb] at hP
  have HP := Lib.hid hP
  clear hP h hb
  go_enter Tryd.func14, Tryd.ntmps14
  go_wp2_with (go_at_call 25; refine HP.out.mono ?_; rintro e w1 ⟨rfl, f1⟩)
  go_ret2
  exact ⟨rfl, f1⟩
theorem new_ok (v : Value) (fs : List Ft) (w : World) (h : FtRow w v fs) (hb : planB fs = true) :
    Calls Tryd.prog 14 #[v] w fun e w' => ∃ p m v', e = .returned (.tuple #[.pointer (some ⟨p, 0, none⟩), .int .i64 0]) ∧ PlanIs w' p m v' fs (fun _ _ => (0, 0, 0)) ∧ Fr [] w w' ∧ w.heap.size ≤ p ∧ w.heap.size ≤ m ∧ ∀ g off n c, v' = .slice (some ⟨g, off, none⟩) n c → w.heap.size ≤ g := by
  have hmm := @run_makeMap Tryd.prog
  unfold planB at hb
  simp only [Bool.and_eq_true, decide_eq_true_eq] at hb
  obtain ⟨hl, hk⟩ := hb
  have hP := plan_any v fs (by omega) w h
  rw [decide_eq_true hl, hk] at hP
  have HP := Lib.hid hP
  have HK := Lib.hid hk
  have HR := Lib.hid h
  clear hP h hk
  go_enter Tryd.func14, Tryd.ntmps14
  go_wp2_with (first
    | (go_at_call 25; refine HP.out.mono ?_; rintro e w1 ⟨rfl, f1⟩)
    | (go_at_call 35; refine (clone_any v fs (by omega) _ (HR.out.new f1)).mono ?_; rintro e w2 ⟨v', rfl, hc⟩; obtain ⟨a', c', rfl⟩ := hc.1.val; have HCL := Lib.hid hc; clear hc))
  go_ret2
  obtain ⟨r2, s2, f2⟩ := HCL.out
  have z := f1.size
  have z2 := f2.size
  have f3 : Fr [] w2 ((w2.alloc (.map #[] 0)).alloc (.cells #[.slice a' fs.length c', .map (some w2.heap.size)] 65)) := ((Fr.refl [] w2).alloc _).alloc _
  refine ⟨w2.heap.size + 1, w2.heap.size, _, rfl, ⟨by simp, by simp, r2.new f3, ?_, by omega, fun g off n c he => ?_, HK.out, hl, fun g off n c he => Nat.lt_of_lt_of_le (s2 g off n c he).2 f3.size⟩, (f1.step f2).step f3, by omega, by omega, fun g off n c he => ?_⟩
  · exact (LanesIs.made w2).keep ((Fr.refl [] _).alloc _) (by simp)
  · have := s2 g off n c he
    omega
  · have := s2 g off n c he
    omega
end Go.Proofs.YtededfkenlhokaaDoor
