/- Bounds of a plan's lanes, a plan and the model of it, what step hands back. -/
import Derived.Test.YtededfkenlhokaaDoorQ4
namespace Go.Proofs.YtededfkenlhokaaDoor
open Go.RowKit Go.Shelf
set_option linter.unusedVariables false
set_option linter.unusedSimpArgs false
set_option maxRecDepth 100000
set_option maxHeartbeats 8000000

/-- Bounds of a plan's lanes behind k acts of any kind. -/
def PInv (fs : List Ft) (F : LF) (k : Nat) : Prop := ∀ c d, (0 ≤ (F c d).1 ∧ (F c d).1 ≤ k) ∧ (0 ≤ (F c d).2.1 ∧ (F c d).2.1 ≤ 65536 * k) ∧ (0 ≤ (F c d).2.2 ∧ (F c d).2.2 ≤ 65536) ∧ (∀ f ∈ fs, mt 4 c d f = true → (F c d).2.1 + (F c d).2.2 ≤ f.a)
theorem PInv.start (fs : List Ft) (hok : ∀ f ∈ fs, f.ok = true) : PInv fs (fun _ _ => (0, 0, 0)) 0 := fun c d => ⟨by simp, by simp, by simp, fun f hf _ => by have := (ok_g (hok f hf)).2.1; simp only; omega⟩
theorem PInv.skip {fs : List Ft} {F : LF} {k : Nat} (h : PInv fs F k) : PInv fs F (k + 1) := fun c d => by
  obtain ⟨h1, h2, h3, h4⟩ := h c d
  exact ⟨by omega, by omega, h3, h4⟩
theorem PInv.put {fs : List Ft} {F : LF} {k : Nat} (h : PInv fs F k) {c d q b le : Int} (h1 : 0 ≤ q ∧ q ≤ k + 1) (h2 : 0 ≤ b ∧ b ≤ 65536 * (k + 1)) (h3 : 0 ≤ le ∧ le ≤ 65536) (h4 : ∀ f ∈ fs, mt 4 c d f = true → b + le ≤ f.a) : PInv fs (F.upd c d (q, b, le)) (k + 1) := fun c' d' => by
  by_cases he : c' = c ∧ d' = d
  · obtain ⟨rfl, rfl⟩ := he
    rw [upd_same]
    exact ⟨by simp only; omega, by simp only; omega, h3, h4⟩
  · have e : F.upd c d (q, b, le) c' d' = F c' d' := by
      unfold LF.upd
      rw [if_neg he]
    rw [e]
    exact h.skip c' d'
theorem PInv.call {fs : List Ft} {F : LF} {k : Nat} (h : PInv fs F k) (hok : ∀ f ∈ fs, f.ok = true) (hk : k ≤ 24) {c d n : Int} (hn : 0 ≤ n ∧ n ≤ 65536) :
    PInv fs (F.upd c d ((F c d).1 + 1, (F c d).2.1, (effW fs c d (F c d).1 (F c d).2.1 n).1)) (k + 1) := by
  obtain ⟨h1, h2, h3, h4⟩ := h c d
  obtain ⟨g1, _, g3⟩ := effW_most fs hok c d (F c d).1 (F c d).2.1 n hn.1 (by omega) (fun f hf hm => by have := h4 f hf hm; omega)
  exact h.put (by omega) (by omega) (by omega) g3
theorem PInv.moved {fs : List Ft} {F : LF} {k : Nat} (h : PInv fs F k) {c d n : Int} (hn : 0 ≤ n ∧ n ≤ (F c d).2.2) :
    PInv fs (F.upd c d ((F c d).1, (F c d).2.1 + n, (F c d).2.2 - n)) (k + 1) := by
  obtain ⟨h1, h2, h3, h4⟩ := h c d
  exact h.put (by omega) (by omega) (by omega) (fun f hf hm => by have := h4 f hf hm; omega)
/-- A plan and the model of it, behind k acts. -/
structure Mods (W : World) (p m : Nat) (v vf : Value) (fs : List Ft) (F : LF) (vl : Value) (L : List Ft) (k : Nat) : Prop where
  plan : PlanIs W p m v fs F
  fts : FtRow W vf fs
  row : FtRow W vl L
  lf : LaneFun L F
  inv : PInv fs F k
  len : L.length ≤ k
  sepf : fs ≠ [] → ∀ g off n c, vf = .slice (some ⟨g, off, none⟩) n c → g ≠ m
  sep : L ≠ [] → ∀ g off n c, vl = .slice (some ⟨g, off, none⟩) n c → g ≠ m
/-- What step hands back. -/
def StepPost (w : World) (p m : Nat) (v vf : Value) (fs : List Ft) (k : Nat) (e : Ending) (w' : World) : Prop :=
  ∃ (p' m' : Nat) (F' : LF) (L' : List Ft) (vl' : Value), e = .returned (.tuple #[.pointer (some ⟨p', 0, none⟩), .agg #[vf, vl'], .bool true]) ∧ Mods w' p' m' v vf fs F' vl' L' (k + 1) ∧ Fr [m] w w' ∧ ((p' = p ∧ m' = m) ∨ (w.heap.size ≤ p' ∧ w.heap.size ≤ m'))
theorem FtRow.low {w : World} {v : Value} {fs : List Ft} (h : FtRow w v fs) (hne : fs ≠ []) : ∀ g off n c, v = .slice (some ⟨g, off, none⟩) n c → g < w.heap.size := fun g off n c e => by
  rcases h with ⟨h1, _⟩ | ⟨g', off', c', h1, h2, _⟩
  · exact absurd h1 hne
  · rw [h1] at e
    cases e
    exact h2
theorem FtRow.over {m : Nat} {w w' : World} {v : Value} {fs : List Ft} (h : FtRow w v fs) (hf : Fr [m] w w') (hS : fs ≠ [] → ∀ g off n c, v = .slice (some ⟨g, off, none⟩) n c → g ≠ m) : FtRow w' v fs := by
  by_cases hne : fs = []
  · subst hne
    rcases h with h | ⟨g, off, cap, rfl, h1, h2⟩
    · exact .inl h
    · exact .inl ⟨rfl, _, _, rfl⟩
  · exact h.keep hf (fun g off n c e => by rw [List.mem_singleton]; exact hS hne g off n c e)
theorem Mods.skip {w w' : World} {p m : Nat} {v vf : Value} {fs : List Ft} {F : LF} {vl : Value} {L : List Ft} {k : Nat} (h : Mods w p m v vf fs F vl L k) (f : Fr [] w w') : Mods w' p m v vf fs F vl L (k + 1) :=
  ⟨h.plan.new f, h.fts.new f, h.row.new f, h.lf, h.inv.skip, by have := h.len; omega, h.sepf, h.sep⟩
theorem Mods.stay {w w' : World} {p m : Nat} {v vf : Value} {fs : List Ft} {F : LF} {vl : Value} {L : List Ft} {k : Nat} (h : Mods w p m v vf fs F vl L k) (hP : PlanIs w' p m v fs F) (f : Fr [m] w w') : Mods w' p m v vf fs F vl L (k + 1) :=
  ⟨hP, h.fts.over f h.sepf, h.row.over f h.sep, h.lf, h.inv.skip, by have := h.len; omega, h.sepf, h.sep⟩
theorem Mods.put {w w' : World} {p m : Nat} {v vf : Value} {fs : List Ft} {F F' : LF} {vl vl' : Value} {L L' : List Ft} {k : Nat} (h : Mods w p m v vf fs F vl L k) (hP : PlanIs w' p m v fs F') (f : Fr [m] w w') (hr : FtRow w' vl' L') (hl : LaneFun L' F') (hi : PInv fs F' (k + 1)) (hlen : L'.length ≤ L.length + 1)
    (hsep : ∀ g off n c, vl' = .slice (some ⟨g, off, none⟩) n c → w.heap.size ≤ g) : Mods w' p m v vf fs F' vl' L' (k + 1) :=
  ⟨hP, h.fts.over f h.sepf, hr, hl, hi, by have := h.len; omega, h.sepf, fun _ g off n c e => by have := hsep g off n c e; have := h.plan.lanes.lt; omega⟩
theorem Mods.copied {w w' : World} {p m p3 m3 : Nat} {v vf : Value} {fs : List Ft} {F : LF} {vl : Value} {L : List Ft} {k : Nat} (h : Mods w p m v vf fs F vl L k) (hP : PlanIs w' p3 m3 v fs F) (f : Fr [m] w w') (hm : w.heap.size ≤ m3) : Mods w' p3 m3 v vf fs F vl L (k + 1) :=
  ⟨hP, h.fts.over f h.sepf, h.row.over f h.sep, h.lf, h.inv.skip, by have := h.len; omega, fun hne g off n c e => by have := h.fts.low hne g off n c e; omega, fun hne g off n c e => by have := h.row.low hne g off n c e; omega⟩
/-- .. and behind what fills the result's own block. -/
theorem Mods.ret {R : Nat} {w w' : World} {p m : Nat} {v vf : Value} {fs : List Ft} {F : LF} {vl : Value} {L : List Ft} {k : Nat} (h : Mods w p m v vf fs F vl L k) (f : Fr [R] w w') (h1 : p ≠ R) (h2 : m ≠ R) (h3 : ∀ g off n c, v = .slice (some ⟨g, off, none⟩) n c → g ≠ R) (h4 : fs ≠ [] → ∀ g off n c, vf = .slice (some ⟨g, off, none⟩) n c → g ≠ R) (h5 : L ≠ [] → ∀ g off n c, vl = .slice (some ⟨g, off, none⟩) n c → g ≠ R) : Mods w' p m v vf fs F vl L k :=
  ⟨h.plan.keep f (by rw [List.mem_singleton]; exact h1) (by rw [List.mem_singleton]; exact h2) (fun g off n c e => by rw [List.mem_singleton]; exact h3 g off n c e), h.fts.over f h4, h.row.over f h5, h.lf, h.inv, h.len, h.sepf, h.sep⟩
theorem fr_two {R : Nat} (w5 : World) (u1 u2 : Value) : Fr [R] w5 (((w5.setCell ⟨R, 0, none⟩ u1).setCell ⟨R, 1, none⟩ u2).drew) :=
  ((((Fr.refl [R] w5).setCell (fun _ => by simp) _).setCell (fun _ => by simp) _)).drew
theorem Fr.sing {R m : Nat} {w w5 w' : World} (h : Fr [m] w w5) (f : Fr [R] w5 w') (hR : w.heap.size ≤ R) : Fr [m] w w' :=
  h.trans f (fun x hx hl => by rw [List.mem_singleton] at hx; omega)
theorem withL_len (L : List Ft) (x : Ft) : (withL L x).length ≤ L.length + 1 := by
  unfold withL
  have := List.length_filter_le (fun y => !laneIs x.k x.c y) L
  simp only [List.length_cons]
  omega
end Go.Proofs.YtededfkenlhokaaDoor
