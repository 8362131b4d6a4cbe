/- Plain laws of what effect makes of a call: no more than was wanted, no more than the cuts leave, nothing beside an error. -/
import Derived.Test.YtededfkenlhokaaDoorC9
namespace Go.Proofs.YtededfkenlhokaaDoor
open Go.RowKit
set_option linter.unusedVariables false

theorem w64 {x : Int} (h1 : -9223372036854775808 ≤ x) (h2 : x ≤ 9223372036854775807) : wrap64 x = x := by
  unfold wrap64
  omega
theorem cutS_le : ∀ (l : List Ft) (b n : Int), cutS b n l ≤ n ∧ ∀ f ∈ l, cutS b n l ≤ wrap64 (f.a - b)
  | [], b, n => ⟨Int.le_refl _, fun f hf => by cases hf⟩
  | x :: l, b, n => by
    have e : cutS b n (x :: l) = cutS b (min n (wrap64 (x.a - b))) l := rfl
    obtain ⟨h1, h2⟩ := cutS_le l b (min n (wrap64 (x.a - b)))
    rw [e]
    refine ⟨by omega, fun f hf => ?_⟩
    rcases List.mem_cons.1 hf with rfl | hf
    · omega
    · exact h2 f hf
theorem cutS_ge : ∀ (l : List Ft) (b n : Int), 0 ≤ n → (∀ f ∈ l, 0 ≤ wrap64 (f.a - b)) → 0 ≤ cutS b n l
  | [], b, n, h, _ => h
  | x :: l, b, n, h, hl => by
    have e : cutS b n (x :: l) = cutS b (min n (wrap64 (x.a - b))) l := rfl
    rw [e]
    have := hl x List.mem_cons_self
    exact cutS_ge l b _ (by omega) (fun f hf => hl f (List.mem_cons_of_mem _ hf))
theorem shortS_le : ∀ (l : List Ft) (q n : Int), shortS q n l ≤ n
  | [], q, n => Int.le_refl _
  | x :: l, q, n => by
    have e : shortS q n (x :: l) = shortS q (if x.a = q then min n x.g else n) l := rfl
    rw [e]
    have := shortS_le l q (if x.a = q then min n x.g else n)
    have h2 : (if x.a = q then min n x.g else n) ≤ n := by split <;> omega
    omega
theorem shortS_ge : ∀ (l : List Ft) (q n : Int), 0 ≤ n → (∀ f ∈ l, 0 ≤ f.g) → 0 ≤ shortS q n l
  | [], q, n, h, _ => h
  | x :: l, q, n, h, hl => by
    have e : shortS q n (x :: l) = shortS q (if x.a = q then min n x.g else n) l := rfl
    rw [e]
    have := hl x List.mem_cons_self
    exact shortS_ge l q _ (by split <;> omega) (fun f hf => hl f (List.mem_cons_of_mem _ hf))
theorem ok_g {f : Ft} (h : f.ok = true) : 0 ≤ f.g ∧ 0 ≤ f.a ∧ f.a ≤ 1000000 := by
  have := (Ft.ok_iff.1 h).2.2
  omega
theorem mt_of {k c d : Int} {f : Ft} : mt k c d f = true ↔ f.k = k ∧ f.c = c ∧ f.d = d := by simp [mt]
/-- What effect says of a call's bytes. -/
theorem effW_most (fs : List Ft) (hok : ∀ f ∈ fs, f.ok = true) (c d q b n : Int) (hn : 0 ≤ n) (hb : 0 ≤ b ∧ b ≤ 100000000) (hcut : ∀ f ∈ fs, mt 4 c d f = true → b ≤ f.a) :
    (0 ≤ (effW fs c d q b n).1 ∧ (effW fs c d q b n).1 ≤ n) ∧ ((effW fs c d q b n).2.2 ≠ 0 → (effW fs c d q b n).1 = 0) ∧ ∀ f ∈ fs, mt 4 c d f = true → b + (effW fs c d q b n).1 ≤ f.a := by
  unfold effW
  split
  · exact ⟨⟨Int.le_refl _, hn⟩, fun _ => rfl, fun f hf hm => by have := hcut f hf hm; simp only; omega⟩
  · rename_i hc
    split
    · exact ⟨⟨Int.le_refl _, hn⟩, fun _ => rfl, fun f hf hm => by have := hcut f hf hm; simp only; omega⟩
    · have hw : ∀ f ∈ fs.filter (mt 4 c d), wrap64 (f.a - b) = f.a - b ∧ 0 ≤ f.a - b := fun f hf => by
        obtain ⟨h1, h2⟩ := List.mem_filter.1 hf
        have := ok_g (hok f h1)
        have := hcut f h1 h2
        exact ⟨w64 (by omega) (by omega), by omega⟩
      obtain ⟨h1, h2⟩ := cutS_le (fs.filter (mt 4 c d)) b n
      have h3 := cutS_ge (fs.filter (mt 4 c d)) b n hn (fun f hf => by rw [(hw f hf).1]; exact (hw f hf).2)
      have h4 := shortS_le (fs.filter (mt 1 c d)) q (cutS b n (fs.filter (mt 4 c d)))
      have h5 := shortS_ge (fs.filter (mt 1 c d)) q (cutS b n (fs.filter (mt 4 c d))) h3 (fun f hf => (ok_g (hok f (List.mem_filter.1 hf).1)).1)
      refine ⟨⟨h5, by simp only; omega⟩, fun h => absurd rfl h, fun f hf hm => ?_⟩
      have h6 := h2 f (List.mem_filter.2 ⟨hf, hm⟩)
      rw [(hw f (List.mem_filter.2 ⟨hf, hm⟩)).1] at h6
      simp only
      omega
theorem effW_nil (c d q b n : Int) : effW [] c d q b n = (n, 0, 0) := rfl
/-- What holds of a plan's lanes behind k acts of which each moves as much as it may. -/
def LInv (fs : List Ft) (F : LF) (k : Nat) : Prop := ∀ c d, (0 ≤ (F c d).1 ∧ (F c d).1 ≤ k) ∧ (0 ≤ (F c d).2.1 ∧ (F c d).2.1 ≤ 65536 * k) ∧ ∀ f ∈ fs, mt 4 c d f = true → (F c d).2.1 ≤ f.a
theorem LInv.start (fs : List Ft) (hok : ∀ f ∈ fs, f.ok = true) : LInv fs (fun _ _ => (0, 0, 0)) 0 := fun c d => ⟨by simp, by simp, fun f hf _ => (ok_g (hok f hf)).2.1⟩
theorem upd_same (F : LF) (c d : Int) (x : Int × Int × Int) : F.upd c d x c d = x := by
  unfold LF.upd
  rw [if_pos ⟨rfl, rfl⟩]
theorem upd_other (F : LF) {c d c' d' : Int} (x : Int × Int × Int) (h : c' ≠ c) : F.upd c d x c' d' = F c' d' := by
  unfold LF.upd
  rw [if_neg (fun e => h e.1)]
theorem upd_upd (F : LF) (c d : Int) (x y : Int × Int × Int) : (F.upd c d x).upd c d y = F.upd c d y := by
  funext c' d'
  unfold LF.upd
  split <;> rfl
theorem LInv.skip {fs : List Ft} {F : LF} {k : Nat} (h : LInv fs F k) : LInv fs F (k + 1) := fun c d => by
  obtain ⟨h1, h2, h3⟩ := h c d
  exact ⟨by omega, by omega, h3⟩
theorem LInv.step {fs : List Ft} {F : LF} {k : Nat} (h : LInv fs F k) (hok : ∀ f ∈ fs, f.ok = true) (hk : k ≤ 24) {c d n : Int} (hn : 0 ≤ n ∧ n ≤ 65536) (le : Int) :
    LInv fs (F.upd c d ((F c d).1 + 1, (F c d).2.1 + (effW fs c d (F c d).1 (F c d).2.1 n).1, le)) (k + 1) := fun c' d' => by
  by_cases he : c' = c ∧ d' = d
  · obtain ⟨rfl, rfl⟩ := he
    rw [upd_same]
    obtain ⟨h1, h2, h3⟩ := h c' d'
    obtain ⟨g1, g2, g3⟩ := effW_most fs hok c' d' (F c' d').1 (F c' d').2.1 n hn.1 (by omega) h3
    exact ⟨by simp only; omega, by simp only; omega, g3⟩
  · have e : F.upd c d ((F c d).1 + 1, (F c d).2.1 + (effW fs c d (F c d).1 (F c d).2.1 n).1, le) c' d' = F c' d' := by
      unfold LF.upd
      rw [if_neg he]
    rw [e]
    exact h.skip c' d'
end Go.Proofs.YtededfkenlhokaaDoor
