/- The contract of the reference's Sort of addresses: the list in order, without doubles. -/
import Derived.Test.YtbilaapikclhlaaDoorRefCmp
import Derived.Deep.AppendLies
import Derived.Deep.RegionHeld3
import Derived.Deep.DrawnRows
namespace Go.Proofs.YtbilaapikclhlaaDoor
open Go.RowKit Go.Sort Go.Shelf
set_option linter.unusedVariables false
set_option maxRecDepth 100000
set_option maxHeartbeats 8000000

def insA (L : List Ad) (x : Ad) (k : Nat) : List Ad := L.take k ++ x :: L.drop k
theorem insA_length (L : List Ad) (x : Ad) (k : Nat) (h : k ≤ L.length) : (insA L x k).length = L.length + 1 := by
  simp [insA]; omega
theorem insA_mem (L : List Ad) (x e : Ad) (k : Nat) : e ∈ insA L x k ↔ e ∈ L ∨ e = x := by
  have h : e ∈ L ↔ e ∈ L.take k ∨ e ∈ L.drop k := by
    conv => lhs; rw [← List.take_append_drop k L]
    exact List.mem_append
  rw [h]
  simp [insA]
  constructor
  · rintro (h | h | h) <;> simp [h]
  · rintro ((h | h) | h) <;> simp [h]
theorem insA_strict (L : List Ad) (x : Ad) (k : Nat) (hk : k ≤ L.length) (hs : L.Pairwise (fun a b => cmpA a b < 0)) (hlow : ∀ i, i < k → cmpA L[i]! x < 0) (hat : k < L.length → 0 ≤ cmpA L[k]! x ∧ L[k]! ≠ x) :
    (insA L x k).Pairwise (fun a b => cmpA a b < 0) := by
  have hI := List.pairwise_iff_getElem.1 hs
  have hlt : ∀ j (hj : j < L.length), k ≤ j → cmpA x L[j] < 0 := fun j hj hkj => by
    have hkl : k < L.length := by omega
    obtain ⟨h1, h2⟩ := hat hkl
    rw [getElem!_pos L k hkl] at h1 h2
    have h3 : cmpA x L[k] < 0 := by
      rw [cmpA_anti L[k] x]
      have : cmpA L[k] x ≠ 0 := fun h => h2 ((cmpA_zero _ _).1 h)
      omega
    rcases Nat.lt_or_ge k j with q | q
    · exact ltT h3 (hI k j hkl hj q)
    · obtain rfl : k = j := by omega
      exact h3
  have hdrop : ∀ e ∈ L.drop k, cmpA x e < 0 := fun e he => by
    obtain ⟨i, hi, rfl⟩ := List.getElem_of_mem he
    rw [List.getElem_drop]
    exact hlt _ _ (by omega)
  have htake : ∀ e ∈ L.take k, cmpA e x < 0 := fun e he => by
    obtain ⟨i, hi, rfl⟩ := List.getElem_of_mem he
    rw [List.getElem_take]
    have hi' : i < k := by simp at hi; omega
    have := hlow i hi'
    rwa [getElem!_pos L i (by omega)] at this
  refine List.pairwise_append.2 ⟨hs.sublist (List.take_sublist _ _), List.pairwise_cons.2 ⟨hdrop, hs.sublist (List.drop_sublist _ _)⟩, ?_⟩
  intro a ha b hb
  rcases List.mem_cons.1 hb with rfl | hb
  · exact htake a ha
  · exact ltT (htake a ha) (hdrop b hb)

theorem fr_grown {w w' : World} {row : Option Nat} {S : List Nat} (h : w.grownBy w' row) (hS : ∀ k, row = some k → k < w.heap.size → k ∈ S) : Fr S w w' :=
  ⟨h.os, h.tape, h.output, h.size, fun k hk hn => h.block k hk (fun e => hn (hS k e.symm hk))⟩
theorem flat_length (l : List Ad) : (l.flatMap encA).length = l.length * 2 := by
  induction l with
  | nil => rfl
  | cons a r ih => simp only [List.flatMap_cons, List.length_append, ih, encA, List.length_cons, List.length_nil]; omega
theorem flat_one (l : List Ad) : ∀ u ∈ l.flatMap encA, u.oneCell' = true := by
  intro u hu
  obtain ⟨x, _, hx⟩ := List.mem_flatMap.1 hu
  simp [encA] at hx
  rcases hx with rfl | rfl <;> rfl
theorem news_row {w : World} {g off n : Nat} {f : Nat → Ad} (h : RowA w g off n f) : ∀ j u, ((upto f n).flatMap encA)[j]? = some u → w.cell? ((⟨g, off, none⟩ : Addr).add j) = some u := by
  intro j u hu
  have hj : j < n * 2 := by
    have := (List.getElem?_eq_some_iff.1 hu).1
    rwa [flat_length, upto_length] at this
  have hi : j / 2 < n := by omega
  rw [flat_at _ _ (by rw [upto_length]; exact hj)] at hu
  have hx : (upto f n)[j / 2]! = f (j / 2) := by
    rw [getElem!_pos _ _ (by rw [upto_length]; exact hi)]
    simp [upto]
  rw [hx] at hu
  have h1 := h.s (j / 2) hi
  have h2 := h.p (j / 2) hi
  have ha : (⟨g, off, none⟩ : Addr).add j = ⟨g, off + j, none⟩ := by unfold Addr.add; split <;> simp_all
  rw [ha]
  rcases Nat.mod_two_eq_zero_or_one j with q | q
  · rw [q] at hu
    simp [encA] at hu
    subst hu
    have : off + j = off + j / 2 * 2 := by omega
    rw [this]; exact h1
  · rw [q] at hu
    simp [encA] at hu
    subst hu
    have : off + j = off + j / 2 * 2 + 1 := by omega
    rw [this]; exact h2
theorem row_owned {w : World} {lo g cap : Nat} {l : List Ad} (h : w.ownsRow lo 23 2 (.slice (some ⟨g, 0, none⟩) l.length cap) l.length (l.flatMap encA)) : RowA w g 0 l.length (fun i => l[i]!) := by
  rcases Nat.eq_zero_or_pos l.length with q | q
  · rw [q]
    exact ⟨fun i hi => by omega, fun i hi => by omega⟩
  · obtain ⟨g', cap', hv, _, _, _, hH⟩ := holds_owned h q
    cases hv
    have := RowA.of_holds hH
    simpa using this
theorem RowA.sub {w : World} {g off n : Nat} {f : Nat → Ad} (h : RowA w g off n f) (k m : Nat) (hk : k + m ≤ n) : RowA w g (off + k * 2) m (fun i => f (k + i)) :=
  ⟨fun i hi => by have := h.s (k + i) (by omega); rwa [show off + (k + i) * 2 = off + k * 2 + i * 2 by omega] at this, fun i hi => by have := h.p (k + i) (by omega); rwa [show off + (k + i) * 2 + 1 = off + k * 2 + i * 2 + 1 by omega] at this⟩
theorem upto_take (L : List Ad) (k : Nat) (h : k ≤ L.length) : upto (fun i => L[i]!) k = L.take k := by
  apply List.ext_getElem
  · simp [upto]; omega
  · intro i h1 h2
    simp [upto] at h1 h2 ⊢
    rw [List.getElem?_eq_getElem (by omega)]
    rfl
theorem upto_drop (L : List Ad) (k : Nat) (h : k ≤ L.length) : upto (fun i => L[k + i]!) (L.length - k) = L.drop k := by
  apply List.ext_getElem
  · simp [upto]
  · intro i h1 h2
    simp [upto] at h1 h2 ⊢
    rw [List.getElem?_eq_getElem (by omega)]
    rfl

section
variable {P : Program} (w : World)
/-- 'append' onto an own row, at a step of a region that draws, whatever is appended. -/
theorem step_append_own {ops : Array Oper} {o : Oper} {a : Act} {K : Act → World → Prop} {Q : Exit → Act → World → Prop} {E : Prop} (hgd : o.guard = none) (s x : Operand) (t : TypeId)
    (ho : o.op = .call { callee := .builtin .append, args := #[s, x], argTypes := #[t, t] })
    (base : Nat) (e : TypeId) (i : TypeInfo) (z : Value) (size bytes : Nat) (ht : P.underlying t = some (.slice e)) (hi : P.info? e = some i) (hz : i.zero = some z)
    (hsize : i.size = size) (hby : i.bytes = bytes) (hzs : z.cells.size = size) (hsz : 0 < size)
    (v : Value) (n : Nat) (xs : List Value) (hs : a.eval s = v) (hown : w.ownsRow base e size v n xs)
    (ad : Addr) (m c : Nat) (news : List Value) (hx : a.eval x = .slice (some ad) m c) (hl : news.length = m * size) (hnews : ∀ j u, news[j]? = some u → w.cell? (ad.add j) = some u) (h1 : ∀ u ∈ news, u.oneCell' = true)
    (h63 : n + m ≤ maxLen) (hbytes : (n + m) * bytes ≤ 140737488355328) (hbase : base ≤ w.heap.size)
    (h : ∀ v' w', w'.ownsRow base e size v' (n + m) (xs ++ news) → w.grownBy w' v.ownBlock → K (a.put o.dst v') w') :
    if Region.wanted o (yielded ops a.tmps) = true then Oper.wp P o a w K Q else E := by
  have hw : Region.wanted o (yielded ops a.tmps) = true := by simp [Region.wanted, hgd]
  rw [if_pos hw]
  obtain ⟨v', w', hr, h2, h3, _, _⟩ := run_append_own_at (P := P) w base t o.type e i z size bytes ht hi hz hsize hby hzs hsz v n xs hown ad m c news hl hnews h1 h63 hbytes hbase
  unfold Oper.wp execOp
  simp only [ho, resolve, invoke, builtin, Sem.run_bind, Sem.run_pure, Result.andThen_ok, List.map_toArray, List.map_cons, List.map_nil, hs, hx, hr]
  exact h v' w' h2 h3
end
end Go.Proofs.YtbilaapikclhlaaDoor
