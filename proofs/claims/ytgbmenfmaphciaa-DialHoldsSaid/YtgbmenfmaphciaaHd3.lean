/- DialHolds: what holds between two calls. -/
import Derived.Test.YtgbmenfmaphciaaHd1b
namespace Go.Proofs.Ytgbmenfmaphciaa
open Go.RowKit
open Go.Maps (Keyed)
set_option linter.unusedVariables false
set_option maxRecDepth 100000
set_option maxHeartbeats 4000000

/-- A slice value: nil where there is nothing, else the block g from its head on. -/
def SlOf (v : Value) (n g : Nat) : Prop := (v = .slice none 0 0 ∧ n = 0) ∨ n ≠ 0 ∧ ∃ cap, v = .slice (some ⟨g, 0, none⟩) n cap
theorem SlOf.len {v : Value} {n g : Nat} {t e : TypeId} (ht : Try.prog.underlying t = some (.slice e)) (h : SlOf v n g) (W : World) : (Builtin.len_ #[t] 3 #[v]).run Try.prog W = .ok (.int .i64 n) W := by
  rcases h with ⟨rfl, rfl⟩ | ⟨_, cap, rfl⟩
  · simp [Builtin.len_, run_underlying ht, goInt]
  · simp [Builtin.len_, run_underlying ht, goInt]

/-- Between two calls: the net, the dialings, and the law's own slices of them. -/
structure HoldR (w0 : World) (B : NB) (ids : Nat → Nat × Nat) (O : List St) (g6 g7 : Nat) (w : World) (own : Nat → Nat) (L : List LB) (C : List CB) (G T : Nat) (D : List PN.PD) : Prop where
  net : NetW w own B L C G
  dials : DialsW w own ids D
  len : D.length = O.length
  same : ∀ i (h : i < D.length) (h' : i < O.length), (D[i]).s = (O[i]).s ∧ (D[i]).p = (O[i]).p ∧ (D[i]).un = (O[i]).un
  c6 : ∀ i, i < O.length → w.cell? ⟨g6, i, none⟩ = some (.pointer (some ⟨(ids i).1, 0, none⟩))
  c7 : ∀ i (h : i < O.length), w.cell? ⟨g7, i * 4, none⟩ = some (.string (O[i]).s) ∧ w.cell? ⟨g7, i * 4 + 1, none⟩ = some (.int .i64 (O[i]).p) ∧ w.cell? ⟨g7, i * 4 + 2, none⟩ = some (.int .i64 (O[i]).c) ∧ w.cell? ⟨g7, i * 4 + 3, none⟩ = some (.int .u64 (O[i]).un)
  o6 : O.length ≠ 0 → own g6 = 4 ∧ own g7 = 4
  old : ∀ z, z < w0.heap.size → own z = 4
  fr : Fr [] w0 w
  trs : ∀ x ∈ D, x.tr ≤ T

section
variable {w0 w w' : World} {B : NB} {ids : Nat → Nat × Nat} {O : List St} {g6 g7 : Nat} {own own' : Nat → Nat} {L L' : List LB} {C C' : List CB} {G G' T T' : Nat} {D D' : List PN.PD}
theorem HoldR.new (h : HoldR w0 B ids O g6 g7 w own L C G T D) (hf : Fr [] w w') : HoldR w0 B ids O g6 g7 w' own L C G T D :=
  ⟨h.net.new hf, h.dials.new hf, h.len, h.same, fun i hi => hf.keep (h.c6 i hi) (by simp), fun i hi => by
    obtain ⟨h1, h2, h3, h4⟩ := h.c7 i hi
    exact ⟨hf.keep h1 (by simp), hf.keep h2 (by simp), hf.keep h3 (by simp), hf.keep h4 (by simp)⟩, h.o6, h.old, h.fr.step hf, h.trs⟩
/-- New blocks belong to nobody. -/
theorem HoldR.own4 (h : HoldR w0 B ids O g6 g7 w own L C G T D) : HoldR w0 B ids O g6 g7 w (ownNew w own 4) L C G T D :=
  ⟨h.net.ext (Ext.new _ _ _), h.dials.ext (Ext.new _ _ _), h.len, h.same, h.c6, h.c7, fun hO => by
    obtain ⟨h1, h2⟩ := h.o6 hO
    have z6 := cell_lt (h.c6 0 (by omega))
    have z7 := cell_lt (h.c7 0 (by omega)).1
    exact ⟨(Ext.new w own 4 _ z6).trans h1, (Ext.new w own 4 _ z7).trans h2⟩, fun z hz => (Ext.new w own 4 z (Nat.lt_of_lt_of_le hz h.fr.size)).trans (h.old z hz), h.fr, h.trs⟩
theorem frOld (h : Fr [] w0 w) (hold : ∀ z, z < w0.heap.size → own z = 4) (hf : FrO own allO w w') : Fr [] w0 w' := by
  obtain ⟨S, f1, f2⟩ := hf.list
  refine h.trans f1 (fun x hx hl => ?_)
  have := (f2 x hx).2
  rw [hold x hl] at this
  unfold allO netO at this
  omega
theorem cellOwn {b o : Nat} {v : Value} (hc : w.cell? ⟨b, o, none⟩ = some v) (hb : own b = 4) (hf : FrO own allO w w') : w'.cell? ⟨b, o, none⟩ = some v := by
  obtain ⟨S, f1, f2⟩ := hf.list
  refine f1.keep hc (fun hm => ?_)
  have := (f2 b hm).2
  rw [hb] at this
  unfold allO netO at this
  omega
/-- A call of the net. -/
theorem HoldR.call (h : HoldR w0 B ids O g6 g7 w own L C G T D) (hn : NetW w' own' B L' C' G') (hd : DialsW w' own' ids D') (hl : D'.length = D.length) (hs : ∀ i (h : i < D.length) (h' : i < D'.length), (D'[i]).s = (D[i]).s ∧ (D'[i]).p = (D[i]).p ∧ (D'[i]).un = (D[i]).un)
    (he : Ext w own own') (hf : FrO own allO w w') (ht : ∀ x ∈ D', x.tr ≤ T') : HoldR w0 B ids O g6 g7 w' own' L' C' G' T' D' :=
  ⟨hn, hd, hl.trans h.len, fun i h1 h2 => by
    obtain ⟨a1, a2, a3⟩ := hs i (by omega) h1
    obtain ⟨b1, b2, b3⟩ := h.same i (by omega) h2
    exact ⟨a1.trans b1, a2.trans b2, a3.trans b3⟩, fun i hi => cellOwn (h.c6 i hi) (h.o6 (by omega)).1 hf, fun i hi => by
    obtain ⟨h1, h2, h3, h4⟩ := h.c7 i hi
    have o7 := (h.o6 (by omega)).2
    exact ⟨cellOwn h1 o7 hf, cellOwn h2 o7 hf, cellOwn h3 o7 hf, cellOwn h4 o7 hf⟩, fun hO => by
    obtain ⟨h1, h2⟩ := h.o6 hO
    exact ⟨(he _ (cell_lt (h.c6 0 (by omega)))).trans h1, (he _ (cell_lt (h.c7 0 (by omega)).1)).trans h2⟩, fun z hz => (he z (Nat.lt_of_lt_of_le hz h.fr.size)).trans (h.old z hz), frOld h.fr h.old hf, ht⟩
theorem dialsNet (h : DialsW w own ids D) (he : Ext w own own') (hf : FrO own netO w w') : DialsW w' own' ids D := by
  obtain ⟨S, f1, f2⟩ := hf.list
  refine (h.ext he).keep f1 (fun z hz h3 => ?_)
  obtain ⟨hl, hn⟩ := f2 z hz
  rw [he z hl] at h3
  unfold netO at hn
  omega
theorem HoldR.netCall (h : HoldR w0 B ids O g6 g7 w own L C G T D) (hn : NetW w' own' B L' C' G') (he : Ext w own own') (hf : FrO own netO w w') : HoldR w0 B ids O g6 g7 w' own' L' C' G' T D :=
  h.call hn (dialsNet h.dials he hf) rfl (fun i h1 h2 => ⟨rfl, rfl, rfl⟩) he (hf.mono (fun c hc => .inl hc)) h.trs
theorem set_len {P R : List PN.PD} {x x' : PN.PD} : (P ++ x' :: R).length = (P ++ x :: R).length := by simp
/-- A try of the dialing k. -/
theorem HoldR.tried {k : Nat} {now : Int} (h : HoldR w0 B ids O g6 g7 w own L C G T D) (hk : k < D.length) (hn : NetW w' own' B L' C' G') (hd : DialW w' own' k (ids k).1 (ids k).2 (PN.tryD now D[k] (plainN L C)).1) (he : Ext w own own') (hf : FrO own (tryO k) w w') :
    HoldR w0 B ids O g6 g7 w' own' L' C' G' (T + 1) (D.set k (PN.tryD now D[k] (plainN L C)).1) := by
  have hDk : D = D.take k ++ D[k] :: D.drop (k + 1) := by
    rw [List.getElem_cons_drop, List.take_append_drop]
  have hlk : (D.take k).length = k := by simp; omega
  have hset : D.set k (PN.tryD now D[k] (plainN L C)).1 = D.take k ++ (PN.tryD now D[k] (plainN L C)).1 :: D.drop (k + 1) := List.set_eq_take_append_cons_drop.trans (if_pos hk)
  have hds : DialsW w' own' ids (D.set k (PN.tryD now D[k] (plainN L C)).1) := by
    rw [hset]
    have h0 := h.dials
    rw [hDk] at h0
    exact DialsW.set h0 (by rw [hlk]; exact hd) he (by rw [hlk]; exact hf)
  refine h.call hn hds (by simp) (fun i h1 h2 => ?_) he (hf.mono (fun c hc => tryO_all hc)) (fun x hx => ?_)
  · by_cases hik : i = k
    · subst hik
      obtain ⟨a1, a2, a3, a4⟩ := PN.tryD_fix now D[i] (plainN L C)
      simp only [List.getElem_set_self]
      exact ⟨a1, a2, a4⟩
    · simp only [List.getElem_set_ne (Ne.symm hik)]
      exact ⟨trivial, trivial, trivial⟩
  · rcases List.mem_or_eq_of_mem_set hx with hx | rfl
    · have := h.trs x hx; omega
    · have := (tryD_tr now D[k] (plainN L C)).2
      have := h.trs D[k] (List.getElem_mem hk)
      omega
end
end Go.Proofs.Ytgbmenfmaphciaa
