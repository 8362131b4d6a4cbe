/- The reference's net beside the program's: what stays, what a call of the reference makes; plain laws for a net without bytes. -/
/- The law ListenerFull's state between its calls; the law's is, pairs, connects over it. -/
import Derived.Test.YtmdhlodafjpnmaaGreatG17
import Derived.Test.YtmdhlodafjpnmaaGreatLnKnown2
namespace Go.Proofs.YtmdhlodafjpnmaaGreat
open Go.RowKit
set_option linter.unusedVariables false
set_option linter.unusedSimpArgs false
set_option maxRecDepth 100000
set_option maxHeartbeats 8000000

theorem Bs.none {w w' : World} {s : Sli} {l : List UInt8} (h : Bs w s l) (hl : l = []) : Bs w' s l := by
  subst hl
  obtain ⟨a, c, he⟩ := RowV.val h
  exact ⟨by simp [bsV], .inl ⟨rfl, a, c, he⟩⟩
theorem emb_any {w w' : World} {y : PN.PC} {q : Q4} (h : CnB w (emb y).c q) : CnB w' (emb y).c q := ⟨h.b0.none rfl, h.r0.none rfl, h.b1.none rfl, h.r1.none rfl⟩
theorem emb_fit (y : PN.PC) : (emb y).c.fit := ⟨Nat.zero_le _, Nat.zero_le _⟩
/-- The reference's net in memory stays, whatever blocks outside K turn. -/
def Stay (K : Nat → Prop) (w : World) (sL sC : Sli) (R : PN.Net) : Prop := ∀ w', FrK K w w' → LRow w' (slv sL) R.L ∧ CRow w' (slv sC) (R.C.map emb)
section
variable {K K' : Nat → Prop} {w w' : World} {sL sC : Sli} {R : PN.Net}
theorem Stay.now (h : Stay K w sL sC R) : LRow w (slv sL) R.L ∧ CRow w (slv sC) (R.C.map emb) := h w FrK.refl
theorem Stay.step (h : Stay K w sL sC R) (f : FrK K w w') : Stay K w' sL sC R := fun w'' f' => h w'' (f.trans f')
theorem Stay.grow (h : Stay K w sL sC R) (hk : ∀ z, z < w.heap.size → K z → K' z) : Stay K' w sL sC R := fun w'' f' => h w'' (f'.mono hk)
theorem stay_new {B : Nat} (h1 : RowO 100 5 (ElLO B) w B (slv sL) R.L) (h2 : CRd w B (slv sC) (R.C.map emb)) (hk : ∀ z, B ≤ z → z < w.heap.size → K z) : Stay K w sL sC R := fun w' f => by
  obtain ⟨S, fS, hS⟩ := f.list
  have hn : ∀ {n sz : Nat} {e : TypeId} {v : Value} {xs : List Value}, w.ownsRow B e sz v n xs → ∀ g, v.ownBlock = some g → g ∉ S := fun h g hg => hS g (hk g (h.lt g hg).1 (h.lt g hg).2)
  refine ⟨?_, ?_⟩
  · obtain ⟨Xs, r1, r2⟩ := h1
    exact ⟨Xs, r1.mono (fun X y ⟨q, e1, e2⟩ => ⟨q, e1, RowV.of_own (rowFr' e2 fS (hn e2))⟩), RowV.of_own (rowFr' r2 fS (hn r2))⟩
  · obtain ⟨⟨Xs, r1, r2⟩, hb⟩ := h2
    have hel : Recs 17 (ElC w') Xs (R.C.map emb) := ⟨r1.len, r1.sz, r1.one, fun i X y hX hy => by
      obtain ⟨q, e1, e2⟩ := r1.el i X y hX hy
      rw [List.getElem?_map] at hy
      obtain ⟨y0, hy0, rfl⟩ := Option.map_eq_some_iff.1 hy
      exact ⟨q, e1, emb_any e2⟩⟩
    refine ⟨Xs, hel, ?_⟩
    refine ⟨r2.1, ?_⟩
    rcases r2.2 with h0 | ⟨g, off, c, he, hg, hc⟩
    · exact .inl h0
    · have hgb : (slv sC).ownBlock = some g := by rw [he]; rfl
      have hgS := hS g (hk g (hb g hgb) hg)
      exact .inr ⟨g, off, c, he, Nat.lt_of_lt_of_le hg fS.size, fun j u hj => fS.keep (hc j u hj) hgS⟩
end

/-! plain -/
theorem frG_emb (C : List PN.PC) : frG (C.map emb) = PN.free (C.map (·.ref)) := by
  unfold frG
  rw [List.map_map]
  rfl
theorem insG_emb (C : List PN.PC) (c : Nat) : insG (C.map emb) c = (PN.newC C c).map emb := by
  unfold insG PN.newC
  rw [frG_emb, List.map_append, List.map_cons, List.map_take, List.map_drop]
  rfl
theorem pick_map {α β : Type} (f : α → β) (p : β → Bool) : ∀ (l : List α) (k : Nat), PN.pick p (l.map f) k = (PN.pick (fun x => p (f x)) l k).map (fun a => (a.1, f a.2))
  | [], _ => rfl
  | x :: r, k => by
    unfold PN.pick
    rw [List.map_cons]
    simp only
    split
    · rfl
    · exact pick_map f p r (k + 1)
theorem pick_emb (C : List PN.PC) (k : Int) : PN.pick (refG k) (C.map emb) 0 = (PN.pick (PN.refC k) C 0).map (fun a => (a.1, emb a.2)) := pick_map emb (refG k) C 0
theorem emb_shut0 (y : PN.PC) (h : y.a0 = false) : ((emb y).c.close false).1 = (emb (PN.shutC y false)).c := by
  obtain ⟨r, c, a0, a1⟩ := y
  simp only at h
  subst h
  cases a1 <;> rfl
theorem emb_shut1 (y : PN.PC) (h : y.a1 = false) : ((emb y).c.close true).1 = (emb (PN.shutC y true)).c := by
  obtain ⟨r, c, a0, a1⟩ := y
  simp only at h
  subst h
  cases a0 <;> rfl
theorem emb_ref (y : PN.PC) (e : Bool) : (emb (PN.shutC y e)).ref = y.ref := by cases e <;> rfl
theorem set_emb (C : List PN.PC) (i : Nat) (y : PN.PC) : (C.set i y).map emb = (C.map emb).set i (emb y) := List.map_set ..
theorem cut_emb (C : List PN.PC) (i : Nat) : (C.take i ++ C.drop (i + 1)).map emb = (C.map emb).take i ++ (C.map emb).drop (i + 1) := by
  rw [List.map_append, List.map_take, List.map_drop]
theorem sorted_emb {C : List PN.PC} (h : C.Pairwise (fun a b => a.ref < b.ref)) : (C.map emb).Pairwise (fun a b => a.ref < b.ref) := List.pairwise_map.2 h
/-- How great the reference's net is. -/
structure RFit (R : PN.Net) : Prop where
  nl : R.L.length ≤ 128
  nc : R.C.length ≤ 128
  q : ∀ x ∈ R.L, x.l.length ≤ 100000
  so : R.C.Pairwise (fun a b => a.ref < b.ref)
theorem RFit.fit {R : PN.Net} (h : RFit R) : NetFit R.L (R.C.map emb) :=
  ⟨by have := h.nl; omega, by rw [List.length_map]; have := h.nc; omega, h.q, fun y hy => by
    obtain ⟨z, _, rfl⟩ := List.mem_map.1 hy
    exact emb_fit z⟩
/-- What a call of the reference hands back: the same net, or a new one. -/
def RefOut (W : World) (sL sC : Sli) (R R' : PN.Net) (rs : List Value) (e : Ending) (w' : World) : Prop :=
  ∃ sL' sC' : Sli, e = .returned (.tuple (.agg #[slv sL', slv sC'] :: rs).toArray) ∧ Fr [] W w' ∧
    ((sL' = sL ∧ sC' = sC ∧ R' = R) ∨ (RowO 100 5 (ElLO W.heap.size) w' W.heap.size (slv sL') R'.L ∧ CRd w' W.heap.size (slv sC') (R'.C.map emb)))
section
variable {W : World} {sL sC : Sli} {R : PN.Net} (hL : LRow W (slv sL) R.L) (hC : CRow W (slv sC) (R.C.map emb)) (hf : RFit R)
include hL hC hf
theorem refPair (c : Nat) (hc : c ≤ 4096) :
    Calls Tryz.prog 13 #[.agg #[slv sL, slv sC], .int .i64 c] W (RefOut W sL sC R (PN.rPair R c).1 [.int .i64 (PN.rPair R c).2.1, .int .i64 (PN.rPair R c).2.2]) := by
  unfold PN.rPair
  by_cases hm : 128 ≤ R.C.length
  · rw [if_pos hm]
    refine (nPair_full (slv sL) (slv sC) R.L (R.C.map emb) c W hL hC ⟨by omega, by omega⟩ (by rw [List.length_map]; exact hm) (by rw [List.length_map]; have := hf.nc; omega)).mono ?_
    rintro e w' ⟨rfl, f⟩
    exact ⟨sL, sC, rfl, f, .inl ⟨rfl, rfl, rfl⟩⟩
  · rw [if_neg hm]
    refine (nPair_ok (slv sL) (slv sC) R.L (R.C.map emb) c W hL hC ⟨by omega, by omega⟩ hf.fit (by rw [List.length_map]; omega) (sorted_emb hf.so)).mono ?_
    rw [insG_emb, frG_emb]
    intro e w' h
    obtain ⟨sL', sC', h1, h2, h3, h4⟩ := h.rd
    exact ⟨sL', sC', h1, h4, .inr ⟨h2, h3⟩⟩
theorem refConnect (s : ByteArray) (p : Int) (c : Nat) (hs : s.size ≤ 1000000) (hv : addrB s.data.toList p = true) (hc : c ≤ 4096) (hm : R.C.length < 128) (i : Nat) (y : PN.PL) (hi : PN.pick (PN.atP s p) R.L 0 = some (i, y)) (hq : (y.l.length : Int) ≠ y.most) :
    Calls Tryz.prog 15 #[.agg #[slv sL, slv sC], .agg #[.string s, .int .i64 p], .int .i64 c] W (RefOut W sL sC R (PN.rConnect R s p c).1 [.int .i64 (PN.rConnect R s p c).2.1, .int .i64 (PN.rConnect R s p c).2.2]) := by
  unfold PN.rConnect
  rw [hi]
  simp only
  rw [if_neg hq, if_neg (by omega)]
  refine (nConnect_ok (slv sL) (slv sC) R.L (R.C.map emb) s p c W hL hC hs hv ⟨by omega, by omega⟩ hf.fit (by rw [List.length_map]; omega) (sorted_emb hf.so) i y hi hq).mono ?_
  rw [insG_emb, frG_emb]
  rintro e w' ⟨sL', sC', h1, h2, h3, h4⟩
  exact ⟨sL', sC', h1, h4, .inr ⟨h2, h3⟩⟩
theorem refHang (k en : Int) (he : en = 0 ∨ en = 1) :
    Calls Tryz.prog 17 #[.agg #[slv sL, slv sC], .int .i64 k, .int .i64 en] W (RefOut W sL sC R (PN.rHang R k en).1 [.int .i64 (PN.rHang R k en).2]) := by
  have same : ∀ (x : Int) e w', (e = .returned (.tuple #[.agg #[slv sL, slv sC], .int .i64 x]) ∧ Fr [] W w') → RefOut W sL sC R R [.int .i64 x] e w' := fun x e w' ⟨h1, f⟩ => ⟨sL, sC, h1, f, .inl ⟨rfl, rfl, rfl⟩⟩
  have rd : ∀ (C' : List PN.PC) e w', NetRd W R.L (C'.map emb) [.int .i64 0] e w' → RefOut W sL sC R ⟨R.L, C'⟩ [.int .i64 0] e w' := fun C' e w' ⟨sL', sC', h1, h2, h3, h4⟩ => ⟨sL', sC', h1, h4, .inr ⟨h2, h3⟩⟩
  unfold PN.rHang
  rw [if_neg (by omega)]
  have hpe := pick_emb R.C k
  cases hp : PN.pick (PN.refC k) R.C 0 with
  | none =>
    rw [hp] at hpe
    exact (nHang_none (slv sL) (slv sC) R.L (R.C.map emb) k en W hL hC hf.fit he hpe).mono (same 9)
  | some a =>
    obtain ⟨i, y⟩ := a
    rw [hp] at hpe
    have hpe' : PN.pick (refG k) (R.C.map emb) 0 = some (i, emb y) := hpe
    simp only
    by_cases hw : en = 1 ∧ k ∈ PN.waitsOf R.L
    · rw [if_pos hw]
      obtain ⟨rfl, hw⟩ := hw
      exact (nHang_waits (slv sL) (slv sC) R.L (R.C.map emb) k 1 W hL hC hf.fit rfl i (emb y) hpe' hw).mono (same 8)
    · rw [if_neg hw]
      rcases he with rfl | rfl
      · by_cases ha : y.a0 = true
        · rw [if_pos (by simpa using ha)]
          exact (nHang_closed_0 (slv sL) (slv sC) R.L (R.C.map emb) k W hL hC hf.fit i (emb y) hpe' ha).mono (same 14)
        · rw [if_neg (by simpa using ha)]
          have ha' : y.a0 = false := by simpa using ha
          have hsh := emb_shut0 y ha'
          unfold PN.shutAt
          rw [show decide ((0 : Int) = 1) = false from rfl]
          by_cases hb : ((PN.shutC y false).a0 && (PN.shutC y false).a1) = true
          · rw [if_pos hb]
            refine (nHang_ok_0_1 (slv sL) (slv sC) R.L (R.C.map emb) k W hL hC hf.fit i (emb y) hpe' ha' (by rw [hsh]; exact hb)).mono ?_
            rw [← cut_emb]
            exact rd _
          · rw [if_neg hb]
            refine (nHang_ok_0_0 (slv sL) (slv sC) R.L (R.C.map emb) k W hL hC hf.fit i (emb y) hpe' ha' (by rw [hsh]; exact (Bool.not_eq_true _).mp hb)).mono ?_
            rw [hsh, show (⟨(emb y).ref, (emb (PN.shutC y false)).c⟩ : PG) = emb (PN.shutC y false) from rfl, ← set_emb]
            exact rd _
      · have hw' : k ∉ PN.waitsOf R.L := fun h => hw ⟨rfl, h⟩
        by_cases ha : y.a1 = true
        · rw [if_pos (by simpa using ha)]
          exact (nHang_closed_1 (slv sL) (slv sC) R.L (R.C.map emb) k W hL hC hf.fit i (emb y) hpe' hw' ha).mono (same 14)
        · rw [if_neg (by simpa using ha)]
          have ha' : y.a1 = false := by simpa using ha
          have hsh := emb_shut1 y ha'
          unfold PN.shutAt
          rw [show decide ((1 : Int) = 1) = true from rfl]
          by_cases hb : ((PN.shutC y true).a0 && (PN.shutC y true).a1) = true
          · rw [if_pos hb]
            refine (nHang_ok_1_1 (slv sL) (slv sC) R.L (R.C.map emb) k W hL hC hf.fit i (emb y) hpe' hw' ha' (by rw [hsh]; exact hb)).mono ?_
            rw [← cut_emb]
            exact rd _
          · rw [if_neg hb]
            refine (nHang_ok_1_0 (slv sL) (slv sC) R.L (R.C.map emb) k W hL hC hf.fit i (emb y) hpe' hw' ha' (by rw [hsh]; exact (Bool.not_eq_true _).mp hb)).mono ?_
            rw [hsh, show (⟨(emb y).ref, (emb (PN.shutC y true)).c⟩ : PG) = emb (PN.shutC y true) from rfl, ← set_emb]
            exact rd _
end
/-! the law's first rounds -/
def aS : ByteArray := ⟨#[97]⟩
structure Full (i : Nat) (R : PN.Net) : Prop where
  ls : ∃ l, R.L = [⟨0, aS, 1, 128, l⟩] ∧ l.length = i / 2
  cs : R.C.map (·.ref) = List.range i
theorem free_range (i : Nat) : PN.free (List.range i) = i := PN.free_uniq (by simp) (fun j hj => by simpa using hj)
theorem Full.len {i : Nat} {R : PN.Net} (h : Full i R) : R.C.length = i := by
  have := congrArg List.length h.cs
  simpa using this
theorem newC_refs {i : Nat} {C : List PN.PC} (h : C.map (·.ref) = List.range i) (c : Nat) : (PN.newC C c).map (·.ref) = List.range (i + 1) := by
  have hl : C.length = i := by
    have := congrArg List.length h
    simpa using this
  unfold PN.newC
  rw [h, free_range, List.take_of_length_le (by omega), List.drop_of_length_le (by omega), List.map_append, h, List.range_succ]
  rfl
theorem Full.pair {i : Nat} {R : PN.Net} (h : Full i R) (hi : i < 128) (he : i % 2 = 0) (c : Nat) : Full (i + 1) (PN.rPair R c).1 ∧ (PN.rPair R c).2 = ((i : Int), 0) := by
  unfold PN.rPair
  rw [if_neg (by rw [h.len]; omega)]
  obtain ⟨l, h1, h2⟩ := h.ls
  refine ⟨⟨⟨l, h1, by omega⟩, newC_refs h.cs c⟩, ?_⟩
  rw [h.cs, free_range]
theorem Full.pick {i : Nat} {R : PN.Net} (h : Full i R) : ∃ l, PN.pick (PN.atP aS 1) R.L 0 = some (0, ⟨0, aS, 1, 128, l⟩) ∧ l.length = i / 2 := by
  obtain ⟨l, h1, h2⟩ := h.ls
  rw [h1]
  exact ⟨l, by simp [PN.pick, PN.atP], h2⟩
theorem Full.connect {i : Nat} {R : PN.Net} (h : Full i R) (hi : i < 128) (he : i % 2 = 1) (c : Nat) : Full (i + 1) (PN.rConnect R aS 1 c).1 ∧ (PN.rConnect R aS 1 c).2 = ((i : Int), 0) := by
  obtain ⟨l, h1, h2⟩ := h.pick
  obtain ⟨l', h3, h4⟩ := h.ls
  unfold PN.rConnect
  rw [h1]
  simp only
  rw [if_neg (by omega), if_neg (by rw [h.len]; omega)]
  refine ⟨⟨⟨l ++ [(PN.free (R.C.map (·.ref)) : Int)], by rw [h3]; rfl, by rw [List.length_append, List.length_singleton]; omega⟩, newC_refs h.cs c⟩, ?_⟩
  rw [h.cs, free_range]
theorem fit_shut {R : PN.Net} (h : RFit R) {i : Nat} {y : PN.PC} (hy : R.C[i]? = some y) (e : Bool) : RFit { R with C := PN.shutAt R.C i y e } := by
  have hi := (List.getElem?_eq_some_iff.1 hy).1
  unfold PN.shutAt
  by_cases hb : ((PN.shutC y e).a0 && (PN.shutC y e).a1) = true
  · rw [if_pos hb]
    refine ⟨h.nl, ?_, h.q, h.so.sublist (PN.cut_sub i)⟩
    have := h.nc
    simp only [List.length_append, List.length_take, List.length_drop]
    omega
  · rw [if_neg hb]
    refine ⟨h.nl, by have := h.nc; simpa using this, h.q, ?_⟩
    have hr : (R.C.set i (PN.shutC y e)).map PN.PC.ref = R.C.map PN.PC.ref := by
      apply List.ext_getElem?
      intro j
      rw [List.getElem?_map, List.getElem?_map]
      by_cases hj : i = j
      · subst hj
        rw [hy, List.getElem?_set_self hi]
        simp [PN.shut_ref]
      · rw [List.getElem?_set_ne hj]
    have h1 : (R.C.map PN.PC.ref).Pairwise (· < ·) := List.pairwise_map.2 h.so
    rw [← hr] at h1
    exact List.pairwise_map.1 h1
theorem fit_hang {R : PN.Net} (h : RFit R) (k en : Int) : RFit (PN.rHang R k en).1 := by
  unfold PN.rHang
  by_cases h0 : en ≠ 0 ∧ en ≠ 1
  · rw [if_pos h0]
    exact h
  · rw [if_neg h0]
    cases hp : PN.pick (PN.refC k) R.C 0 with
    | none => exact h
    | some a =>
      obtain ⟨i, y⟩ := a
      simp only
      by_cases h1 : en = 1 ∧ k ∈ PN.waitsOf R.L
      · rw [if_pos h1]
        exact h
      · rw [if_neg h1]
        by_cases h2 : (if en = 1 then y.a1 else y.a0) = true
        · rw [if_pos h2]
          exact h
        · rw [if_neg h2]
          obtain ⟨j, hj, hy, _⟩ := PN.pick_some hp
          obtain rfl : i = j := by omega
          exact fit_shut h hy _
theorem Full.fit {i : Nat} {R : PN.Net} (h : Full i R) (hi : i ≤ 128) : RFit R := by
  obtain ⟨l, h1, h2⟩ := h.ls
  refine ⟨by rw [h1]; simp, by rw [h.len]; exact hi, fun x hx => ?_, ?_⟩
  · rw [h1, List.mem_singleton] at hx
    subst hx
    simp only
    omega
  · have h3 : (R.C.map PN.PC.ref).Pairwise (· < ·) := by
      rw [show R.C.map PN.PC.ref = List.range i from h.cs]
      exact List.pairwise_lt_range
    exact List.pairwise_map.1 h3
end Go.Proofs.YtmdhlodafjpnmaaGreat
namespace Go.Proofs.YtmdhlodafjpnmaaGreat
open Go.RowKit
set_option linter.unusedVariables false
set_option linter.unusedSimpArgs false
set_option maxRecDepth 100000
set_option maxHeartbeats 8000000

/-- Between two calls of the law: the program's net, the reference's net in the variable V. -/
def LS (w0 : World) (B : NB) (V : Nat) (N R : PN.Net) (G : Nat) (sL sC : Sli) (w : World) : Prop :=
  ∃ K : Nat → Prop, Live K B N G w ∧ K V ∧ Stay (fun z => K z ∧ z ≠ V) w sL sC R ∧ (∀ z, z < w0.heap.size → K z) ∧ Blk w V 34 (two (slv sL) (slv sC)) ∧ Fr [] w0 w ∧ w0.heap.size ≤ V
section
variable {w0 : World} {B : NB} {V : Nat} {N N' R R' : PN.Net} {G G' : Nat} {sL sC sL' sC' : Sli} {w w1 w2 : World}
theorem LS.fr (h : LS w0 B V N R G sL sC w) : Fr [] w0 w := by
  obtain ⟨K, _, _, _, _, _, h6, _⟩ := h
  exact h6
theorem LS.var (h : LS w0 B V N R G sL sC w) : Blk w V 34 (two (slv sL) (slv sC)) := by
  obtain ⟨K, _, _, _, _, h5, _⟩ := h
  exact h5
theorem LS.inv (h : LS w0 B V N R G sL sC w) : PN.Inv N := by
  obtain ⟨K, h1, _⟩ := h
  exact h1.inv
theorem LS.rows (h : LS w0 B V N R G sL sC w) : LRow w (slv sL) R.L ∧ CRow w (slv sC) (R.C.map emb) := by
  obtain ⟨K, _, _, h3, _⟩ := h
  exact h3.now
theorem LS.new (h : LS w0 B V N R G sL sC w) (f : Fr [] w w1) : LS w0 B V N R G sL sC w1 := by
  obtain ⟨K, h1, h2, h3, h4, h5, h6, h7⟩ := h
  exact ⟨K, h1.new f, h2, h3.step (FrK.new f), h4, h5.keep f (by simp), h6.step f, h7⟩
theorem LS.g (h : LS w0 B V N R G sL sC w) (hg : G ≤ G') : LS w0 B V N R G' sL sC w := by
  obtain ⟨K, h1, h2, h3, h4, h5, h6, h7⟩ := h
  exact ⟨K, h1.mono hg, h2, h3, h4, h5, h6, h7⟩
/-- A call of the program's net. -/
theorem LS.prog (h : LS w0 B V N R G sL sC w) {f : FuncId} {args : Array Value} {r : Ending} (hc : ∀ K, Live K B N G w → Calls Tryz.prog f args w fun e w' => e = r ∧ Live K B N' G' w' ∧ FrK K w w') :
    Calls Tryz.prog f args w fun e w' => e = r ∧ LS w0 B V N' R G' sL sC w' := by
  obtain ⟨K, h1, h2, h3, h4, h5, h6, h7⟩ := h
  refine (hc K h1).mono ?_
  rintro e w' ⟨rfl, l, fk⟩
  obtain ⟨S, fS, hS⟩ := fk.list
  exact ⟨rfl, K, l, h2, h3.step (fk.mono (fun x _ hx => hx.1)), h4, h5.keep fS (hS V h2), FrK.old h6 fk h4, h7⟩
/-- A call of the reference, and its net stored. -/
theorem LS.ref (h : LS w0 B V N R G sL sC w) (f : Fr [] w w1) (ho : (sL' = sL ∧ sC' = sC ∧ R' = R) ∨ (RowO 100 5 (ElLO w.heap.size) w1 w.heap.size (slv sL') R'.L ∧ CRd w1 w.heap.size (slv sC') (R'.C.map emb)))
    (f2 : Fr [V] w1 w2) (hb : Blk w2 V 34 (two (slv sL') (slv sC'))) : LS w0 B V N R' G sL' sC' w2 := by
  obtain ⟨K, h1, h2, h3, h4, h5, h6, h7⟩ := h
  have hV := h5.lt
  have l1 := h1.more f
  refine ⟨_, l1.keep f2 (fun x hx => by rw [List.mem_singleton] at hx; subst hx; exact .inl h2), .inl h2, ?_, fun z hz => .inl (h4 z hz), hb, (h6.step f).trans f2 (fun x hx hl => by rw [List.mem_singleton] at hx; omega), h7⟩
  have fk : FrK (fun z => (K z ∨ w.heap.size ≤ z ∧ z < w1.heap.size) ∧ z ≠ V) w1 w2 := ⟨[V], f2, fun x hx _ hk => by rw [List.mem_singleton] at hx; exact hk.2 hx⟩
  refine Stay.step (w := w1) ?_ fk
  rcases ho with ⟨rfl, rfl, rfl⟩ | ⟨ho1, ho2⟩
  · exact (h3.step (FrK.new f)).grow (fun z _ hz => ⟨.inl hz.1, hz.2⟩)
  · exact stay_new ho1 ho2 (fun z hz hz' => ⟨.inr ⟨hz, hz'⟩, by omega⟩)
theorem full_pairs (h : LS w0 B V N R G sL sC w) (c : Nat) (hc : c ≤ 4096) (r e0 : Int) (ha : (PN.pair N c).2 = (r, e0)) :
    Calls Tryz.prog 14 #[.pointer (some ⟨B.n, 0, none⟩), .int .i64 c, .int .i64 r, .int .i64 e0] w fun e w' => e = .returned (.bool true) ∧ LS w0 B V (PN.pair N c).1 R G sL sC w' := by
  refine pairs_t _ w c r e0 (h.prog (fun K l => ?_))
  have hp := pair_l c l hc
  rw [ha] at hp
  exact hp
theorem full_connects (h : LS w0 B V N R G sL sC w) (c : Nat) (hc : c ≤ 4096) (hG : G ≤ 1000000) (r e0 : Int) (ha : (PN.connect N aS 1 c).2 = (r, e0)) :
    Calls Tryz.prog 16 #[.pointer (some ⟨B.n, 0, none⟩), .agg #[.string aS, .int .i64 1], .int .i64 c, .int .i64 r, .int .i64 e0] w fun e w' => e = .returned (.bool true) ∧ LS w0 B V (PN.connect N aS 1 c).1 R (G + 1) sL sC w' := by
  refine connects_t _ w aS 1 c r e0 (fun W f => (h.new f).prog (fun K l => ?_))
  have hp := connect_l aS 1 c l (by decide) (by decide) hc hG
  rw [ha] at hp
  exact hp
theorem full_hang (h : LS w0 B V N R G sL sC w) (k en : Int) (hk : 0 ≤ k ∧ k ≤ 1000) (hG : G ≤ 1000000) :
    Calls Tryz.prog 18 #[.pointer (some ⟨B.n, 0, none⟩), .int .i64 k, .int .i64 en] w fun e w' => e = .returned (.int .i64 (PN.hangN N k en).2) ∧ LS w0 B V (PN.hangN N k en).1 R G sL sC w' :=
  h.prog (fun K l => hang_l k en l hG (by omega) (by omega))
end
theorem is_t {K : Nat → Prop} {B : NB} {N R : PN.Net} {G : Nat} {sL sC : Sli} (w : World) (h : Live K B N G w) (hG : G ≤ 1000000) (hm : PN.Match N R) (hf : RFit R) (hL : LRow w (slv sL) R.L) (hC : CRow w (slv sC) (R.C.map emb)) :
    Calls Tryz.prog 19 #[.pointer (some ⟨B.n, 0, none⟩), .agg #[slv sL, slv sC]] w fun e w' => e = .returned (.bool true) ∧ Fr [] w w' := by
  obtain ⟨B0, hB⟩ : ∃ B0, w.heap.size = B0 := ⟨_, rfl⟩
  obtain ⟨w0, hw0⟩ : ∃ z, (w.alloc (.cells #[slv sL, slv sC] 34)).drew = z := ⟨_, rfl⟩
  have f0 : Fr [] w w0 := by rw [← hw0]; exact ((Fr.refl [] w).alloc _).drew
  have hb0 : Blk w0 B0 34 (two (slv sL) (slv sC)) := by
    rw [← hw0, ← hB]
    exact (Blk.made w 34 (two (slv sL) (slv sC))).keep ((Fr.refl [] _).drew) (by simp)
  have HF0 := Lib.hid f0
  have HB0 := Lib.hid hb0
  have HW0 := Lib.hid hw0
  have HBS := Lib.hid hB
  have HLV := Lib.hid h
  have HM := Lib.hid hm
  have HFT := Lib.hid hf
  have HL := Lib.hid hL
  have HC := Lib.hid hC
  clear f0 hb0 hw0 hB h hm hf hL hC
  go_enter Tryz.func19, Tryz.ntmps19
  go_upto_region 1 with fail
  refine wp_region_held_drew (S := fun W => W.cell? ⟨B0, 0, none⟩ = some (slv sL) ∧ W.cell? ⟨B0, 1, none⟩ = some (slv sC)) (by kernel_rfl) (by rw [HW0.out]; exact ⟨HB0.out.at 0 _ rfl, HB0.out.at 1 _ rfl⟩) (fun hHeld => ?_)
  rw [HW0.out] at hHeld ⊢
  simp only [HBS.out]
  refine wpAnyH_take (i := 0) (oi := _) (v := ?_) rfl (by kernel_rfl) (by kernel_rfl) (by kernel_rfl) (fun _ _ _ h => h) (Or.inl ⟨by rfl, ?_⟩) (by first | assumption | trivial) ?_
  rotate_left
  · intro w hSw; (try dsimp only at hSw); go_simp; try with_reducible rfl
  try simp only [Act.put, List.getElem_toArray, List.getElem_cons_succ, List.getElem_cons_zero, List.setIfInBounds_toArray, List.set_cons_zero, List.set_cons_succ]
  refine wpAnyH_take (i := 2) (oi := _) (v := ?_) rfl (by kernel_rfl) (by kernel_rfl) (by kernel_rfl) (fun _ _ _ h => h) (Or.inl ⟨by rfl, ?_⟩) (by first | assumption | trivial) ?_
  rotate_left
  · intro w hSw; (try dsimp only at hSw); go_simp; try with_reducible rfl
  try simp only [Act.put, List.getElem_toArray, List.getElem_cons_succ, List.getElem_cons_zero, List.setIfInBounds_toArray, List.set_cons_zero, List.set_cons_succ]
  refine wpAnyH_take (i := 3) (oi := _) (v := ?_) rfl (by kernel_rfl) (by kernel_rfl) (by kernel_rfl) (fun _ _ _ h => h) (Or.inl ⟨by rfl, ?_⟩) (by first | assumption | trivial) ?_
  rotate_left
  · intro w hSw; (try dsimp only at hSw); go_simp; try with_reducible rfl
  try simp only [Act.put, List.getElem_toArray, List.getElem_cons_succ, List.getElem_cons_zero, List.setIfInBounds_toArray, List.set_cons_zero, List.set_cons_succ]
  refine wpAnyH_ready (rs := [1]) (by kernel_rfl) (by simp) ?_
  refine AllReadyH.cons (o := _) rfl (fun K hK => ?_) AllReadyH.nil
  go_simp
  refine (listeners_l R.L (HLV.out.new HF0.out) HM.out.1 hG).mono ?_
  rintro e w1 ⟨v1, rfl, hl1, f1⟩
  have HL1 := Lib.hid hl1
  have HF1 := Lib.hid (HF0.out.step f1)
  have HB1 := Lib.hid (HB0.out.keep f1 (by simp))
  clear f1
  refine hK.out _ _ (⟨HB1.out.at 0 _ rfl, HB1.out.at 1 _ rfl⟩) (fun hHeld => ?_)
  clear hK K
  try simp only [Act.put, List.getElem_toArray, List.getElem_cons_succ, List.getElem_cons_zero, List.setIfInBounds_toArray, List.set_cons_zero, List.set_cons_succ]
  refine wpAnyH_ready (rs := [4]) (by kernel_rfl) (by simp) ?_
  refine AllReadyH.cons (o := _) rfl (fun K hK => ?_) AllReadyH.nil
  go_simp
  refine (listeners_t _ _ R.L _ HL1.out (LRow.next HL.out HF1.out) (by have := HFT.out.nl; omega) HFT.out.q).mono ?_
  rintro e w2 ⟨rfl, f2⟩
  have HF2 := Lib.hid (HF1.out.step f2)
  have HB2 := Lib.hid (HB1.out.keep f2 (by simp))
  clear f2
  refine hK.out _ _ (⟨HB2.out.at 0 _ rfl, HB2.out.at 1 _ rfl⟩) (fun hHeld => ?_)
  clear hK K
  try simp only [Act.put, List.getElem_toArray, List.getElem_cons_succ, List.getElem_cons_zero, List.setIfInBounds_toArray, List.set_cons_zero, List.set_cons_succ]
  refine wpAnyH_take (i := 5) (oi := _) (v := ?_) rfl (by kernel_rfl) (by kernel_rfl) (by kernel_rfl) (fun _ _ _ h => h) (Or.inl ⟨by rfl, ?_⟩) (by first | assumption | trivial) ?_
  rotate_left
  · intro w hSw; (try dsimp only at hSw); go_simp; try with_reducible rfl
  try simp only [Act.put, List.getElem_toArray, List.getElem_cons_succ, List.getElem_cons_zero, List.setIfInBounds_toArray, List.set_cons_zero, List.set_cons_succ]
  refine wpAnyH_take (i := 6) (oi := _) (v := ?_) rfl (by kernel_rfl) (by kernel_rfl) (by kernel_rfl) (fun _ _ _ h => h) (Or.inl ⟨by rfl, ?_⟩) (by first | assumption | trivial) ?_
  rotate_left
  · intro w hSw; (try dsimp only at hSw); go_simp; try with_reducible rfl
  try simp only [Act.put, List.getElem_toArray, List.getElem_cons_succ, List.getElem_cons_zero, List.setIfInBounds_toArray, List.set_cons_zero, List.set_cons_succ]
  refine wpAnyH_take (i := 8) (oi := _) (v := ?_) rfl (by kernel_rfl) (by kernel_rfl) (by kernel_rfl) (fun _ _ _ h => h) (Or.inl ⟨by rfl, ?_⟩) (by first | assumption | trivial) ?_
  rotate_left
  · intro w hSw; (try dsimp only at hSw); go_simp; try with_reducible rfl
  try simp only [Act.put, List.getElem_toArray, List.getElem_cons_succ, List.getElem_cons_zero, List.setIfInBounds_toArray, List.set_cons_zero, List.set_cons_succ]
  refine wpAnyH_take (i := 9) (oi := _) (v := ?_) rfl (by kernel_rfl) (by kernel_rfl) (by kernel_rfl) (fun _ _ _ h => h) (Or.inl ⟨by rfl, ?_⟩) (by first | assumption | trivial) ?_
  rotate_left
  · intro w hSw; (try dsimp only at hSw); go_simp; try with_reducible rfl
  try simp only [Act.put, List.getElem_toArray, List.getElem_cons_succ, List.getElem_cons_zero, List.setIfInBounds_toArray, List.set_cons_zero, List.set_cons_succ]
  refine wpAnyH_ready (rs := [7]) (by kernel_rfl) (by simp) ?_
  refine AllReadyH.cons (o := _) rfl (fun K hK => ?_) AllReadyH.nil
  go_simp
  refine (conns_l R.C (HLV.out.new HF2.out) HM.out.2).mono ?_
  rintro e w3 ⟨v3, rfl, hl3, f3⟩
  have HL3 := Lib.hid hl3
  have HF3 := Lib.hid (HF2.out.step f3)
  have HB3 := Lib.hid (HB2.out.keep f3 (by simp))
  clear f3
  refine hK.out _ _ (⟨HB3.out.at 0 _ rfl, HB3.out.at 1 _ rfl⟩) (fun hHeld => ?_)
  clear hK K
  try simp only [Act.put, List.getElem_toArray, List.getElem_cons_succ, List.getElem_cons_zero, List.setIfInBounds_toArray, List.set_cons_zero, List.set_cons_succ]
  refine wpAnyH_ready (rs := [10]) (by kernel_rfl) (by simp) ?_
  refine AllReadyH.cons (o := _) rfl (fun K hK => ?_) AllReadyH.nil
  go_simp
  refine (conns_t _ _ (R.C.map emb) _ HL3.out (CRow.next HC.out HF3.out) (by rw [List.length_map]; have := HFT.out.nc; omega)).mono ?_
  rintro e w4 ⟨rfl, f4⟩
  have HF4 := Lib.hid (HF3.out.step f4)
  have HB4 := Lib.hid (HB3.out.keep f4 (by simp))
  clear f4
  refine hK.out _ _ (⟨HB4.out.at 0 _ rfl, HB4.out.at 1 _ rfl⟩) (fun hHeld => ?_)
  clear hK K
  try simp only [Act.put, List.getElem_toArray, List.getElem_cons_succ, List.getElem_cons_zero, List.setIfInBounds_toArray, List.set_cons_zero, List.set_cons_succ]
  refine wpAnyH_take (i := 11) (oi := _) (v := ?_) rfl (by kernel_rfl) (by kernel_rfl) (by kernel_rfl) (fun _ _ _ h => h) (Or.inl ⟨by rfl, ?_⟩) (by first | assumption | trivial) ?_
  rotate_left
  · intro w hSw; (try dsimp only at hSw); go_simp; try with_reducible rfl
  try simp only [Act.put, List.getElem_toArray, List.getElem_cons_succ, List.getElem_cons_zero, List.setIfInBounds_toArray, List.set_cons_zero, List.set_cons_succ]
  refine wpAnyH_take (i := 12) (oi := _) (v := ?_) rfl (by kernel_rfl) (by kernel_rfl) (by kernel_rfl) (fun _ _ _ h => h) (Or.inl ⟨by rfl, ?_⟩) (by first | assumption | trivial) ?_
  rotate_left
  · intro w hSw; (try dsimp only at hSw); go_simp; try with_reducible rfl
  try simp only [Act.put, List.getElem_toArray, List.getElem_cons_succ, List.getElem_cons_zero, List.setIfInBounds_toArray, List.set_cons_zero, List.set_cons_succ]
  refine wpAnyH_done (by kernel_rfl) ?_ _
  clear hHeld
  go_wp2
  go_ret
  exact ⟨rfl, HF4.out⟩
end Go.Proofs.YtmdhlodafjpnmaaGreat
