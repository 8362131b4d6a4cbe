/- Contract of listener's Close over a net in memory. -/
import Derived.Test.YtmdhlodafjpnmaaGreatClose
namespace Go.Proofs.YtmdhlodafjpnmaaGreat
open Go.RowKit
open Go.Maps (Keyed)
set_option linter.unusedVariables false
set_option maxRecDepth 100000
set_option maxHeartbeats 8000000

theorem netClose_none {n r m lm cm : Nat} {names ls cs : List (Value × Value)} (ref : Int) (w : World) (h : NetIs w n r m lm cm names ls cs) (hr : -9223372036854775808 ≤ ref) (hr' : ref ≤ 9223372036854775807) (hx : ∀ x ∈ ls, x.1 ≠ .int .i64 ref) :
    Calls Tryz.prog 35 #[.pointer (some ⟨n, 0, none⟩), .int .i64 ref] w fun e w' => e = .returned (.tuple #[.slice none 0 0, .int .i64 9]) ∧ Fr [] w w' := by
  have c1 := h.c1
  have HN := Lib.hid (netNone_any _ h)
  have hl := h.ls.miss keyInt (t := 49) (e := 120) Tryz.underlying49 (keyInt_of ref hr hr') hx (zeroQ _) true
  simp only [if_true] at hl
  have HX := Lib.hid hx
  clear h hx
  go_enter Tryz.func35, Tryz.ntmps35
  go_wp2_with (go_at_call 55; refine HN.out.mono ?_; rintro e w' ⟨rfl, rfl⟩)
  go_ret2
  exact ⟨rfl, (Fr.refl [] _).alloc _⟩

theorem dropL_one {L1 L2 : List LB} {x : LB} (h : ((L1 ++ x :: L2).map (·.ref)).Nodup) :
    PN.dropL ((L1 ++ x :: L2).map LB.pl) x.ref = (L1 ++ L2).map LB.pl := by
  obtain ⟨h1, h2⟩ := map_one h
  unfold PN.dropL
  have same : ∀ D : List LB, (∀ y ∈ D, y.ref ≠ x.ref) → (D.map LB.pl).filter (fun y => decide (y.ref ≠ x.ref)) = D.map LB.pl := fun D hd =>
    List.filter_eq_self.2 fun z hz => by
      obtain ⟨y, hy, rfl⟩ := List.mem_map.1 hz
      exact decide_eq_true (hd y hy)
  rw [List.map_append, List.filter_append, same L1 h1, List.map_cons, List.filter_cons, same L2 h2]
  simp [LB.pl]

theorem hangs_snoc : ∀ (l : List Int) (C : List PN.PC) (k : Int), PN.hangs C (l ++ [k]) = PN.hang (PN.hangs C l) k true
  | [], C, k => rfl
  | a :: l, C, k => by simp only [List.cons_append, PN.hangs]; exact hangs_snoc l _ k

/-- Between two hangs of Close: those of xs that are still to come, from j on, wait nowhere and are open at the end 1. -/
structure CloseR (w : World) (own : Nat → Nat) (B : NB) (L : List LB) (C0 C : List CB) (G : Nat) (xs : List Int) (j : Nat) : Prop where
  net : NetW w own B L C G
  hangs : C.map CB.pc = PN.hangs (C0.map CB.pc) (xs.take j)
  open_ : ∀ k ∈ xs.drop j, ∃ y ∈ C, (y.ref : Int) = k ∧ y.a1 = false
  sep : (xs.drop j).Nodup ∧ ∀ k ∈ xs.drop j, k ∉ qs L

theorem CloseR.next {w : World} {own : Nat → Nat} {B : NB} {L : List LB} {C0 C : List CB} {G : Nat} {xs : List Int} {j : Nat} (h : CloseR w own B L C0 C G xs j) (hj : j < xs.length) :
    ∃ C1 y C2, C = C1 ++ y :: C2 ∧ y.a1 = false ∧ (y.ref : Int) = xs[j] ∧ (y.ref : Int) ∉ qs L ∧
      ∀ w' own', NetW w' own' B L (hangAt C1 C2 y) G → CloseR w' own' B L C0 (hangAt C1 C2 y) G xs (j + 1) := by
  have hd : xs.drop j = xs[j] :: xs.drop (j + 1) := List.drop_eq_getElem_cons hj
  obtain ⟨y, hy, h1, h2⟩ := h.open_ xs[j] (by rw [hd]; exact List.mem_cons_self)
  obtain ⟨C1, C2, rfl⟩ := List.append_of_mem hy
  have hsep := h.sep
  rw [hd, List.nodup_cons] at hsep
  refine ⟨C1, y, C2, rfl, h2, h1, fun hm => hsep.2 xs[j] List.mem_cons_self (h1 ▸ hm), fun w' own' hn => ⟨hn, ?_, fun k hk => ?_, hsep.1.2, fun k hk => hsep.2 k (List.mem_cons_of_mem _ hk)⟩⟩
  · rw [List.take_succ_eq_append_getElem hj, hangs_snoc, ← h.hangs, ← h1]
    exact (hang_plain h.net.crefs (fun z hz => (h.net.cs z hz).op)).symm
  · refine qs_ne (L := L) (h.open_ k (by rw [hd]; exact List.mem_cons_of_mem _ hk)) (fun he => hsep.1.1 ?_)
    rw [← h1, ← he]
    exact hk

theorem NetW.drop {w w' : World} {own own' : Nat → Nat} {B : NB} {L1 L2 : List LB} {x : LB} {C : List CB} {G : Nat} (h : NetW w own B (L1 ++ x :: L2) C G)
    (hn : NetIs w' B.n B.r B.m B.lm B.cm ((L1 ++ L2).map LB.nm) ((L1 ++ L2).map LB.ent) (C.map CB.ent)) {S : List Nat} (hf : Fr S w w') (hE : Ext w own own') (hS : ∀ z ∈ S, z < w.heap.size ∧ (own z = 0 ∨ own z = 4 * x.ref + 2)) : NetW w' own' B (L1 ++ L2) C G := by
  obtain ⟨o1, o2, o3, o4, o5⟩ := h.on
  obtain ⟨g1, g2⟩ := map_one h.refs
  have hsub : List.Sublist (L1 ++ L2) (L1 ++ x :: L2) := List.Sublist.append (List.Sublist.refl _) (List.sublist_cons_self _ _)
  have hmem : ∀ y ∈ L1 ++ L2, y ∈ L1 ++ x :: L2 := fun y hy => hsub.subset hy
  have hqs : List.Sublist (qs (L1 ++ L2)) (qs (L1 ++ x :: L2)) := by
    rw [qs_mid, show qs (L1 ++ L2) = qs L1 ++ qs L2 by simp [qs]]
    exact List.Sublist.append (List.Sublist.refl _) (List.sublist_append_right _ _)
  refine ⟨hn, ⟨(hE _ (cell_lt h.net.c0)).trans o1, (hE _ (cell_lt h.net.reg.c0)).trans o2, (hE _ h.net.reg.map.lt).trans o3, (hE _ h.net.ls.lt).trans o4, (hE _ h.net.cs.lt).trans o5⟩, ?_, ?_, h.refs.sublist (hsub.map _), h.crefs, h.adrs.sublist hsub, fun k hk => h.queue k (hqs.subset hk), h.vals.sublist hqs, by have := hsub.length_le; have := h.nl; omega, h.nc⟩
  · intro y hy
    have hne : y.ref ≠ x.ref := by rcases List.mem_append.1 hy with hy | hy; exact g1 y hy; exact g2 y hy
    refine ((h.ls y (hmem y hy)).ext hE).keep hf (fun z hz he => ?_)
    obtain ⟨hl, h0⟩ := hS z hz
    rw [hE z hl] at he
    rcases h0 with h0 | h0 <;> omega
  · intro y hy
    refine ((h.cs y hy).ext hE).keep hf (fun z hz he => ?_)
    obtain ⟨hl, h0⟩ := hS z hz
    rw [hE z hl] at he
    rcases h0 with h0 | h0 <;> omega
end Go.Proofs.YtmdhlodafjpnmaaGreat
