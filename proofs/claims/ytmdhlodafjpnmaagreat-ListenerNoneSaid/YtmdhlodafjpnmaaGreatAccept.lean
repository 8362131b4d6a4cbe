/- Contracts of listener's Accept, and Accept over a net in memory. -/
import Derived.Test.YtmdhlodafjpnmaaGreatNetW
namespace Go.Proofs.YtmdhlodafjpnmaaGreat
open Go.RowKit
open Go.Maps (Keyed)
set_option linter.unusedVariables false
set_option maxRecDepth 100000
set_option maxHeartbeats 4000000

section
variable {n r m lm cm : Nat} {names ls cs : List (Value × Value)} (ref : Int) (w : World)

theorem netAccept_none (h : NetIs w n r m lm cm names ls cs) (hr : -9223372036854775808 ≤ ref) (hr' : ref ≤ 9223372036854775807) (hx : ∀ x ∈ ls, x.1 ≠ .int .i64 ref) :
    Calls Tryz.prog 34 #[.pointer (some ⟨n, 0, none⟩), .int .i64 ref] w fun e w' => e = .returned (.tuple #[.int .i64 0, .int .i64 9]) ∧ Fr [] w w' := by
  have c1 := h.c1
  have HN := Lib.hid (netNone_any _ h)
  have hl := h.ls.miss keyInt (t := 49) (e := 120) Tryz.underlying49 (keyInt_of ref hr hr') hx (zeroQ _) true
  simp only [if_true] at hl
  have HX := Lib.hid hx
  clear h hx
  go_enter Tryz.func34, Tryz.ntmps34
  go_wp2_with (go_at_call 55; refine HN.out.mono ?_; rintro e w' ⟨rfl, rfl⟩)
  go_ret2
  exact ⟨rfl, (Fr.refl [] _).alloc _⟩

theorem netAccept_empty (h : NetIs w n r m lm cm names ls cs) (b q mm t : Nat) (most : Int) (g : Nat) (s : ByteArray) (p : Int) (hl : (.int .i64 ref, qV b s p) ∈ ls) (hb : BackIs w b q mm t most false [] g) :
    Calls Tryz.prog 34 #[.pointer (some ⟨n, 0, none⟩), .int .i64 ref] w fun e w' => e = .returned (.tuple #[.int .i64 0, .int .i64 16]) ∧ Fr [] w w' := by
  have c1 := h.c1
  have HN := Lib.hid (netNone_any _ h)
  have hlk := h.ls.hit keyInt (t := 49) (e := 120) Tryz.underlying49 hl true
  simp only [if_true, qV] at hlk
  have f0 : Fr [] w (w.alloc (.cells #[.pointer (some ⟨b, 0, none⟩), .string s, .int .i64 p] 120)) := (Fr.refl [] _).alloc _
  have HB := Lib.hid (hb.keep f0 (by simp) (by simp) (by simp) (by simp))
  clear h hl hb
  go_enter Tryz.func34, Tryz.ntmps34
  go_wp2_with (first
    | (go_at_call 55; refine HN.out.mono ?_; rintro e w' ⟨rfl, rfl⟩)
    | (go_at_call 84; refine (backPop_empty b q mm t most g _ HB.out).mono ?_; rintro e w' ⟨rfl, rfl⟩))
  go_ret2
  exact ⟨rfl, f0⟩

theorem netAccept_hit (h : NetIs w n r m lm cm names ls cs) (b q mm t tk : Nat) (most v : Int) (l : List (Nat × Int)) (g : Nat) (s : ByteArray) (p : Int) (hg : g < 4611686018427387904) (hl : (.int .i64 ref, qV b s p) ∈ ls) (hb : BackIs w b q mm t most false ((tk, v) :: l) g) :
    Calls Tryz.prog 34 #[.pointer (some ⟨n, 0, none⟩), .int .i64 ref] w fun e w' => e = .returned (.tuple #[.int .i64 v, .int .i64 0]) ∧ BackIs w' b q mm t most false l g ∧ Fr [q, mm, t] w w' := by
  have c1 := h.c1
  have HN := Lib.hid (netNone_any _ h)
  have hlk := h.ls.hit keyInt (t := 49) (e := 120) Tryz.underlying49 hl true
  simp only [if_true, qV] at hlk
  have f0 : Fr [] w (w.alloc (.cells #[.pointer (some ⟨b, 0, none⟩), .string s, .int .i64 p] 120)) := (Fr.refl [] _).alloc _
  have HB := Lib.hid (hb.keep f0 (by simp) (by simp) (by simp) (by simp))
  clear h hl hb
  go_enter Tryz.func34, Tryz.ntmps34
  go_wp2_with (first
    | (go_at_call 55; refine HN.out.mono ?_; rintro e w' ⟨rfl, rfl⟩)
    | (go_at_call 84; refine (backPop_hit b q mm t tk most v l g hg _ HB.out).mono ?_; rintro e w2 ⟨rfl, hb2, f2⟩))
  go_ret2
  exact ⟨rfl, hb2, (f0.mono (fun x hx => by cases hx)).trans f2 (fun x hx _ => hx)⟩
end

theorem popL_one {L1 L2 : List LB} {x : LB} (h : ((L1 ++ x :: L2).map (·.ref)).Nodup) :
    PN.popL ((L1 ++ x :: L2).map LB.pl) x.ref = L1.map LB.pl ++ { x.pl with l := x.pl.l.tail } :: L2.map LB.pl := by
  obtain ⟨h1, h2⟩ := map_one h
  unfold PN.popL
  rw [List.map_map, List.map_append, List.map_cons]
  congr 1
  · exact List.map_congr_left fun y hy => by simp [LB.pl, h1 y hy]
  · congr 1
    · simp [LB.pl]
    · exact List.map_congr_left fun y hy => by simp [LB.pl, h2 y hy]

theorem netAccept_w {own : Nat → Nat} {B : NB} {L : List LB} {C : List CB} {G : Nat} (ref : Int) (w : World) (h : NetW w own B L C G) (hr : -9223372036854775808 ≤ ref) (hr' : ref ≤ 9223372036854775807) (hG : G < 4611686018427387904) :
    Calls Tryz.prog 34 #[.pointer (some ⟨B.n, 0, none⟩), .int .i64 ref] w fun e w' => ∃ L',
      e = .returned (.tuple #[.int .i64 (PN.accept (plainN L C) ref).2.1, .int .i64 (PN.accept (plainN L C) ref).2.2]) ∧ plainN L' C = (PN.accept (plainN L C) ref).1 ∧ NetW w' own B L' C G ∧ FrO own netO w w' := by
  unfold PN.accept
  rcases hat : PN.byRef (plainN L C).L ref with _ | z
  · refine (netAccept_none ref w h.net hr hr' (by_none hat)).mono ?_
    rintro e w' ⟨rfl, hf⟩
    exact ⟨L, rfl, rfl, h.new hf, FrO.new hf⟩
  · obtain ⟨L1, x, L2, rfl, rfl, rfl⟩ := by_some hat
    have hx := h.ls x (by simp)
    have hl : (.int .i64 (x.ref : Int), qV x.b x.s x.p) ∈ (L1 ++ x :: L2).map LB.ent := List.mem_map.2 ⟨x, by simp, rfl⟩
    obtain ⟨xr, xs, xp, xm, xl, xg, xb, xq, xmm, xt⟩ := x
    cases xl with
    | nil =>
      refine (netAccept_empty xr w h.net xb xq xmm xt xm xg xs xp hl hx.back).mono ?_
      rintro e w' ⟨rfl, hf⟩
      exact ⟨_, rfl, rfl, h.new hf, FrO.new hf⟩
    | cons y l =>
      obtain ⟨tk, v⟩ := y
      refine (netAccept_hit xr w h.net xb xq xmm xt tk xm v l xg xs xp (by have := hx.g; simp only at this; omega) hl hx.back).mono ?_
      rintro e w' ⟨rfl, hb, hf⟩
      obtain ⟨o1, o2, o3, o4, o5⟩ := h.on
      obtain ⟨x1, x2, x3, x4⟩ := hx.own
      simp only at x1 x2 x3 x4
      have hS : ∀ z ∈ [xq, xmm, xt], own z = 4 * xr + 2 := fun z hz => by
        simp only [List.mem_cons, List.not_mem_nil, or_false] at hz
        rcases hz with rfl | rfl | rfl <;> assumption
      obtain ⟨g1, g2⟩ := map_one h.refs
      have n0 : ∀ z, own z = 0 → z ∉ [xq, xmm, xt] := fun z hz hm => by have := hS z hm; omega
      have keepL : ∀ y, y ∈ L1 ∨ y ∈ L2 → ListW w' own G y := fun y hy => by
        have hne : y.ref ≠ xr := by rcases hy with hy | hy; exact g1 y hy; exact g2 y hy
        refine (h.ls y (by rcases hy with hy | hy <;> simp [hy])).keep hf (fun z hz he => ?_)
        have := hS z hz
        omega
      have hxl := hx.len
      simp only [List.length_cons] at hxl
      refine ⟨L1 ++ ⟨xr, xs, xp, xm, l, xg, xb, xq, xmm, xt⟩ :: L2, rfl, ?_, ?_, FrO.of hf (fun z hz => .inr (.inr (by rw [hS z hz]; omega)))⟩
      · unfold plainN
        congr 1
        refine Eq.trans ?_ (popL_one h.refs).symm
        simp [LB.pl]
      · refine ⟨?_, h.on, ?_, fun y hy => (h.cs y hy).keep hf (fun z hz he => by have := hS z hz; omega), by simpa using h.refs, h.crefs, ?_, ?_, ?_, by simpa using h.nl, h.nc⟩
        · have e1 : (L1 ++ ⟨xr, xs, xp, xm, l, xg, xb, xq, xmm, xt⟩ :: L2).map LB.nm = (L1 ++ ⟨xr, xs, xp, xm, (tk, v) :: l, xg, xb, xq, xmm, xt⟩ :: L2).map LB.nm := by simp [LB.nm]
          have e2 : (L1 ++ ⟨xr, xs, xp, xm, l, xg, xb, xq, xmm, xt⟩ :: L2).map LB.ent = (L1 ++ ⟨xr, xs, xp, xm, (tk, v) :: l, xg, xb, xq, xmm, xt⟩ :: L2).map LB.ent := by simp [LB.ent]
          rw [e1, e2]
          exact h.net.keep hf (n0 _ o1) (n0 _ o2) (n0 _ o3) (n0 _ o4) (n0 _ o5)
        · intro y hy
          simp only [List.mem_append, List.mem_cons] at hy
          rcases hy with hy | rfl | hy
          · exact keepL y (.inl hy)
          · exact ⟨hb, hx.own, hx.adr, hx.sz, hx.port, hx.most, by simp; omega, hx.g⟩
          · exact keepL y (.inr hy)
        · have := h.adrs
          simp only [List.pairwise_append, List.pairwise_cons, List.mem_cons, forall_eq_or_imp] at this ⊢
          exact this
        · intro z hz
          refine h.queue z ?_
          rw [qs_mid] at hz ⊢
          simp only [List.map_cons, List.mem_append, List.mem_cons] at hz ⊢
          rcases hz with hz | hz | hz
          · exact .inl hz
          · exact .inr (.inl (.inr hz))
          · exact .inr (.inr hz)
        · have := h.vals
          rw [qs_mid] at this ⊢
          refine this.sublist (List.Sublist.append (List.Sublist.refl _) (List.Sublist.append ?_ (List.Sublist.refl _)))
          exact List.sublist_cons_self _ _
end Go.Proofs.YtmdhlodafjpnmaaGreat
