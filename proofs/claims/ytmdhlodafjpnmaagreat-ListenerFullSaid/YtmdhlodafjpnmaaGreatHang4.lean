/- The net in memory: Hang at any number and any end; and a net under way, the same. -/
import Derived.Test.YtmdhlodafjpnmaaGreatWaits
import Derived.Test.YtmdhlodafjpnmaaGreatLive
namespace Go.Proofs.YtmdhlodafjpnmaaGreat
open Go.RowKit
open Go.Maps (Keyed)
set_option linter.unusedVariables false
set_option maxRecDepth 100000
set_option maxHeartbeats 4000000

namespace PN
def byC (C : List PC) (k : Int) : Option PC := C.find? (fun y => decide ((y.ref : Int) = k))
def waitsOf (L : List PL) : List Int := L.flatMap (·.l)
/-- Hang at any number and end: the net, the error. -/
def hangN (N : Net) (k en : Int) : Net × Int :=
  if en ≠ 0 ∧ en ≠ 1 then (N, 2)
  else match byC N.C k with
    | none => (N, 9)
    | some y =>
      if en = 1 ∧ k ∈ waitsOf N.L then (N, 8)
      else if (if en = 1 then y.a1 else y.a0) = true then (N, 14)
      else ({ N with C := hang N.C k (decide (en = 1)) }, 0)
end PN
theorem waitsOf_qs (L : List LB) : PN.waitsOf (L.map LB.pl) = qs L := by
  unfold PN.waitsOf qs
  rw [List.flatMap_map]
  rfl
theorem byC_none {C : List CB} {r : Int} (h : PN.byC (C.map CB.pc) r = none) : ∀ x ∈ C.map CB.ent, x.1 ≠ .int .i64 r := by
  intro x hx he
  obtain ⟨y, hy, rfl⟩ := List.mem_map.1 hx
  have := List.find?_eq_none.1 h y.pc (List.mem_map.2 ⟨y, hy, rfl⟩)
  simp only [CB.ent, Value.int.injEq, true_and] at he
  simp [CB.pc, he] at this
theorem byC_some {C : List CB} {r : Int} {z : PN.PC} (h : PN.byC (C.map CB.pc) r = some z) : ∃ C1 y C2, C = C1 ++ y :: C2 ∧ z = y.pc ∧ (y.ref : Int) = r := by
  unfold PN.byC at h
  rw [List.find?_map, Option.map_eq_some_iff] at h
  obtain ⟨x, hx, rfl⟩ := h
  obtain ⟨h1, L1, L2, h2, _⟩ := List.find?_eq_some_iff_append.1 hx
  simp only [Function.comp, decide_eq_true_eq] at h1
  exact ⟨L1, x, L2, h2, rfl, h1⟩

section
variable {own : Nat → Nat} {B : NB} {L : List LB} {C : List CB} {G : Nat} (w : World)
/-- Hang up to its last call, whatever that answers. -/
theorem netHang_at {C1 C2 : List CB} {y : CB} {en v : Int} {R : World → Prop} (h : NetW w own B L (C1 ++ y :: C2) G) (hG : G < 4611686018427387904) (he : en = 0 ∨ en = 1 ∧ (y.ref : Int) ∉ qs L)
    (hH : ∀ W, Fr [] w W → Calls Tryz.prog 57 #[.pointer (some ⟨B.n, 0, none⟩), .int .i64 y.ref, .int .i64 en] W fun e w' => e = .returned (.int .i64 v) ∧ R w') :
    Calls Tryz.prog 18 #[.pointer (some ⟨B.n, 0, none⟩), .int .i64 y.ref, .int .i64 en] w fun e w' => e = .returned (.int .i64 v) ∧ R w' := by
  have c2 := h.net.c2
  have HN := Lib.hid (netNone_any _ h.net)
  have hlk := h.net.cs.hit keyInt (t := 51) (e := 55) Tryz.underlying51 (x := .int .i64 y.ref) (v := .pointer (some ⟨y.d, 0, none⟩)) (List.mem_map.2 ⟨y, by simp, rfl⟩) true
  simp only [if_true] at hlk
  have HW := Lib.hid (fun W (hf : Fr [] w W) => netWaits_w (y.ref : Int) W (h.new hf) hG)
  have HH := Lib.hid hH
  clear h hH
  rcases he with rfl | ⟨rfl, hq⟩
  · go_enter Tryz.func18, Tryz.ntmps18
    go_wp2_with (first
      | (go_at_call 55; refine HN.out.mono ?_; rintro e w' ⟨rfl, rfl⟩)
      | (go_at_call 57; refine (HH.out _ (by first | exact Fr.refl _ _ | exact (Fr.refl [] _).alloc _)).mono ?_; rintro e w1 ⟨rfl, r1⟩))
    go_ret
    exact ⟨rfl, r1⟩
  · have hd : decide ((y.ref : Int) ∈ qs L) = false := decide_eq_false hq
    have HD := Lib.hid hd
    clear hd hq
    go_enter Tryz.func18, Tryz.ntmps18
    go_wp2_with (first
      | (go_at_call 55; refine HN.out.mono ?_; rintro e w' ⟨rfl, rfl⟩)
      | (go_at_call 56; refine (HW.out _ (by first | exact Fr.refl _ _ | exact (Fr.refl [] _).alloc _)).mono ?_; rintro e w2 ⟨rfl, f2⟩; rw [HD.out])
      | (go_at_call 57; refine (HH.out _ (by first | exact f2 | exact ((Fr.refl [] _).alloc _).step f2)).mono ?_; rintro e w1 ⟨rfl, r1⟩))
    go_ret
    exact ⟨rfl, r1⟩
theorem netHang_busy {C1 C2 : List CB} {y : CB} (h : NetW w own B L (C1 ++ y :: C2) G) (hG : G < 4611686018427387904) (hq : (y.ref : Int) ∈ qs L) :
    Calls Tryz.prog 18 #[.pointer (some ⟨B.n, 0, none⟩), .int .i64 y.ref, .int .i64 1] w fun e w' => e = .returned (.int .i64 8) ∧ Fr [] w w' := by
  have c2 := h.net.c2
  have HN := Lib.hid (netNone_any _ h.net)
  have hlk := h.net.cs.hit keyInt (t := 51) (e := 55) Tryz.underlying51 (x := .int .i64 y.ref) (v := .pointer (some ⟨y.d, 0, none⟩)) (List.mem_map.2 ⟨y, by simp, rfl⟩) true
  simp only [if_true] at hlk
  have HW := Lib.hid (fun W (hf : Fr [] w W) => netWaits_w (y.ref : Int) W (h.new hf) hG)
  have HD := Lib.hid (decide_eq_true hq)
  clear h hq
  go_enter Tryz.func18, Tryz.ntmps18
  go_wp2_with (first
    | (go_at_call 55; refine HN.out.mono ?_; rintro e w' ⟨rfl, rfl⟩)
    | (go_at_call 56; refine (HW.out _ (by first | exact Fr.refl _ _ | exact (Fr.refl [] _).alloc _)).mono ?_; rintro e w2 ⟨rfl, f2⟩; rw [HD.out]))
  go_ret
  exact ⟨rfl, by first | exact f2 | exact ((Fr.refl [] _).alloc _).step f2⟩
theorem netHang_miss (k en : Int) (h : NetW w own B L C G) (he : en = 0 ∨ en = 1) (hk : -9223372036854775808 ≤ k) (hk' : k ≤ 9223372036854775807) (hx : ∀ x ∈ C.map CB.ent, x.1 ≠ .int .i64 k) :
    Calls Tryz.prog 18 #[.pointer (some ⟨B.n, 0, none⟩), .int .i64 k, .int .i64 en] w fun e w' => e = .returned (.int .i64 9) ∧ Fr [] w w' := by
  have c2 := h.net.c2
  have HN := Lib.hid (netNone_any _ h.net)
  have hlk := h.net.cs.miss keyInt (t := 51) (e := 55) Tryz.underlying51 (keyInt_of k hk hk') hx (zeroD _) true
  simp only [if_true] at hlk
  clear h hx
  rcases he with rfl | rfl
  all_goals
    go_enter Tryz.func18, Tryz.ntmps18
    go_wp2_with (go_at_call 55; refine HN.out.mono ?_; rintro e w' ⟨rfl, rfl⟩)
    go_ret
    exact ⟨rfl, by first | exact Fr.refl _ _ | exact (Fr.refl [] _).alloc _⟩
theorem netHang_bad (k en : Int) (h : NetW w own B L C G) (h0 : en ≠ 0) (h1 : en ≠ 1) (hk : -9223372036854775808 ≤ k) (hk' : k ≤ 9223372036854775807) :
    Calls Tryz.prog 18 #[.pointer (some ⟨B.n, 0, none⟩), .int .i64 k, .int .i64 en] w fun e w' => e = .returned (.int .i64 2) ∧ Fr [] w w' := by
  have c2 := h.net.c2
  have HN := Lib.hid (netNone_any _ h.net)
  have e0 : (en == 0) = false := by simpa using h0
  have e1 : (en == 1) = false := by simpa using h1
  have e0' : (en != 0) = true := by simpa using h0
  have e1' : (en != 1) = true := by simpa using h1
  have hlk : ∃ d b, (Instr.lookup 51 (.map (some B.cm)) (.int .i64 k) true).run Tryz.prog w = .ok (.tuple #[.pointer d, .bool b]) w := by
    rcases hat : PN.byC (C.map CB.pc) k with _ | z
    · have := h.net.cs.miss keyInt (t := 51) (e := 55) Tryz.underlying51 (keyInt_of k hk hk') (byC_none hat) (zeroD _) true
      simp only [if_true] at this
      exact ⟨_, _, this⟩
    · obtain ⟨C1, y, C2, rfl, rfl, rfl⟩ := byC_some hat
      have := h.net.cs.hit keyInt (t := 51) (e := 55) Tryz.underlying51 (x := .int .i64 y.ref) (v := .pointer (some ⟨y.d, 0, none⟩)) (List.mem_map.2 ⟨y, by simp, rfl⟩) true
      simp only [if_true] at this
      exact ⟨_, _, this⟩
  obtain ⟨d, b, hlk⟩ := hlk
  clear h h0 h1
  go_enter Tryz.func18, Tryz.ntmps18
  go_wp2_with (go_at_call 55; refine HN.out.mono ?_; rintro e w' ⟨rfl, rfl⟩)
  go_ret
  exact ⟨rfl, by first | exact Fr.refl _ _ | exact (Fr.refl [] _).alloc _⟩
end
theorem netHang_w {own : Nat → Nat} {B : NB} {L : List LB} {C : List CB} {G : Nat} (w : World) (k en : Int) (h : NetW w own B L C G) (hG : G < 4611686018427387904) (hk : -9223372036854775808 ≤ k) (hk' : k ≤ 9223372036854775807) :
    Calls Tryz.prog 18 #[.pointer (some ⟨B.n, 0, none⟩), .int .i64 k, .int .i64 en] w fun e w' => ∃ own' C', e = .returned (.int .i64 (PN.hangN (plainN L C) k en).2) ∧ plainN L C' = (PN.hangN (plainN L C) k en).1 ∧ NetW w' own' B L C' G ∧ Ext w own own' ∧ FrO own netO w w' := by
  unfold PN.hangN
  by_cases hb : en ≠ 0 ∧ en ≠ 1
  · rw [if_pos hb]
    refine (netHang_bad w k en h hb.1 hb.2 hk hk').mono ?_
    rintro e w' ⟨rfl, hf⟩
    exact ⟨own, C, rfl, rfl, h.new hf, Ext.refl _ _, FrO.new hf⟩
  rw [if_neg hb]
  have he : en = 0 ∨ en = 1 := by omega
  rcases hat : PN.byC (plainN L C).C k with _ | z
  · refine (netHang_miss w k en h he hk hk' (byC_none hat)).mono ?_
    rintro e w' ⟨rfl, hf⟩
    exact ⟨own, C, rfl, rfl, h.new hf, Ext.refl _ _, FrO.new hf⟩
  obtain ⟨C1, y, C2, rfl, rfl, rfl⟩ := byC_some hat
  simp only [show (plainN L (C1 ++ y :: C2)).L = L.map LB.pl from rfl, waitsOf_qs]
  by_cases hw : en = 1 ∧ (y.ref : Int) ∈ qs L
  · rw [if_pos hw]
    obtain ⟨rfl, hq⟩ := hw
    refine (netHang_busy w h hG hq).mono ?_
    rintro e w' ⟨rfl, hf⟩
    exact ⟨own, _, rfl, rfl, h.new hf, Ext.refl _ _, FrO.new hf⟩
  rw [if_neg hw]
  have he' : en = 0 ∨ en = 1 ∧ (y.ref : Int) ∉ qs L := by
    rcases he with h | h
    · exact .inl h
    · exact .inr ⟨h, fun hm => hw ⟨h, hm⟩⟩
  have ho : ∀ z ∈ C1 ++ y :: C2, (z.a0 && z.a1) = false := fun z hz => (h.cs z hz).op
  have hop := ho y (by simp)
  have go : ∀ {v : Int} {b0 b1 : Bool}, ShutsTo en v y.d y.cap y.a0 y.a1 b0 b1 → ((y.ref : Int) ∈ qs L → b1 = false) →
      Calls Tryz.prog 18 #[.pointer (some ⟨B.n, 0, none⟩), .int .i64 y.ref, .int .i64 en] w fun e w' => e = .returned (.int .i64 v) ∧ ∃ own', NetW w' own' B L (hangTo C1 C2 y b0 b1) G ∧ Ext w own own' ∧ FrO own netO w w' := fun {v b0 b1} hs hq => by
    refine netHang_at w h hG he' (fun W hf => ?_)
    refine (hang_w2 W (h.new hf) hs hq).mono ?_
    rintro e w' ⟨rfl, hn, hF⟩
    refine ⟨rfl, _, hn, fun x hx => Ext.new W own _ x (Nat.lt_of_lt_of_le hx hf.size), (FrO.new hf).trans (hF.mono (fun c hc => ?_)) (Ext.refl _ _)⟩
    rcases hc with rfl | rfl
    · exact .inl rfl
    · exact .inr (.inl (by omega))
  have pcC : (plainN L (C1 ++ y :: C2)).C = (C1 ++ y :: C2).map CB.pc := rfl
  have qopen : (y.ref : Int) ∈ qs L → y.a1 = false := fun hq => by
    obtain ⟨z, hz, hz1, hz2⟩ := h.queue _ hq
    have : z.ref = y.ref := by omega
    obtain ⟨g1, g2⟩ := cmap_one h.crefs
    rcases List.mem_append.1 hz with hz | hz
    · exact absurd this (g1 z hz)
    · rcases List.mem_cons.1 hz with rfl | hz
      · exact hz2
      · exact absurd this (g2 z hz)
  rcases he' with rfl | ⟨rfl, hnq⟩
  · simp only [show ¬ ((0 : Int) = 1) by omega, if_false, show y.pc.a0 = y.a0 from rfl]
    cases h0 : y.a0 with
    | true =>
      rw [h0] at go hop
      rw [if_pos rfl]
      refine (go (shuts_01 y.d y.cap y.a1) qopen).mono ?_
      rintro e w' ⟨rfl, own', hn, hE, hF⟩
      refine ⟨own', _, rfl, ?_, hn, hE, hF⟩
      unfold hangTo
      have : y.a1 = false := by simpa using hop
      rw [this]
      simp only [Bool.and_false, Bool.false_eq_true, if_false]
      obtain ⟨yr, yc, ya, yb, yd⟩ := y
      simp only at h0 this
      subst h0 this
      rfl
    | false =>
      rw [h0] at go
      simp only [Bool.false_eq_true, if_false]
      refine (go (shuts_00 y.d y.cap y.a1) qopen).mono ?_
      rintro e w' ⟨rfl, own', hn, hE, hF⟩
      refine ⟨own', _, rfl, ?_, hn, hE, hF⟩
      rw [pcC]
      have := hang_plain2 (C1 := C1) (C2 := C2) (y := y) false h.crefs ho
      simp only [Bool.not_false, Bool.or_true, Bool.or_false] at this
      simp only [decide_false]
      rw [this]
      rfl
  · simp only [if_true, show y.pc.a1 = y.a1 from rfl]
    cases h1 : y.a1 with
    | true =>
      rw [h1] at go hop
      rw [if_pos rfl]
      refine (go (shuts_11 y.d y.cap y.a0) (fun hq => absurd hq hnq)).mono ?_
      rintro e w' ⟨rfl, own', hn, hE, hF⟩
      refine ⟨own', _, rfl, ?_, hn, hE, hF⟩
      unfold hangTo
      have : y.a0 = false := by simpa using hop
      rw [this]
      simp only [Bool.false_and, Bool.false_eq_true, if_false]
      obtain ⟨yr, yc, ya, yb, yd⟩ := y
      simp only at h1 this
      subst h1 this
      rfl
    | false =>
      rw [h1] at go
      simp only [Bool.false_eq_true, if_false]
      refine (go (shuts_10 y.d y.cap y.a0) (fun hq => absurd hq hnq)).mono ?_
      rintro e w' ⟨rfl, own', hn, hE, hF⟩
      refine ⟨own', _, rfl, ?_, hn, hE, hF⟩
      rw [pcC]
      have := hang_plain2 (C1 := C1) (C2 := C2) (y := y) true h.crefs ho
      simp only [Bool.not_true, Bool.or_true, Bool.or_false] at this
      simp only [decide_true]
      rw [this]
      rfl
theorem hang_l {K : Nat → Prop} {B : NB} {N : PN.Net} {G : Nat} {w : World} (k en : Int) (h : Live K B N G w) (hG : G ≤ 1000000) (hk : -9223372036854775808 ≤ k) (hk' : k ≤ 9223372036854775807) :
    Calls Tryz.prog 18 #[.pointer (some ⟨B.n, 0, none⟩), .int .i64 k, .int .i64 en] w fun e w' => e = .returned (.int .i64 (PN.hangN N k en).2) ∧ Live K B (PN.hangN N k en).1 G w' ∧ FrK K w w' := by
  obtain ⟨own, L, C, h1, rfl, h3⟩ := h
  refine (netHang_w w k en h1 (by omega) hk hk').mono ?_
  rintro e w' ⟨own', C', he, hp, hn, hx, hf⟩
  exact ⟨he, live_call h3 hn hp hx hf⟩
end Go.Proofs.YtmdhlodafjpnmaaGreat
