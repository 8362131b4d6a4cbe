/- A net with its listeners and connections in memory, every block under a number of its owner; Connect over it. -/
/- The net in memory: a pair is opened. -/
/- Contracts of listener's Accept, and Accept over a net in memory. -/
import Derived.Test.YtmdhlodafjpnmaaGreatPair2
import Derived.Test.YtmdhlodafjpnmaaGreatDup2
import Derived.Test.YtmdhlodafjpnmaaGreatWait
import Derived.Test.YtmdhlodafjpnmaaGreatPNR
namespace Go.Proofs.YtmdhlodafjpnmaaGreat
open Go.RowKit
open Go.Maps (Keyed)
set_option linter.unusedVariables false
set_option maxRecDepth 100000
set_option maxHeartbeats 4000000

structure NB where
  n : Nat
  r : Nat
  m : Nat
  lm : Nat
  cm : Nat
structure LB where
  ref : Nat
  s : ByteArray
  p : Int
  most : Int
  l : List (Nat × Int)
  g : Nat
  b : Nat
  q : Nat
  m : Nat
  t : Nat
structure CB where
  ref : Nat
  cap : Nat
  a0 : Bool
  a1 : Bool
  d : Nat
def LB.pl (x : LB) : PN.PL := ⟨x.ref, x.s, x.p, x.most, x.l.map (·.2)⟩
def LB.nm (x : LB) : Value × Value := (addrV x.s x.p, .int .i64 x.ref)
def LB.ent (x : LB) : Value × Value := (.int .i64 x.ref, qV x.b x.s x.p)
def CB.pc (y : CB) : PN.PC := ⟨y.ref, y.cap, y.a0, y.a1⟩
def CB.ent (y : CB) : Value × Value := (.int .i64 y.ref, .pointer (some ⟨y.d, 0, none⟩))

/-- The owners' numbers: 0 the net, 4 n + 1 the connection n, 4 n + 2 the listener n, 4 n + 3 others. -/
structure ListW (w : World) (own : Nat → Nat) (G : Nat) (x : LB) : Prop where
  back : BackIs w x.b x.q x.m x.t x.most false x.l x.g
  own : own x.b = 4 * x.ref + 2 ∧ own x.q = 4 * x.ref + 2 ∧ own x.m = 4 * x.ref + 2 ∧ own x.t = 4 * x.ref + 2
  adr : addrB x.s.data.toList x.p = true
  sz : x.s.size ≤ 1000000
  port : (x.p == 0) = false
  most : 1 ≤ x.most ∧ x.most ≤ 128
  len : (x.l.length : Int) ≤ x.most
  g : x.g ≤ G
structure ConnW (w : World) (own : Nat → Nat) (y : CB) : Prop where
  dup : DupS w (fun x => own x = 4 * y.ref + 1) y.d y.cap y.a0 y.a1
  cap : y.cap ≤ 4096
  op : (y.a0 && y.a1) = false

/-- What was there keeps its owner. -/
def Ext (w : World) (own own' : Nat → Nat) : Prop := ∀ x, x < w.heap.size → own' x = own x
theorem Ext.refl (w : World) (own : Nat → Nat) : Ext w own own := fun _ _ => rfl
theorem Ext.trans {S : List Nat} {w w' : World} {o1 o2 o3 : Nat → Nat} (h : Ext w o1 o2) (k : Ext w' o2 o3) (hf : Fr S w w') : Ext w o1 o3 := fun x hx => (k x (Nat.lt_of_lt_of_le hx hf.size)).trans (h x hx)
theorem Ext.step {w w' : World} {o1 o2 o3 : Nat → Nat} (h : Ext w o1 o2) (k : Ext w' o2 o3) (hs : w.heap.size ≤ w'.heap.size) : Ext w o1 o3 := fun x hx => (k x (Nat.lt_of_lt_of_le hx hs)).trans (h x hx)
/-- New blocks belong to c. -/
def ownNew (w : World) (own : Nat → Nat) (c : Nat) : Nat → Nat := fun x => if x < w.heap.size then own x else c
theorem Ext.new (w : World) (own : Nat → Nat) (c : Nat) : Ext w own (ownNew w own c) := fun x hx => if_pos hx
theorem ownNew_ge {w : World} {own : Nat → Nat} {c x : Nat} (h : w.heap.size ≤ x) : ownNew w own c x = c := if_neg (by omega)

theorem ListW.keep {S : List Nat} {w w' : World} {own : Nat → Nat} {G : Nat} {x : LB} (h : ListW w own G x) (hf : Fr S w w') (hS : ∀ z ∈ S, own z ≠ 4 * x.ref + 2) : ListW w' own G x :=
  ⟨h.back.keep hf (fun hm => hS _ hm h.own.1) (fun hm => hS _ hm h.own.2.1) (fun hm => hS _ hm h.own.2.2.1) (fun hm => hS _ hm h.own.2.2.2), h.own, h.adr, h.sz, h.port, h.most, h.len, h.g⟩
theorem ListW.ext {w : World} {own own' : Nat → Nat} {G : Nat} {x : LB} (h : ListW w own G x) (he : Ext w own own') : ListW w own' G x := by
  obtain ⟨f, h1, _⟩ := h.back.tickets
  exact ⟨h.back, ⟨(he _ (cell_lt h.back.c0)).trans h.own.1, (he _ (cell_lt h.back.queue.c0)).trans h.own.2.1, (he _ (map_lt h.back.queue)).trans h.own.2.2.1, (he _ h1.lt).trans h.own.2.2.2⟩, h.adr, h.sz, h.port, h.most, h.len, h.g⟩
theorem ListW.mono {w : World} {own : Nat → Nat} {G G' : Nat} {x : LB} (h : ListW w own G x) (hg : G ≤ G') : ListW w own G' x :=
  ⟨h.back, h.own, h.adr, h.sz, h.port, h.most, h.len, Nat.le_trans h.g hg⟩
theorem ConnW.keep {S : List Nat} {w w' : World} {own : Nat → Nat} {y : CB} (h : ConnW w own y) (hf : Fr S w w') (hS : ∀ z ∈ S, own z ≠ 4 * y.ref + 1) : ConnW w' own y :=
  ⟨h.dup.keep hf hS, h.cap, h.op⟩
theorem ConnW.ext {w : World} {own own' : Nat → Nat} {y : CB} (h : ConnW w own y) (he : Ext w own own') : ConnW w own' y :=
  ⟨h.dup.ext (fun x hx hp => (he x hx).trans hp), h.cap, h.op⟩

/-- The numbers that wait, of all listeners. -/
def qs (L : List LB) : List Int := L.flatMap fun x => x.l.map (·.2)
theorem qs_mid (L1 L2 : List LB) (x : LB) : qs (L1 ++ x :: L2) = qs L1 ++ (x.l.map (·.2) ++ qs L2) := by simp [qs]
structure NetW (w : World) (own : Nat → Nat) (B : NB) (L : List LB) (C : List CB) (G : Nat) : Prop where
  net : NetIs w B.n B.r B.m B.lm B.cm (L.map LB.nm) (L.map LB.ent) (C.map CB.ent)
  on : own B.n = 0 ∧ own B.r = 0 ∧ own B.m = 0 ∧ own B.lm = 0 ∧ own B.cm = 0
  ls : ∀ x ∈ L, ListW w own G x
  cs : ∀ y ∈ C, ConnW w own y
  refs : (L.map (·.ref)).Nodup
  crefs : (C.map (·.ref)).Nodup
  adrs : L.Pairwise fun x y => ¬ (x.s = y.s ∧ x.p = y.p)
  queue : ∀ k ∈ qs L, ∃ y ∈ C, (y.ref : Int) = k ∧ y.a1 = false
  vals : (qs L).Nodup
  nl : L.length ≤ 128
  nc : C.length ≤ 128
def plainN (L : List LB) (C : List CB) : PN.Net := ⟨L.map LB.pl, C.map CB.pc⟩
/-- The owners whose blocks a call of a net may turn. -/
def netO (c : Nat) : Prop := c = 0 ∨ c % 4 = 1 ∨ c % 4 = 2
/-- Of the blocks that were there, only those of owners in Q may have turned. -/
def FrO (own : Nat → Nat) (Q : Nat → Prop) (w w' : World) : Prop := ∃ S, Fr S w w' ∧ ∀ x ∈ S, x < w.heap.size → Q (own x)
theorem FrO.of {own : Nat → Nat} {Q : Nat → Prop} {S : List Nat} {w w' : World} (h : Fr S w w') (hS : ∀ x ∈ S, Q (own x)) : FrO own Q w w' := ⟨S, h, fun x hx _ => hS x hx⟩
theorem FrO.new {own : Nat → Nat} {Q : Nat → Prop} {w w' : World} (h : Fr [] w w') : FrO own Q w w' := ⟨[], h, fun x hx => by cases hx⟩
theorem FrO.size {own : Nat → Nat} {Q : Nat → Prop} {w w' : World} (h : FrO own Q w w') : w.heap.size ≤ w'.heap.size := by
  obtain ⟨S, h1, _⟩ := h
  exact h1.size
theorem FrO.mono {own : Nat → Nat} {Q R : Nat → Prop} {w w' : World} (h : FrO own Q w w') (hq : ∀ c, Q c → R c) : FrO own R w w' := by
  obtain ⟨S, h1, h2⟩ := h
  exact ⟨S, h1, fun x hx hl => hq _ (h2 x hx hl)⟩
theorem FrO.trans {own own' : Nat → Nat} {Q : Nat → Prop} {a b c : World} (h : FrO own Q a b) (k : FrO own' Q b c) (he : Ext a own own') : FrO own Q a c := by
  obtain ⟨S, h1, h2⟩ := h
  obtain ⟨T, k1, k2⟩ := k
  refine ⟨S ++ T, (h1.mono (T := S ++ T) (fun x hx _ => List.mem_append_left _ hx)).trans k1 (fun x hx _ => List.mem_append_right _ hx), fun x hx hl => ?_⟩
  rcases List.mem_append.1 hx with hx | hx
  · exact h2 x hx hl
  · rw [← he x hl]
    exact k2 x hx (Nat.lt_of_lt_of_le hl h1.size)
/-- .. so that a list of just these blocks can be named. -/
theorem FrO.list {own : Nat → Nat} {Q : Nat → Prop} {w w' : World} (h : FrO own Q w w') : ∃ S, Fr S w w' ∧ ∀ x ∈ S, x < w.heap.size ∧ Q (own x) := by
  obtain ⟨S, h1, h2⟩ := h
  refine ⟨S.filter (fun x => decide (x < w.heap.size)), h1.mono (fun x hx hl => List.mem_filter.2 ⟨hx, by simpa using hl⟩), fun x hx => ?_⟩
  obtain ⟨hx1, hx2⟩ := List.mem_filter.1 hx
  have := of_decide_eq_true hx2
  exact ⟨this, h2 x hx1 this⟩

theorem NetW.keep {S : List Nat} {w w' : World} {own : Nat → Nat} {B : NB} {L : List LB} {C : List CB} {G : Nat} (h : NetW w own B L C G) (hf : Fr S w w') (hS : ∀ z ∈ S, ¬ netO (own z)) : NetW w' own B L C G := by
  obtain ⟨o1, o2, o3, o4, o5⟩ := h.on
  refine ⟨h.net.keep hf ?_ ?_ ?_ ?_ ?_, h.on, fun x hx => (h.ls x hx).keep hf (fun z hz he => hS z hz (.inr (.inr (by rw [he]; omega)))), fun y hy => (h.cs y hy).keep hf (fun z hz he => hS z hz (.inr (.inl (by rw [he]; omega)))), h.refs, h.crefs, h.adrs, h.queue, h.vals, h.nl, h.nc⟩
  all_goals (intro hm; exact hS _ hm (.inl (by assumption)))
theorem NetW.new {w w' : World} {own : Nat → Nat} {B : NB} {L : List LB} {C : List CB} {G : Nat} (h : NetW w own B L C G) (hf : Fr [] w w') : NetW w' own B L C G := h.keep hf (fun z hz => by cases hz)
theorem NetW.ext {w : World} {own own' : Nat → Nat} {B : NB} {L : List LB} {C : List CB} {G : Nat} (h : NetW w own B L C G) (he : Ext w own own') : NetW w own' B L C G := by
  obtain ⟨o1, o2, o3, o4, o5⟩ := h.on
  exact ⟨h.net, ⟨(he _ (cell_lt h.net.c0)).trans o1, (he _ (cell_lt h.net.reg.c0)).trans o2, (he _ h.net.reg.map.lt).trans o3, (he _ h.net.ls.lt).trans o4, (he _ h.net.cs.lt).trans o5⟩, fun x hx => (h.ls x hx).ext he, fun y hy => (h.cs y hy).ext he, h.refs, h.crefs, h.adrs, h.queue, h.vals, h.nl, h.nc⟩
theorem NetW.mono {w : World} {own : Nat → Nat} {B : NB} {L : List LB} {C : List CB} {G G' : Nat} (h : NetW w own B L C G) (hg : G ≤ G') : NetW w own B L C G' :=
  ⟨h.net, h.on, fun x hx => (h.ls x hx).mono hg, h.cs, h.refs, h.crefs, h.adrs, h.queue, h.vals, h.nl, h.nc⟩

theorem addrV_inj {s s' : ByteArray} {p p' : Int} (h : addrV s p = addrV s' p') : s = s' ∧ p = p' := by
  unfold addrV at h
  simp only [Value.agg.injEq, Array.mk.injEq, List.cons.injEq, Value.string.injEq, Value.int.injEq, and_true, true_and] at h
  exact h
theorem i64_inj {a b : Nat} (h : Value.int .i64 (a : Int) = .int .i64 (b : Int)) : a = b := by
  simp only [Value.int.injEq, true_and] at h
  omega

/-- The listener of an address: none, or one in the middle of the others. -/
theorem at_none {L : List LB} {s : ByteArray} {p : Int} (h : PN.at? (L.map LB.pl) s p = none) : ∀ x ∈ L.map LB.nm, x.1 ≠ addrV s p := by
  intro x hx he
  obtain ⟨y, hy, rfl⟩ := List.mem_map.1 hx
  have := List.find?_eq_none.1 h y.pl (List.mem_map.2 ⟨y, hy, rfl⟩)
  have e := addrV_inj he
  simp [LB.pl, e.1, e.2] at this
theorem at_some {L : List LB} {s : ByteArray} {p : Int} {z : PN.PL} (h : PN.at? (L.map LB.pl) s p = some z) : ∃ L1 x L2, L = L1 ++ x :: L2 ∧ z = x.pl ∧ x.s = s ∧ x.p = p := by
  unfold PN.at? at h
  rw [List.find?_map, Option.map_eq_some_iff] at h
  obtain ⟨x, hx, rfl⟩ := h
  obtain ⟨h1, L1, L2, h2, _⟩ := List.find?_eq_some_iff_append.1 hx
  simp only [Function.comp, decide_eq_true_eq] at h1
  exact ⟨L1, x, L2, h2, rfl, h1.1, h1.2⟩
theorem by_none {L : List LB} {r : Int} (h : PN.byRef (L.map LB.pl) r = none) : ∀ x ∈ L.map LB.ent, x.1 ≠ .int .i64 r := by
  intro x hx he
  obtain ⟨y, hy, rfl⟩ := List.mem_map.1 hx
  have := List.find?_eq_none.1 h y.pl (List.mem_map.2 ⟨y, hy, rfl⟩)
  simp only [LB.ent, Value.int.injEq, true_and] at he
  simp [LB.pl, he] at this
theorem by_some {L : List LB} {r : Int} {z : PN.PL} (h : PN.byRef (L.map LB.pl) r = some z) : ∃ L1 x L2, L = L1 ++ x :: L2 ∧ z = x.pl ∧ (x.ref : Int) = r := by
  unfold PN.byRef at h
  rw [List.find?_map, Option.map_eq_some_iff] at h
  obtain ⟨x, hx, rfl⟩ := h
  obtain ⟨h1, L1, L2, h2, _⟩ := List.find?_eq_some_iff_append.1 hx
  simp only [Function.comp, decide_eq_true_eq] at h1
  exact ⟨L1, x, L2, h2, rfl, h1⟩
/-- In a list without a number twice, what is done to one number is done to one place. -/
theorem map_one {L1 L2 : List LB} {x : LB} (h : ((L1 ++ x :: L2).map (·.ref)).Nodup) : (∀ y ∈ L1, y.ref ≠ x.ref) ∧ (∀ y ∈ L2, y.ref ≠ x.ref) := by
  simp only [List.map_append, List.map_cons, List.nodup_append, List.nodup_cons] at h
  obtain ⟨_, ⟨h2, _⟩, h3⟩ := h
  refine ⟨fun y hy he => ?_, fun y hy he => h2 (by rw [← he]; exact List.mem_map.2 ⟨y, hy, rfl⟩)⟩
  exact h3 _ (List.mem_map.2 ⟨y, hy, rfl⟩) _ List.mem_cons_self he
theorem pushL_one {L1 L2 : List LB} {x : LB} (h : ((L1 ++ x :: L2).map (·.ref)).Nodup) (k : Int) :
    PN.pushL ((L1 ++ x :: L2).map LB.pl) x.ref k = L1.map LB.pl ++ { x.pl with l := x.pl.l ++ [k] } :: L2.map LB.pl := by
  obtain ⟨h1, h2⟩ := map_one h
  unfold PN.pushL
  rw [List.map_map, List.map_append, List.map_cons]
  congr 1
  · exact List.map_congr_left fun y hy => by simp [LB.pl, h1 y hy]
  · congr 1
    · simp [LB.pl]
    · exact List.map_congr_left fun y hy => by simp [LB.pl, h2 y hy]

theorem free_facts (C : List CB) : (∀ j : Nat, j < PN.free (C.map (·.ref)) → ∃ d', (.int .i64 j, .pointer (some ⟨d', 0, none⟩)) ∈ C.map CB.ent) ∧ (∀ x ∈ C.map CB.ent, x.1 ≠ .int .i64 (PN.free (C.map (·.ref)) : Nat)) ∧ PN.free (C.map (·.ref)) ≤ C.length := by
  obtain ⟨h1, h2, h3⟩ := PN.free_spec (C.map (·.ref))
  refine ⟨fun j hj => ?_, fun x hx he => ?_, by simpa using h3⟩
  · obtain ⟨y, hy, rfl⟩ := List.mem_map.1 (h2 j hj)
    exact ⟨y.d, List.mem_map.2 ⟨y, hy, rfl⟩⟩
  · obtain ⟨y, hy, rfl⟩ := List.mem_map.1 hx
    exact h1 (List.mem_map.2 ⟨y, hy, i64_inj he⟩)

theorem netConnect_w {own : Nat → Nat} {B : NB} {L : List LB} {C : List CB} {G : Nat} (s : ByteArray) (p : Int) (c : Nat) (w : World) (h : NetW w own B L C G) (hs : s.size ≤ 1000000) (hv : addrB s.data.toList p = true) (hc : c ≤ 4096) (hG : G < 4611686018427387904) :
    Calls Tryz.prog 31 #[.pointer (some ⟨B.n, 0, none⟩), .agg #[.string s, .int .i64 p], .int .i64 c] w fun e w' => ∃ own' L' C',
      e = .returned (.tuple #[.int .i64 (PN.connect (plainN L C) s p c).2.1, .int .i64 (PN.connect (plainN L C) s p c).2.2]) ∧ plainN L' C' = (PN.connect (plainN L C) s p c).1 ∧ NetW w' own' B L' C' (G + 1) ∧ Ext w own own' ∧ FrO own netO w w' := by
  have hcr : (plainN L C).C.map (·.ref) = C.map (·.ref) := by simp [plainN, CB.pc]
  have hcl : (plainN L C).C.length = C.length := by simp [plainN]
  unfold PN.connect
  rw [hcr, hcl]
  rcases hat : PN.at? (plainN L C).L s p with _ | z
  · refine (netConnect_refused B.n B.r B.m B.lm B.cm _ _ _ s p c w h.net hs hv (at_none hat) hc).mono ?_
    rintro e w' ⟨rfl, hf⟩
    exact ⟨own, L, C, rfl, rfl, (h.new hf).mono (by omega), Ext.refl _ _, FrO.new hf⟩
  · obtain ⟨L1, x, L2, rfl, rfl, rfl, rfl⟩ := at_some hat
    have hx := h.ls x (by simp)
    have hn : (addrV x.s x.p, .int .i64 (x.ref : Int)) ∈ (L1 ++ x :: L2).map LB.nm := List.mem_map.2 ⟨x, by simp, rfl⟩
    have hl : (.int .i64 (x.ref : Int), qV x.b x.s x.p) ∈ (L1 ++ x :: L2).map LB.ent := List.mem_map.2 ⟨x, by simp, rfl⟩
    have hlen : (x.pl.l.length : Int) = x.l.length := by simp [LB.pl]
    simp only [hlen, show x.pl.most = x.most from rfl]
    by_cases hfull : (x.l.length : Int) = x.most
    · rw [if_pos hfull]
      refine (netConnect_block B.n B.r B.m B.lm B.cm _ _ _ x.s x.p c w h.net hs hv hc x.ref x.b x.q x.m x.t x.most x.l x.g x.s x.p hn hl hx.back hx.most.1 hx.most.2 hfull.symm).mono ?_
      rintro e w' ⟨rfl, hf⟩
      exact ⟨own, _, C, rfl, rfl, (h.new hf).mono (by omega), Ext.refl _ _, FrO.new hf⟩
    · rw [if_neg hfull]
      have hlt : (x.l.length : Int) < x.most := by have := hx.len; omega
      by_cases hnc : 128 ≤ C.length
      · rw [if_pos hnc]
        refine (netConnect_full B.n B.r B.m B.lm B.cm _ _ _ x.s x.p c w h.net hs hv hc x.ref x.b x.q x.m x.t x.most x.l x.g x.s x.p hn hl hx.back hlt hx.most.2 (by have := hx.g; omega) (by simp; omega)).mono ?_
        rintro e w' ⟨rfl, hf⟩
        exact ⟨own, _, C, rfl, rfl, (h.new hf).mono (by omega), Ext.refl _ _, FrO.new hf⟩
      · rw [if_neg hnc]
        obtain ⟨k1, k2, k3⟩ := free_facts C
        obtain ⟨hf1, hf2, hf3⟩ := PN.free_spec (C.map (·.ref))
        obtain ⟨k, hk⟩ : ∃ k, PN.free (C.map (·.ref)) = k := ⟨_, rfl⟩
        rw [hk] at k1 k2 k3 hf1 ⊢
        obtain ⟨o1, o2, o3, o4, o5⟩ := h.on
        obtain ⟨x1, x2, x3, x4⟩ := hx.own
        have hnewq : (k : Int) ∉ qs (L1 ++ x :: L2) := fun hm => by
          obtain ⟨y, hy, hy', _⟩ := h.queue k hm
          exact hf1 (List.mem_map.2 ⟨y, hy, by omega⟩)
        have hnew : ∀ z ∈ x.l, z.2 ≠ (k : Int) := fun z hz he => hnewq (by
          rw [qs_mid]
          exact List.mem_append_right _ (List.mem_append_left _ (List.mem_map.2 ⟨z, hz, he⟩)))
        have dif : ∀ a b, own a = 4 * x.ref + 2 → own b = 0 → a ≠ b := fun a b h1 h2 he => by rw [he, h2] at h1; omega
        refine (netConnect_push B.n B.r B.m B.lm B.cm _ _ _ x.s x.p c w h.net hs hv hc x.ref x.b x.q x.m x.t x.most x.l x.g k x.s x.p hn hl hx.back hlt hnew hx.most.2 (by have := hx.g; omega) k1 k2 (by omega) (by simp; omega) ?_).mono ?_
        · intro a ha hb
          simp only [List.mem_cons, List.not_mem_nil, or_false] at ha hb
          have ha' : own a = 4 * x.ref + 2 := by rcases ha with rfl | rfl | rfl | rfl <;> assumption
          have hb' : own a = 0 := by rcases hb with rfl | rfl | rfl | rfl | rfl <;> assumption
          omega
        · rintro e w' ⟨d, rfl, n', b', d', hf⟩
          have hS : ∀ z ∈ [B.cm, x.q, x.m, x.t], own z = 0 ∨ own z = 4 * x.ref + 2 := fun z hz => by
            simp only [List.mem_cons, List.not_mem_nil, or_false] at hz
            rcases hz with rfl | rfl | rfl | rfl
            · exact .inl o5
            · exact .inr x2
            · exact .inr x3
            · exact .inr x4
          obtain ⟨g1, g2⟩ := map_one h.refs
          have hE := Ext.new w own (4 * k + 1)
          have keepL : ∀ y ∈ L1 ++ L2, ListW w' (ownNew w own (4 * k + 1)) (G + 1) y := fun y hy => by
            have hne : y.ref ≠ x.ref := by rcases List.mem_append.1 hy with hy | hy; exact g1 y hy; exact g2 y hy
            have hyL : y ∈ L1 ++ x :: L2 := by rcases List.mem_append.1 hy with hy | hy <;> simp [hy]
            refine (((h.ls y hyL).mono (Nat.le_succ G)).ext hE).keep hf (fun z hz he => ?_)
            by_cases hlz : z < w.heap.size
            · rw [hE z hlz] at he
              rcases hS z hz with h0 | h0 <;> omega
            · rw [ownNew_ge (by omega)] at he
              omega
          have keepC : ∀ y ∈ C, ConnW w' (ownNew w own (4 * k + 1)) y := fun y hy => by
            have hne : y.ref ≠ k := fun he => hf1 (List.mem_map.2 ⟨y, hy, he⟩)
            refine ((h.cs y hy).ext hE).keep hf (fun z hz he => ?_)
            by_cases hlz : z < w.heap.size
            · rw [hE z hlz] at he
              rcases hS z hz with h0 | h0 <;> omega
            · rw [ownNew_ge (by omega)] at he
              omega
          have hx' : ListW w' (ownNew w own (4 * k + 1)) (G + 1) { x with l := x.l ++ [(x.g + 1, (k : Int))], g := x.g + 1 } := by
            have hxo := (hx.ext hE).own
            exact ⟨b', hxo, hx.adr, hx.sz, hx.port, hx.most, by simp; omega, by have := hx.g; simp; omega⟩
          refine ⟨ownNew w own (4 * k + 1), L1 ++ { x with l := x.l ++ [(x.g + 1, (k : Int))], g := x.g + 1 } :: L2, C ++ [⟨k, c, false, false, d⟩], rfl, ?_, ?_, hE, FrO.of hf (fun z hz => by rcases hS z hz with h0 | h0 <;> rw [h0]; exact .inl rfl; exact .inr (.inr (by omega)))⟩
          · unfold plainN
            congr 1
            · rw [show x.pl.ref = x.ref from rfl, pushL_one h.refs]
              simp [LB.pl]
            · simp [CB.pc]
          · refine ⟨?_, ⟨(hE _ (cell_lt h.net.c0)).trans o1, (hE _ (cell_lt h.net.reg.c0)).trans o2, (hE _ h.net.reg.map.lt).trans o3, (hE _ h.net.ls.lt).trans o4, (hE _ h.net.cs.lt).trans o5⟩, ?_, ?_, ?_, ?_, ?_, ?_, ?_, ?_, ?_⟩
            · have e1 : (L1 ++ { x with l := x.l ++ [(x.g + 1, (k : Int))], g := x.g + 1 } :: L2).map LB.nm = (L1 ++ x :: L2).map LB.nm := by simp [LB.nm]
              have e2 : (L1 ++ { x with l := x.l ++ [(x.g + 1, (k : Int))], g := x.g + 1 } :: L2).map LB.ent = (L1 ++ x :: L2).map LB.ent := by simp [LB.ent]
              rw [e1, e2]
              simpa [CB.ent] using n'
            · intro y hy
              simp only [List.mem_append, List.mem_cons] at hy
              rcases hy with hy | rfl | hy
              · exact keepL y (List.mem_append_left _ hy)
              · exact hx'
              · exact keepL y (List.mem_append_right _ hy)
            · intro y hy
              simp only [List.mem_append, List.mem_singleton] at hy
              rcases hy with hy | rfl
              · exact keepC y hy
              · exact ⟨(DupS.of0 d').wide (fun z hz => ownNew_ge hz), hc, rfl⟩
            · simpa using h.refs
            · rw [List.map_append, List.nodup_append]
              exact ⟨h.crefs, by simp, fun a ha b hb he => hf1 (by simp at hb; subst hb; subst he; exact ha)⟩
            · have := h.adrs
              simp only [List.pairwise_append, List.pairwise_cons, List.mem_cons, forall_eq_or_imp] at this ⊢
              exact this
            · intro z hz
              rw [qs_mid] at hz
              simp only [List.map_append, List.map_cons, List.map_nil, List.mem_append, List.mem_singleton] at hz
              have old : z ∈ qs (L1 ++ x :: L2) → ∃ v ∈ C ++ [⟨k, c, false, false, d⟩], (v.ref : Int) = z ∧ v.a1 = false := fun hz' => by
                obtain ⟨v, hv1, hv2⟩ := h.queue z hz'
                exact ⟨v, List.mem_append_left _ hv1, hv2⟩
              rcases hz with hz | (hz | rfl) | hz
              · exact old (by rw [qs_mid]; exact List.mem_append_left _ hz)
              · exact old (by rw [qs_mid]; exact List.mem_append_right _ (List.mem_append_left _ hz))
              · exact ⟨⟨k, c, false, false, d⟩, by simp, rfl, rfl⟩
              · exact old (by rw [qs_mid]; exact List.mem_append_right _ (List.mem_append_right _ hz))
            · have hv := h.vals
              rw [qs_mid] at hv hnewq ⊢
              simp only [List.map_append, List.map_cons, List.map_nil]
              rw [List.append_assoc (x.l.map (·.2))]
              refine (List.Perm.nodup_iff (l₁ := qs L1 ++ (x.l.map (·.2) ++ ([(k : Int)] ++ qs L2))) (l₂ := (k : Int) :: (qs L1 ++ (x.l.map (·.2) ++ qs L2))) ?_).2 (List.nodup_cons.2 ⟨hnewq, hv⟩)
              rw [← List.append_assoc (qs L1), ← List.append_assoc (qs L1)]
              exact List.perm_middle
            · simpa using h.nl
            · simp; omega
end Go.Proofs.YtmdhlodafjpnmaaGreat
namespace Go.Proofs.YtmdhlodafjpnmaaGreat
open Go.RowKit
open Go.Maps (Keyed)
set_option linter.unusedVariables false
set_option maxRecDepth 100000
set_option maxHeartbeats 4000000

def PN.pair (N : PN.Net) (c : Nat) : PN.Net × Int × Int :=
  if 128 ≤ N.C.length then (N, 0, 7) else ({ N with C := N.C ++ [⟨PN.free (N.C.map (·.ref)), c, false, false⟩] }, PN.free (N.C.map (·.ref)), 0)

theorem netPair_w {own : Nat → Nat} {B : NB} {L : List LB} {C : List CB} {G : Nat} (c : Nat) (w : World) (h : NetW w own B L C G) (hc : c ≤ 4096) :
    Calls Tryz.prog 33 #[.pointer (some ⟨B.n, 0, none⟩), .int .i64 c] w fun e w' => ∃ own' C',
      e = .returned (.tuple #[.int .i64 (PN.pair (plainN L C) c).2.1, .int .i64 (PN.pair (plainN L C) c).2.2]) ∧ plainN L C' = (PN.pair (plainN L C) c).1 ∧ NetW w' own' B L C' G ∧ Ext w own own' ∧ FrO own netO w w' := by
  have hcr : (plainN L C).C.map (·.ref) = C.map (·.ref) := by simp [plainN, CB.pc]
  have hcl : (plainN L C).C.length = C.length := by simp [plainN]
  unfold PN.pair
  rw [hcr, hcl]
  by_cases hnc : 128 ≤ C.length
  · rw [if_pos hnc]
    refine (netPair_full B.n B.r B.m B.lm B.cm _ _ _ c w h.net hc (by simp; omega)).mono ?_
    rintro e w' ⟨rfl, hf⟩
    exact ⟨own, C, rfl, rfl, h.new hf, Ext.refl _ _, FrO.new hf⟩
  · rw [if_neg hnc]
    obtain ⟨k1, k2, k3⟩ := free_facts C
    obtain ⟨hf1, hf2, hf3⟩ := PN.free_spec (C.map (·.ref))
    obtain ⟨k, hk⟩ : ∃ k, PN.free (C.map (·.ref)) = k := ⟨_, rfl⟩
    rw [hk] at k1 k2 k3 hf1 ⊢
    obtain ⟨o1, o2, o3, o4, o5⟩ := h.on
    refine (netPair_ok B.n B.r B.m B.lm B.cm _ _ _ c k w h.net hc k1 k2 (by omega) (by simp; omega)).mono ?_
    rintro e w' ⟨d, rfl, n', d', hf⟩
    have hE := Ext.new w own (4 * k + 1)
    refine ⟨ownNew w own (4 * k + 1), C ++ [⟨k, c, false, false, d⟩], rfl, by simp [plainN, CB.pc], ⟨by simpa [CB.ent] using n', ⟨(hE _ (cell_lt h.net.c0)).trans o1, (hE _ (cell_lt h.net.reg.c0)).trans o2, (hE _ h.net.reg.map.lt).trans o3, (hE _ h.net.ls.lt).trans o4, (hE _ h.net.cs.lt).trans o5⟩, ?_, ?_, h.refs, ?_, h.adrs, ?_, h.vals, h.nl, by simp; omega⟩, hE, FrO.of hf (fun z hz => by simp at hz; subst hz; rw [o5]; exact .inl rfl)⟩
    · intro x hx
      refine ((h.ls x hx).ext hE).keep hf (fun z hz he => ?_)
      simp only [List.mem_singleton] at hz
      subst hz
      rw [hE _ h.net.cs.lt, o5] at he
      omega
    · intro y hy
      simp only [List.mem_append, List.mem_singleton] at hy
      rcases hy with hy | rfl
      · have hne : y.ref ≠ k := fun he => hf1 (List.mem_map.2 ⟨y, hy, he⟩)
        refine ((h.cs y hy).ext hE).keep hf (fun z hz he => ?_)
        simp only [List.mem_singleton] at hz
        subst hz
        rw [hE _ h.net.cs.lt, o5] at he
        omega
      · exact ⟨(DupS.of0 d').wide (fun z hz => ownNew_ge hz), hc, rfl⟩
    · rw [List.map_append, List.nodup_append]
      exact ⟨h.crefs, by simp, fun a ha b hb he => hf1 (by simp at hb; subst hb; subst he; exact ha)⟩
    · intro z hz
      obtain ⟨v, hv1, hv2⟩ := h.queue z hz
      exact ⟨v, List.mem_append_left _ hv1, hv2⟩
end Go.Proofs.YtmdhlodafjpnmaaGreat
namespace Go.Proofs.YtmdhlodafjpnmaaGreat
open Go.RowKit
open Go.Maps (Keyed)
set_option linter.unusedVariables false
set_option maxRecDepth 100000
set_option maxHeartbeats 4000000

section
variable {n r m lm cm : Nat} {names ls cs : List (Value × Value)} (ref : Int) (w : World)

theorem netAccept_none (h : NetIs w n r m lm cm names ls cs) (hr : -9223372036854775808 ≤ ref) (hr' : ref ≤ 9223372036854775807) (hx : ∀ x ∈ ls, x.1 ≠ .int .i64 ref) :
    Calls Tryz.prog 34 #[.pointer (some ⟨n, 0, none⟩), .int .i64 ref] w fun e w' => e = .returned (.tuple #[.int .i64 0, .int .i64 9]) ∧ Fr [] w w' := by
  have c1 := h.c1
  have HN := Lib.hid (netNone_any _ h)
  have hl := h.ls.miss keyInt (t := 49) (e := 120) Tryz.underlying49 (keyInt_of ref hr hr') hx (zeroQ _) true
  simp only [if_true] at hl
  have HX := Lib.hid hx
  clear h hx
  go_enter Tryz.func34, Tryz.ntmps34
  go_wp2_with (go_at_call 55; refine HN.out.mono ?_; rintro e w' ⟨rfl, rfl⟩)
  go_ret2
  exact ⟨rfl, (Fr.refl [] _).alloc _⟩

theorem netAccept_empty (h : NetIs w n r m lm cm names ls cs) (b q mm t : Nat) (most : Int) (g : Nat) (s : ByteArray) (p : Int) (hl : (.int .i64 ref, qV b s p) ∈ ls) (hb : BackIs w b q mm t most false [] g) :
    Calls Tryz.prog 34 #[.pointer (some ⟨n, 0, none⟩), .int .i64 ref] w fun e w' => e = .returned (.tuple #[.int .i64 0, .int .i64 16]) ∧ Fr [] w w' := by
  have c1 := h.c1
  have HN := Lib.hid (netNone_any _ h)
  have hlk := h.ls.hit keyInt (t := 49) (e := 120) Tryz.underlying49 hl true
  simp only [if_true, qV] at hlk
  have f0 : Fr [] w (w.alloc (.cells #[.pointer (some ⟨b, 0, none⟩), .string s, .int .i64 p] 120)) := (Fr.refl [] _).alloc _
  have HB := Lib.hid (hb.keep f0 (by simp) (by simp) (by simp) (by simp))
  clear h hl hb
  go_enter Tryz.func34, Tryz.ntmps34
  go_wp2_with (first
    | (go_at_call 55; refine HN.out.mono ?_; rintro e w' ⟨rfl, rfl⟩)
    | (go_at_call 84; refine (backPop_empty b q mm t most g _ HB.out).mono ?_; rintro e w' ⟨rfl, rfl⟩))
  go_ret2
  exact ⟨rfl, f0⟩

theorem netAccept_hit (h : NetIs w n r m lm cm names ls cs) (b q mm t tk : Nat) (most v : Int) (l : List (Nat × Int)) (g : Nat) (s : ByteArray) (p : Int) (hg : g < 4611686018427387904) (hl : (.int .i64 ref, qV b s p) ∈ ls) (hb : BackIs w b q mm t most false ((tk, v) :: l) g) :
    Calls Tryz.prog 34 #[.pointer (some ⟨n, 0, none⟩), .int .i64 ref] w fun e w' => e = .returned (.tuple #[.int .i64 v, .int .i64 0]) ∧ BackIs w' b q mm t most false l g ∧ Fr [q, mm, t] w w' := by
  have c1 := h.c1
  have HN := Lib.hid (netNone_any _ h)
  have hlk := h.ls.hit keyInt (t := 49) (e := 120) Tryz.underlying49 hl true
  simp only [if_true, qV] at hlk
  have f0 : Fr [] w (w.alloc (.cells #[.pointer (some ⟨b, 0, none⟩), .string s, .int .i64 p] 120)) := (Fr.refl [] _).alloc _
  have HB := Lib.hid (hb.keep f0 (by simp) (by simp) (by simp) (by simp))
  clear h hl hb
  go_enter Tryz.func34, Tryz.ntmps34
  go_wp2_with (first
    | (go_at_call 55; refine HN.out.mono ?_; rintro e w' ⟨rfl, rfl⟩)
    | (go_at_call 84; refine (backPop_hit b q mm t tk most v l g hg _ HB.out).mono ?_; rintro e w2 ⟨rfl, hb2, f2⟩))
  go_ret2
  exact ⟨rfl, hb2, (f0.mono (fun x hx => by cases hx)).trans f2 (fun x hx _ => hx)⟩
end

theorem popL_one {L1 L2 : List LB} {x : LB} (h : ((L1 ++ x :: L2).map (·.ref)).Nodup) :
    PN.popL ((L1 ++ x :: L2).map LB.pl) x.ref = L1.map LB.pl ++ { x.pl with l := x.pl.l.tail } :: L2.map LB.pl := by
  obtain ⟨h1, h2⟩ := map_one h
  unfold PN.popL
  rw [List.map_map, List.map_append, List.map_cons]
  congr 1
  · exact List.map_congr_left fun y hy => by simp [LB.pl, h1 y hy]
  · congr 1
    · simp [LB.pl]
    · exact List.map_congr_left fun y hy => by simp [LB.pl, h2 y hy]

theorem netAccept_w {own : Nat → Nat} {B : NB} {L : List LB} {C : List CB} {G : Nat} (ref : Int) (w : World) (h : NetW w own B L C G) (hr : -9223372036854775808 ≤ ref) (hr' : ref ≤ 9223372036854775807) (hG : G < 4611686018427387904) :
    Calls Tryz.prog 34 #[.pointer (some ⟨B.n, 0, none⟩), .int .i64 ref] w fun e w' => ∃ L',
      e = .returned (.tuple #[.int .i64 (PN.accept (plainN L C) ref).2.1, .int .i64 (PN.accept (plainN L C) ref).2.2]) ∧ plainN L' C = (PN.accept (plainN L C) ref).1 ∧ NetW w' own B L' C G ∧ FrO own netO w w' := by
  unfold PN.accept
  rcases hat : PN.byRef (plainN L C).L ref with _ | z
  · refine (netAccept_none ref w h.net hr hr' (by_none hat)).mono ?_
    rintro e w' ⟨rfl, hf⟩
    exact ⟨L, rfl, rfl, h.new hf, FrO.new hf⟩
  · obtain ⟨L1, x, L2, rfl, rfl, rfl⟩ := by_some hat
    have hx := h.ls x (by simp)
    have hl : (.int .i64 (x.ref : Int), qV x.b x.s x.p) ∈ (L1 ++ x :: L2).map LB.ent := List.mem_map.2 ⟨x, by simp, rfl⟩
    obtain ⟨xr, xs, xp, xm, xl, xg, xb, xq, xmm, xt⟩ := x
    cases xl with
    | nil =>
      refine (netAccept_empty xr w h.net xb xq xmm xt xm xg xs xp hl hx.back).mono ?_
      rintro e w' ⟨rfl, hf⟩
      exact ⟨_, rfl, rfl, h.new hf, FrO.new hf⟩
    | cons y l =>
      obtain ⟨tk, v⟩ := y
      refine (netAccept_hit xr w h.net xb xq xmm xt tk xm v l xg xs xp (by have := hx.g; simp only at this; omega) hl hx.back).mono ?_
      rintro e w' ⟨rfl, hb, hf⟩
      obtain ⟨o1, o2, o3, o4, o5⟩ := h.on
      obtain ⟨x1, x2, x3, x4⟩ := hx.own
      simp only at x1 x2 x3 x4
      have hS : ∀ z ∈ [xq, xmm, xt], own z = 4 * xr + 2 := fun z hz => by
        simp only [List.mem_cons, List.not_mem_nil, or_false] at hz
        rcases hz with rfl | rfl | rfl <;> assumption
      obtain ⟨g1, g2⟩ := map_one h.refs
      have n0 : ∀ z, own z = 0 → z ∉ [xq, xmm, xt] := fun z hz hm => by have := hS z hm; omega
      have keepL : ∀ y, y ∈ L1 ∨ y ∈ L2 → ListW w' own G y := fun y hy => by
        have hne : y.ref ≠ xr := by rcases hy with hy | hy; exact g1 y hy; exact g2 y hy
        refine (h.ls y (by rcases hy with hy | hy <;> simp [hy])).keep hf (fun z hz he => ?_)
        have := hS z hz
        omega
      have hxl := hx.len
      simp only [List.length_cons] at hxl
      refine ⟨L1 ++ ⟨xr, xs, xp, xm, l, xg, xb, xq, xmm, xt⟩ :: L2, rfl, ?_, ?_, FrO.of hf (fun z hz => .inr (.inr (by rw [hS z hz]; omega)))⟩
      · unfold plainN
        congr 1
        refine Eq.trans ?_ (popL_one h.refs).symm
        simp [LB.pl]
      · refine ⟨?_, h.on, ?_, fun y hy => (h.cs y hy).keep hf (fun z hz he => by have := hS z hz; omega), by simpa using h.refs, h.crefs, ?_, ?_, ?_, by simpa using h.nl, h.nc⟩
        · have e1 : (L1 ++ ⟨xr, xs, xp, xm, l, xg, xb, xq, xmm, xt⟩ :: L2).map LB.nm = (L1 ++ ⟨xr, xs, xp, xm, (tk, v) :: l, xg, xb, xq, xmm, xt⟩ :: L2).map LB.nm := by simp [LB.nm]
          have e2 : (L1 ++ ⟨xr, xs, xp, xm, l, xg, xb, xq, xmm, xt⟩ :: L2).map LB.ent = (L1 ++ ⟨xr, xs, xp, xm, (tk, v) :: l, xg, xb, xq, xmm, xt⟩ :: L2).map LB.ent := by simp [LB.ent]
          rw [e1, e2]
          exact h.net.keep hf (n0 _ o1) (n0 _ o2) (n0 _ o3) (n0 _ o4) (n0 _ o5)
        · intro y hy
          simp only [List.mem_append, List.mem_cons] at hy
          rcases hy with hy | rfl | hy
          · exact keepL y (.inl hy)
          · exact ⟨hb, hx.own, hx.adr, hx.sz, hx.port, hx.most, by simp; omega, hx.g⟩
          · exact keepL y (.inr hy)
        · have := h.adrs
          simp only [List.pairwise_append, List.pairwise_cons, List.mem_cons, forall_eq_or_imp] at this ⊢
          exact this
        · intro z hz
          refine h.queue z ?_
          rw [qs_mid] at hz ⊢
          simp only [List.map_cons, List.mem_append, List.mem_cons] at hz ⊢
          rcases hz with hz | hz | hz
          · exact .inl hz
          · exact .inr (.inl (.inr hz))
          · exact .inr (.inr hz)
        · have := h.vals
          rw [qs_mid] at this ⊢
          refine this.sublist (List.Sublist.append (List.Sublist.refl _) (List.Sublist.append ?_ (List.Sublist.refl _)))
          exact List.sublist_cons_self _ _
end Go.Proofs.YtmdhlodafjpnmaaGreat
