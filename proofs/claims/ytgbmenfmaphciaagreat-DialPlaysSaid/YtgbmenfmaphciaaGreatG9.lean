/- A net with its listeners and connections in memory, every block under a number of its owner; Connect over it. -/
/- Contracts of listener's Accept, and Accept over a net in memory. -/
/- Hang of a connection's end 1 over a net in memory. -/
/- Contract of listener's hang at either end, open or closed, and of listener's Hang over a net in memory. -/
/- The net in memory: a pair is opened. -/
/- Listen over a net in memory. -/
/- Contract of listener's Close over a net in memory. -/
/- The walk of listener's Close. -/
/- A net under way: its plain form, the blocks of others that it keeps as they are, and each of its calls over that. -/
/- The reference's Ints. -/
/- The reference's comparisons of streams, connections, lists of them, where both read alike. -/
/- Contract of listener's waits: whether a connection waits for a listener of a net in memory. -/
/- The net in memory: Hang at any number and any end; and a net under way, the same. -/
/- Plain laws of no program: the reference's net, in order of the numbers, and that its calls answer as the program's. -/
/- The reference's nets in memory: the places of connections and listeners, who waits. -/
/- The reference's nets in memory: Pair. -/
import Derived.Test.YtgbmenfmaphciaaGreatTK
import Derived.Test.YtgbmenfmaphciaaGreatAll2
import Derived.Test.YtgbmenfmaphciaaGreatHang
import Derived.Test.YtgbmenfmaphciaaGreatWait
import Derived.Test.YtgbmenfmaphciaaGreatPD
import Derived.Recover
import Derived.Deep.CutRange
import Derived.Test.YtgbmenfmaphciaaGreatBacklog
import Derived.BigQuiet
import Derived.Test.YtgbmenfmaphciaaGreatG7
import Derived.Test.YtgbmenfmaphciaaGreatRange
import Derived.Laws.StructEq
import Derived.Test.YtgbmenfmaphciaaGreatRM3
namespace Go.Proofs.YtgbmenfmaphciaaGreat
set_option linter.unusedVariables false
set_option linter.unusedSimpArgs false
set_option linter.unusedSectionVars false
open Go.RowKit
open Go.Maps (Keyed)
set_option linter.unusedVariables false
set_option maxRecDepth 100000
set_option maxHeartbeats 4000000
structure NB where
 n : Nat
 r : Nat
 m : Nat
 lm : Nat
 cm : Nat
structure LB where
 ref : Nat
 s : ByteArray
 p : Int
 most : Int
 l : List (Nat × Int)
 g : Nat
 b : Nat
 q : Nat
 m : Nat
 t : Nat
structure CB where
 ref : Nat
 cap : Nat
 a0 : Bool
 a1 : Bool
 d : Nat
def LB.pl (x : LB) : PN.PL := ⟨x.ref, x.s, x.p, x.most, x.l.map (·.2)⟩
def LB.nm (x : LB) : Value × Value := (addrV x.s x.p, .int .i64 x.ref)
def LB.ent (x : LB) : Value × Value := (.int .i64 x.ref, qV x.b x.s x.p)
def CB.pc (y : CB) : PN.PC := ⟨y.ref, y.cap, y.a0, y.a1⟩
def CB.ent (y : CB) : Value × Value := (.int .i64 y.ref, .pointer (some ⟨y.d, 0, none⟩))
structure ListW (w : World) (own : Nat → Nat) (G : Nat) (x : LB) : Prop where
 back : BackIs w x.b x.q x.m x.t x.most false x.l x.g
 own : own x.b = 4 * x.ref + 2 ∧ own x.q = 4 * x.ref + 2 ∧ own x.m = 4 * x.ref + 2 ∧ own x.t = 4 * x.ref + 2
 adr : addrB x.s.data.toList x.p = true
 sz : x.s.size ≤ 1000000
 port : (x.p == 0) = false
 most : 1 ≤ x.most ∧ x.most ≤ 128
 len : (x.l.length : Int) ≤ x.most
 g : x.g ≤ G
structure ConnW (w : World) (own : Nat → Nat) (y : CB) : Prop where
 dup : DupS w (fun x => own x = 4 * y.ref + 1) y.d y.cap y.a0 y.a1
 cap : y.cap ≤ 4096
 op : (y.a0 && y.a1) = false
def Ext (w : World) (own own' : Nat → Nat) : Prop := ∀ x, x < w.heap.size → own' x = own x
theorem Ext.refl (w : World) (own : Nat → Nat) : Ext w own own := fun _ _ => rfl
theorem Ext.trans {S : List Nat} {w w' : World} {o1 o2 o3 : Nat → Nat} (h : Ext w o1 o2) (k : Ext w' o2 o3) (hf : Fr S w w') : Ext w o1 o3 := fun x hx => (k x (Nat.lt_of_lt_of_le hx hf.size)).trans (h x hx)
theorem Ext.step {w w' : World} {o1 o2 o3 : Nat → Nat} (h : Ext w o1 o2) (k : Ext w' o2 o3) (hs : w.heap.size ≤ w'.heap.size) : Ext w o1 o3 := fun x hx => (k x (Nat.lt_of_lt_of_le hx hs)).trans (h x hx)
def ownNew (w : World) (own : Nat → Nat) (c : Nat) : Nat → Nat := fun x => if x < w.heap.size then own x else c
theorem Ext.new (w : World) (own : Nat → Nat) (c : Nat) : Ext w own (ownNew w own c) := fun x hx => if_pos hx
theorem ownNew_ge {w : World} {own : Nat → Nat} {c x : Nat} (h : w.heap.size ≤ x) : ownNew w own c x = c := if_neg (by omega)
theorem ListW.keep {S : List Nat} {w w' : World} {own : Nat → Nat} {G : Nat} {x : LB} (h : ListW w own G x) (hf : Fr S w w') (hS : ∀ z ∈ S, own z ≠ 4 * x.ref + 2) : ListW w' own G x :=
 ⟨h.back.keep hf (fun hm => hS _ hm h.own.1) (fun hm => hS _ hm h.own.2.1) (fun hm => hS _ hm h.own.2.2.1) (fun hm => hS _ hm h.own.2.2.2), h.own, h.adr, h.sz, h.port, h.most, h.len, h.g⟩
theorem ListW.ext {w : World} {own own' : Nat → Nat} {G : Nat} {x : LB} (h : ListW w own G x) (he : Ext w own own') : ListW w own' G x := by
 obtain ⟨f, h1, _⟩ := h.back.tickets
 exact ⟨h.back, ⟨(he _ (cell_lt h.back.c0)).trans h.own.1, (he _ (cell_lt h.back.queue.c0)).trans h.own.2.1, (he _ (map_lt h.back.queue)).trans h.own.2.2.1, (he _ h1.lt).trans h.own.2.2.2⟩, h.adr, h.sz, h.port, h.most, h.len, h.g⟩
theorem ListW.mono {w : World} {own : Nat → Nat} {G G' : Nat} {x : LB} (h : ListW w own G x) (hg : G ≤ G') : ListW w own G' x :=
 ⟨h.back, h.own, h.adr, h.sz, h.port, h.most, h.len, Nat.le_trans h.g hg⟩
theorem ConnW.keep {S : List Nat} {w w' : World} {own : Nat → Nat} {y : CB} (h : ConnW w own y) (hf : Fr S w w') (hS : ∀ z ∈ S, own z ≠ 4 * y.ref + 1) : ConnW w' own y :=
 ⟨h.dup.keep hf hS, h.cap, h.op⟩
theorem ConnW.ext {w : World} {own own' : Nat → Nat} {y : CB} (h : ConnW w own y) (he : Ext w own own') : ConnW w own' y :=
 ⟨h.dup.ext (fun x hx hp => (he x hx).trans hp), h.cap, h.op⟩
def qs (L : List LB) : List Int := L.flatMap fun x => x.l.map (·.2)
theorem qs_mid (L1 L2 : List LB) (x : LB) : qs (L1 ++ x :: L2) = qs L1 ++ (x.l.map (·.2) ++ qs L2) := by simp [qs]
structure NetW (w : World) (own : Nat → Nat) (B : NB) (L : List LB) (C : List CB) (G : Nat) : Prop where
 net : NetIs w B.n B.r B.m B.lm B.cm (L.map LB.nm) (L.map LB.ent) (C.map CB.ent)
 on : own B.n = 0 ∧ own B.r = 0 ∧ own B.m = 0 ∧ own B.lm = 0 ∧ own B.cm = 0
 ls : ∀ x ∈ L, ListW w own G x
 cs : ∀ y ∈ C, ConnW w own y
 refs : (L.map (·.ref)).Nodup
 crefs : (C.map (·.ref)).Nodup
 adrs : L.Pairwise fun x y => ¬ (x.s = y.s ∧ x.p = y.p)
 queue : ∀ k ∈ qs L, ∃ y ∈ C, (y.ref : Int) = k ∧ y.a1 = false
 vals : (qs L).Nodup
 nl : L.length ≤ 128
 nc : C.length ≤ 128
def plainN (L : List LB) (C : List CB) : PN.Net := ⟨L.map LB.pl, C.map CB.pc⟩
def netO (c : Nat) : Prop := c = 0 ∨ c % 4 = 1 ∨ c % 4 = 2
def FrO (own : Nat → Nat) (Q : Nat → Prop) (w w' : World) : Prop := ∃ S, Fr S w w' ∧ ∀ x ∈ S, x < w.heap.size → Q (own x)
theorem FrO.of {own : Nat → Nat} {Q : Nat → Prop} {S : List Nat} {w w' : World} (h : Fr S w w') (hS : ∀ x ∈ S, Q (own x)) : FrO own Q w w' := ⟨S, h, fun x hx _ => hS x hx⟩
theorem FrO.new {own : Nat → Nat} {Q : Nat → Prop} {w w' : World} (h : Fr [] w w') : FrO own Q w w' := ⟨[], h, fun x hx => by cases hx⟩
theorem FrO.size {own : Nat → Nat} {Q : Nat → Prop} {w w' : World} (h : FrO own Q w w') : w.heap.size ≤ w'.heap.size := by
 obtain ⟨S, h1, _⟩ := h
 exact h1.size
theorem FrO.mono {own : Nat → Nat} {Q R : Nat → Prop} {w w' : World} (h : FrO own Q w w') (hq : ∀ c, Q c → R c) : FrO own R w w' := by
 obtain ⟨S, h1, h2⟩ := h
 exact ⟨S, h1, fun x hx hl => hq _ (h2 x hx hl)⟩
theorem FrO.trans {own own' : Nat → Nat} {Q : Nat → Prop} {a b c : World} (h : FrO own Q a b) (k : FrO own' Q b c) (he : Ext a own own') : FrO own Q a c := by
 obtain ⟨S, h1, h2⟩ := h
 obtain ⟨T, k1, k2⟩ := k
 refine ⟨S ++ T, (h1.mono (T := S ++ T) (fun x hx _ => List.mem_append_left _ hx)).trans k1 (fun x hx _ => List.mem_append_right _ hx), fun x hx hl => ?_⟩
 rcases List.mem_append.1 hx with hx | hx
 ·exact h2 x hx hl
 ·rw [← he x hl]
  exact k2 x hx (Nat.lt_of_lt_of_le hl h1.size)
theorem FrO.list {own : Nat → Nat} {Q : Nat → Prop} {w w' : World} (h : FrO own Q w w') : ∃ S, Fr S w w' ∧ ∀ x ∈ S, x < w.heap.size ∧ Q (own x) := by
 obtain ⟨S, h1, h2⟩ := h
 refine ⟨S.filter (fun x => decide (x < w.heap.size)), h1.mono (fun x hx hl => List.mem_filter.2 ⟨hx, by simpa using hl⟩), fun x hx => ?_⟩
 obtain ⟨hx1, hx2⟩ := List.mem_filter.1 hx
 have := of_decide_eq_true hx2
 exact ⟨this, h2 x hx1 this⟩
theorem NetW.keep {S : List Nat} {w w' : World} {own : Nat → Nat} {B : NB} {L : List LB} {C : List CB} {G : Nat} (h : NetW w own B L C G) (hf : Fr S w w') (hS : ∀ z ∈ S, ¬ netO (own z)) : NetW w' own B L C G := by
 obtain ⟨o1, o2, o3, o4, o5⟩ := h.on
 refine ⟨h.net.keep hf ?_ ?_ ?_ ?_ ?_, h.on, fun x hx => (h.ls x hx).keep hf (fun z hz he => hS z hz (.inr (.inr (by rw [he]; omega)))), fun y hy => (h.cs y hy).keep hf (fun z hz he => hS z hz (.inr (.inl (by rw [he]; omega)))), h.refs, h.crefs, h.adrs, h.queue, h.vals, h.nl, h.nc⟩
 all_goals (intro hm; exact hS _ hm (.inl (by assumption)))
theorem NetW.new {w w' : World} {own : Nat → Nat} {B : NB} {L : List LB} {C : List CB} {G : Nat} (h : NetW w own B L C G) (hf : Fr [] w w') : NetW w' own B L C G := h.keep hf (fun z hz => by cases hz)
theorem NetW.ext {w : World} {own own' : Nat → Nat} {B : NB} {L : List LB} {C : List CB} {G : Nat} (h : NetW w own B L C G) (he : Ext w own own') : NetW w own' B L C G := by
 obtain ⟨o1, o2, o3, o4, o5⟩ := h.on
 exact ⟨h.net, ⟨(he _ (cell_lt h.net.c0)).trans o1, (he _ (cell_lt h.net.reg.c0)).trans o2, (he _ h.net.reg.map.lt).trans o3, (he _ h.net.ls.lt).trans o4, (he _ h.net.cs.lt).trans o5⟩, fun x hx => (h.ls x hx).ext he, fun y hy => (h.cs y hy).ext he, h.refs, h.crefs, h.adrs, h.queue, h.vals, h.nl, h.nc⟩
theorem NetW.mono {w : World} {own : Nat → Nat} {B : NB} {L : List LB} {C : List CB} {G G' : Nat} (h : NetW w own B L C G) (hg : G ≤ G') : NetW w own B L C G' :=
 ⟨h.net, h.on, fun x hx => (h.ls x hx).mono hg, h.cs, h.refs, h.crefs, h.adrs, h.queue, h.vals, h.nl, h.nc⟩
theorem addrV_inj {s s' : ByteArray} {p p' : Int} (h : addrV s p = addrV s' p') : s = s' ∧ p = p' := by
 unfold addrV at h
 simp only [Value.agg.injEq, Array.mk.injEq, List.cons.injEq, Value.string.injEq, Value.int.injEq, and_true, true_and] at h
 exact h
theorem i64_inj {a b : Nat} (h : Value.int .i64 (a : Int) = .int .i64 (b : Int)) : a = b := by
 simp only [Value.int.injEq, true_and] at h
 omega
theorem at_none {L : List LB} {s : ByteArray} {p : Int} (h : PN.at? (L.map LB.pl) s p = none) : ∀ x ∈ L.map LB.nm, x.1 ≠ addrV s p := by
 intro x hx he
 obtain ⟨y, hy, rfl⟩ := List.mem_map.1 hx
 have := List.find?_eq_none.1 h y.pl (List.mem_map.2 ⟨y, hy, rfl⟩)
 have e := addrV_inj he
 simp [LB.pl, e.1, e.2] at this
theorem at_some {L : List LB} {s : ByteArray} {p : Int} {z : PN.PL} (h : PN.at? (L.map LB.pl) s p = some z) : ∃ L1 x L2, L = L1 ++ x :: L2 ∧ z = x.pl ∧ x.s = s ∧ x.p = p := by
 unfold PN.at? at h
 rw [List.find?_map, Option.map_eq_some_iff] at h
 obtain ⟨x, hx, rfl⟩ := h
 obtain ⟨h1, L1, L2, h2, _⟩ := List.find?_eq_some_iff_append.1 hx
 simp only [Function.comp, decide_eq_true_eq] at h1
 exact ⟨L1, x, L2, h2, rfl, h1.1, h1.2⟩
theorem by_none {L : List LB} {r : Int} (h : PN.byRef (L.map LB.pl) r = none) : ∀ x ∈ L.map LB.ent, x.1 ≠ .int .i64 r := by
 intro x hx he
 obtain ⟨y, hy, rfl⟩ := List.mem_map.1 hx
 have := List.find?_eq_none.1 h y.pl (List.mem_map.2 ⟨y, hy, rfl⟩)
 simp only [LB.ent, Value.int.injEq, true_and] at he
 simp [LB.pl, he] at this
theorem by_some {L : List LB} {r : Int} {z : PN.PL} (h : PN.byRef (L.map LB.pl) r = some z) : ∃ L1 x L2, L = L1 ++ x :: L2 ∧ z = x.pl ∧ (x.ref : Int) = r := by
 unfold PN.byRef at h
 rw [List.find?_map, Option.map_eq_some_iff] at h
 obtain ⟨x, hx, rfl⟩ := h
 obtain ⟨h1, L1, L2, h2, _⟩ := List.find?_eq_some_iff_append.1 hx
 simp only [Function.comp, decide_eq_true_eq] at h1
 exact ⟨L1, x, L2, h2, rfl, h1⟩
theorem map_one {L1 L2 : List LB} {x : LB} (h : ((L1 ++ x :: L2).map (·.ref)).Nodup) : (∀ y ∈ L1, y.ref ≠ x.ref) ∧ (∀ y ∈ L2, y.ref ≠ x.ref) := by
 simp only [List.map_append, List.map_cons, List.nodup_append, List.nodup_cons] at h
 obtain ⟨_, ⟨h2, _⟩, h3⟩ := h
 refine ⟨fun y hy he => ?_, fun y hy he => h2 (by rw [← he]; exact List.mem_map.2 ⟨y, hy, rfl⟩)⟩
 exact h3 _ (List.mem_map.2 ⟨y, hy, rfl⟩) _ List.mem_cons_self he
theorem pushL_one {L1 L2 : List LB} {x : LB} (h : ((L1 ++ x :: L2).map (·.ref)).Nodup) (k : Int) :
  PN.pushL ((L1 ++ x :: L2).map LB.pl) x.ref k = L1.map LB.pl ++ { x.pl with l := x.pl.l ++ [k] } :: L2.map LB.pl := by
 obtain ⟨h1, h2⟩ := map_one h
 unfold PN.pushL
 rw [List.map_map, List.map_append, List.map_cons]
 congr 1
 ·exact List.map_congr_left fun y hy => by simp [LB.pl, h1 y hy]
 ·congr 1
  ·simp [LB.pl]
  ·exact List.map_congr_left fun y hy => by simp [LB.pl, h2 y hy]
theorem free_facts (C : List CB) : (∀ j : Nat, j < PN.free (C.map (·.ref)) → ∃ d', (.int .i64 j, .pointer (some ⟨d', 0, none⟩)) ∈ C.map CB.ent) ∧ (∀ x ∈ C.map CB.ent, x.1 ≠ .int .i64 (PN.free (C.map (·.ref)) : Nat)) ∧ PN.free (C.map (·.ref)) ≤ C.length := by
 obtain ⟨h1, h2, h3⟩ := PN.free_spec (C.map (·.ref))
 refine ⟨fun j hj => ?_, fun x hx he => ?_, by simpa using h3⟩
 ·obtain ⟨y, hy, rfl⟩ := List.mem_map.1 (h2 j hj)
  exact ⟨y.d, List.mem_map.2 ⟨y, hy, rfl⟩⟩
 ·obtain ⟨y, hy, rfl⟩ := List.mem_map.1 hx
  exact h1 (List.mem_map.2 ⟨y, hy, i64_inj he⟩)
theorem netConnect_w {own : Nat → Nat} {B : NB} {L : List LB} {C : List CB} {G : Nat} (s : ByteArray) (p : Int) (c : Nat) (w : World) (h : NetW w own B L C G) (hs : s.size ≤ 1000000) (hv : addrB s.data.toList p = true) (hc : c ≤ 4096) (hG : G < 4611686018427387904) :
  Calls Tryz.prog 81 #[.pointer (some ⟨B.n, 0, none⟩), .agg #[.string s, .int .i64 p], .int .i64 c] w fun e w' => ∃ own' L' C',
   e = .returned (.tuple #[.int .i64 (PN.connect (plainN L C) s p c).2.1, .int .i64 (PN.connect (plainN L C) s p c).2.2]) ∧ plainN L' C' = (PN.connect (plainN L C) s p c).1 ∧ NetW w' own' B L' C' (G + 1) ∧ Ext w own own' ∧ FrO own netO w w' := by
 have hcr : (plainN L C).C.map (·.ref) = C.map (·.ref) := by simp [plainN, CB.pc]
 have hcl : (plainN L C).C.length = C.length := by simp [plainN]
 unfold PN.connect
 rw [hcr, hcl]
 rcases hat : PN.at? (plainN L C).L s p with _ | z
 ·refine (netConnect_refused B.n B.r B.m B.lm B.cm _ _ _ s p c w h.net hs hv (at_none hat) hc).mono ?_
  rintro e w' ⟨rfl, hf⟩
  exact ⟨own, L, C, rfl, rfl, (h.new hf).mono (by omega), Ext.refl _ _, FrO.new hf⟩
 ·obtain ⟨L1, x, L2, rfl, rfl, rfl, rfl⟩ := at_some hat
  have hx := h.ls x (by simp)
  have hn : (addrV x.s x.p, .int .i64 (x.ref : Int)) ∈ (L1 ++ x :: L2).map LB.nm := List.mem_map.2 ⟨x, by simp, rfl⟩
  have hl : (.int .i64 (x.ref : Int), qV x.b x.s x.p) ∈ (L1 ++ x :: L2).map LB.ent := List.mem_map.2 ⟨x, by simp, rfl⟩
  have hlen : (x.pl.l.length : Int) = x.l.length := by simp [LB.pl]
  simp only [hlen, show x.pl.most = x.most from rfl]
  by_cases hfull : (x.l.length : Int) = x.most
  ·rw [if_pos hfull]
   refine (netConnect_block B.n B.r B.m B.lm B.cm _ _ _ x.s x.p c w h.net hs hv hc x.ref x.b x.q x.m x.t x.most x.l x.g x.s x.p hn hl hx.back hx.most.1 hx.most.2 hfull.symm).mono ?_
   rintro e w' ⟨rfl, hf⟩
   exact ⟨own, _, C, rfl, rfl, (h.new hf).mono (by omega), Ext.refl _ _, FrO.new hf⟩
  ·rw [if_neg hfull]
   have hlt : (x.l.length : Int) < x.most := by have := hx.len; omega
   by_cases hnc : 128 ≤ C.length
   ·rw [if_pos hnc]
    refine (netConnect_full B.n B.r B.m B.lm B.cm _ _ _ x.s x.p c w h.net hs hv hc x.ref x.b x.q x.m x.t x.most x.l x.g x.s x.p hn hl hx.back hlt hx.most.2 (by have := hx.g; omega) (by simp; omega)).mono ?_
    rintro e w' ⟨rfl, hf⟩
    exact ⟨own, _, C, rfl, rfl, (h.new hf).mono (by omega), Ext.refl _ _, FrO.new hf⟩
   ·rw [if_neg hnc]
    obtain ⟨k1, k2, k3⟩ := free_facts C
    obtain ⟨hf1, hf2, hf3⟩ := PN.free_spec (C.map (·.ref))
    obtain ⟨k, hk⟩ : ∃ k, PN.free (C.map (·.ref)) = k := ⟨_, rfl⟩
    rw [hk] at k1 k2 k3 hf1 ⊢
    obtain ⟨o1, o2, o3, o4, o5⟩ := h.on
    obtain ⟨x1, x2, x3, x4⟩ := hx.own
    have hnewq : (k : Int) ∉ qs (L1 ++ x :: L2) := fun hm => by
     obtain ⟨y, hy, hy', _⟩ := h.queue k hm
     exact hf1 (List.mem_map.2 ⟨y, hy, by omega⟩)
    have hnew : ∀ z ∈ x.l, z.2 ≠ (k : Int) := fun z hz he => hnewq (by
     rw [qs_mid]
     exact List.mem_append_right _ (List.mem_append_left _ (List.mem_map.2 ⟨z, hz, he⟩)))
    have dif : ∀ a b, own a = 4 * x.ref + 2 → own b = 0 → a ≠ b := fun a b h1 h2 he => by rw [he, h2] at h1; omega
    refine (netConnect_push B.n B.r B.m B.lm B.cm _ _ _ x.s x.p c w h.net hs hv hc x.ref x.b x.q x.m x.t x.most x.l x.g k x.s x.p hn hl hx.back hlt hnew hx.most.2 (by have := hx.g; omega) k1 k2 (by omega) (by simp; omega) ?_).mono ?_
    ·intro a ha hb
     simp only [List.mem_cons, List.not_mem_nil, or_false] at ha hb
     have ha' : own a = 4 * x.ref + 2 := by rcases ha with rfl | rfl | rfl | rfl <;> assumption
     have hb' : own a = 0 := by rcases hb with rfl | rfl | rfl | rfl | rfl <;> assumption
     omega
    ·rintro e w' ⟨d, rfl, n', b', d', hf⟩
     have hS : ∀ z ∈ [B.cm, x.q, x.m, x.t], own z = 0 ∨ own z = 4 * x.ref + 2 := fun z hz => by
      simp only [List.mem_cons, List.not_mem_nil, or_false] at hz
      rcases hz with rfl | rfl | rfl | rfl
      ·exact .inl o5
      ·exact .inr x2
      ·exact .inr x3
      ·exact .inr x4
     obtain ⟨g1, g2⟩ := map_one h.refs
     have hE := Ext.new w own (4 * k + 1)
     have keepL : ∀ y ∈ L1 ++ L2, ListW w' (ownNew w own (4 * k + 1)) (G + 1) y := fun y hy => by
      have hne : y.ref ≠ x.ref := by rcases List.mem_append.1 hy with hy | hy; exact g1 y hy; exact g2 y hy
      have hyL : y ∈ L1 ++ x :: L2 := by rcases List.mem_append.1 hy with hy | hy <;> simp [hy]
      refine (((h.ls y hyL).mono (Nat.le_succ G)).ext hE).keep hf (fun z hz he => ?_)
      by_cases hlz : z < w.heap.size
      ·rw [hE z hlz] at he
       rcases hS z hz with h0 | h0 <;> omega
      ·rw [ownNew_ge (by omega)] at he
       omega
     have keepC : ∀ y ∈ C, ConnW w' (ownNew w own (4 * k + 1)) y := fun y hy => by
      have hne : y.ref ≠ k := fun he => hf1 (List.mem_map.2 ⟨y, hy, he⟩)
      refine ((h.cs y hy).ext hE).keep hf (fun z hz he => ?_)
      by_cases hlz : z < w.heap.size
      ·rw [hE z hlz] at he
       rcases hS z hz with h0 | h0 <;> omega
      ·rw [ownNew_ge (by omega)] at he
       omega
     have hx' : ListW w' (ownNew w own (4 * k + 1)) (G + 1) { x with l := x.l ++ [(x.g + 1, (k : Int))], g := x.g + 1 } := by
      have hxo := (hx.ext hE).own
      exact ⟨b', hxo, hx.adr, hx.sz, hx.port, hx.most, by simp; omega, by have := hx.g; simp; omega⟩
     refine ⟨ownNew w own (4 * k + 1), L1 ++ { x with l := x.l ++ [(x.g + 1, (k : Int))], g := x.g + 1 } :: L2, C ++ [⟨k, c, false, false, d⟩], rfl, ?_, ?_, hE, FrO.of hf (fun z hz => by rcases hS z hz with h0 | h0 <;> rw [h0]; exact .inl rfl; exact .inr (.inr (by omega)))⟩
     ·unfold plainN
      congr 1
      ·rw [show x.pl.ref = x.ref from rfl, pushL_one h.refs]
       simp [LB.pl]
      ·simp [CB.pc]
     ·refine ⟨?_, ⟨(hE _ (cell_lt h.net.c0)).trans o1, (hE _ (cell_lt h.net.reg.c0)).trans o2, (hE _ h.net.reg.map.lt).trans o3, (hE _ h.net.ls.lt).trans o4, (hE _ h.net.cs.lt).trans o5⟩, ?_, ?_, ?_, ?_, ?_, ?_, ?_, ?_, ?_⟩
      ·have e1 : (L1 ++ { x with l := x.l ++ [(x.g + 1, (k : Int))], g := x.g + 1 } :: L2).map LB.nm = (L1 ++ x :: L2).map LB.nm := by simp [LB.nm]
       have e2 : (L1 ++ { x with l := x.l ++ [(x.g + 1, (k : Int))], g := x.g + 1 } :: L2).map LB.ent = (L1 ++ x :: L2).map LB.ent := by simp [LB.ent]
       rw [e1, e2]
       simpa [CB.ent] using n'
      ·intro y hy
       simp only [List.mem_append, List.mem_cons] at hy
       rcases hy with hy | rfl | hy
       ·exact keepL y (List.mem_append_left _ hy)
       ·exact hx'
       ·exact keepL y (List.mem_append_right _ hy)
      ·intro y hy
       simp only [List.mem_append, List.mem_singleton] at hy
       rcases hy with hy | rfl
       ·exact keepC y hy
       ·exact ⟨(DupS.of0 d').wide (fun z hz => ownNew_ge hz), hc, rfl⟩
      ·simpa using h.refs
      ·rw [List.map_append, List.nodup_append]
       exact ⟨h.crefs, by simp, fun a ha b hb he => hf1 (by simp at hb; subst hb; subst he; exact ha)⟩
      ·have := h.adrs
       simp only [List.pairwise_append, List.pairwise_cons, List.mem_cons, forall_eq_or_imp] at this ⊢
       exact this
      ·intro z hz
       rw [qs_mid] at hz
       simp only [List.map_append, List.map_cons, List.map_nil, List.mem_append, List.mem_singleton] at hz
       have old : z ∈ qs (L1 ++ x :: L2) → ∃ v ∈ C ++ [⟨k, c, false, false, d⟩], (v.ref : Int) = z ∧ v.a1 = false := fun hz' => by
        obtain ⟨v, hv1, hv2⟩ := h.queue z hz'
        exact ⟨v, List.mem_append_left _ hv1, hv2⟩
       rcases hz with hz | (hz | rfl) | hz
       ·exact old (by rw [qs_mid]; exact List.mem_append_left _ hz)
       ·exact old (by rw [qs_mid]; exact List.mem_append_right _ (List.mem_append_left _ hz))
       ·exact ⟨⟨k, c, false, false, d⟩, by simp, rfl, rfl⟩
       ·exact old (by rw [qs_mid]; exact List.mem_append_right _ (List.mem_append_right _ hz))
      ·have hv := h.vals
       rw [qs_mid] at hv hnewq ⊢
       simp only [List.map_append, List.map_cons, List.map_nil]
       rw [List.append_assoc (x.l.map (·.2))]
       refine (List.Perm.nodup_iff (l₁ := qs L1 ++ (x.l.map (·.2) ++ ([(k : Int)] ++ qs L2))) (l₂ := (k : Int) :: (qs L1 ++ (x.l.map (·.2) ++ qs L2))) ?_).2 (List.nodup_cons.2 ⟨hnewq, hv⟩)
       rw [← List.append_assoc (qs L1), ← List.append_assoc (qs L1)]
       exact List.perm_middle
      ·simpa using h.nl
      ·simp; omega
section
variable {n r m lm cm : Nat} {names ls cs : List (Value × Value)} (ref : Int) (w : World)
theorem netAccept_none (h : NetIs w n r m lm cm names ls cs) (hr : -9223372036854775808 ≤ ref) (hr' : ref ≤ 9223372036854775807) (hx : ∀ x ∈ ls, x.1 ≠ .int .i64 ref) :
  Calls Tryz.prog 17 #[.pointer (some ⟨n, 0, none⟩), .int .i64 ref] w fun e w' => e = .returned (.tuple #[.int .i64 0, .int .i64 9]) ∧ Fr [] w w' := by
 have c1 := h.c1
 have HN := Lib.hid (netNone_any _ h)
 have hl := h.ls.miss keyInt (t := 88) (e := 130) Tryz.underlying88 (keyInt_of ref hr hr') hx (zeroQ _) true
 simp only [if_true] at hl
 have HX := Lib.hid hx
 clear h hx
 go_enter Tryz.func17, Tryz.ntmps17
 go_wp2_with (go_at_call 49; refine HN.out.mono ?_; rintro e w' ⟨rfl, rfl⟩)
 go_ret2
 exact ⟨rfl, (Fr.refl [] _).alloc _⟩
theorem netAccept_empty (h : NetIs w n r m lm cm names ls cs) (b q mm t : Nat) (most : Int) (g : Nat) (s : ByteArray) (p : Int) (hl : (.int .i64 ref, qV b s p) ∈ ls) (hb : BackIs w b q mm t most false [] g) :
  Calls Tryz.prog 17 #[.pointer (some ⟨n, 0, none⟩), .int .i64 ref] w fun e w' => e = .returned (.tuple #[.int .i64 0, .int .i64 16]) ∧ Fr [] w w' := by
 have c1 := h.c1
 have HN := Lib.hid (netNone_any _ h)
 have hlk := h.ls.hit keyInt (t := 88) (e := 130) Tryz.underlying88 hl true
 simp only [if_true, qV] at hlk
 have f0 : Fr [] w (w.alloc (.cells #[.pointer (some ⟨b, 0, none⟩), .string s, .int .i64 p] 130)) := (Fr.refl [] _).alloc _
 have HB := Lib.hid (hb.keep f0 (by simp) (by simp) (by simp) (by simp))
 clear h hl hb
 go_enter Tryz.func17, Tryz.ntmps17
 go_wp2_with (first
  | (go_at_call 49; refine HN.out.mono ?_; rintro e w' ⟨rfl, rfl⟩)
  | (go_at_call 54; refine (backPop_empty b q mm t most g _ HB.out).mono ?_; rintro e w' ⟨rfl, rfl⟩))
 go_ret2
 exact ⟨rfl, f0⟩
theorem netAccept_hit (h : NetIs w n r m lm cm names ls cs) (b q mm t tk : Nat) (most v : Int) (l : List (Nat × Int)) (g : Nat) (s : ByteArray) (p : Int) (hg : g < 4611686018427387904) (hl : (.int .i64 ref, qV b s p) ∈ ls) (hb : BackIs w b q mm t most false ((tk, v) :: l) g) :
  Calls Tryz.prog 17 #[.pointer (some ⟨n, 0, none⟩), .int .i64 ref] w fun e w' => e = .returned (.tuple #[.int .i64 v, .int .i64 0]) ∧ BackIs w' b q mm t most false l g ∧ Fr [q, mm, t] w w' := by
 have c1 := h.c1
 have HN := Lib.hid (netNone_any _ h)
 have hlk := h.ls.hit keyInt (t := 88) (e := 130) Tryz.underlying88 hl true
 simp only [if_true, qV] at hlk
 have f0 : Fr [] w (w.alloc (.cells #[.pointer (some ⟨b, 0, none⟩), .string s, .int .i64 p] 130)) := (Fr.refl [] _).alloc _
 have HB := Lib.hid (hb.keep f0 (by simp) (by simp) (by simp) (by simp))
 clear h hl hb
 go_enter Tryz.func17, Tryz.ntmps17
 go_wp2_with (first
  | (go_at_call 49; refine HN.out.mono ?_; rintro e w' ⟨rfl, rfl⟩)
  | (go_at_call 54; refine (backPop_hit b q mm t tk most v l g hg _ HB.out).mono ?_; rintro e w2 ⟨rfl, hb2, f2⟩))
 go_ret2
 exact ⟨rfl, hb2, (f0.mono (fun x hx => by cases hx)).trans f2 (fun x hx _ => hx)⟩
end
theorem popL_one {L1 L2 : List LB} {x : LB} (h : ((L1 ++ x :: L2).map (·.ref)).Nodup) :
  PN.popL ((L1 ++ x :: L2).map LB.pl) x.ref = L1.map LB.pl ++ { x.pl with l := x.pl.l.tail } :: L2.map LB.pl := by
 obtain ⟨h1, h2⟩ := map_one h
 unfold PN.popL
 rw [List.map_map, List.map_append, List.map_cons]
 congr 1
 ·exact List.map_congr_left fun y hy => by simp [LB.pl, h1 y hy]
 ·congr 1
  ·simp [LB.pl]
  ·exact List.map_congr_left fun y hy => by simp [LB.pl, h2 y hy]
theorem netAccept_w {own : Nat → Nat} {B : NB} {L : List LB} {C : List CB} {G : Nat} (ref : Int) (w : World) (h : NetW w own B L C G) (hr : -9223372036854775808 ≤ ref) (hr' : ref ≤ 9223372036854775807) (hG : G < 4611686018427387904) :
  Calls Tryz.prog 17 #[.pointer (some ⟨B.n, 0, none⟩), .int .i64 ref] w fun e w' => ∃ L',
   e = .returned (.tuple #[.int .i64 (PN.accept (plainN L C) ref).2.1, .int .i64 (PN.accept (plainN L C) ref).2.2]) ∧ plainN L' C = (PN.accept (plainN L C) ref).1 ∧ NetW w' own B L' C G ∧ FrO own netO w w' := by
 unfold PN.accept
 rcases hat : PN.byRef (plainN L C).L ref with _ | z
 ·refine (netAccept_none ref w h.net hr hr' (by_none hat)).mono ?_
  rintro e w' ⟨rfl, hf⟩
  exact ⟨L, rfl, rfl, h.new hf, FrO.new hf⟩
 ·obtain ⟨L1, x, L2, rfl, rfl, rfl⟩ := by_some hat
  have hx := h.ls x (by simp)
  have hl : (.int .i64 (x.ref : Int), qV x.b x.s x.p) ∈ (L1 ++ x :: L2).map LB.ent := List.mem_map.2 ⟨x, by simp, rfl⟩
  obtain ⟨xr, xs, xp, xm, xl, xg, xb, xq, xmm, xt⟩ := x
  cases xl with
  | nil =>
   refine (netAccept_empty xr w h.net xb xq xmm xt xm xg xs xp hl hx.back).mono ?_
   rintro e w' ⟨rfl, hf⟩
   exact ⟨_, rfl, rfl, h.new hf, FrO.new hf⟩
  | cons y l =>
   obtain ⟨tk, v⟩ := y
   refine (netAccept_hit xr w h.net xb xq xmm xt tk xm v l xg xs xp (by have := hx.g; simp only at this; omega) hl hx.back).mono ?_
   rintro e w' ⟨rfl, hb, hf⟩
   obtain ⟨o1, o2, o3, o4, o5⟩ := h.on
   obtain ⟨x1, x2, x3, x4⟩ := hx.own
   simp only at x1 x2 x3 x4
   have hS : ∀ z ∈ [xq, xmm, xt], own z = 4 * xr + 2 := fun z hz => by
    simp only [List.mem_cons, List.not_mem_nil, or_false] at hz
    rcases hz with rfl | rfl | rfl <;> assumption
   obtain ⟨g1, g2⟩ := map_one h.refs
   have n0 : ∀ z, own z = 0 → z ∉ [xq, xmm, xt] := fun z hz hm => by have := hS z hm; omega
   have keepL : ∀ y, y ∈ L1 ∨ y ∈ L2 → ListW w' own G y := fun y hy => by
    have hne : y.ref ≠ xr := by rcases hy with hy | hy; exact g1 y hy; exact g2 y hy
    refine (h.ls y (by rcases hy with hy | hy <;> simp [hy])).keep hf (fun z hz he => ?_)
    have := hS z hz
    omega
   have hxl := hx.len
   simp only [List.length_cons] at hxl
   refine ⟨L1 ++ ⟨xr, xs, xp, xm, l, xg, xb, xq, xmm, xt⟩ :: L2, rfl, ?_, ?_, FrO.of hf (fun z hz => .inr (.inr (by rw [hS z hz]; omega)))⟩
   ·unfold plainN
    congr 1
    refine Eq.trans ?_ (popL_one h.refs).symm
    simp [LB.pl]
   ·refine ⟨?_, h.on, ?_, fun y hy => (h.cs y hy).keep hf (fun z hz he => by have := hS z hz; omega), by simpa using h.refs, h.crefs, ?_, ?_, ?_, by simpa using h.nl, h.nc⟩
    ·have e1 : (L1 ++ ⟨xr, xs, xp, xm, l, xg, xb, xq, xmm, xt⟩ :: L2).map LB.nm = (L1 ++ ⟨xr, xs, xp, xm, (tk, v) :: l, xg, xb, xq, xmm, xt⟩ :: L2).map LB.nm := by simp [LB.nm]
     have e2 : (L1 ++ ⟨xr, xs, xp, xm, l, xg, xb, xq, xmm, xt⟩ :: L2).map LB.ent = (L1 ++ ⟨xr, xs, xp, xm, (tk, v) :: l, xg, xb, xq, xmm, xt⟩ :: L2).map LB.ent := by simp [LB.ent]
     rw [e1, e2]
     exact h.net.keep hf (n0 _ o1) (n0 _ o2) (n0 _ o3) (n0 _ o4) (n0 _ o5)
    ·intro y hy
     simp only [List.mem_append, List.mem_cons] at hy
     rcases hy with hy | rfl | hy
     ·exact keepL y (.inl hy)
     ·exact ⟨hb, hx.own, hx.adr, hx.sz, hx.port, hx.most, by simp; omega, hx.g⟩
     ·exact keepL y (.inr hy)
    ·have := h.adrs
     simp only [List.pairwise_append, List.pairwise_cons, List.mem_cons, forall_eq_or_imp] at this ⊢
     exact this
    ·intro z hz
     refine h.queue z ?_
     rw [qs_mid] at hz ⊢
     simp only [List.map_cons, List.mem_append, List.mem_cons] at hz ⊢
     rcases hz with hz | hz | hz
     ·exact .inl hz
     ·exact .inr (.inl (.inr hz))
     ·exact .inr (.inr hz)
    ·have := h.vals
     rw [qs_mid] at this ⊢
     refine this.sublist (List.Sublist.append (List.Sublist.refl _) (List.Sublist.append ?_ (List.Sublist.refl _)))
     exact List.sublist_cons_self _ _
def hangAt (C1 C2 : List CB) (y : CB) : List CB := if y.a0 then C1 ++ C2 else C1 ++ { y with a1 := true } :: C2
theorem cmap_one {C1 C2 : List CB} {y : CB} (h : ((C1 ++ y :: C2).map (·.ref)).Nodup) : (∀ z ∈ C1, z.ref ≠ y.ref) ∧ (∀ z ∈ C2, z.ref ≠ y.ref) := by
 simp only [List.map_append, List.map_cons, List.nodup_append, List.nodup_cons] at h
 obtain ⟨_, ⟨h2, _⟩, h3⟩ := h
 refine ⟨fun z hz he => ?_, fun z hz he => h2 (by rw [← he]; exact List.mem_map.2 ⟨z, hz, rfl⟩)⟩
 exact h3 _ (List.mem_map.2 ⟨z, hz, rfl⟩) _ List.mem_cons_self he
theorem hang_plain {C1 C2 : List CB} {y : CB} (h : ((C1 ++ y :: C2).map (·.ref)).Nodup) (ho : ∀ z ∈ C1 ++ y :: C2, (z.a0 && z.a1) = false) :
  PN.hang ((C1 ++ y :: C2).map CB.pc) y.ref true = (hangAt C1 C2 y).map CB.pc := by
 obtain ⟨h1, h2⟩ := cmap_one h
 have same : ∀ D : List CB, (∀ z ∈ D, z.ref ≠ y.ref) → (∀ z ∈ D, (z.a0 && z.a1) = false) → (((D.map CB.pc).map fun z => if (z.ref : Int) = y.ref then PN.shutC z true else z).filter fun z => !(z.a0 && z.a1)) = D.map CB.pc := fun D hd hod => by
  rw [show ((D.map CB.pc).map fun z => if (z.ref : Int) = y.ref then PN.shutC z true else z) = D.map CB.pc by
   rw [List.map_map]
   refine List.map_congr_left fun z hz => ?_
   have := hd z hz
   show (if ((z.pc).ref : Int) = y.ref then PN.shutC z.pc true else z.pc) = z.pc
   exact if_neg (fun he => this (by have e : z.pc.ref = z.ref := rfl; omega))]
  refine List.filter_eq_self.2 fun z hz => ?_
  obtain ⟨z', hz', rfl⟩ := List.mem_map.1 hz
  simp [CB.pc, hod z' hz']
 unfold PN.hang hangAt
 rw [List.map_append, List.map_append, List.filter_append, same C1 h1 (fun z hz => ho z (by simp [hz]))]
 rw [List.map_cons, List.map_cons, List.filter_cons, same C2 h2 (fun z hz => ho z (by simp [hz]))]
 cases hy : y.a0 <;> simp [CB.pc, PN.shutC, hy]
theorem qs_ne {L : List LB} {C1 C2 : List CB} {y : CB} {k : Int} (hk : ∃ z ∈ C1 ++ y :: C2, (z.ref : Int) = k ∧ z.a1 = false) (hne : k ≠ y.ref) : ∃ z ∈ hangAt C1 C2 y, (z.ref : Int) = k ∧ z.a1 = false := by
 obtain ⟨z, hz, h1, h2⟩ := hk
 refine ⟨z, ?_, h1, h2⟩
 simp only [List.mem_append, List.mem_cons] at hz
 unfold hangAt
 split
 ·rcases hz with hz | rfl | hz
  ·simp [hz]
  ·exact absurd h1.symm hne
  ·simp [hz]
 ·rcases hz with hz | rfl | hz
  ·simp [hz]
  ·exact absurd h1.symm hne
  ·simp [hz]
theorem hang_w {own : Nat → Nat} {B : NB} {L : List LB} {C1 C2 : List CB} {y : CB} {G : Nat} (w : World) (h : NetW w own B L (C1 ++ y :: C2) G) (hy : y.a1 = false) (hq : (y.ref : Int) ∉ qs L) :
  Calls Tryz.prog 56 #[.pointer (some ⟨B.n, 0, none⟩), .int .i64 y.ref, .int .i64 1] w fun e w' => e = .returned (.int .i64 0) ∧ NetW w' (ownNew w own (4 * y.ref + 1)) B L (hangAt C1 C2 y) G ∧ FrO own (fun c => c = 0 ∨ c = 4 * y.ref + 1) w w' := by
 have hc := h.cs y (by simp)
 obtain ⟨o1, o2, o3, o4, o5⟩ := h.on
 have hm := h.net.cs
 rw [List.map_append, List.map_cons] at hm
 have hd := hc.dup
 rw [hy] at hd
 refine (hang_open1 w h.net.c2 hm hd (by simp only [o1]; omega) (by simp only [o5]; omega)).mono ?_
 rintro e w' ⟨rfl, m', d', S, hf, hS⟩
 have hE := Ext.new w own (4 * y.ref + 1)
 have hSo : ∀ z ∈ S, own z = 0 ∨ own z = 4 * y.ref + 1 := fun z hz => (hS z hz).elim .inr (fun hz => .inl (by rw [hz]; exact o5))
 obtain ⟨g1, g2⟩ := cmap_one h.crefs
 have hN : NetIs w B.n B.r B.m B.lm B.cm (L.map LB.nm) (L.map LB.ent) ((C1 ++ y :: C2).map CB.ent) := h.net
 have nS : ∀ x, own x = 0 → x ≠ B.cm → x ∉ S := fun x hx hne hm => (hS x hm).elim (fun h => by rw [h] at hx; omega) (fun h => hne h)
 obtain ⟨e1, e2, e3, e4, e5, e6, e7, e8, e9⟩ := hN.ne
 have keepC : ∀ z, z ∈ C1 ∨ z ∈ C2 → ConnW w' (ownNew w own (4 * y.ref + 1)) z := fun z hz => by
  have hne : z.ref ≠ y.ref := by rcases hz with hz | hz; exact g1 z hz; exact g2 z hz
  refine ((h.cs z (by rcases hz with hz | hz <;> simp [hz])).ext hE).keep hf (fun x hx he => ?_)
  by_cases hlx : x < w.heap.size
  ·rw [hE x hlx] at he
   rcases hSo x hx with h0 | h0 <;> omega
  ·rw [ownNew_ge (by omega)] at he
   omega
 refine ⟨rfl, ?_, FrO.of hf hSo⟩
 have hsub : List.Sublist ((hangAt C1 C2 y).map (·.ref)) ((C1 ++ y :: C2).map (·.ref)) := by
  unfold hangAt
  split
  ·simp only [List.map_append, List.map_cons]
   exact List.Sublist.append (List.Sublist.refl _) (List.sublist_cons_self _ _)
  ·simp only [List.map_append, List.map_cons]
   exact List.Sublist.refl _
 refine ⟨?_, ⟨(hE _ (cell_lt h.net.c0)).trans o1, (hE _ (cell_lt h.net.reg.c0)).trans o2, (hE _ h.net.reg.map.lt).trans o3, (hE _ h.net.ls.lt).trans o4, (hE _ h.net.cs.lt).trans o5⟩, ?_, ?_, h.refs, h.crefs.sublist hsub, h.adrs, fun k hk => qs_ne (L := L) (h.queue k hk) (fun he => hq (he ▸ hk)), h.vals, h.nl, ?_⟩
 ·refine ⟨hf.keep hN.c0 (nS _ o1 (by omega)), hf.keep hN.c1 (nS _ o1 (by omega)), hf.keep hN.c2 (nS _ o1 (by omega)), hN.reg.keep hf (nS _ o2 (by omega)) (nS _ o3 (by omega)), hN.ls.keep hf (nS _ o4 (by omega)), ?_, hN.ne⟩
  have : (hangAt C1 C2 y).map CB.ent = if (y.a0 && true) then C1.map CB.ent ++ C2.map CB.ent else C1.map CB.ent ++ (.int .i64 (y.ref : Int), .pointer (some ⟨y.d, 0, none⟩)) :: C2.map CB.ent := by
   unfold hangAt
   cases y.a0 <;> simp [CB.ent]
  rw [this]
  exact m'
 ·intro x hx
  refine ((h.ls x hx).ext hE).keep hf (fun z hz he => ?_)
  by_cases hlz : z < w.heap.size
  ·rw [hE z hlz] at he
   rcases hSo z hz with h0 | h0 <;> omega
  ·rw [ownNew_ge (by omega)] at he
   omega
 ·intro z hz
  unfold hangAt at hz
  cases ha : y.a0
  ·rw [ha] at hz d'
   simp only [Bool.false_eq_true, if_false, List.mem_append, List.mem_cons] at hz
   rcases hz with hz | rfl | hz
   ·exact keepC z (.inl hz)
   ·have d2 := d' rfl
    refine ⟨?_, hc.cap, by simp⟩
    have : DupS w' (fun x => ownNew w own (4 * y.ref + 1) x = 4 * y.ref + 1) y.d y.cap false true := d2.wide (fun x hx => by
     rcases hx with hx | hx
     ·by_cases hl : x < w.heap.size
      ·exact (hE x hl).trans hx
      ·exact ownNew_ge (by omega)
     ·exact ownNew_ge hx)
    simpa [ha] using this
   ·exact keepC z (.inr hz)
  ·rw [ha] at hz
   simp only [if_true, List.mem_append] at hz
   exact keepC z hz
 ·have := hsub.length_le
  have hnc := h.nc
  simp only [List.length_map] at this
  omega
def HangPostV (v : Int) (P : Nat → Prop) (cm d c : Nat) (conn : Int) (f1 f2 : List (Value × Value)) (b0 b1 : Bool) (w : World) (e : Ending) (w' : World) : Prop :=
 e = .returned (.int .i64 v) ∧ MapIs Tryz.prog 3 w' cm (if b0 && b1 then f1 ++ f2 else f1 ++ (.int .i64 conn, .pointer (some ⟨d, 0, none⟩)) :: f2) ∧ ((b0 && b1) = false → DupS w' (fun x => P x ∨ w.heap.size ≤ x) d c b0 b1) ∧ ∃ S, Fr S w w' ∧ ∀ x ∈ S, P x ∨ x = cm
def ShutsTo (en v : Int) (d c : Nat) (a0 a1 b0 b1 : Bool) : Prop :=
 ∀ (P : Nat → Prop) (W : World), DupS W P d c a0 a1 → Calls Tryz.prog 94 #[.pointer (some ⟨d, 0, none⟩), .int .i64 en] W fun e W' => e = .returned (.int .i64 v) ∧ DupS W' (fun x => P x ∨ W.heap.size ≤ x) d c b0 b1 ∧ ∃ S, Fr S W W' ∧ ∀ x ∈ S, P x
theorem shuts_00 (d c : Nat) (a1 : Bool) : ShutsTo 0 0 d c false a1 true a1 := fun P W h => dupClose_0 W h
theorem shuts_10 (d c : Nat) (a0 : Bool) : ShutsTo 1 0 d c a0 false a0 true := fun P W h => dupClose_1 W h
theorem shuts_01 (d c : Nat) (a1 : Bool) : ShutsTo 0 14 d c true a1 true a1 := fun P W h => by
 refine (dupClose_shut0 W h).mono ?_
 rintro e W' ⟨rfl, rfl⟩
 exact ⟨rfl, h.wide (fun x hx => .inl hx), [], Fr.refl _ _, fun x hx => by cases hx⟩
theorem shuts_11 (d c : Nat) (a0 : Bool) : ShutsTo 1 14 d c a0 true a0 true := fun P W h => by
 refine (dupClose_shut1 W h).mono ?_
 rintro e W' ⟨rfl, rfl⟩
 exact ⟨rfl, h.wide (fun x hx => .inl hx), [], Fr.refl _ _, fun x hx => by cases hx⟩
section
variable {P : Nat → Prop} {n cm d c : Nat} {conn : Int} {f1 f2 : List (Value × Value)} (w : World)
theorem hang_gen {en v : Int} {a0 a1 b0 b1 : Bool} (hc : ShutsTo en v d c a0 a1 b0 b1) (h2 : w.cell? ⟨n, 2, none⟩ = some (.map (some cm))) (hm : MapIs Tryz.prog 3 w cm (f1 ++ (.int .i64 conn, .pointer (some ⟨d, 0, none⟩)) :: f2)) (hd : DupS w P d c a0 a1) (hn : ¬ P n) (hcm : ¬ P cm) :
  Calls Tryz.prog 56 #[.pointer (some ⟨n, 0, none⟩), .int .i64 conn, .int .i64 en] w (HangPostV v P cm d c conn f1 f2 b0 b1 w) := by
 have hmf : ∀ (fn : Fn) (first cap : Array Value) (w : World), (Instr.makeFunc fn first cap).run Tryz.prog w = .ok (.func fn first cap) w := fun _ _ _ _ => rfl
 have nl := cell_lt h2
 have cl := hm.lt
 have gB : Fr [] w ((w.alloc (.cells #[.pointer (some ⟨n, 0, none⟩)] 26)).alloc (.cells #[.int .i64 conn] 3)) := ((Fr.refl [] w).alloc _).alloc _
 have k2 := gB.keep h2 (by simp)
 have hlk : ∀ W, MapIs Tryz.prog 3 W cm (f1 ++ (.int .i64 conn, .pointer (some ⟨d, 0, none⟩)) :: f2) → (Instr.lookup 90 (.map (some cm)) (.int .i64 conn) false).run Tryz.prog W = .ok (.pointer (some ⟨d, 0, none⟩)) W := fun W hW => hW.hit keyInt (t := 90) (e := 103) Tryz.underlying90 (by simp) false
 have mB := hm.keep gB (by simp)
 have l0 := hlk _ mB
 have l1 := hlk _ (show MapIs Tryz.prog 3 (((w.alloc (.cells #[.pointer (some ⟨n, 0, none⟩)] 26)).alloc (.cells #[.int .i64 conn] 3)).drew) cm _ from mB)
 have gC : Fr [] w ((((w.alloc (.cells #[.pointer (some ⟨n, 0, none⟩)] 26)).alloc (.cells #[.int .i64 conn] 3)).alloc (.cells #[.pointer none] 103)).drew) := (gB.alloc _).drew
 have k3 := gC.keep h2 (by simp)
 have l2 := hlk _ (hm.keep gC (by simp))
 have HD := Lib.hid (hd.ext (Q := fun x => P x ∧ x < w.heap.size) (fun x hx hp => ⟨hp, hx⟩))
 have HM := Lib.hid hm
 clear hlk hm hd mB
 go_enter_defers Tryz.func56, Tryz.ntmps56
 go_wp2
 go_cut [7] from 8 to 13 (fun s7 wc => ∃ D, s7 = .pointer (some ⟨D, 0, none⟩) ∧ w.heap.size ≤ D ∧ wc.cell? ⟨D, 0, none⟩ = some (.pointer (some ⟨d, 0, none⟩)) ∧ Fr [] ((w.alloc (.cells #[.pointer (some ⟨n, 0, none⟩)] 26)).alloc (.cells #[.int .i64 conn] 3)) wc)
 case first =>
  go_region
  all_goals go_wp2
  all_goals go_meet
  case' rel => skip
  all_goals exact ⟨_, rfl, by first | omega | (simp; omega), by first | exact netCell _ _ _ 0 rfl (by simp) rfl | exact (World.cell?_drew _ _).trans (netCell _ _ _ 0 rfl (by simp) rfl), by first | exact ((Fr.refl [] _).alloc _).drew | exact (((Fr.refl [] _).alloc _).setCell (by simp) _).drew⟩
 case rest =>
  obtain ⟨D, rfl, dD, kD, gC⟩ := hcut
  have hD := HD.out.new (gB.step gC)
  have HCl := Lib.hid (hc _ wc hD)
  have kN : wc.cell? ⟨w.heap.size, 0, none⟩ = some (.pointer (some ⟨n, 0, none⟩)) := gC.keep (by simp) (by simp)
  have kK : wc.cell? ⟨w.heap.size + 1, 0, none⟩ = some (.int .i64 conn) := gC.keep (by simp) (by simp)
  have kn := (gB.step gC).keep h2 (by simp)
  have mC := HM.out.keep (gB.step gC) (by simp)
  clear hD l0 l1 l2
  go_wp2_with (go_at_call 94; refine HCl.out.mono ?_; rintro e w1 ⟨rfl, d1, S, g1, p1⟩)
  have gA := gB.step gC
  have z1 := gA.size
  have zB : w.heap.size + 2 ≤ wc.heap.size := by simpa using gC.size
  have hS : ∀ x, w.heap.size ≤ x → x ∉ S := fun x hx hm => by have := (p1 x hm).2; omega
  have gT : Fr S w w1 := (gA.mono (fun x hx => by cases hx)).trans g1 (fun x hx _ => hx)
  have kD1 := g1.keep kD (hS _ dD)
  have kN1 := g1.keep kN (hS _ (Nat.le_refl _))
  have kK1 := g1.keep kK (hS _ (by omega))
  have nS : n ∉ S := fun hx => hn (p1 _ hx).1
  have cS : cm ∉ S := fun hx => hcm (p1 _ hx).1
  have kn1 := g1.keep kn nS
  have mC1 := mC.keep g1 cS
  have d2 : DupS w1 (fun x => P x ∨ w.heap.size ≤ x) d c b0 b1 := d1.wide (fun x hx => hx.imp (fun h => h.1) (fun h => by omega))
  by_cases hb : (b0 && b1) = true
  ·simp only [Bool.and_eq_true] at hb
   obtain ⟨rfl, rfl⟩ := hb
   refine leaves_cons (f := 92) (args := #[.pointer (some ⟨D, 0, none⟩), .pointer (some ⟨w.heap.size, 0, none⟩), .pointer (some ⟨w.heap.size + 1, 0, none⟩)]) (by simp) (by simp [go_sem]) ?_
   refine (hangEnd_yes w1 .returning d2 kD1 kN1 kK1 kn1 mC1).mono ?_
   rintro e u' w'' ⟨rfl, rfl, m2, f2⟩
   exact ⟨_, results_tmp rfl _ _ _, rfl, m2, (fun h => by cases h), S ++ [cm], (gT.mono (fun x hx _ => List.mem_append_left _ hx)).trans f2 (fun x hx _ => List.mem_append_right _ hx), fun x hx => by
    rcases List.mem_append.1 hx with hx | hx
    ·exact .inl (p1 x hx).1
    ·simp at hx; exact .inr hx⟩
  ·rw [Bool.not_eq_true] at hb
   refine leaves_cons (f := 92) (args := #[.pointer (some ⟨D, 0, none⟩), .pointer (some ⟨w.heap.size, 0, none⟩), .pointer (some ⟨w.heap.size + 1, 0, none⟩)]) (by simp) (by simp [go_sem]) ?_
   refine (hangEnd_no w1 .returning d2 hb kD1).mono ?_
   rintro e u' w'' ⟨rfl, rfl, rfl⟩
   exact ⟨_, results_tmp rfl _ _ _, rfl, by rw [hb]; exact mC1, fun _ => d2, S, gT, fun x hx => .inl (p1 x hx).1⟩
end
def hangTo (C1 C2 : List CB) (y : CB) (b0 b1 : Bool) : List CB := if b0 && b1 then C1 ++ C2 else C1 ++ { y with a0 := b0, a1 := b1 } :: C2
theorem hang_plain2 {C1 C2 : List CB} {y : CB} (e : Bool) (h : ((C1 ++ y :: C2).map (·.ref)).Nodup) (ho : ∀ z ∈ C1 ++ y :: C2, (z.a0 && z.a1) = false) :
  PN.hang ((C1 ++ y :: C2).map CB.pc) y.ref e = (hangTo C1 C2 y (y.a0 || !e) (y.a1 || e)).map CB.pc := by
 obtain ⟨h1, h2⟩ := cmap_one h
 have same : ∀ D : List CB, (∀ z ∈ D, z.ref ≠ y.ref) → (∀ z ∈ D, (z.a0 && z.a1) = false) → (((D.map CB.pc).map fun z => if (z.ref : Int) = y.ref then PN.shutC z e else z).filter fun z => !(z.a0 && z.a1)) = D.map CB.pc := fun D hd hod => by
  rw [show ((D.map CB.pc).map fun z => if (z.ref : Int) = y.ref then PN.shutC z e else z) = D.map CB.pc by
   rw [List.map_map]
   refine List.map_congr_left fun z hz => ?_
   have := hd z hz
   show (if ((z.pc).ref : Int) = y.ref then PN.shutC z.pc e else z.pc) = z.pc
   exact if_neg (fun he => this (by have e : z.pc.ref = z.ref := rfl; omega))]
  refine List.filter_eq_self.2 fun z hz => ?_
  obtain ⟨z', hz', rfl⟩ := List.mem_map.1 hz
  simp [CB.pc, hod z' hz']
 unfold PN.hang hangTo
 rw [List.map_append, List.map_append, List.filter_append, same C1 h1 (fun z hz => ho z (by simp [hz]))]
 rw [List.map_cons, List.map_cons, List.filter_cons, same C2 h2 (fun z hz => ho z (by simp [hz]))]
 cases h0 : y.a0 <;> cases h1 : y.a1 <;> cases e <;> simp [CB.pc, PN.shutC, h0, h1]
theorem hangTo_mem {C1 C2 : List CB} {y z : CB} {b0 b1 : Bool} (h : z ∈ hangTo C1 C2 y b0 b1) : z ∈ C1 ∨ z ∈ C2 ∨ (z = { y with a0 := b0, a1 := b1 } ∧ (b0 && b1) = false) := by
 unfold hangTo at h
 split at h
 ·rcases List.mem_append.1 h with h | h
  ·exact .inl h
  ·exact .inr (.inl h)
 ·rename_i hb
  rw [Bool.not_eq_true] at hb
  simp only [List.mem_append, List.mem_cons] at h
  rcases h with h | h | h
  ·exact .inl h
  ·exact .inr (.inr ⟨h, hb⟩)
  ·exact .inr (.inl h)
theorem hang_w2 {own : Nat → Nat} {B : NB} {L : List LB} {C1 C2 : List CB} {y : CB} {G : Nat} {en v : Int} {b0 b1 : Bool} (w : World) (h : NetW w own B L (C1 ++ y :: C2) G) (hs : ShutsTo en v y.d y.cap y.a0 y.a1 b0 b1) (hq : (y.ref : Int) ∈ qs L → b1 = false) :
  Calls Tryz.prog 56 #[.pointer (some ⟨B.n, 0, none⟩), .int .i64 y.ref, .int .i64 en] w fun e w' => e = .returned (.int .i64 v) ∧ NetW w' (ownNew w own (4 * y.ref + 1)) B L (hangTo C1 C2 y b0 b1) G ∧ FrO own (fun c => c = 0 ∨ c = 4 * y.ref + 1) w w' := by
 have hc := h.cs y (by simp)
 obtain ⟨o1, o2, o3, o4, o5⟩ := h.on
 have hm := h.net.cs
 rw [List.map_append, List.map_cons] at hm
 refine (hang_gen w hs h.net.c2 hm hc.dup (by simp only [o1]; omega) (by simp only [o5]; omega)).mono ?_
 rintro e w' ⟨rfl, m', d', S, hf, hS⟩
 have hE := Ext.new w own (4 * y.ref + 1)
 have hSo : ∀ z ∈ S, own z = 0 ∨ own z = 4 * y.ref + 1 := fun z hz => (hS z hz).elim .inr (fun hz => .inl (by rw [hz]; exact o5))
 obtain ⟨g1, g2⟩ := cmap_one h.crefs
 have hN : NetIs w B.n B.r B.m B.lm B.cm (L.map LB.nm) (L.map LB.ent) ((C1 ++ y :: C2).map CB.ent) := h.net
 have nS : ∀ x, own x = 0 → x ≠ B.cm → x ∉ S := fun x hx hne hm => (hS x hm).elim (fun h => by rw [h] at hx; omega) (fun h => hne h)
 obtain ⟨e1, e2, e3, e4, e5, e6, e7, e8, e9⟩ := hN.ne
 have keepC : ∀ z, z ∈ C1 ∨ z ∈ C2 → ConnW w' (ownNew w own (4 * y.ref + 1)) z := fun z hz => by
  have hne : z.ref ≠ y.ref := by rcases hz with hz | hz; exact g1 z hz; exact g2 z hz
  refine ((h.cs z (by rcases hz with hz | hz <;> simp [hz])).ext hE).keep hf (fun x hx he => ?_)
  by_cases hlx : x < w.heap.size
  ·rw [hE x hlx] at he
   rcases hSo x hx with h0 | h0 <;> omega
  ·rw [ownNew_ge (by omega)] at he
   omega
 refine ⟨rfl, ?_, FrO.of hf hSo⟩
 have hsub : List.Sublist ((hangTo C1 C2 y b0 b1).map (·.ref)) ((C1 ++ y :: C2).map (·.ref)) := by
  unfold hangTo
  split
  ·simp only [List.map_append, List.map_cons]
   exact List.Sublist.append (List.Sublist.refl _) (List.sublist_cons_self _ _)
  ·simp only [List.map_append, List.map_cons]
   exact List.Sublist.refl _
 refine ⟨?_, ⟨(hE _ (cell_lt h.net.c0)).trans o1, (hE _ (cell_lt h.net.reg.c0)).trans o2, (hE _ h.net.reg.map.lt).trans o3, (hE _ h.net.ls.lt).trans o4, (hE _ h.net.cs.lt).trans o5⟩, ?_, ?_, h.refs, h.crefs.sublist hsub, h.adrs, ?_, h.vals, h.nl, ?_⟩
 ·refine ⟨hf.keep hN.c0 (nS _ o1 (by omega)), hf.keep hN.c1 (nS _ o1 (by omega)), hf.keep hN.c2 (nS _ o1 (by omega)), hN.reg.keep hf (nS _ o2 (by omega)) (nS _ o3 (by omega)), hN.ls.keep hf (nS _ o4 (by omega)), ?_, hN.ne⟩
  have : (hangTo C1 C2 y b0 b1).map CB.ent = if (b0 && b1) then C1.map CB.ent ++ C2.map CB.ent else C1.map CB.ent ++ (.int .i64 (y.ref : Int), .pointer (some ⟨y.d, 0, none⟩)) :: C2.map CB.ent := by
   unfold hangTo
   cases b0 <;> cases b1 <;> simp [CB.ent]
  rw [this]
  exact m'
 ·intro x hx
  refine ((h.ls x hx).ext hE).keep hf (fun z hz he => ?_)
  by_cases hlz : z < w.heap.size
  ·rw [hE z hlz] at he
   rcases hSo z hz with h0 | h0 <;> omega
  ·rw [ownNew_ge (by omega)] at he
   omega
 ·intro z hz
  rcases hangTo_mem hz with hz | hz | ⟨rfl, hb⟩
  ·exact keepC z (.inl hz)
  ·exact keepC z (.inr hz)
  ·refine ⟨(d' hb).wide (fun x hx => ?_), hc.cap, hb⟩
   rcases hx with hx | hx
   ·by_cases hl : x < w.heap.size
    ·exact (hE x hl).trans hx
    ·exact ownNew_ge (by omega)
   ·exact ownNew_ge hx
 ·intro k hk
  obtain ⟨z, hz, h1, h2⟩ := h.queue k hk
  simp only [List.mem_append, List.mem_cons] at hz
  have hin : ∀ u, u ∈ C1 ∨ u ∈ C2 → u ∈ hangTo C1 C2 y b0 b1 := fun u hu => by
   unfold hangTo
   split <;> rcases hu with hu | hu <;> simp [hu]
  rcases hz with hz | rfl | hz
  ·exact ⟨z, hin z (.inl hz), h1, h2⟩
  ·have hb := hq (h1 ▸ hk)
   subst hb
   exact ⟨{ z with a0 := b0, a1 := false }, by unfold hangTo; simp, h1, rfl⟩
  ·exact ⟨z, hin z (.inr hz), h1, h2⟩
 ·have := hsub.length_le
  have hnc := h.nc
  simp only [List.length_map] at this
  omega
def PN.pair (N : PN.Net) (c : Nat) : PN.Net × Int × Int :=
 if 128 ≤ N.C.length then (N, 0, 7) else ({ N with C := N.C ++ [⟨PN.free (N.C.map (·.ref)), c, false, false⟩] }, PN.free (N.C.map (·.ref)), 0)
theorem mem_ports {L : List LB} {s : ByteArray} {j : Nat} : j ∈ PN.ports (L.map LB.pl) s ↔ ∃ x ∈ L, x.s = s ∧ x.p = 49152 + (j : Int) := by
 unfold PN.ports
 simp only [List.mem_map, List.mem_filter, decide_eq_true_eq]
 constructor
 ·rintro ⟨y, ⟨⟨x, hx, rfl⟩, h1, h2⟩, h3⟩
  simp only [LB.pl] at h1 h2 h3
  exact ⟨x, hx, h1, by omega⟩
 ·rintro ⟨x, hx, h1, h2⟩
  exact ⟨x.pl, ⟨⟨x, hx, rfl⟩, h1, by simp only [LB.pl]; omega⟩, by simp only [LB.pl]; omega⟩
theorem listFree (L : List LB) : (∀ j : Nat, j < PN.free (L.map (·.ref)) → ∃ b' s' p', (.int .i64 j, qV b' s' p') ∈ L.map LB.ent) ∧ (∀ x ∈ L.map LB.ent, x.1 ≠ .int .i64 (PN.free (L.map (·.ref)) : Nat)) ∧ PN.free (L.map (·.ref)) ≤ L.length := by
 obtain ⟨h1, h2, h3⟩ := PN.free_spec (L.map (·.ref))
 refine ⟨fun j hj => ?_, fun x hx he => ?_, by simpa using h3⟩
 ·obtain ⟨y, hy, rfl⟩ := List.mem_map.1 (h2 j hj)
  exact ⟨y.b, y.s, y.p, List.mem_map.2 ⟨y, hy, rfl⟩⟩
 ·obtain ⟨y, hy, rfl⟩ := List.mem_map.1 hx
  exact h1 (List.mem_map.2 ⟨y, hy, i64_inj he⟩)
theorem NetW.add {w w' : World} {own : Nat → Nat} {B : NB} {L : List LB} {C : List CB} {G k : Nat} {s : ByteArray} {pp most : Int} {b q mm t : Nat} (h : NetW w own B L C G) (hk : PN.free (L.map (·.ref)) = k) (hs : s.size ≤ 1000000) (hv : addrB s.data.toList pp = true) (hp : (pp == 0) = false) (hm : 1 ≤ most ∧ most ≤ 128) (hxn : ∀ x ∈ L.map LB.nm, x.1 ≠ addrV s pp) (hln : L.length < 128)
  (hn : NetIs w' B.n B.r B.m B.lm B.cm (L.map LB.nm ++ [(addrV s pp, .int .i64 k)]) (L.map LB.ent ++ [(.int .i64 k, qV b s pp)]) (C.map CB.ent)) (hb : BackIs w' b q mm t most false [] 0) (hf : Fr [B.m, B.lm] w w') (l1 : w.heap.size ≤ b) (l2 : w.heap.size ≤ q) (l3 : w.heap.size ≤ mm) (l4 : w.heap.size ≤ t) :
  NetW w' (ownNew w own (4 * k + 2)) B (L ++ [⟨k, s, pp, most, [], 0, b, q, mm, t⟩]) C G := by
 obtain ⟨o1, o2, o3, o4, o5⟩ := h.on
 have hE := Ext.new w own (4 * k + 2)
 obtain ⟨f1, f2, f3⟩ := PN.free_spec (L.map (·.ref))
 rw [hk] at f1 f2 f3
 have hS : ∀ z ∈ [B.m, B.lm], z < w.heap.size ∧ own z = 0 := fun z hz => by
  simp only [List.mem_cons, List.not_mem_nil, or_false] at hz
  rcases hz with rfl | rfl
  ·exact ⟨h.net.reg.map.lt, o3⟩
  ·exact ⟨h.net.ls.lt, o4⟩
 have keepS : ∀ c, c ≠ 0 → ∀ z ∈ [B.m, B.lm], ownNew w own (4 * k + 2) z ≠ c := fun c hc z hz he => by
  obtain ⟨h1, h2⟩ := hS z hz
  rw [hE z h1, h2] at he
  exact hc he.symm
 refine ⟨?_, ⟨(hE _ (cell_lt h.net.c0)).trans o1, (hE _ (cell_lt h.net.reg.c0)).trans o2, (hE _ h.net.reg.map.lt).trans o3, (hE _ h.net.ls.lt).trans o4, (hE _ h.net.cs.lt).trans o5⟩, ?_, ?_, ?_, h.crefs, ?_, ?_, ?_, by simp; omega, h.nc⟩
 ·simpa [LB.nm, LB.ent] using hn
 ·intro y hy
  rcases List.mem_append.1 hy with hy | hy
  ·exact ((h.ls y hy).ext hE).keep hf (fun z hz => keepS _ (by omega) z hz)
  ·simp only [List.mem_singleton] at hy
   subst hy
   exact ⟨hb, ⟨ownNew_ge l1, ownNew_ge l2, ownNew_ge l3, ownNew_ge l4⟩, hv, hs, hp, hm, by simp; omega, Nat.zero_le _⟩
 ·intro y hy
  exact ((h.cs y hy).ext hE).keep hf (fun z hz => keepS _ (by omega) z hz)
 ·rw [List.map_append, List.nodup_append]
  exact ⟨h.refs, by simp, fun a ha b' hb' he => f1 (by simp at hb'; subst hb'; subst he; exact ha)⟩
 ·rw [List.pairwise_append]
  refine ⟨h.adrs, by simp, fun a ha b' hb' he => ?_⟩
  simp only [List.mem_singleton] at hb'
  subst hb'
  simp only at he
  exact hxn _ (List.mem_map.2 ⟨a, ha, rfl⟩) (by rw [LB.nm, he.1, he.2])
 ·intro z hz
  refine h.queue z ?_
  simpa [qs] using hz
 ·have := h.vals
  simpa [qs] using this
theorem addrB_ports {s : ByteArray} {p : Int} (h : addrB s.data.toList p = true) (q : Int) (h0 : 0 ≤ q) (h1 : q ≤ 65535) : addrB s.data.toList q = true := by
 unfold addrB at h ⊢
 simp only [Bool.and_eq_true, decide_eq_true_eq] at h ⊢
 exact ⟨⟨h.1.1, h0⟩, h1⟩
theorem netListen_w {own : Nat → Nat} {B : NB} {L : List LB} {C : List CB} {G : Nat} (s : ByteArray) (p most : Int) (w : World) (h : NetW w own B L C G) (hs : s.size ≤ 1000000) :
  Calls Tryz.prog 15 #[.pointer (some ⟨B.n, 0, none⟩), .agg #[.string s, .int .i64 p], .int .i64 most] w fun e w' => ∃ own' L',
   e = .returned (.tuple #[.int .i64 (PN.listen (plainN L C) s p most (addrB s.data.toList p)).2.1, .agg #[.string (PN.listen (plainN L C) s p most (addrB s.data.toList p)).2.2.1.1, .int .i64 (PN.listen (plainN L C) s p most (addrB s.data.toList p)).2.2.1.2], .int .i64 (PN.listen (plainN L C) s p most (addrB s.data.toList p)).2.2.2]) ∧ plainN L' C = (PN.listen (plainN L C) s p most (addrB s.data.toList p)).1 ∧ NetW w' own' B L' C G ∧ Ext w own own' ∧ FrO own netO w w' := by
 have hrefs : (plainN L C).L.map (·.ref) = L.map (·.ref) := by simp [plainN, LB.pl]
 have hlen : (plainN L C).L.length = L.length := by simp [plainN]
 unfold PN.listen
 by_cases hb : most < 1 ∨ 128 < most ∨ addrB s.data.toList p = false
 ·rw [if_pos hb]
  refine (netListen_bad B.n B.r B.m B.lm B.cm _ _ _ s p most w h.net hs hb).mono ?_
  rintro e w' ⟨rfl, hf⟩
  exact ⟨own, L, rfl, rfl, h.new hf, Ext.refl _ _, FrO.new hf⟩
 ·rw [if_neg hb, hrefs, hlen]
  have hv : addrB s.data.toList p = true := by
   cases hh : addrB s.data.toList p
   ·exact absurd (.inr (.inr hh)) hb
   ·rfl
  have hm : 1 ≤ most ∧ most ≤ 128 := by omega
  obtain ⟨pb1, pb2⟩ := addrB_port hv
  have hnl := h.nl
  -- the port
  obtain ⟨pp, hpp⟩ : ∃ pp, PN.portOf (plainN L C).L s p = pp := ⟨_, rfl⟩
  rw [hpp]
  have key : (0 ≤ pp ∧ pp ≤ 65535) ∧ (pp == 0) = false ∧ ((∀ x ∈ L.map LB.nm, x.1 ≠ addrV s pp) → ¬ 128 ≤ ((L.map LB.nm).length : Int) → ∀ W, RegIs W B.r B.m (L.map LB.nm) → Calls Tryz.prog 51 #[.pointer (some ⟨B.r, 0, none⟩), .agg #[.string s, .int .i64 p], .int .i64 0] W fun e w' => e = .returned (.tuple #[.agg #[.string s, .int .i64 pp], .int .i64 0]) ∧ RegIs w' B.r B.m (L.map LB.nm ++ [(addrV s pp, .int .i64 0)]) ∧ Fr [B.m] W w') ∧
    ((∀ x ∈ L.map LB.nm, x.1 ≠ addrV s pp) → 128 ≤ ((L.map LB.nm).length : Int) → ∀ W, RegIs W B.r B.m (L.map LB.nm) → Calls Tryz.prog 51 #[.pointer (some ⟨B.r, 0, none⟩), .agg #[.string s, .int .i64 p], .int .i64 0] W fun e w' => e = .returned (.tuple #[.agg #[.string ⟨#[]⟩, .int .i64 0], .int .i64 7]) ∧ Fr [] W w') ∧
    (∀ u, (addrV s pp, .int .i64 u) ∈ L.map LB.nm → ∀ W, RegIs W B.r B.m (L.map LB.nm) → Calls Tryz.prog 51 #[.pointer (some ⟨B.r, 0, none⟩), .agg #[.string s, .int .i64 p], .int .i64 0] W fun e w' => e = .returned (.tuple #[.agg #[.string ⟨#[]⟩, .int .i64 0], .int .i64 11]) ∧ Fr [] W w') := by
   unfold PN.portOf at hpp
   by_cases hp0 : p = 0
   ·subst hp0
    rw [if_pos rfl] at hpp
    obtain ⟨f1, f2, f3⟩ := PN.free_spec (PN.ports (L.map LB.pl) s)
    have hpl : (PN.ports (L.map LB.pl) s).length ≤ L.length := by
     unfold PN.ports
     have := List.length_filter_le (fun x : PN.PL => decide (x.s = s ∧ 49152 ≤ x.p)) (L.map LB.pl)
     simpa using this
    obtain ⟨k, hk⟩ : ∃ k, PN.free (PN.ports (L.map LB.pl) s) = k := ⟨_, rfl⟩
    rw [show (plainN L C).L = L.map LB.pl from rfl, hk] at hpp
    rw [hk] at f1 f2 f3
    subst hpp
    have hlow : ∀ j, j < k → ∃ v, (addrV s (49152 + (j : Int)), .int .i64 v) ∈ L.map LB.nm := fun j hj => by
     obtain ⟨x, hx, h1, h2⟩ := mem_ports.1 (f2 j hj)
     exact ⟨x.ref, List.mem_map.2 ⟨x, hx, by rw [LB.nm, h1, h2]⟩⟩
    have hat : ∀ x ∈ L.map LB.nm, x.1 ≠ addrV s (49152 + (k : Int)) := fun x hx he => by
     obtain ⟨y, hy, rfl⟩ := List.mem_map.1 hx
     obtain ⟨h1, h2⟩ := addrV_inj he
     exact f1 (mem_ports.2 ⟨y, hy, h1, h2⟩)
    have hfr : ∀ W, RegIs W B.r B.m (L.map LB.nm) → Calls Tryz.prog 88 #[.pointer (some ⟨B.r, 0, none⟩), .string s] W fun e w' => e = .returned (.int .i64 (49152 + (k : Int))) ∧ W = w' := fun W hW => regFree_any B.r B.m k _ s W hW hs (by omega) hlow hat
    refine ⟨⟨by omega, by omega⟩, by rw [beq_eq_false_iff_ne]; omega, fun hx hn W hW => ?_, fun hx hn W hW => ?_, fun u hu => absurd rfl (hat _ hu)⟩
    ·exact regBind0_ok B.r B.m _ s _ 0 W hW hs hv ⟨by omega, by omega⟩ (by omega) hfr hat hn
    ·exact regBind0_full B.r B.m _ s _ 0 W hW hs hv ⟨by omega, by omega⟩ (by omega) hfr hat hn
   ·rw [if_neg hp0] at hpp
    subst hpp
    have hpb : (p == 0) = false := by rw [beq_eq_false_iff_ne]; exact hp0
    exact ⟨⟨pb1, pb2⟩, hpb, fun hx hn W hW => regBind_ok B.r B.m _ s p 0 W hW hs hv hpb (by omega) hx hn, fun hx hn W hW => regBind_full B.r B.m _ s p 0 W hW hs hv hpb (by omega) hx hn, fun u hu W hW => regBind_busy B.r B.m _ s p 0 W hW hs hv hpb (by omega) u hu⟩
  obtain ⟨⟨q1, q2⟩, q3, kOk, kFull, kBusy⟩ := key
  rcases hat : PN.at? (plainN L C).L s pp with _ | z
  ·rw [if_neg (by simp)]
   have hxn := at_none hat
   by_cases hl : 128 ≤ L.length
   ·rw [if_pos hl]
    refine (netListen_err B.n B.r B.m B.lm B.cm _ _ _ s p most 7 w h.net hs hv rfl (kFull hxn (by simp; omega)) (by omega) (by omega)).mono ?_
    rintro e w' ⟨rfl, hf⟩
    exact ⟨own, L, rfl, rfl, h.new hf, Ext.refl _ _, FrO.new hf⟩
   ·rw [if_neg hl]
    obtain ⟨a1, a2, a3⟩ := listFree L
    obtain ⟨k, hk⟩ : ∃ k, PN.free (L.map (·.ref)) = k := ⟨_, rfl⟩
    rw [hk] at a1 a2 a3 ⊢
    refine (netListen_gen B.n B.r B.m B.lm B.cm _ _ _ s p pp most k w h.net hs hv (addrB_ports hv pp q1 q2) q3 (kOk hxn (by simp; omega)) (by omega) (by omega) hxn (by simp; omega) a1 a2 (by omega)).mono ?_
    rintro e w' ⟨b, q, mm, t, rfl, hn, hb', hf, l1, l2, l3, l4⟩
    obtain ⟨o1, o2, o3, o4, o5⟩ := h.on
    refine ⟨ownNew w own (4 * k + 2), L ++ [⟨k, s, pp, most, [], 0, b, q, mm, t⟩], rfl, by simp [plainN, LB.pl], h.add hk hs (addrB_ports hv pp q1 q2) q3 hm hxn (by omega) hn hb' hf l1 l2 l3 l4, Ext.new _ _ _, FrO.of hf (fun z hz => ?_)⟩
    simp only [List.mem_cons, List.not_mem_nil, or_false] at hz
    rcases hz with rfl | rfl
    ·exact .inl o3
    ·exact .inl o4
  ·rw [if_pos (by simp)]
   obtain ⟨L1, x, L2, hL, rfl, hxs, hxp⟩ := at_some hat
   have hu : (addrV s pp, .int .i64 (x.ref : Int)) ∈ L.map LB.nm := List.mem_map.2 ⟨x, by rw [hL]; simp, by rw [LB.nm, hxs, hxp]⟩
   refine (netListen_err B.n B.r B.m B.lm B.cm _ _ _ s p most 11 w h.net hs hv rfl (kBusy _ hu) (by omega) (by omega)).mono ?_
   rintro e w' ⟨rfl, hf⟩
   exact ⟨own, L, rfl, rfl, h.new hf, Ext.refl _ _, FrO.new hf⟩
set_option maxHeartbeats 8000000
theorem netClose_none {n r m lm cm : Nat} {names ls cs : List (Value × Value)} (ref : Int) (w : World) (h : NetIs w n r m lm cm names ls cs) (hr : -9223372036854775808 ≤ ref) (hr' : ref ≤ 9223372036854775807) (hx : ∀ x ∈ ls, x.1 ≠ .int .i64 ref) :
  Calls Tryz.prog 19 #[.pointer (some ⟨n, 0, none⟩), .int .i64 ref] w fun e w' => e = .returned (.tuple #[.slice none 0 0, .int .i64 9]) ∧ Fr [] w w' := by
 have c1 := h.c1
 have HN := Lib.hid (netNone_any _ h)
 have hl := h.ls.miss keyInt (t := 88) (e := 130) Tryz.underlying88 (keyInt_of ref hr hr') hx (zeroQ _) true
 simp only [if_true] at hl
 have HX := Lib.hid hx
 clear h hx
 go_enter Tryz.func19, Tryz.ntmps19
 go_wp2_with (go_at_call 49; refine HN.out.mono ?_; rintro e w' ⟨rfl, rfl⟩)
 go_ret2
 exact ⟨rfl, (Fr.refl [] _).alloc _⟩
theorem dropL_one {L1 L2 : List LB} {x : LB} (h : ((L1 ++ x :: L2).map (·.ref)).Nodup) :
  PN.dropL ((L1 ++ x :: L2).map LB.pl) x.ref = (L1 ++ L2).map LB.pl := by
 obtain ⟨h1, h2⟩ := map_one h
 unfold PN.dropL
 have same : ∀ D : List LB, (∀ y ∈ D, y.ref ≠ x.ref) → (D.map LB.pl).filter (fun y => decide (y.ref ≠ x.ref)) = D.map LB.pl := fun D hd =>
  List.filter_eq_self.2 fun z hz => by
   obtain ⟨y, hy, rfl⟩ := List.mem_map.1 hz
   exact decide_eq_true (hd y hy)
 rw [List.map_append, List.filter_append, same L1 h1, List.map_cons, List.filter_cons, same L2 h2]
 simp [LB.pl]
theorem hangs_snoc : ∀ (l : List Int) (C : List PN.PC) (k : Int), PN.hangs C (l ++ [k]) = PN.hang (PN.hangs C l) k true
 | [], C, k => rfl
 | a :: l, C, k => by simp only [List.cons_append, PN.hangs]; exact hangs_snoc l _ k
structure CloseR (w : World) (own : Nat → Nat) (B : NB) (L : List LB) (C0 C : List CB) (G : Nat) (xs : List Int) (j : Nat) : Prop where
 net : NetW w own B L C G
 hangs : C.map CB.pc = PN.hangs (C0.map CB.pc) (xs.take j)
 open_ : ∀ k ∈ xs.drop j, ∃ y ∈ C, (y.ref : Int) = k ∧ y.a1 = false
 sep : (xs.drop j).Nodup ∧ ∀ k ∈ xs.drop j, k ∉ qs L
theorem CloseR.next {w : World} {own : Nat → Nat} {B : NB} {L : List LB} {C0 C : List CB} {G : Nat} {xs : List Int} {j : Nat} (h : CloseR w own B L C0 C G xs j) (hj : j < xs.length) :
  ∃ C1 y C2, C = C1 ++ y :: C2 ∧ y.a1 = false ∧ (y.ref : Int) = xs[j] ∧ (y.ref : Int) ∉ qs L ∧
   ∀ w' own', NetW w' own' B L (hangAt C1 C2 y) G → CloseR w' own' B L C0 (hangAt C1 C2 y) G xs (j + 1) := by
 have hd : xs.drop j = xs[j] :: xs.drop (j + 1) := List.drop_eq_getElem_cons hj
 obtain ⟨y, hy, h1, h2⟩ := h.open_ xs[j] (by rw [hd]; exact List.mem_cons_self)
 obtain ⟨C1, C2, rfl⟩ := List.append_of_mem hy
 have hsep := h.sep
 rw [hd, List.nodup_cons] at hsep
 refine ⟨C1, y, C2, rfl, h2, h1, fun hm => hsep.2 xs[j] List.mem_cons_self (h1 ▸ hm), fun w' own' hn => ⟨hn, ?_, fun k hk => ?_, hsep.1.2, fun k hk => hsep.2 k (List.mem_cons_of_mem _ hk)⟩⟩
 ·rw [List.take_succ_eq_append_getElem hj, hangs_snoc, ← h.hangs, ← h1]
  exact (hang_plain h.net.crefs (fun z hz => (h.net.cs z hz).op)).symm
 ·refine qs_ne (L := L) (h.open_ k (by rw [hd]; exact List.mem_cons_of_mem _ hk)) (fun he => hsep.1.1 ?_)
  rw [← h1, ← he]
  exact hk
theorem NetW.drop {w w' : World} {own own' : Nat → Nat} {B : NB} {L1 L2 : List LB} {x : LB} {C : List CB} {G : Nat} (h : NetW w own B (L1 ++ x :: L2) C G)
  (hn : NetIs w' B.n B.r B.m B.lm B.cm ((L1 ++ L2).map LB.nm) ((L1 ++ L2).map LB.ent) (C.map CB.ent)) {S : List Nat} (hf : Fr S w w') (hE : Ext w own own') (hS : ∀ z ∈ S, z < w.heap.size ∧ (own z = 0 ∨ own z = 4 * x.ref + 2)) : NetW w' own' B (L1 ++ L2) C G := by
 obtain ⟨o1, o2, o3, o4, o5⟩ := h.on
 obtain ⟨g1, g2⟩ := map_one h.refs
 have hsub : List.Sublist (L1 ++ L2) (L1 ++ x :: L2) := List.Sublist.append (List.Sublist.refl _) (List.sublist_cons_self _ _)
 have hmem : ∀ y ∈ L1 ++ L2, y ∈ L1 ++ x :: L2 := fun y hy => hsub.subset hy
 have hqs : List.Sublist (qs (L1 ++ L2)) (qs (L1 ++ x :: L2)) := by
  rw [qs_mid, show qs (L1 ++ L2) = qs L1 ++ qs L2 by simp [qs]]
  exact List.Sublist.append (List.Sublist.refl _) (List.sublist_append_right _ _)
 refine ⟨hn, ⟨(hE _ (cell_lt h.net.c0)).trans o1, (hE _ (cell_lt h.net.reg.c0)).trans o2, (hE _ h.net.reg.map.lt).trans o3, (hE _ h.net.ls.lt).trans o4, (hE _ h.net.cs.lt).trans o5⟩, ?_, ?_, h.refs.sublist (hsub.map _), h.crefs, h.adrs.sublist hsub, fun k hk => h.queue k (hqs.subset hk), h.vals.sublist hqs, by have := hsub.length_le; have := h.nl; omega, h.nc⟩
 ·intro y hy
  have hne : y.ref ≠ x.ref := by rcases List.mem_append.1 hy with hy | hy; exact g1 y hy; exact g2 y hy
  refine ((h.ls y (hmem y hy)).ext hE).keep hf (fun z hz he => ?_)
  obtain ⟨hl, h0⟩ := hS z hz
  rw [hE z hl] at he
  rcases h0 with h0 | h0 <;> omega
 ·intro y hy
  refine ((h.cs y hy).ext hE).keep hf (fun z hz he => ?_)
  obtain ⟨hl, h0⟩ := hS z hz
  rw [hE z hl] at he
  rcases h0 with h0 | h0 <;> omega
theorem RowOf.len {W w : World} {lo : Nat} {v : Value} {xs : List Value} (h : RowOf w lo v xs) : (Builtin.len_ #[64] 3 #[v]).run Tryz.prog W = .ok (.int .i64 xs.length) W := by
 rcases h with ⟨rfl, rfl⟩ | ⟨g, cap, rfl, _⟩
 ·simp [Builtin.len_, run_underlying Tryz.underlying64, goInt]
 ·simp [Builtin.len_, run_underlying Tryz.underlying64, goInt]
theorem netClose_hit {own : Nat → Nat} {B : NB} {L1 L2 : List LB} {x : LB} {C : List CB} {G : Nat} (w : World) (h : NetW w own B (L1 ++ x :: L2) C G) (hG : G < 4611686018427387904) (hr' : (x.ref : Int) ≤ 9223372036854775807) :
  Calls Tryz.prog 19 #[.pointer (some ⟨B.n, 0, none⟩), .int .i64 x.ref] w fun e w' => ∃ v own' C', e = .returned (.tuple #[v, .int .i64 0]) ∧ RowOf w' w.heap.size v (x.l.map connV64) ∧ CloseR w' own' B (L1 ++ L2) C C' G (x.l.map (·.2)) x.l.length ∧ Ext w own own' ∧ FrO own netO w w' := by
 have hx := h.ls x (by simp)
 obtain ⟨o1, o2, o3, o4, o5⟩ := h.on
 obtain ⟨x1, x2, x3, x4⟩ := hx.own
 have hn := h.net
 rw [List.map_append, List.map_cons, List.map_append, List.map_cons] at hn
 have hne := hn.ne
 have HN := Lib.hid (netNone_any _ h.net)
 have c0 := hn.c0
 have c1 := hn.c1
 have bl := cell_lt hx.back.c0
 have hlk := hn.ls.hit keyInt (t := 88) (e := 130) Tryz.underlying88 (x := .int .i64 (x.ref : Int)) (v := .agg #[.pointer (some ⟨x.b, 0, none⟩), .string x.s, .int .i64 x.p]) (by simp [LB.ent, qV]) true
 simp only [if_true] at hlk
 have fA : Fr [] w (w.alloc (.cells #[.pointer (some ⟨x.b, 0, none⟩), .string x.s, .int .i64 x.p] 130)) := (Fr.refl [] w).alloc _
 have k0 : (w.alloc (.cells #[.pointer (some ⟨x.b, 0, none⟩), .string x.s, .int .i64 x.p] 130)).cell? ⟨w.heap.size, 0, none⟩ = some (.pointer (some ⟨x.b, 0, none⟩)) := by simp
 have k1 : (w.alloc (.cells #[.pointer (some ⟨x.b, 0, none⟩), .string x.s, .int .i64 x.p] 130)).cell? ⟨w.heap.size, 1, none⟩ = some (.string x.s) := by simp
 have k2 : (w.alloc (.cells #[.pointer (some ⟨x.b, 0, none⟩), .string x.s, .int .i64 x.p] 130)).cell? ⟨w.heap.size, 2, none⟩ = some (.int .i64 x.p) := by simp
 have sA : (w.alloc (.cells #[.pointer (some ⟨x.b, 0, none⟩), .string x.s, .int .i64 x.p] 130)).heap.size = w.heap.size + 1 := by simp
 obtain ⟨wB, hrun, mB, fB⟩ := (hn.ls.keep fA (by simp)).del (T := 0) keyInt (t := 88) (e := 130) Tryz.underlying88
 have zl := hn.ls.lt
 have zm := hn.reg.map.lt
 have j0 := fB.keep k0 (by simp; omega)
 have j1 := fB.keep k1 (by simp; omega)
 have j2 := fB.keep k2 (by simp; omega)
 have fAB : Fr [B.lm] w wB := (fA.mono (fun x hx => by cases hx)).trans fB (fun x hx _ => hx)
 have q0 := fAB.keep c0 (by simp; omega)
 have q1 := fA.keep c1 (by simp)
 have rB := hn.reg.keep fAB (by simp; omega) (by simp; omega)
 have H := Lib.hid h
 have HX := Lib.hid hx
 have HNN := Lib.hid hn
 have HM := Lib.hid mB
 have HV := Lib.hid hx.adr
 have HZ := Lib.hid hx.sz
 have HL := Lib.hid hx.len
 have HMO := Lib.hid hx.most
 have HG := Lib.hid hx.g
 clear h hx hn mB
 go_enter Tryz.func19, Tryz.ntmps19
 go_wp2_with (go_at_call 49; refine HN.out.mono ?_; rintro e w' ⟨rfl, rfl⟩)
 go_cut [] from 30 to 36 (fun wc => RegIs wc B.r B.m (L1.map LB.nm ++ L2.map LB.nm) ∧ Fr [B.m] wB wc)
 case first =>
  go_region_with (go_at_call 53; refine (regRelease_hit B.r B.m (L1.map LB.nm) (L2.map LB.nm) x.s x.p x.ref _ (rB.drewN 1) HZ.out HV.out).mono ?_; rintro e w5 ⟨rfl, rg5, f5⟩)
  all_goals go_wp2
  all_goals go_meet
  case' rel => skip
  all_goals exact ⟨rg5, f5.behind⟩
 case rest =>
  obtain ⟨rC, fC⟩ := hcut
  have dif : ∀ a b, own a = 4 * x.ref + 2 → own b = 0 → a ≠ b := fun a b ha hb e => by rw [e] at ha; omega
  obtain ⟨e1, e2, e3, e4, e5, e6, e7, e8, e9⟩ := hne
  have DIF := Lib.hid dif
  have HE := Lib.hid (show B.n ≠ B.r ∧ B.n ≠ B.m ∧ B.n ≠ B.lm ∧ B.n ≠ B.cm ∧ B.r ≠ B.lm ∧ B.r ≠ B.cm ∧ B.m ≠ B.lm ∧ B.m ≠ B.cm ∧ B.lm ≠ B.cm from ⟨e1, e2, e3, e4, e5, e6, e7, e8, e9⟩)
  have rm : B.r ≠ B.m := HNN.out.reg.ne
  have fw : Fr [B.lm, B.m] w wc := (fAB.mono (fun x hx _ => by simp at hx; simp [hx])).trans fC (fun x hx _ => by simp at hx; simp [hx])
  have i0 := fC.keep j0 (by simp [Nat.ne_of_gt zm])
  have HBk := Lib.hid (HX.out.back.keep fw (by simp [dif _ _ x1 o4, dif _ _ x1 o3]) (by simp [dif _ _ x2 o4, dif _ _ x2 o3]) (by simp [dif _ _ x3 o4, dif _ _ x3 o3]) (by simp [dif _ _ x4 o4, dif _ _ x4 o3]))
  have hlen : x.l.length ≤ 100000 := by have := HL.out; have := HMO.out.2; omega
  have hgG : x.g < 4611686018427387904 := by have := HG.out; omega
  clear j0 j1 j2 k0 k1 k2 q0 q1 hlk rB dif e1 e2 e3 e4 e5 e6 e7 e8 e9
  go_wp2_with (go_at_call 55; refine (backClose_any x.b x.q x.m x.t x.most x.l x.g hgG _ HBk.out hlen).mono ?_; rintro e wD ⟨v, rfl, hrow, fD⟩; have hlv := fun W : World => hrow.len (W := W); rw [List.length_map] at hlv)
  have fwD : Fr [B.lm, B.m, x.b] w wD := (fw.mono (fun y hy _ => by simp at hy; rcases hy with rfl | rfl <;> simp)).trans fD (fun y hy _ => by simp at hy; simp [hy])
  have zr := cell_lt HNN.out.reg.c0
  have zc := HNN.out.cs.lt
  have zn := cell_lt c0
  have hnD : NetIs wD B.n B.r B.m B.lm B.cm ((L1 ++ L2).map LB.nm) ((L1 ++ L2).map LB.ent) (C.map CB.ent) := by
   rw [List.map_append, List.map_append]
   obtain ⟨e1, e2, e3, e4, e5, e6, e7, e8, e9⟩ := HE.out
   have n1 : B.n ∉ [B.lm, B.m, x.b] := by simp [e3, e2, Ne.symm (DIF.out _ _ x1 o1)]
   have n2 : B.r ∉ [x.b] := by simp [Ne.symm (DIF.out _ _ x1 o2)]
   have n3 : B.m ∉ [x.b] := by simp [Ne.symm (DIF.out _ _ x1 o3)]
   have n4 : B.lm ∉ [B.m] := by simp [Ne.symm e7]
   have n5 : B.lm ∉ [x.b] := by simp [Ne.symm (DIF.out _ _ x1 o4)]
   have n6 : B.cm ∉ [B.lm, B.m, x.b] := by simp [Ne.symm e9, Ne.symm e8, Ne.symm (DIF.out _ _ x1 o5)]
   exact ⟨fwD.keep HNN.out.c0 n1, fwD.keep HNN.out.c1 n1, fwD.keep HNN.out.c2 n1, rC.keep fD n2 n3, (HM.out.keep fC n4).keep fD n5, HNN.out.cs.keep fwD n6, HE.out⟩
  have hE := Ext.new w own 4
  have hW := NetW.drop H.out hnD fwD hE (fun z hz => by
   simp only [List.mem_cons, List.not_mem_nil, or_false] at hz
   rcases hz with rfl | rfl | rfl
   ·exact ⟨zl, .inl o4⟩
   ·exact ⟨zm, .inl o3⟩
   ·exact ⟨bl, .inr x1⟩)
  have hCR : CloseR wD (ownNew w own 4) B (L1 ++ L2) C C G (x.l.map (·.2)) 0 := by
   have hv := H.out.vals
   rw [qs_mid] at hv
   have hq12 : qs (L1 ++ L2) = qs L1 ++ qs L2 := by simp [qs]
   refine ⟨hW, rfl, fun k hk => H.out.queue k (by rw [qs_mid]; exact List.mem_append_right _ (List.mem_append_left _ hk)), (List.nodup_append.1 (List.nodup_append.1 hv).2.1).1, fun k hk hm => ?_⟩
   rw [hq12] at hm
   rcases List.mem_append.1 hm with hm | hm
   ·exact (List.nodup_append.1 hv).2.2 k hm k (List.mem_append_left _ hk) rfl
   ·exact (List.nodup_append.1 (List.nodup_append.1 hv).2.1).2.2 k hk k hm rfl
  have hFO : FrO own netO w wD := FrO.of fwD (fun z hz => by
   simp only [List.mem_cons, List.not_mem_nil, or_false] at hz
   rcases hz with rfl | rfl | rfl
   ·exact .inl o4
   ·exact .inl o3
   ·exact .inr (.inr (by rw [x1]; omega)))
  have HW := Lib.hid hCR
  have hzD : w.heap.size ≤ wD.heap.size := fwD.size
  have hzC : w.heap.size ≤ wc.heap.size := fw.size
  clear hW hCR hnD fwD hlv
  rcases hrow with ⟨hnil, rfl⟩ | ⟨g, cap, rfl, lg, lgs, hcells⟩
  ·have hl0 : x.l = [] := by simpa using hnil
   have hz0 : x.l.length = 0 := by rw [hl0]; rfl
   rw [hz0]
   go_loopw [45] (fun i wr => i = .int .i64 0 ∧ wr = wD) (fun _ _ => 0)
   case atStart => exact ⟨rfl, rfl⟩
   case round =>
    obtain ⟨rfl, rfl⟩ := hrel
    go_wp2
    go_ret2
    have hz : x.l.length = 0 := by rw [hl0]; rfl
    exact ⟨_, ownNew w own 4, C, rfl, .inl ⟨by rw [hl0]; rfl, rfl⟩, hz ▸ HW.out, hE, hFO⟩
  ·have hlen2 : (x.l.map connV64).length = x.l.length := by simp
   rw [hlen2]
   have og : ownNew w own 4 g = 4 := ownNew_ge (by omega)
   have HC := Lib.hid hcells
   clear hcells
   go_loopw [45] (fun i wr => ∃ (j : Nat) (own' : Nat → Nat) (C' : List CB), i = .int .i64 j ∧ j ≤ x.l.length ∧ CloseR wr own' B (L1 ++ L2) C C' G (x.l.map (·.2)) j ∧ Ext wD (ownNew w own 4) own' ∧ FrO (ownNew w own 4) netO wD wr ∧ (∀ j u, (x.l.map connV64)[j]? = some u → wr.cell? ⟨g, j, none⟩ = some u)) (fun i _ => x.l.length - (intOf i).toNat)
   case atStart => exact ⟨0, _, C, rfl, by omega, HW.out, Ext.refl _ _, FrO.new (Fr.refl _ _), HC.out⟩
   case round =>
    obtain ⟨j, own', C', rfl, hj, hR, hE2, hF2, hc2⟩ := hrel
    by_cases hlt : j < x.l.length
    ·obtain ⟨C1, y, C2, rfl, hy1, hy2, hy3, hnext⟩ := hR.next (by simpa using hlt)
     have hcj : wr.cell? ⟨g, j, none⟩ = some (.int .i64 y.ref) := by
      refine hc2 j _ ?_
      rw [List.getElem?_map, List.getElem?_eq_getElem hlt]
      simp only [List.getElem_map] at hy2
      simp [connV64, hy2]
     have HH := Lib.hid (hang_w wr hR.net hy1 hy3)
     have HNx := Lib.hid hnext
     have HC2 := Lib.hid hc2
     have HE2 := Lib.hid hE2
     have HF2 := Lib.hid hF2
     have HGO := Lib.hid (show own' g = 4 from (hE2 g lgs).trans og)
     have HR := Lib.hid hR
     clear hnext hc2 hE2 hF2 hR hy1 hy2 hy3 og
     go_wp2_with (go_at_call 56; refine HH.out.mono ?_; rintro e w2 ⟨rfl, hN2, hF3⟩)
     go_roundw
     case rel =>
      have hF3' := hF3
      obtain ⟨S, f3, s3⟩ := hF3.list
      have gS : g ∉ S := fun hm => by
       have := (s3 g hm).2
       rw [HGO.out] at this
       omega
      refine ⟨j + 1, _, _, by go_num, by omega, HNx.out _ _ hN2, HE2.out.step (Ext.new wr own' _) HF2.out.size, HF2.out.trans (hF3'.mono (fun c hc => ?_)) HE2.out, fun j' u hu => f3.keep (HC2.out j' u hu) gS⟩
      ·rcases hc with h0 | h0
       ·exact .inl h0
       ·exact .inr (.inl (by rw [h0]; omega))
     case measure => simp [intOf]; omega
    ·obtain rfl : j = x.l.length := by omega
     have HR := Lib.hid hR
     have HC2 := Lib.hid hc2
     have HE2 := Lib.hid hE2
     have HF2 := Lib.hid hF2
     clear hR hc2 hE2 hF2
     go_wp2
     go_ret2
     refine ⟨.slice (some ⟨g, 0, none⟩) x.l.length cap, own', C', rfl, .inr ⟨g, cap, by rw [hlen2], Nat.le_trans hzC lg, Nat.lt_of_lt_of_le lgs HF2.out.size, HC2.out⟩, HR.out, hE.step HE2.out hzD, hFO.trans HF2.out hE⟩
theorem netClose_w {own : Nat → Nat} {B : NB} {L : List LB} {C : List CB} {G : Nat} (ref : Int) (w : World) (h : NetW w own B L C G) (hr : -9223372036854775808 ≤ ref) (hr' : ref ≤ 9223372036854775807) (hG : G < 4611686018427387904) :
  Calls Tryz.prog 19 #[.pointer (some ⟨B.n, 0, none⟩), .int .i64 ref] w fun e w' => ∃ v own' L' C',
   e = .returned (.tuple #[v, .int .i64 (PN.close (plainN L C) ref).2.2]) ∧ RowOf w' w.heap.size v ((PN.close (plainN L C) ref).2.1.map (Value.int .i64)) ∧ plainN L' C' = (PN.close (plainN L C) ref).1 ∧ NetW w' own' B L' C' G ∧ Ext w own own' ∧ FrO own netO w w' := by
 unfold PN.close
 rcases hat : PN.byRef (plainN L C).L ref with _ | z
 ·refine (netClose_none ref w h.net hr hr' (by_none hat)).mono ?_
  rintro e w' ⟨rfl, hf⟩
  exact ⟨_, own, L, C, rfl, .inl ⟨rfl, rfl⟩, rfl, h.new hf, Ext.refl _ _, FrO.new hf⟩
 ·obtain ⟨L1, x, L2, rfl, rfl, rfl⟩ := by_some hat
  refine (netClose_hit w h hG hr').mono ?_
  rintro e w' ⟨v, own', C', rfl, hrow, hR, hE, hF⟩
  refine ⟨v, own', L1 ++ L2, C', rfl, ?_, ?_, hR.net, hE, hF⟩
  ·have : x.pl.l.map (Value.int .i64) = x.l.map connV64 := by simp [LB.pl, connV64, Function.comp_def]
   rw [this]
   exact hrow
  ·have h1 := hR.hangs
   rw [List.take_of_length_le (by simp)] at h1
   show (⟨(L1 ++ L2).map LB.pl, C'.map CB.pc⟩ : PN.Net) = ⟨PN.dropL ((L1 ++ x :: L2).map LB.pl) x.ref, PN.hangs (C.map CB.pc) (x.l.map (·.2))⟩
   rw [dropL_one h.refs, h1]
set_option maxHeartbeats 4000000
def FrK (K : Nat → Prop) (w w' : World) : Prop := ∃ S, Fr S w w' ∧ ∀ x ∈ S, x < w.heap.size → ¬ K x
section
variable {K : Nat → Prop} {a b c : World}
theorem FrK.new (h : Fr [] a b) : FrK K a b := ⟨[], h, fun x hx => by cases hx⟩
theorem FrK.refl : FrK K a a := FrK.new (Fr.refl _ _)
theorem FrK.size (h : FrK K a b) : a.heap.size ≤ b.heap.size := by
 obtain ⟨S, h1, _⟩ := h
 exact h1.size
theorem FrK.trans (h : FrK K a b) (k : FrK K b c) : FrK K a c := by
 obtain ⟨S, h1, h2⟩ := h
 obtain ⟨T, k1, k2⟩ := k
 refine ⟨S ++ T, (h1.mono (T := S ++ T) (fun x hx _ => List.mem_append_left _ hx)).trans k1 (fun x hx _ => List.mem_append_right _ hx), fun x hx hl => ?_⟩
 rcases List.mem_append.1 hx with hx | hx
 ·exact h2 x hx hl
 ·exact k2 x hx (Nat.lt_of_lt_of_le hl h1.size)
theorem FrK.step (h : FrK K a b) (k : Fr [] b c) : FrK K a c := h.trans (.new k)
theorem FrK.mono {K' : Nat → Prop} (h : FrK K a b) (hk : ∀ x, x < a.heap.size → K' x → K x) : FrK K' a b := by
 obtain ⟨S, h1, h2⟩ := h
 exact ⟨S, h1, fun x hx hl hk' => h2 x hx hl (hk x hl hk')⟩
theorem FrK.list (h : FrK K a b) : ∃ S, Fr S a b ∧ ∀ x, K x → x ∉ S := by
 obtain ⟨S, h1, h2⟩ := h
 refine ⟨S.filter (fun x => decide (x < a.heap.size)), h1.mono (fun x hx hl => List.mem_filter.2 ⟨hx, by simpa using hl⟩), fun x hk hx => ?_⟩
 obtain ⟨hx1, hx2⟩ := List.mem_filter.1 hx
 exact h2 x hx1 (of_decide_eq_true hx2) hk
theorem FrK.cell {p o : Nat} {v : Value} (h : FrK K a b) (hc : a.cell? ⟨p, o, none⟩ = some v) (hp : K p) : b.cell? ⟨p, o, none⟩ = some v := by
 obtain ⟨S, h1, h2⟩ := h.list
 exact h1.keep hc (h2 p hp)
theorem FrK.old {w0 : World} (h : Fr [] w0 a) (k : FrK K a b) (hK : ∀ z, z < w0.heap.size → K z) : Fr [] w0 b := by
 obtain ⟨S, h1, h2⟩ := k.list
 exact h.trans h1 (fun x hx hl => absurd hx (h2 x (hK x hl)))
end
def Live (K : Nat → Prop) (B : NB) (N : PN.Net) (G : Nat) (w : World) : Prop :=
 ∃ own L C, NetW w own B L C G ∧ plainN L C = N ∧ (∀ z, K z → z < w.heap.size ∧ own z = 4)
section
variable {K : Nat → Prop} {B : NB} {N : PN.Net} {G : Nat} {w w' : World}
theorem Live.new (h : Live K B N G w) (hf : Fr [] w w') : Live K B N G w' := by
 obtain ⟨own, L, C, h1, h2, h3⟩ := h
 exact ⟨own, L, C, h1.new hf, h2, fun z hz => ⟨Nat.lt_of_lt_of_le (h3 z hz).1 hf.size, (h3 z hz).2⟩⟩
theorem Live.keep {S : List Nat} (h : Live K B N G w) (hf : Fr S w w') (hS : ∀ x ∈ S, K x) : Live K B N G w' := by
 obtain ⟨own, L, C, h1, h2, h3⟩ := h
 exact ⟨own, L, C, h1.keep hf (fun z hz => by rw [(h3 z (hS z hz)).2]; unfold netO; omega), h2, fun z hz => ⟨Nat.lt_of_lt_of_le (h3 z hz).1 hf.size, (h3 z hz).2⟩⟩
theorem Live.less {K' : Nat → Prop} (h : Live K B N G w) (hk : ∀ z, K' z → K z) : Live K' B N G w := by
 obtain ⟨own, L, C, h1, h2, h3⟩ := h
 exact ⟨own, L, C, h1, h2, fun z hz => h3 z (hk z hz)⟩
theorem Live.mono {G' : Nat} (h : Live K B N G w) (hg : G ≤ G') : Live K B N G' w := by
 obtain ⟨own, L, C, h1, h2, h3⟩ := h
 exact ⟨own, L, C, h1.mono hg, h2, h3⟩
theorem Live.more (h : Live K B N G w) (hf : Fr [] w w') : Live (fun z => K z ∨ w.heap.size ≤ z ∧ z < w'.heap.size) B N G w' := by
 obtain ⟨own, L, C, h1, h2, h3⟩ := h
 refine ⟨ownNew w own 4, L, C, (h1.ext (Ext.new w own 4)).new hf, h2, fun z hz => ?_⟩
 rcases hz with hz | ⟨hz, hz'⟩
 ·obtain ⟨k1, k2⟩ := h3 z hz
  exact ⟨Nat.lt_of_lt_of_le k1 hf.size, (Ext.new w own 4 z k1).trans k2⟩
 ·exact ⟨hz', ownNew_ge hz⟩
def PN.findN (N : PN.Net) (s : ByteArray) (p : Int) : Int × Int :=
 match PN.at? N.L s p with
 | none => (0, 9)
 | some x => (x.ref, 0)
end
theorem ints_t (v v' : Value) (xs : List Int) (w : World) (h : IntRow w v xs) (h' : IntRow w v' xs) :
  Calls Tryz.prog 20 #[v, v'] w fun e w' => e = .returned (.bool true) ∧ Fr [] w w' := by
 by_cases hx : xs = []
 ·subst hx
  have e : ∀ u, IntRow w u [] → ∃ a c, u = .slice a 0 c := fun u hu => by
   rcases hu with ⟨_, a, c, rfl⟩ | ⟨g, off, cap, rfl, _, _⟩
   ·exact ⟨a, c, rfl⟩
   ·exact ⟨_, _, rfl⟩
  obtain ⟨a, c, rfl⟩ := e v h
  obtain ⟨a', c', rfl⟩ := e v' h'
  go_enter Tryz.func20, Tryz.ntmps20
  go_wp2
  refine wp_loop_rounds 1 ?_
  rw [rounds_succ]
  go_wp2
  go_ret
  exact ⟨rfl, Fr.refl _ _⟩
 ·rcases h with ⟨h0, _⟩ | ⟨g, off, cap, rfl, hm, hc⟩
  ·exact absurd h0 hx
  rcases h' with ⟨h0, _⟩ | ⟨g', off', cap', rfl, hm', hc'⟩
  ·exact absurd h0 hx
  obtain ⟨n, hn⟩ : ∃ n, xs.length = n := ⟨_, rfl⟩
  rw [hn] at hm hm' ⊢
  have HC := Lib.hid hc
  have HC' := Lib.hid hc'
  have HN := Lib.hid hn
  have hm2 : n ≤ 9223372036854775807 := by simp only [maxLen] at hm; omega
  clear hc hc' hx hn
  go_enter Tryz.func20, Tryz.ntmps20
  go_wp2
  go_loopw [5] (fun j w' => ∃ q : Nat, j = .int .i64 q ∧ q ≤ n ∧ Fr [] w w') (fun j _ => n - (intOf j).toNat)
  case atStart => exact ⟨0, rfl, by omega, Fr.refl _ _⟩
  case round =>
   rename_i wr
   obtain ⟨q, rfl, hq, fr⟩ := hrel
   by_cases hlt : q < n
   ·have hxq := List.getElem?_eq_getElem (l := xs) (i := q) (by rw [HN.out]; exact hlt)
    have hcq := HC.out q _ hxq
    have hcq' := HC'.out q _ hxq
    generalize xs[q]'(by rw [HN.out]; exact hlt) = y at hxq hcq hcq'
    clear hxq
    have k1 := fr.keep hcq (by simp)
    have k2 := fr.keep hcq' (by simp)
    go_wp2
    go_quiet (fail)
    go_wp2
    go_roundw
    case rel => exact ⟨q + 1, by go_num, by omega, fr.drewN _⟩
    case measure => simp [intOf]; omega
   ·go_wp2
    go_ret
    exact ⟨rfl, fr⟩
end Go.Proofs.YtgbmenfmaphciaaGreat
namespace Go.Proofs.YtgbmenfmaphciaaGreat
set_option linter.unusedVariables false
set_option linter.unusedSimpArgs false
set_option linter.unusedSectionVars false
open Go.RowKit
set_option linter.unusedVariables false
set_option linter.unusedSimpArgs false
set_option maxRecDepth 100000
set_option maxHeartbeats 8000000
section
variable {P : Program} {ops : Array Oper} {rest : List Oper} {o : Oper} {a : Act} {w : World} {Q : Exit → Act → World → Prop}
theorem wpList_want (hw : Region.wanted o (yielded ops a.tmps) = true) (h : ∀ K : Act → World → Prop, (∀ a w, wpList P ops Q rest a w → K a w) → o.wp P a w K Q) : wpList P ops Q (o :: rest) a w := by
 unfold wpList
 rw [if_pos hw]
 exact .inl (h _ (fun _ _ h => h))
end
theorem conv_bs {w : World} {s : Sli} {l : List UInt8} (h : Bs w s l) : (convert 93 9 (.slice s.1 s.2.1 s.2.2)).run Tryz.prog w = .ok (.string ⟨l.toArray⟩) w := by
 rcases h.2 with ⟨h0, a, c, he⟩ | ⟨g, off, c, he, hg, hc⟩
 ·simp only [slv, Value.slice.injEq] at he
  obtain ⟨h1, h2, h3⟩ := he
  obtain rfl : l = [] := List.eq_nil_of_length_eq_zero h0
  rw [h1, h2]
  cases a with
  | none => exact run_convert_bytes_nil w _ _ Tryz.underlying93 Tryz.underlying5 _ _ _ Tryz.underlying9
  | some ad => exact run_convert_bytes_back (P := Tryz.prog) w 93 9 5 ad _ [] Tryz.underlying93 Tryz.underlying5 Tryz.underlying9 (fun j hj => by simp at hj)
 ·simp only [slv, Value.slice.injEq] at he
  obtain ⟨h1, h2, h3⟩ := he
  rw [h1, h2]
  refine run_convert_bytes_back (P := Tryz.prog) w 93 9 5 ⟨g, off, none⟩ _ l Tryz.underlying93 Tryz.underlying5 Tryz.underlying9 (fun j hj => ?_)
  rw [Addr.add_lit]
  exact hc j _ (by simp [bsV, byteV, hj])
theorem sSame_t (x : SS) (b r b' r' : Sli) (w : World) (h1 : Bs w b x.buf) (h2 : Bs w r x.rest) (h3 : Bs w b' x.buf) (h4 : Bs w r' x.rest) :
  Calls Tryz.prog 104 #[.agg (stC x b r).toArray, .agg (stC x b' r').toArray] w fun e w' => e = .returned (.bool true) ∧ Fr [] w w' := by
 obtain ⟨B, hB⟩ : ∃ B, w.heap.size = B := ⟨_, rfl⟩
 obtain ⟨wA, hwA⟩ : ∃ z, (w.alloc (.cells (stC x b r).toArray 95)).alloc (.cells (stC x b' r').toArray 95) = z := ⟨_, rfl⟩
 have f2 := (Fr.refl [] (w.alloc (.cells (stC x b r).toArray 95))).alloc (.cells (stC x b' r').toArray 95)
 have hb0 : Blk wA B 95 (stC x b r) := by
  rw [← hwA, ← hB]
  exact (Blk.made w 95 (stC x b r)).keep f2 (by simp)
 have hb1 : Blk wA (B + 1) 95 (stC x b' r') := by
  have h := Blk.made (w.alloc (.cells (stC x b r).toArray 95)) 95 (stC x b' r')
  rw [show (w.alloc (.cells (stC x b r).toArray 95)).heap.size = B + 1 from by rw [← hB]; simp] at h
  rw [← hwA]
  exact h
 have hf : Fr [] w wA := by rw [← hwA]; exact ((Fr.refl [] w).alloc _).step f2
 have HF := Lib.hid hf
 have HBS := Lib.hid hB
 have HWA := Lib.hid hwA
 have v1 := conv_bs (h1.new hf)
 have v2 := conv_bs (h2.new hf)
 have v3 := conv_bs (h3.new hf)
 have v4 := conv_bs (h4.new hf)
 generalize (⟨x.buf.toArray⟩ : ByteArray) = S1 at v1 v3
 generalize (⟨x.rest.toArray⟩ : ByteArray) = S2 at v2 v4
 have c0 : wA.cell? ⟨B, 0, none⟩ = some (.int .i64 x.cap) := hb0.at 0 _ rfl
 have c1 : wA.cell? ⟨B, 1, none⟩ = some (.slice b.1 b.2.1 b.2.2) := hb0.at 1 _ rfl
 have c2 : wA.cell? ⟨B, 2, none⟩ = some (.bool x.busy) := hb0.at 2 _ rfl
 have c3 : wA.cell? ⟨B, 3, none⟩ = some (.slice r.1 r.2.1 r.2.2) := hb0.at 3 _ rfl
 have c4 : wA.cell? ⟨B, 4, none⟩ = some (.int .i64 x.acc) := hb0.at 4 _ rfl
 have c5 : wA.cell? ⟨B, 5, none⟩ = some (.int .i64 x.wr) := hb0.at 5 _ rfl
 have c6 : wA.cell? ⟨B, 6, none⟩ = some (.int .i64 x.rd) := hb0.at 6 _ rfl
 have d0 : wA.cell? ⟨B + 1, 0, none⟩ = some (.int .i64 x.cap) := hb1.at 0 _ rfl
 have d1 : wA.cell? ⟨B + 1, 1, none⟩ = some (.slice b'.1 b'.2.1 b'.2.2) := hb1.at 1 _ rfl
 have d2 : wA.cell? ⟨B + 1, 2, none⟩ = some (.bool x.busy) := hb1.at 2 _ rfl
 have d3 : wA.cell? ⟨B + 1, 3, none⟩ = some (.slice r'.1 r'.2.1 r'.2.2) := hb1.at 3 _ rfl
 have d4 : wA.cell? ⟨B + 1, 4, none⟩ = some (.int .i64 x.acc) := hb1.at 4 _ rfl
 have d5 : wA.cell? ⟨B + 1, 5, none⟩ = some (.int .i64 x.wr) := hb1.at 5 _ rfl
 have d6 : wA.cell? ⟨B + 1, 6, none⟩ = some (.int .i64 x.rd) := hb1.at 6 _ rfl
 clear hb0 hb1 hf hB hwA f2 h1 h2 h3 h4
 go_enter Tryz.func104, Tryz.ntmps104
 go_upto_region 1 with fail
 rw [HWA.out]
 simp only [HBS.out]
 go_wp2
 go_ret
 exact ⟨rfl, HF.out⟩
theorem eq92 (a0 a1 : Bool) (W : World) : (binOp .eql 97 (.agg #[.bool a0, .bool a1]) (.agg #[.bool a0, .bool a1])).run Tryz.prog W = .ok (.bool true) W := by
 cases a0 <;> cases a1 <;> kernel_rfl
theorem agg92 : ∀ w, (isAgg 97).run Tryz.prog w = .ok true w := fun w => by kernel_rfl
theorem size92 : ∀ w, (sizeOf 97).run Tryz.prog w = .ok 2 w := fun w => by kernel_rfl
theorem dSame_t (x : CC) (q q' : Q4) (w : World) (h1 : CnB w x q) (h2 : CnB w x q') :
  Calls Tryz.prog 69 #[.agg (cnC x q).toArray, .agg (cnC x q').toArray] w fun e w' => e = .returned (.bool true) ∧ Fr [] w w' := by
 obtain ⟨B, hB⟩ : ∃ B, w.heap.size = B := ⟨_, rfl⟩
 obtain ⟨wA, hwA⟩ : ∃ z, (w.alloc (.cells (cnC x q).toArray 99)).alloc (.cells (cnC x q').toArray 99) = z := ⟨_, rfl⟩
 have f2 := (Fr.refl [] (w.alloc (.cells (cnC x q).toArray 99))).alloc (.cells (cnC x q').toArray 99)
 have hb0 : Blk wA B 99 (cnC x q) := by
  rw [← hwA, ← hB]
  exact (Blk.made w 99 (cnC x q)).keep f2 (by simp)
 have hb1 : Blk wA (B + 1) 99 (cnC x q') := by
  have h := Blk.made (w.alloc (.cells (cnC x q).toArray 99)) 99 (cnC x q')
  rw [show (w.alloc (.cells (cnC x q).toArray 99)).heap.size = B + 1 from by rw [← hB]; simp] at h
  rw [← hwA]
  exact h
 have hf : Fr [] w wA := by rw [← hwA]; exact ((Fr.refl [] w).alloc _).step f2
 have HF := Lib.hid hf
 have HBS := Lib.hid hB
 have HWA := Lib.hid hwA
 have HB0 := Lib.hid hb0
 have HB1 := Lib.hid hb1
 have HQ := Lib.hid (h1.new hf)
 have HQ' := Lib.hid (h2.new hf)
 clear hb0 hb1 hf hB hwA f2 h1 h2
 go_enter Tryz.func69, Tryz.ntmps69
 go_upto_region 1 with fail
 rw [HWA.out]
 simp only [HBS.out]
 refine wp_region_lit ?_
 iterate 2 (refine wpList_plain rfl (fun K hK => ?_); go_simp; refine hK _ _ ?_; clear hK K)
 try simp only [Act.put, nrZ]
 refine ldZ (load_all agg90 size90 (xs := stC x.s0 q.b0 q.r0) rfl (show LiesAt wA B 0 (stC x.s0 q.b0 q.r0) from HB0.out.at.part (k := 0) (n := 7) rfl)) ?_
 iterate 2 (refine wpList_plain rfl (fun K hK => ?_); go_simp; refine hK _ _ ?_; clear hK K)
 try simp only [Act.put, nrZ]
 refine ldZ (load_all agg90 size90 (xs := stC x.s0 q'.b0 q'.r0) rfl (show LiesAt wA (B + 1) 0 (stC x.s0 q'.b0 q'.r0) from HB1.out.at.part (k := 0) (n := 7) rfl)) ?_
 refine wpList_plain rfl (fun K hK => ?_)
 go_simp
 refine (sSame_t x.s0 q.b0 q.r0 q'.b0 q'.r0 _ HQ.out.b0 HQ.out.r0 HQ'.out.b0 HQ'.out.r0).mono ?_
 rintro e w1 ⟨rfl, f1⟩
 refine hK _ _ ?_
 clear hK K
 try simp only [Act.put, nrZ]
 have HB01 := Lib.hid (HB0.out.keep f1 (by simp))
 have HB11 := Lib.hid (HB1.out.keep f1 (by simp))
 have HF1 := Lib.hid (HF.out.step f1)
 have HQ1 := Lib.hid (HQ.out.new f1)
 have HQ1' := Lib.hid (HQ'.out.new f1)
 clear f1 HB0 HB1 HF HQ HQ' 
 refine wpList_plain rfl (fun K hK => ?_); go_simp; refine hK _ _ ?_; clear hK K
 try simp only [Act.put, nrZ]
 refine wpList_want (by rfl) (fun K hK => ?_)
 go_simp
 refine hK _ _ ?_
 clear hK K
 refine wpList_want (by rfl) (fun K hK => ?_)
 go_simp
 refine hK _ _ ?_
 clear hK K
 try simp only [Act.put, nrZ]
 refine wpList_want (by rfl) (fun K hK => ?_)
 refine ldY (load_all agg90 size90 (xs := stC x.s1 q.b1 q.r1) rfl (show LiesAt w1 B 7 (stC x.s1 q.b1 q.r1) from HB01.out.at.part (k := 7) (n := 7) rfl)) ?_
 refine hK _ _ ?_
 clear hK K
 try simp only [Act.put, nrZ]
 refine wpList_want (by rfl) (fun K hK => ?_)
 go_simp
 refine hK _ _ ?_
 clear hK K
 refine wpList_want (by rfl) (fun K hK => ?_)
 go_simp
 refine hK _ _ ?_
 clear hK K
 try simp only [Act.put, nrZ]
 refine wpList_want (by rfl) (fun K hK => ?_)
 refine ldY (load_all agg90 size90 (xs := stC x.s1 q'.b1 q'.r1) rfl (show LiesAt w1 (B + 1) 7 (stC x.s1 q'.b1 q'.r1) from HB11.out.at.part (k := 7) (n := 7) rfl)) ?_
 refine hK _ _ ?_
 clear hK K
 try simp only [Act.put, nrZ]
 refine wpList_want (by rfl) (fun K hK => ?_)
 go_simp
 refine (sSame_t x.s1 q.b1 q.r1 q'.b1 q'.r1 _ HQ1.out.b1 HQ1.out.r1 HQ1'.out.b1 HQ1'.out.r1).mono ?_
 rintro e w2 ⟨rfl, f2⟩
 refine hK _ _ ?_
 clear hK K
 try simp only [Act.put, nrZ]
 have HB02 := Lib.hid (HB01.out.keep f2 (by simp))
 have HB12 := Lib.hid (HB11.out.keep f2 (by simp))
 have HF2 := Lib.hid (HF1.out.step f2)
 clear f2 HB01 HB11 HF1 HQ1 HQ1' 
 iterate 2 (refine wpList_plain rfl (fun K hK => ?_); go_simp; refine hK _ _ ?_; clear hK K)
 try simp only [Act.put, nrZ]
 refine wpList_want (by rfl) (fun K hK => ?_)
 go_simp
 refine hK _ _ ?_
 clear hK K
 try simp only [Act.put, nrZ]
 refine wpList_want (by rfl) (fun K hK => ?_)
 refine ldY (load_all agg92 size92 (xs := [.bool x.a0, .bool x.a1]) rfl (show LiesAt w2 B 14 [.bool x.a0, .bool x.a1] from HB02.out.at.part (k := 14) (n := 2) rfl)) ?_
 refine hK _ _ ?_
 clear hK K
 try simp only [Act.put, nrZ]
 refine wpList_want (by rfl) (fun K hK => ?_)
 go_simp
 refine hK _ _ ?_
 clear hK K
 try simp only [Act.put, nrZ]
 refine wpList_want (by rfl) (fun K hK => ?_)
 refine ldY (load_all agg92 size92 (xs := [.bool x.a0, .bool x.a1]) rfl (show LiesAt w2 (B + 1) 14 [.bool x.a0, .bool x.a1] from HB12.out.at.part (k := 14) (n := 2) rfl)) ?_
 refine hK _ _ ?_
 clear hK K
 try simp only [Act.put, nrZ]
 refine wpList_want (by rfl) (fun K hK => ?_)
 refine wp_vl (v := .bool true) (w' := w2) ?_ ?_
 ·show Sem.run Tryz.prog ((binOp .eql 97 (.agg #[.bool x.a0, .bool x.a1]) (.agg #[.bool x.a0, .bool x.a1])) >>= fun x => pure (Next.value x)) w2 = _
  rw [Sem.run_bind, eq92]
  rfl
 refine hK _ _ ?_
 clear hK K
 try simp only [Act.put, nrZ]
 iterate 2 (refine wpList_plain rfl (fun K hK => ?_); go_simp; refine hK _ _ ?_; clear hK K)
 refine wpList_nil ?_
 try simp only [Act.put, nrZ]
 go_wp2
 go_ret
 exact ⟨rfl, HF2.out⟩
theorem conns_t (v v' : Value) (C : List PG) (w : World) (h : CRow w v C) (h' : CRow w v' C) (hn : C.length ≤ 1000) :
  Calls Tryz.prog 27 #[v, v'] w fun e w' => e = .returned (.bool true) ∧ Fr [] w w' := by
 obtain ⟨a, c, rfl⟩ := h.val
 obtain ⟨a', c', rfl⟩ := h'.val
 obtain ⟨n, hnl⟩ : ∃ n, C.length = n := ⟨_, rfl⟩
 have HN := Lib.hid hnl
 rw [hnl] at h h' hn ⊢
 have HR := Lib.hid h
 have HR' := Lib.hid h'
 clear h h' hnl
 have hnn : ((n : Int) == (n : Int)) = true := by simp
 go_enter Tryz.func27, Tryz.ntmps27
 go_wp2
 go_loopw [5] (fun i wr => ∃ (wz : World) (q : Nat), wz = wr ∧ i = .int .i64 q ∧ q ≤ n ∧ Fr [] w wr) (fun i _ => n - (intOf i).toNat)
 case atStart => exact ⟨_, 0, rfl, rfl, by omega, Fr.refl _ _⟩
 case round =>
  obtain ⟨wr, q, hwz, rfl, hq, fr⟩ := hrel
  subst hwz
  have FR := Lib.hid fr
  clear fr
  by_cases hlt : q < n
  ·skip
   have hlt' : (q : Int) < (n : Int) := by omega
   have hq0 : (0 : Int) ≤ (q : Int) := by omega
   have hy := List.getElem?_eq_getElem (l := C) (i := q) (by rw [HN.out]; exact hlt)
   obtain ⟨y, hye⟩ : ∃ y, C[q]'(by rw [HN.out]; exact hlt) = y := ⟨_, rfl⟩
   rw [hye] at hy
   obtain ⟨w0, hw0⟩ : ∃ z, wr.drew = z := ⟨_, rfl⟩
   have f0 : Fr [] wr w0 := by rw [← hw0]; exact (Fr.refl [] wr).drew
   have HF0 := Lib.hid (FR.out.step f0)
   have HW0 := Lib.hid hw0
   clear hw0 f0
   obtain ⟨g, off, cap, X, hv, hg, hX, hl, q1, rfl, hrow⟩ := HR.out.lies hy
   obtain ⟨g', off', cap', X', hv', hg', hX', hl', q2, rfl, hrow'⟩ := HR'.out.lies hy
   rw [HN.out] at hv hv'
   simp only [Value.slice.injEq] at hv hv'
   obtain ⟨rfl, _, rfl⟩ := hv
   obtain ⟨rfl, _, rfl⟩ := hv'
   have HC0 := Lib.hid (show w0.cell? ⟨g, off + q * 17, none⟩ = some (.int .i64 y.ref) from HF0.out.keep (hl 0 _ rfl) (by simp))
   have HC0' := Lib.hid (show w0.cell? ⟨g', off' + q * 17, none⟩ = some (.int .i64 y.ref) from HF0.out.keep (hl' 0 _ rfl) (by simp))
   have HL1 := Lib.hid (show LiesAt w0 g (off + q * 17 + 1) (cnC y.c q1) from fun j u hj => by
    have := hl (j + 1) u (by simpa [pgC] using hj)
    rw [show off + q * 17 + (j + 1) = off + q * 17 + 1 + j from by omega] at this
    exact HF0.out.keep this (by simp))
   have HL2 := Lib.hid (show LiesAt w0 g' (off' + q * 17 + 1) (cnC y.c q2) from fun j u hj => by
    have := hl' (j + 1) u (by simpa [pgC] using hj)
    rw [show off' + q * 17 + (j + 1) = off' + q * 17 + 1 + j from by omega] at this
    exact HF0.out.keep this (by simp))
   have HB1 := Lib.hid (hrow.new HF0.out)
   have HB2 := Lib.hid (hrow'.new HF0.out)
   clear hy hye hl hl' hrow hrow' hg hg' hX hX'
   have hre : ((y.ref : Int) == (y.ref : Int)) = true := by simp
   go_upto_region 6 with fail
   refine wp_region_held_drew (S := fun w' => w'.cell? ⟨g, off + q * 17, none⟩ = some (.int .i64 y.ref) ∧ w'.cell? ⟨g', off' + q * 17, none⟩ = some (.int .i64 y.ref) ∧ LiesAt w' g (off + q * 17 + 1) (cnC y.c q1) ∧ LiesAt w' g' (off' + q * 17 + 1) (cnC y.c q2)) (by kernel_rfl) (by rw [HW0.out]; exact ⟨HC0.out, HC0'.out, HL1.out, HL2.out⟩) (fun hHeld => ?_)
   rw [HW0.out] at hHeld ⊢
   refine tkZ 0 ?_
   refine tkZ 1 ?_
   refine tkZ 2 ?_
   refine tkZ 3 ?_
   refine tkZ 4 ?_
   refine tkZ 5 ?_
   refine tkZ 6 ?_
   refine tkZ 7 ?_
   refine tkZ 8 ?_
   refine tkZ 9 ?_
   refine tkZ 10 ?_
   refine tkZ 11 ?_
   refine tkZ 12 ?_
   refine tkZ 13 ?_
   refine tkZ 14 ?_
   refine tkZ 15 ?_
   refine tvZ 16 _ rfl (fun w hSw => ldX (load_all agg94 size94 (xs := cnC y.c q1) rfl hSw.2.2.1)) ?_
   refine tkZ 17 ?_
   refine tkZ 18 ?_
   refine tkZ 19 ?_
   refine tkZ 20 ?_
   refine tvZ 21 _ rfl (fun w hSw => ldX (load_all agg94 size94 (xs := cnC y.c q2) rfl hSw.2.2.2)) ?_
   refine rdZ 22 (fun K hK => ?_)
   go_simp
   refine (dSame_t y.c q1 q2 _ HB1.out HB2.out).mono ?_
   rintro e w1 ⟨rfl, f1⟩
   have HF1 := Lib.hid (HF0.out.step f1)
   have HS1 := Lib.hid (show _ ∧ _ ∧ _ ∧ _ from ⟨f1.keep HC0.out (by simp), f1.keep HC0'.out (by simp), HL1.out.keep f1 (by simp), HL2.out.keep f1 (by simp)⟩)
   clear f1
   refine hK.out _ _ (HS1.out) (fun hHeld => ?_)
   clear hK K
   try simp only [Act.put, nrZ]
   refine tkZ 23 ?_
   refine tkZ 24 ?_
   refine wpAnyH_done (by kernel_rfl) ?_ _
   clear hHeld HS1 HC0 HC0' HL1 HL2 HB1 HB2 HW0 HF0
   go_wp2
   go_roundw
   case rel => exact ⟨_, q + 1, rfl, by go_num, by omega, HF1.out⟩
   case measure => simp [intOf]; omega
  ·skip
   obtain rfl : q = n := by omega
   go_wp2
   go_ret
   exact ⟨rfl, FR.out⟩
theorem neAdr (s : ByteArray) (p : Int) (w : World) : (binOp .neq 36 (.agg #[.string s, .int .i64 p]) (.agg #[.string s, .int .i64 p])).run Tryz.prog w = .ok (.bool false) w := by
 have h := eqAdrRaw s s p p w
 rw [decide_eq_true (And.intro rfl rfl)] at h
 rw [run_neq_struct, h]
 rfl
theorem agg28 : ∀ w, (isAgg 36).run Tryz.prog w = .ok true w := fun w => by kernel_rfl
theorem size28 : ∀ w, (sizeOf 36).run Tryz.prog w = .ok 2 w := fun w => by kernel_rfl
theorem listeners_t (v v' : Value) (C : List PN.PL) (w : World) (h : LRow w v C) (h' : LRow w v' C) (hn : C.length ≤ 1000) (hq : ∀ x ∈ C, x.l.length ≤ 100000) :
  Calls Tryz.prog 25 #[v, v'] w fun e w' => e = .returned (.bool true) ∧ Fr [] w w' := by
 obtain ⟨a, c, rfl⟩ := h.val
 obtain ⟨a', c', rfl⟩ := h'.val
 obtain ⟨n, hnl⟩ : ∃ n, C.length = n := ⟨_, rfl⟩
 have HN := Lib.hid hnl
 have HQ := Lib.hid hq
 rw [hnl] at h h' hn ⊢
 have HR := Lib.hid h
 have HR' := Lib.hid h'
 clear h h' hnl hq
 have hnn : ((n : Int) == (n : Int)) = true := by simp
 go_enter Tryz.func25, Tryz.ntmps25
 go_wp2
 go_loopw [5] (fun i wr => ∃ (wz : World) (q : Nat), wz = wr ∧ i = .int .i64 q ∧ q ≤ n ∧ Fr [] w wr) (fun i _ => n - (intOf i).toNat)
 case atStart => exact ⟨_, 0, rfl, rfl, by omega, Fr.refl _ _⟩
 case round =>
  obtain ⟨wr, q, hwz, rfl, hq, fr⟩ := hrel
  subst hwz
  have FR := Lib.hid fr
  clear fr
  by_cases hlt : q < n
  ·skip
   have hlt' : (q : Int) < (n : Int) := by omega
   have hq0 : (0 : Int) ≤ (q : Int) := by omega
   have hy := List.getElem?_eq_getElem (l := C) (i := q) (by rw [HN.out]; exact hlt)
   obtain ⟨y, hye⟩ : ∃ y, C[q]'(by rw [HN.out]; exact hlt) = y := ⟨_, rfl⟩
   rw [hye] at hy
   obtain ⟨w0, hw0⟩ : ∃ z, wr.drew = z := ⟨_, rfl⟩
   have f0 : Fr [] wr w0 := by rw [← hw0]; exact (Fr.refl [] wr).drew
   have HF0 := Lib.hid (FR.out.step f0)
   have HW0 := Lib.hid hw0
   clear hw0 f0
   obtain ⟨g, off, cap, X, hv, hg, hX, hl, q1, rfl, hrow⟩ := HR.out.lies hy
   obtain ⟨g', off', cap', X', hv', hg', hX', hl', q2, rfl, hrow'⟩ := HR'.out.lies hy
   rw [HN.out] at hv hv'
   simp only [Value.slice.injEq] at hv hv'
   obtain ⟨rfl, _, rfl⟩ := hv
   obtain ⟨rfl, _, rfl⟩ := hv'
   have hS : ∀ W, Fr [] w W → (fun w' => w'.cell? ⟨g, off + q * 5, none⟩ = some (.int .i64 y.ref) ∧ w'.cell? ⟨g', off' + q * 5, none⟩ = some (.int .i64 y.ref) ∧ LiesAt w' g (off + q * 5 + 1) [.string y.s, .int .i64 y.p] ∧ LiesAt w' g' (off' + q * 5 + 1) [.string y.s, .int .i64 y.p] ∧ w'.cell? ⟨g, off + q * 5 + 3, none⟩ = some (.int .i64 y.most) ∧ w'.cell? ⟨g', off' + q * 5 + 3, none⟩ = some (.int .i64 y.most) ∧ w'.cell? ⟨g, off + q * 5 + 4, none⟩ = some (.slice q1.1 q1.2.1 q1.2.2) ∧ w'.cell? ⟨g', off' + q * 5 + 4, none⟩ = some (.slice q2.1 q2.2.1 q2.2.2)) W := fun W f => ⟨f.keep (hl 0 _ rfl) (by simp), f.keep (hl' 0 _ rfl) (by simp), (show LiesAt w g (off + q * 5 + 1) [.string y.s, .int .i64 y.p] from hl.part (k := 1) (n := 2) rfl).keep f (by simp), (show LiesAt w g' (off' + q * 5 + 1) [.string y.s, .int .i64 y.p] from hl'.part (k := 1) (n := 2) rfl).keep f (by simp), f.keep (hl 3 _ rfl) (by simp), f.keep (hl' 3 _ rfl) (by simp), f.keep (hl 4 _ rfl) (by simp), f.keep (hl' 4 _ rfl) (by simp)⟩
   have HSS := Lib.hid hS
   have HQY := Lib.hid (HQ.out y (List.mem_of_getElem? hy))
   have HB1 := Lib.hid (IntRow.ofV (hrow.new HF0.out) HQY.out)
   have HB2 := Lib.hid (IntRow.ofV (hrow'.new HF0.out) HQY.out)
   clear hy hye hl hl' hrow hrow' hg hg' hX hX' hS
   have hre : ((y.ref : Int) == (y.ref : Int)) = true := by simp
   have hmo : (y.most == y.most) = true := by simp
   have hne := fun W => neAdr y.s y.p W
   have hraw : ∀ W, (Op.equalIn 10000 36 (.agg #[.string y.s, .int .i64 y.p]) (.agg #[.string y.s, .int .i64 y.p])).run Tryz.prog W = .ok true W := fun W => by
    have h := eqAdrRaw y.s y.s y.p y.p W
    rwa [decide_eq_true (And.intro rfl rfl)] at h
   go_upto_region 6 with fail
   refine wp_region_held_drew (S := fun w' => w'.cell? ⟨g, off + q * 5, none⟩ = some (.int .i64 y.ref) ∧ w'.cell? ⟨g', off' + q * 5, none⟩ = some (.int .i64 y.ref) ∧ LiesAt w' g (off + q * 5 + 1) [.string y.s, .int .i64 y.p] ∧ LiesAt w' g' (off' + q * 5 + 1) [.string y.s, .int .i64 y.p] ∧ w'.cell? ⟨g, off + q * 5 + 3, none⟩ = some (.int .i64 y.most) ∧ w'.cell? ⟨g', off' + q * 5 + 3, none⟩ = some (.int .i64 y.most) ∧ w'.cell? ⟨g, off + q * 5 + 4, none⟩ = some (.slice q1.1 q1.2.1 q1.2.2) ∧ w'.cell? ⟨g', off' + q * 5 + 4, none⟩ = some (.slice q2.1 q2.2.1 q2.2.2)) (by kernel_rfl) (by rw [HW0.out]; exact HSS.out _ HF0.out) (fun hHeld => ?_)
   rw [HW0.out] at hHeld ⊢
   refine tkZ 0 ?_
   refine tkZ 1 ?_
   refine tkZ 2 ?_
   refine tkZ 3 ?_
   refine tkZ 4 ?_
   refine tkZ 5 ?_
   refine tkZ 6 ?_
   refine tkZ 7 ?_
   refine tkZ 8 ?_
   refine tkZ 9 ?_
   refine tkZ 10 ?_
   refine tkZ 11 ?_
   refine tkZ 12 ?_
   refine tkZ 13 ?_
   refine tkZ 14 ?_
   refine tkZ 15 ?_
   refine tkZ 16 ?_
   refine tvZ 17 _ rfl (fun w hSw => ldX (load_all agg28 size28 (xs := [.string y.s, .int .i64 y.p]) rfl hSw.2.2.1)) ?_
   refine tkZ 18 ?_
   refine tkZ 19 ?_
   refine tkZ 20 ?_
   refine tkZ 21 ?_
   refine tkZ 22 ?_
   refine tvZ 23 _ rfl (fun w hSw => ldX (load_all agg28 size28 (xs := [.string y.s, .int .i64 y.p]) rfl hSw.2.2.2.1)) ?_
   refine tvZ 24 (.bool false) rfl ?_ ?_
   ·intro w hSw
    try dsimp only at hSw
    go_simp
   try simp only [Act.put, nrZ]
   refine tkZ 25 ?_
   refine tkZ 26 ?_
   refine tkZ 27 ?_
   refine tkZ 28 ?_
   refine tkZ 29 ?_
   refine tkZ 30 ?_
   refine tkZ 31 ?_
   refine tkZ 32 ?_
   refine tkZ 33 ?_
   refine tkZ 34 ?_
   refine tkZ 35 ?_
   refine tkZ 36 ?_
   refine tkZ 37 ?_
   refine tkZ 38 ?_
   refine tkZ 39 ?_
   refine tkZ 40 ?_
   refine tkZ 41 ?_
   refine tkZ 42 ?_
   refine tkZ 43 ?_
   refine tkZ 44 ?_
   refine tkZ 45 ?_
   refine tkZ 46 ?_
   refine tkZ 47 ?_
   refine tkZ 48 ?_
   refine tkZ 49 ?_
   refine tkZ 50 ?_
   refine tkZ 51 ?_
   refine tkZ 52 ?_
   refine tkZ 53 ?_
   refine rdZ 54 (fun K hK => ?_)
   go_simp
   refine (ints_t _ _ y.l _ HB1.out HB2.out).mono ?_
   rintro e w1 ⟨rfl, f1⟩
   have HF1 := Lib.hid (HF0.out.step f1)
   clear f1
   refine hK.out _ _ (HSS.out _ HF1.out) (fun hHeld => ?_)
   clear hK K
   try simp only [Act.put, nrZ]
   refine tkZ 55 ?_
   refine tkZ 56 ?_
   refine wpAnyH_done (by kernel_rfl) ?_ _
   clear hHeld HSS HB1 HB2 HW0 HF0 HQY
   go_wp2
   go_roundw
   case rel => exact ⟨_, q + 1, rfl, by go_num, by omega, HF1.out⟩
   case measure => simp [intOf]; omega
  ·skip
   obtain rfl : q = n := by omega
   go_wp2
   go_ret
   exact ⟨rfl, FR.out⟩
end Go.Proofs.YtgbmenfmaphciaaGreat
namespace Go.Proofs.YtgbmenfmaphciaaGreat
set_option linter.unusedVariables false
set_option linter.unusedSimpArgs false
set_option linter.unusedSectionVars false
open Go.RowKit
open Go.Maps (Keyed)
set_option linter.unusedVariables false
set_option maxRecDepth 100000
set_option maxHeartbeats 8000000
theorem IntRow.of {w : World} {lo n : Nat} {v : Value} {l : List (Nat × Int)} (h : w.ownsRow lo 3 1 v n (l.map connV64)) (hl : l.length ≤ maxLen) : IntRow w v (l.map (·.2)) := by
 rcases RowOf.of h with ⟨h1, rfl⟩ | ⟨g, cap, rfl, h2, h3, h4⟩
 ·exact .inl ⟨by simpa using h1, _, _, rfl⟩
 ·refine .inr ⟨g, 0, cap, by simp, by simpa using hl, fun i x hx => ?_⟩
  rw [Nat.zero_add]
  refine h4 i _ ?_
  rw [List.getElem?_map] at hx ⊢
  obtain ⟨y, hy, rfl⟩ := Option.map_eq_some_iff.1 hx
  rw [hy]
  rfl
def NoK (L : List LB) (done : List (Value × Value)) (k : Int) : Prop := ∀ x ∈ L, x.ent ∈ done → k ∉ x.l.map (·.2)
theorem ent_inj {L : List LB} (hr : (L.map (·.ref)).Nodup) {x y : LB} (hx : x ∈ L) (hy : y ∈ L) (h : x.ent = y.ent) : x = y := by
 have e : x.ref = y.ref := by
  simp only [LB.ent, Prod.mk.injEq] at h
  exact i64_inj h.1
 obtain ⟨L1, L2, rfl⟩ := List.append_of_mem hx
 obtain ⟨h1, h2⟩ := map_one hr
 rcases List.mem_append.1 hy with hy | hy
 ·exact absurd e.symm (h1 y hy)
 ·rcases List.mem_cons.1 hy with rfl | hy
  ·rfl
  ·exact absurd e.symm (h2 y hy)
theorem netWaits_w {own : Nat → Nat} {B : NB} {L : List LB} {C : List CB} {G : Nat} (k : Int) (w : World) (h : NetW w own B L C G) (hG : G < 4611686018427387904) :
  Calls Tryz.prog 61 #[.pointer (some ⟨B.n, 0, none⟩), .int .i64 k] w fun e w' => e = .returned (.bool (decide (k ∈ qs L))) ∧ Fr [] w w' := by
 have c1 := h.net.c1
 have hM := h.net.ls
 have HH := Lib.hid h
 clear h
 obtain ⟨f, hf⟩ : ∃ f, L.map LB.ent = f := ⟨_, rfl⟩
 rw [hf] at hM
 have HF := Lib.hid hf
 clear hf
 go_enter Tryz.func61, Tryz.ntmps61
 go_wp2_with (first
  | (at_range; refine wpList_range_l _ rfl _ 88 rfl 130 Tryz.underlying88 rfl hM ?_; intro w0 hrg0 hg0 hs0)
  | go_in)
 go_frame
 have HRG0 := Lib.hid hrg0
 clear hrg0 hM
 go_loopw [6] (fun _ wr => ∃ done, RangeL Tryz.prog 3 wr B.lm w.heap.size f done ∧ NoK L done k ∧ Fr [] w wr) (fun _ wr => wr.rangeLeft B.lm w.heap.size)
 case atStart => exact ⟨[], HRG0.out, (fun x _ hx => absurd hx List.not_mem_nil), hg0⟩
 case round =>
  obtain ⟨done, hrg, hno, fr⟩ := hrel
  have HNO := Lib.hid hno
  have FR := Lib.hid fr
  clear hno fr
  go_wp2_with (first
   | (at_next; refine wpList_next_l _ rfl _ rfl rfl hrg ?_ ?_)
   | go_in)
  ·intro hall
   have HA := Lib.hid hall
   clear hall
   go_wp2
   go_ret
   refine ⟨?_, FR.out⟩
   have : k ∉ qs L := fun hk => by
    obtain ⟨x, hx, hkx⟩ := List.mem_flatMap.1 hk
    exact HNO.out x hx (HA.out _ _ (by rw [← HF.out]; exact List.mem_map.2 ⟨x, hx, rfl⟩)) hkx
   simp [this]
  ·intro kk vv w1 hin hnd hrg1 hf1 hs1 hlt hen
   rw [← HF.out] at hin
   obtain ⟨x, hx, he⟩ := List.mem_map.1 hin
   have he' := he
   simp only [LB.ent, Prod.mk.injEq] at he
   obtain ⟨rfl, rfl⟩ := he
   have F1 : Fr [] w w1 := FR.out.trans hf1 (fun z hz hl => by simp at hz; omega)
   have hq := (HH.out.ls x hx).back.keep (F1.alloc (.cells #[.pointer (some ⟨x.b, 0, none⟩), .string x.s, .int .i64 x.p] 130)) (by simp) (by simp) (by simp) (by simp)
   have HQ := Lib.hid hq
   have HEN := Lib.hid (And.intro hin (And.intro hnd (And.intro hx he')))
   have HL := Lib.hid (HH.out.ls x hx)
   have xg := (HH.out.ls x hx).g
   have xl : x.l.length ≤ 128 := by have := (HH.out.ls x hx).len; have := (HH.out.ls x hx).most; omega
   clear hq hin hnd hx he'
   unfold qV at hrg1 hen ⊢
   go_wp2_with (first
    | (go_at_call 68; refine (waiting_any x.b x.q x.m x.t x.most false x.l x.g (by omega) _ HQ.out (by omega)).mono ?_; rintro e w2 ⟨v, rfl, hv, f2⟩)
    | (go_at_call 98; refine (sliceContains_any k v _ _ (IntRow.of hv (by unfold maxLen; omega))).mono ?_; rintro e w' ⟨rfl, rfl⟩)
    | go_in)
   ·go_ret
    obtain ⟨_, _, hx, he'⟩ := HEN.out
    refine ⟨?_, (F1.alloc _).step f2⟩
    have hk : k ∈ x.l.map (·.2) := by first | assumption | exact of_decide_eq_true (by assumption) | simpa using ‹∃ _, _›
    have : k ∈ qs L := List.mem_flatMap.2 ⟨x, hx, hk⟩
    simp [this]
   ·obtain ⟨_, _, hx, he'⟩ := HEN.out
    have hk : k ∉ x.l.map (·.2) := by first | assumption | exact of_decide_eq_false (by assumption)
    have hno' : NoK L (x.ent :: done) k := fun y hy hm => by
     rcases List.mem_cons.1 hm with hm | hm
     ·rw [ent_inj HH.out.refs hy hx hm]
      exact hk
     ·exact HNO.out y hy hm
    have F2 : Fr [] w w2 := (F1.alloc _).step f2
    have hg2 : Fr [] w1 w2 := ((Fr.refl [] w1).alloc _).step f2
    have hrg2 := hrg1.keep hg2 (by simp) (by simp)
    have hle : w2.rangeLeft B.lm w.heap.size < wr.rangeLeft B.lm w.heap.size := by
     have e : w2.rangeLeft B.lm w.heap.size = w1.rangeLeft B.lm w.heap.size := by
      unfold World.rangeLeft
      rw [hg2.block _ hrg1.map.lt (by simp), hg2.block _ hrg1.lt (by simp)]
     omega
    go_roundw
    case rel => exact ⟨_, hrg2, hno', F2⟩
    case measure => exact hle
set_option maxHeartbeats 4000000
namespace PN
set_option linter.unusedVariables false
set_option linter.unusedSimpArgs false
set_option linter.unusedSectionVars false
def byC (C : List PC) (k : Int) : Option PC := C.find? (fun y => decide ((y.ref : Int) = k))
def waitsOf (L : List PL) : List Int := L.flatMap (·.l)
def hangN (N : Net) (k en : Int) : Net × Int :=
 if en ≠ 0 ∧ en ≠ 1 then (N, 2)
 else match byC N.C k with
  | none => (N, 9)
  | some y =>
   if en = 1 ∧ k ∈ waitsOf N.L then (N, 8)
   else if (if en = 1 then y.a1 else y.a0) = true then (N, 14)
   else ({ N with C := hang N.C k (decide (en = 1)) }, 0)
end PN
theorem waitsOf_qs (L : List LB) : PN.waitsOf (L.map LB.pl) = qs L := by
 unfold PN.waitsOf qs
 rw [List.flatMap_map]
 rfl
theorem byC_none {C : List CB} {r : Int} (h : PN.byC (C.map CB.pc) r = none) : ∀ x ∈ C.map CB.ent, x.1 ≠ .int .i64 r := by
 intro x hx he
 obtain ⟨y, hy, rfl⟩ := List.mem_map.1 hx
 have := List.find?_eq_none.1 h y.pc (List.mem_map.2 ⟨y, hy, rfl⟩)
 simp only [CB.ent, Value.int.injEq, true_and] at he
 simp [CB.pc, he] at this
theorem byC_some {C : List CB} {r : Int} {z : PN.PC} (h : PN.byC (C.map CB.pc) r = some z) : ∃ C1 y C2, C = C1 ++ y :: C2 ∧ z = y.pc ∧ (y.ref : Int) = r := by
 unfold PN.byC at h
 rw [List.find?_map, Option.map_eq_some_iff] at h
 obtain ⟨x, hx, rfl⟩ := h
 obtain ⟨h1, L1, L2, h2, _⟩ := List.find?_eq_some_iff_append.1 hx
 simp only [Function.comp, decide_eq_true_eq] at h1
 exact ⟨L1, x, L2, h2, rfl, h1⟩
section
variable {own : Nat → Nat} {B : NB} {L : List LB} {C : List CB} {G : Nat} (w : World)
theorem netHang_at {C1 C2 : List CB} {y : CB} {en v : Int} {R : World → Prop} (h : NetW w own B L (C1 ++ y :: C2) G) (hG : G < 4611686018427387904) (he : en = 0 ∨ en = 1 ∧ (y.ref : Int) ∉ qs L)
  (hH : ∀ W, Fr [] w W → Calls Tryz.prog 56 #[.pointer (some ⟨B.n, 0, none⟩), .int .i64 y.ref, .int .i64 en] W fun e w' => e = .returned (.int .i64 v) ∧ R w') :
  Calls Tryz.prog 22 #[.pointer (some ⟨B.n, 0, none⟩), .int .i64 y.ref, .int .i64 en] w fun e w' => e = .returned (.int .i64 v) ∧ R w' := by
 have c2 := h.net.c2
 have HN := Lib.hid (netNone_any _ h.net)
 have hlk := h.net.cs.hit keyInt (t := 90) (e := 103) Tryz.underlying90 (x := .int .i64 y.ref) (v := .pointer (some ⟨y.d, 0, none⟩)) (List.mem_map.2 ⟨y, by simp, rfl⟩) true
 simp only [if_true] at hlk
 have HW := Lib.hid (fun W (hf : Fr [] w W) => netWaits_w (y.ref : Int) W (h.new hf) hG)
 have HH := Lib.hid hH
 clear h hH
 rcases he with rfl | ⟨rfl, hq⟩
 ·go_enter Tryz.func22, Tryz.ntmps22
  go_wp2_with (first
   | (go_at_call 49; refine HN.out.mono ?_; rintro e w' ⟨rfl, rfl⟩)
   | (go_at_call 56; refine (HH.out _ (by first | exact Fr.refl _ _ | exact (Fr.refl [] _).alloc _)).mono ?_; rintro e w1 ⟨rfl, r1⟩))
  go_ret
  exact ⟨rfl, r1⟩
 ·have hd : decide ((y.ref : Int) ∈ qs L) = false := decide_eq_false hq
  have HD := Lib.hid hd
  clear hd hq
  go_enter Tryz.func22, Tryz.ntmps22
  go_wp2_with (first
   | (go_at_call 49; refine HN.out.mono ?_; rintro e w' ⟨rfl, rfl⟩)
   | (go_at_call 61; refine (HW.out _ (by first | exact Fr.refl _ _ | exact (Fr.refl [] _).alloc _)).mono ?_; rintro e w2 ⟨rfl, f2⟩; rw [HD.out])
   | (go_at_call 56; refine (HH.out _ (by first | exact f2 | exact ((Fr.refl [] _).alloc _).step f2)).mono ?_; rintro e w1 ⟨rfl, r1⟩))
  go_ret
  exact ⟨rfl, r1⟩
theorem netHang_busy {C1 C2 : List CB} {y : CB} (h : NetW w own B L (C1 ++ y :: C2) G) (hG : G < 4611686018427387904) (hq : (y.ref : Int) ∈ qs L) :
  Calls Tryz.prog 22 #[.pointer (some ⟨B.n, 0, none⟩), .int .i64 y.ref, .int .i64 1] w fun e w' => e = .returned (.int .i64 8) ∧ Fr [] w w' := by
 have c2 := h.net.c2
 have HN := Lib.hid (netNone_any _ h.net)
 have hlk := h.net.cs.hit keyInt (t := 90) (e := 103) Tryz.underlying90 (x := .int .i64 y.ref) (v := .pointer (some ⟨y.d, 0, none⟩)) (List.mem_map.2 ⟨y, by simp, rfl⟩) true
 simp only [if_true] at hlk
 have HW := Lib.hid (fun W (hf : Fr [] w W) => netWaits_w (y.ref : Int) W (h.new hf) hG)
 have HD := Lib.hid (decide_eq_true hq)
 clear h hq
 go_enter Tryz.func22, Tryz.ntmps22
 go_wp2_with (first
  | (go_at_call 49; refine HN.out.mono ?_; rintro e w' ⟨rfl, rfl⟩)
  | (go_at_call 61; refine (HW.out _ (by first | exact Fr.refl _ _ | exact (Fr.refl [] _).alloc _)).mono ?_; rintro e w2 ⟨rfl, f2⟩; rw [HD.out]))
 go_ret
 exact ⟨rfl, by first | exact f2 | exact ((Fr.refl [] _).alloc _).step f2⟩
theorem netHang_miss (k en : Int) (h : NetW w own B L C G) (he : en = 0 ∨ en = 1) (hk : -9223372036854775808 ≤ k) (hk' : k ≤ 9223372036854775807) (hx : ∀ x ∈ C.map CB.ent, x.1 ≠ .int .i64 k) :
  Calls Tryz.prog 22 #[.pointer (some ⟨B.n, 0, none⟩), .int .i64 k, .int .i64 en] w fun e w' => e = .returned (.int .i64 9) ∧ Fr [] w w' := by
 have c2 := h.net.c2
 have HN := Lib.hid (netNone_any _ h.net)
 have hlk := h.net.cs.miss keyInt (t := 90) (e := 103) Tryz.underlying90 (keyInt_of k hk hk') hx (zeroD _) true
 simp only [if_true] at hlk
 clear h hx
 rcases he with rfl | rfl
 all_goals
  go_enter Tryz.func22, Tryz.ntmps22
  go_wp2_with (go_at_call 49; refine HN.out.mono ?_; rintro e w' ⟨rfl, rfl⟩)
  go_ret
  exact ⟨rfl, by first | exact Fr.refl _ _ | exact (Fr.refl [] _).alloc _⟩
theorem netHang_bad (k en : Int) (h : NetW w own B L C G) (h0 : en ≠ 0) (h1 : en ≠ 1) (hk : -9223372036854775808 ≤ k) (hk' : k ≤ 9223372036854775807) :
  Calls Tryz.prog 22 #[.pointer (some ⟨B.n, 0, none⟩), .int .i64 k, .int .i64 en] w fun e w' => e = .returned (.int .i64 2) ∧ Fr [] w w' := by
 have c2 := h.net.c2
 have HN := Lib.hid (netNone_any _ h.net)
 have e0 : (en == 0) = false := by simpa using h0
 have e1 : (en == 1) = false := by simpa using h1
 have e0' : (en != 0) = true := by simpa using h0
 have e1' : (en != 1) = true := by simpa using h1
 have hlk : ∃ d b, (Instr.lookup 90 (.map (some B.cm)) (.int .i64 k) true).run Tryz.prog w = .ok (.tuple #[.pointer d, .bool b]) w := by
  rcases hat : PN.byC (C.map CB.pc) k with _ | z
  ·have := h.net.cs.miss keyInt (t := 90) (e := 103) Tryz.underlying90 (keyInt_of k hk hk') (byC_none hat) (zeroD _) true
   simp only [if_true] at this
   exact ⟨_, _, this⟩
  ·obtain ⟨C1, y, C2, rfl, rfl, rfl⟩ := byC_some hat
   have := h.net.cs.hit keyInt (t := 90) (e := 103) Tryz.underlying90 (x := .int .i64 y.ref) (v := .pointer (some ⟨y.d, 0, none⟩)) (List.mem_map.2 ⟨y, by simp, rfl⟩) true
   simp only [if_true] at this
   exact ⟨_, _, this⟩
 obtain ⟨d, b, hlk⟩ := hlk
 clear h h0 h1
 go_enter Tryz.func22, Tryz.ntmps22
 go_wp2_with (go_at_call 49; refine HN.out.mono ?_; rintro e w' ⟨rfl, rfl⟩)
 go_ret
 exact ⟨rfl, by first | exact Fr.refl _ _ | exact (Fr.refl [] _).alloc _⟩
end
theorem netHang_w {own : Nat → Nat} {B : NB} {L : List LB} {C : List CB} {G : Nat} (w : World) (k en : Int) (h : NetW w own B L C G) (hG : G < 4611686018427387904) (hk : -9223372036854775808 ≤ k) (hk' : k ≤ 9223372036854775807) :
  Calls Tryz.prog 22 #[.pointer (some ⟨B.n, 0, none⟩), .int .i64 k, .int .i64 en] w fun e w' => ∃ own' C', e = .returned (.int .i64 (PN.hangN (plainN L C) k en).2) ∧ plainN L C' = (PN.hangN (plainN L C) k en).1 ∧ NetW w' own' B L C' G ∧ Ext w own own' ∧ FrO own netO w w' := by
 unfold PN.hangN
 by_cases hb : en ≠ 0 ∧ en ≠ 1
 ·rw [if_pos hb]
  refine (netHang_bad w k en h hb.1 hb.2 hk hk').mono ?_
  rintro e w' ⟨rfl, hf⟩
  exact ⟨own, C, rfl, rfl, h.new hf, Ext.refl _ _, FrO.new hf⟩
 rw [if_neg hb]
 have he : en = 0 ∨ en = 1 := by omega
 rcases hat : PN.byC (plainN L C).C k with _ | z
 ·refine (netHang_miss w k en h he hk hk' (byC_none hat)).mono ?_
  rintro e w' ⟨rfl, hf⟩
  exact ⟨own, C, rfl, rfl, h.new hf, Ext.refl _ _, FrO.new hf⟩
 obtain ⟨C1, y, C2, rfl, rfl, rfl⟩ := byC_some hat
 simp only [show (plainN L (C1 ++ y :: C2)).L = L.map LB.pl from rfl, waitsOf_qs]
 by_cases hw : en = 1 ∧ (y.ref : Int) ∈ qs L
 ·rw [if_pos hw]
  obtain ⟨rfl, hq⟩ := hw
  refine (netHang_busy w h hG hq).mono ?_
  rintro e w' ⟨rfl, hf⟩
  exact ⟨own, _, rfl, rfl, h.new hf, Ext.refl _ _, FrO.new hf⟩
 rw [if_neg hw]
 have he' : en = 0 ∨ en = 1 ∧ (y.ref : Int) ∉ qs L := by
  rcases he with h | h
  ·exact .inl h
  ·exact .inr ⟨h, fun hm => hw ⟨h, hm⟩⟩
 have ho : ∀ z ∈ C1 ++ y :: C2, (z.a0 && z.a1) = false := fun z hz => (h.cs z hz).op
 have hop := ho y (by simp)
 have go : ∀ {v : Int} {b0 b1 : Bool}, ShutsTo en v y.d y.cap y.a0 y.a1 b0 b1 → ((y.ref : Int) ∈ qs L → b1 = false) →
   Calls Tryz.prog 22 #[.pointer (some ⟨B.n, 0, none⟩), .int .i64 y.ref, .int .i64 en] w fun e w' => e = .returned (.int .i64 v) ∧ ∃ own', NetW w' own' B L (hangTo C1 C2 y b0 b1) G ∧ Ext w own own' ∧ FrO own netO w w' := fun {v b0 b1} hs hq => by
  refine netHang_at w h hG he' (fun W hf => ?_)
  refine (hang_w2 W (h.new hf) hs hq).mono ?_
  rintro e w' ⟨rfl, hn, hF⟩
  refine ⟨rfl, _, hn, fun x hx => Ext.new W own _ x (Nat.lt_of_lt_of_le hx hf.size), (FrO.new hf).trans (hF.mono (fun c hc => ?_)) (Ext.refl _ _)⟩
  rcases hc with rfl | rfl
  ·exact .inl rfl
  ·exact .inr (.inl (by omega))
 have pcC : (plainN L (C1 ++ y :: C2)).C = (C1 ++ y :: C2).map CB.pc := rfl
 have qopen : (y.ref : Int) ∈ qs L → y.a1 = false := fun hq => by
  obtain ⟨z, hz, hz1, hz2⟩ := h.queue _ hq
  have : z.ref = y.ref := by omega
  obtain ⟨g1, g2⟩ := cmap_one h.crefs
  rcases List.mem_append.1 hz with hz | hz
  ·exact absurd this (g1 z hz)
  ·rcases List.mem_cons.1 hz with rfl | hz
   ·exact hz2
   ·exact absurd this (g2 z hz)
 rcases he' with rfl | ⟨rfl, hnq⟩
 ·simp only [show ¬ ((0 : Int) = 1) by omega, if_false, show y.pc.a0 = y.a0 from rfl]
  cases h0 : y.a0 with
  | true =>
   rw [h0] at go hop
   rw [if_pos rfl]
   refine (go (shuts_01 y.d y.cap y.a1) qopen).mono ?_
   rintro e w' ⟨rfl, own', hn, hE, hF⟩
   refine ⟨own', _, rfl, ?_, hn, hE, hF⟩
   unfold hangTo
   have : y.a1 = false := by simpa using hop
   rw [this]
   simp only [Bool.and_false, Bool.false_eq_true, if_false]
   obtain ⟨yr, yc, ya, yb, yd⟩ := y
   simp only at h0 this
   subst h0 this
   rfl
  | false =>
   rw [h0] at go
   simp only [Bool.false_eq_true, if_false]
   refine (go (shuts_00 y.d y.cap y.a1) qopen).mono ?_
   rintro e w' ⟨rfl, own', hn, hE, hF⟩
   refine ⟨own', _, rfl, ?_, hn, hE, hF⟩
   rw [pcC]
   have := hang_plain2 (C1 := C1) (C2 := C2) (y := y) false h.crefs ho
   simp only [Bool.not_false, Bool.or_true, Bool.or_false] at this
   simp only [decide_false]
   rw [this]
   rfl
 ·simp only [if_true, show y.pc.a1 = y.a1 from rfl]
  cases h1 : y.a1 with
  | true =>
   rw [h1] at go hop
   rw [if_pos rfl]
   refine (go (shuts_11 y.d y.cap y.a0) (fun hq => absurd hq hnq)).mono ?_
   rintro e w' ⟨rfl, own', hn, hE, hF⟩
   refine ⟨own', _, rfl, ?_, hn, hE, hF⟩
   unfold hangTo
   have : y.a0 = false := by simpa using hop
   rw [this]
   simp only [Bool.false_and, Bool.false_eq_true, if_false]
   obtain ⟨yr, yc, ya, yb, yd⟩ := y
   simp only at h1 this
   subst h1 this
   rfl
  | false =>
   rw [h1] at go
   simp only [Bool.false_eq_true, if_false]
   refine (go (shuts_10 y.d y.cap y.a0) (fun hq => absurd hq hnq)).mono ?_
   rintro e w' ⟨rfl, own', hn, hE, hF⟩
   refine ⟨own', _, rfl, ?_, hn, hE, hF⟩
   rw [pcC]
   have := hang_plain2 (C1 := C1) (C2 := C2) (y := y) true h.crefs ho
   simp only [Bool.not_true, Bool.or_true, Bool.or_false] at this
   simp only [decide_true]
   rw [this]
   rfl
end Go.Proofs.YtgbmenfmaphciaaGreat
namespace Go.Proofs.YtgbmenfmaphciaaGreat.PN
set_option linter.unusedVariables false
set_option linter.unusedSimpArgs false
set_option linter.unusedSectionVars false
set_option linter.unusedVariables false
section
variable {α : Type}
def pick (p : α → Bool) : List α → Nat → Option (Nat × α)
 | [], _ => none
 | x :: r, k => if p x = true then some (k, x) else pick p r (k + 1)
theorem pick_none {p : α → Bool} : ∀ {l : List α} {k : Nat}, pick p l k = none → ∀ x ∈ l, p x = false
 | [], _, _ => fun x hx => by cases hx
 | y :: r, k, h => by
  unfold pick at h
  split at h
  ·cases h
  ·rename_i hp
   intro x hx
   rcases List.mem_cons.1 hx with rfl | hx
   ·simpa using hp
   ·exact pick_none h x hx
theorem pick_some {p : α → Bool} : ∀ {l : List α} {k i : Nat} {y : α}, pick p l k = some (i, y) → ∃ j, i = k + j ∧ l[j]? = some y ∧ p y = true
 | [], _, _, _, h => by cases h
 | x :: r, k, i, y, h => by
  unfold pick at h
  split at h
  ·rename_i hp
   simp only [Option.some.injEq, Prod.mk.injEq] at h
   obtain ⟨rfl, rfl⟩ := h
   exact ⟨0, rfl, rfl, hp⟩
  ·obtain ⟨j, rfl, h2, h3⟩ := pick_some h
   exact ⟨j + 1, by omega, h2, h3⟩
theorem pick_skip {p : α → Bool} : ∀ (l : List α) (q k : Nat), (∀ x ∈ l.take q, p x = false) → pick p l k = pick p (l.drop q) (k + min q l.length)
 | [], q, k, _ => by simp [pick]
 | x :: r, 0, k, _ => by simp
 | x :: r, q + 1, k, h => by
  have h1 : p x = false := h x (by simp)
  have h2 := pick_skip r q (k + 1) (fun y hy => h y (by rw [List.take_succ_cons]; exact List.mem_cons_of_mem _ hy))
  rw [pick, if_neg (by rw [h1]; simp), h2, List.drop_succ_cons, List.length_cons]
  congr 1
  omega
theorem pick_at {p : α → Bool} {l : List α} {q : Nat} {x : α} (hx : l[q]? = some x) (h : ∀ x ∈ l.take q, p x = false) (hp : p x = true) : pick p l 0 = some (q, x) := by
 have hq := (List.getElem?_eq_some_iff.1 hx)
 obtain ⟨hq, rfl⟩ := hq
 rw [pick_skip l q 0 h, List.drop_eq_getElem_cons hq, pick, if_pos hp, Nat.zero_add, Nat.min_eq_left (by omega)]
theorem pick_end {p : α → Bool} {l : List α} (h : ∀ x ∈ l, p x = false) : pick p l 0 = none := by
 cases e : pick p l 0 with
 | none => rfl
 | some a =>
  obtain ⟨j, _, h2, h3⟩ := pick_some (i := a.1) (y := a.2) e
  rw [h _ (List.mem_of_getElem? h2)] at h3
  cases h3
theorem find_uniq {p : α → Bool} {C : List α} {y : α} (hm : y ∈ C) (hp : p y = true) (hu : ∀ z ∈ C, p z = true → z = y) : C.find? p = some y := by
 cases e : C.find? p with
 | none => exact absurd hp (by simpa using List.find?_eq_none.1 e y hm)
 | some z => rw [hu z (List.mem_of_find?_eq_some e) (List.find?_some e)]
theorem Rel.pick {ref : α → Nat} {C D : List α} (h : Rel ref C D) (p : α → Bool) (hu : ∀ y ∈ C, p y = true → ∀ z ∈ C, p z = true → z = y) :
  (PN.pick p D 0 = none ∧ C.find? p = none) ∨ ∃ i y, PN.pick p D 0 = some (i, y) ∧ C.find? p = some y ∧ D[i]? = some y ∧ p y = true := by
 cases e : PN.pick p D 0 with
 | none =>
  left
  refine ⟨rfl, List.find?_eq_none.2 (fun x hx => ?_)⟩
  rw [pick_none e x (h.mem.2 hx)]
  simp
 | some a =>
  obtain ⟨i, y⟩ := a
  obtain ⟨j, rfl, h2, h3⟩ := pick_some e
  rw [Nat.zero_add] at e ⊢
  have hm := h.mem.1 (List.mem_of_getElem? h2)
  exact .inr ⟨j, y, rfl, find_uniq hm h3 (fun z hz hpz => hu y hm h3 z hz hpz), h2, h3⟩
end
structure Inv (N : Net) : Prop where
 refs : (N.L.map (·.ref)).Nodup
 crefs : (N.C.map (·.ref)).Nodup
 adrs : ∀ x ∈ N.L, ∀ y ∈ N.L, x.s = y.s → x.p = y.p → y = x
 queue : ∀ k ∈ waitsOf N.L, ∃ y ∈ N.C, (y.ref : Int) = k ∧ y.a1 = false
 op : ∀ y ∈ N.C, (y.a0 && y.a1) = false
 nl : N.L.length ≤ 128
 nc : N.C.length ≤ 128
def Match (N R : Net) : Prop := RelL N.L R.L ∧ RelC N.C R.C
theorem Match.nil : Match ⟨[], []⟩ ⟨[], []⟩ := ⟨Rel.nil _, Rel.nil _⟩
def newC (D : List PC) (c : Nat) : List PC := D.take (free (D.map (·.ref))) ++ ⟨free (D.map (·.ref)), c, false, false⟩ :: D.drop (free (D.map (·.ref)))
def rPair (R : Net) (c : Nat) : Net × Int × Int := if 128 ≤ R.C.length then (R, 0, 7) else ({ R with C := newC R.C c }, free (R.C.map (·.ref)), 0)
def atP (s : ByteArray) (p : Int) (x : PL) : Bool := decide (x.s = s ∧ x.p = p)
def refP (r : Int) (x : PL) : Bool := decide ((x.ref : Int) = r)
def refC (r : Int) (x : PC) : Bool := decide ((x.ref : Int) = r)
def rConnect (R : Net) (s : ByteArray) (p : Int) (c : Nat) : Net × Int × Int :=
 match pick (atP s p) R.L 0 with
 | none => (R, 0, 15)
 | some (i, x) =>
  if (x.l.length : Int) = x.most then (R, 0, 16)
  else if 128 ≤ R.C.length then (R, 0, 7)
  else ({ L := R.L.set i { x with l := x.l ++ [(free (R.C.map (·.ref)) : Int)] }, C := newC R.C c }, free (R.C.map (·.ref)), 0)
def rAccept (R : Net) (r : Int) : Net × Int × Int :=
 match pick (refP r) R.L 0 with
 | none => (R, 0, 9)
 | some (i, x) => match x.l with
  | [] => (R, 0, 16)
  | k :: _ => ({ R with L := R.L.set i { x with l := x.l.tail } }, k, 0)
def shutAt (D : List PC) (i : Nat) (y : PC) (e : Bool) : List PC := if ((shutC y e).a0 && (shutC y e).a1) = true then D.take i ++ D.drop (i + 1) else D.set i (shutC y e)
def rHang (R : Net) (k en : Int) : Net × Int :=
 if en ≠ 0 ∧ en ≠ 1 then (R, 2)
 else match pick (refC k) R.C 0 with
  | none => (R, 9)
  | some (i, y) =>
   if en = 1 ∧ k ∈ waitsOf R.L then (R, 8)
   else if (if en = 1 then y.a1 else y.a0) = true then (R, 14)
   else ({ R with C := shutAt R.C i y (decide (en = 1)) }, 0)
theorem adr_uniq {N : Net} (hi : Inv N) (s : ByteArray) (p : Int) : ∀ y ∈ N.L, atP s p y = true → ∀ z ∈ N.L, atP s p z = true → z = y := fun y hy h1 z hz h2 => by
 have h1 := of_decide_eq_true h1
 have h2 := of_decide_eq_true h2
 exact hi.adrs y hy z hz (h1.1.trans h2.1.symm) (h1.2.trans h2.2.symm)
theorem nodup_inj {α : Type} {f : α → Nat} : ∀ {l : List α}, (l.map f).Nodup → ∀ y ∈ l, ∀ z ∈ l, f z = f y → z = y
 | [], _, y, hy, _, _, _ => by cases hy
 | x :: r, h, y, hy, z, hz, e => by
  rw [List.map_cons, List.nodup_cons] at h
  rcases List.mem_cons.1 hy with rfl | hy
  ·rcases List.mem_cons.1 hz with rfl | hz
   ·rfl
   ·exact absurd (List.mem_map.2 ⟨z, hz, e⟩) h.1
  ·rcases List.mem_cons.1 hz with rfl | hz
   ·exact absurd (show f z ∈ r.map f from List.mem_map.2 ⟨y, by assumption, e.symm⟩) h.1
   ·exact nodup_inj h.2 y hy z hz e
theorem ref_uniq {N : Net} (hi : Inv N) (r : Int) : ∀ y ∈ N.L, refP r y = true → ∀ z ∈ N.L, refP r z = true → z = y := fun y hy h1 z hz h2 =>
 nodup_inj hi.refs y hy z hz (by
  have h1 := of_decide_eq_true h1
  have h2 := of_decide_eq_true h2
  omega)
theorem cref_uniq {N : Net} (hi : Inv N) (r : Int) : ∀ y ∈ N.C, refC r y = true → ∀ z ∈ N.C, refC r z = true → z = y := fun y hy h1 z hz h2 =>
 nodup_inj hi.crefs y hy z hz (by
  have h1 := of_decide_eq_true h1
  have h2 := of_decide_eq_true h2
  omega)
theorem match_connect {N R : Net} (h : Match N R) (hi : Inv N) (s : ByteArray) (p : Int) (c : Nat) : (rConnect R s p c).2 = (connect N s p c).2 ∧ Match (connect N s p c).1 (rConnect R s p c).1 := by
 have hl : R.C.length = N.C.length := h.2.len
 have hf : free (R.C.map (·.ref)) = free (N.C.map (·.ref)) := h.2.free
 unfold rConnect connect
 rcases Rel.pick h.1 (atP s p) (adr_uniq hi s p) with ⟨h1, h2⟩ | ⟨i, y, h1, h2, h3, h4⟩
 ·have h2' : at? N.L s p = none := h2
  rw [h1, h2']
  exact ⟨rfl, h⟩
 ·have h2' : at? N.L s p = some y := h2
  rw [h1, h2']
  simp only
  rw [hl]
  by_cases e1 : (y.l.length : Int) = y.most
  ·rw [if_pos e1, if_pos e1]
   exact ⟨rfl, h⟩
  ·rw [if_neg e1, if_neg e1]
   by_cases e2 : 128 ≤ N.C.length
   ·rw [if_pos e2, if_pos e2]
    exact ⟨rfl, h⟩
   ·rw [if_neg e2, if_neg e2]
    refine ⟨by rw [hf], ?_, ?_⟩
    ·have := RelL.push h.1 h3 (free (N.C.map (·.ref)) : Int)
     rw [hf]
     exact this
    ·have := Rel.ins h.2 rfl ⟨free (N.C.map (·.ref)), c, false, false⟩ rfl
     unfold newC
     rw [hf]
     exact this
theorem match_accept {N R : Net} (h : Match N R) (hi : Inv N) (r : Int) : (rAccept R r).2 = (accept N r).2 ∧ Match (accept N r).1 (rAccept R r).1 := by
 unfold rAccept accept
 rcases Rel.pick h.1 (refP r) (ref_uniq hi r) with ⟨h1, h2⟩ | ⟨i, y, h1, h2, h3, h4⟩
 ·have h2' : byRef N.L r = none := h2
  rw [h1, h2']
  exact ⟨rfl, h⟩
 ·have h2' : byRef N.L r = some y := h2
  rw [h1, h2']
  simp only
  have hp := RelL.pop h.1 h3
  cases e : y.l with
  | nil => exact ⟨rfl, h⟩
  | cons k t =>
   rw [e] at hp
   exact ⟨rfl, hp, h.2⟩
theorem waits_mem {N R : Net} (h : Match N R) (k : Int) : k ∈ waitsOf R.L ↔ k ∈ waitsOf N.L := by
 unfold waitsOf
 simp only [List.mem_flatMap, h.1.mem]
theorem match_hang {N R : Net} (h : Match N R) (hi : Inv N) (k en : Int) : (rHang R k en).2 = (hangN N k en).2 ∧ Match (hangN N k en).1 (rHang R k en).1 := by
 unfold rHang hangN
 by_cases e0 : en ≠ 0 ∧ en ≠ 1
 ·rw [if_pos e0, if_pos e0]
  exact ⟨rfl, h⟩
 ·rw [if_neg e0, if_neg e0]
  rcases Rel.pick h.2 (refC k) (cref_uniq hi k) with ⟨h1, h2⟩ | ⟨i, y, h1, h2, h3, h4⟩
  ·have h2' : byC N.C k = none := h2
   rw [h1, h2']
   exact ⟨rfl, h⟩
  ·have h2' : byC N.C k = some y := h2
   rw [h1, h2']
   simp only [waits_mem h k]
   by_cases e1 : en = 1 ∧ k ∈ waitsOf N.L
   ·rw [if_pos e1, if_pos e1]
    exact ⟨rfl, h⟩
   ·rw [if_neg e1, if_neg e1]
    by_cases e2 : (if en = 1 then y.a1 else y.a0) = true
    ·rw [if_pos e2, if_pos e2]
     exact ⟨rfl, h⟩
    ·rw [if_neg e2, if_neg e2]
     refine ⟨rfl, h.1, ?_⟩
     have hk : (y.ref : Int) = k := of_decide_eq_true h4
     have := RelC.shut h.2 (fun z hz => hi.op z (h.2.mem.1 hz)) h3 (decide (en = 1))
     rw [hk] at this
     exact this
end Go.Proofs.YtgbmenfmaphciaaGreat.PN
namespace Go.Proofs.YtgbmenfmaphciaaGreat
set_option linter.unusedVariables false
set_option linter.unusedSimpArgs false
set_option linter.unusedSectionVars false
open Go.RowKit
set_option linter.unusedVariables false
set_option linter.unusedSimpArgs false
set_option maxRecDepth 100000
set_option maxHeartbeats 8000000
def place {α : Type} : Option (Nat × α) → Int
 | none => -1
 | some (i, _) => i
theorem take_more {α : Type} {p : α → Bool} {D : List α} {q : Nat} {y : α} (h : ∀ x ∈ D.take q, p x = false) (hy : D[q]? = some y) (hp : p y = false) : ∀ x ∈ D.take (q + 1), p x = false := fun x hx => by
 rw [List.take_add_one, hy] at hx
 rcases List.mem_append.1 hx with hx | hx
 ·exact h x hx
 ·rw [Option.toList_some, List.mem_singleton] at hx
  rw [hx]
  exact hp
def refG (r : Int) (y : PG) : Bool := decide ((y.ref : Int) = r)
theorem IntRow.valR {w : World} {v : Value} {l : List Int} (h : IntRow w v l) : ∃ a c, v = .slice a l.length c := by
 rcases h with ⟨rfl, a, c, rfl⟩ | ⟨g, off, cap, rfl, h1, h2⟩
 ·exact ⟨a, c, rfl⟩
 ·exact ⟨_, _, rfl⟩
theorem IntRow.at {w : World} {v : Value} {l : List Int} (h : IntRow w v l) {i : Nat} {x : Int} (hx : l[i]? = some x) : ∃ g off cap, v = .slice (some ⟨g, off, none⟩) l.length cap ∧ w.cell? ⟨g, off + i, none⟩ = some (.int .i64 x) := by
 rcases h with ⟨rfl, _⟩ | ⟨g, off, cap, rfl, h1, h2⟩
 ·simp at hx
 ·exact ⟨g, off, cap, rfl, h2 i x hx⟩
theorem has_any (v : Value) (l : List Int) (r : Int) (w : World) (h : IntRow w v l) (hn : l.length ≤ 100000) :
  Calls Tryz.prog 95 #[v, .int .i64 r] w fun e w' => e = .returned (.bool (decide (r ∈ l))) ∧ w' = w := by
 obtain ⟨a, c, rfl⟩ := h.valR
 obtain ⟨n, hnl⟩ : ∃ n, l.length = n := ⟨_, rfl⟩
 have HN := Lib.hid hnl
 have HR := Lib.hid h
 rw [hnl] at HR hn ⊢
 clear h hnl
 go_enter Tryz.func95, Tryz.ntmps95
 go_wp2
 go_loopw [5] (fun i wr => ∃ (wz : World) (q : Nat), wz = wr ∧ i = .int .i64 q ∧ q ≤ n ∧ (∀ x ∈ l.take q, decide (x = r) = false) ∧ w = wr) (fun i _ => n - (intOf i).toNat)
 case atStart => exact ⟨_, 0, rfl, rfl, by omega, (fun x hx => by simp at hx), rfl⟩
 case round =>
  obtain ⟨wr, q, hwz, rfl, hq, hs, rfl⟩ := hrel
  subst hwz
  have HS := Lib.hid hs
  clear hs
  by_cases hlt : q < n
  ·have hlt' : (q : Int) < (n : Int) := by omega
   have hy := List.getElem?_eq_getElem (l := l) (i := q) (by rw [HN.out]; exact hlt)
   obtain ⟨y, hye⟩ : ∃ y, l[q]'(by rw [HN.out]; exact hlt) = y := ⟨_, rfl⟩
   rw [hye] at hy
   obtain ⟨g, off, cap, hv, hc⟩ := HR.out.at hy
   rw [HN.out] at hv
   simp only [Value.slice.injEq] at hv
   obtain ⟨rfl, _, rfl⟩ := hv
   by_cases hr : y = r
   ·have d0 : (y == r) = true := beq_iff_eq.2 hr
    have d1 : decide (y = r) = true := decide_eq_true hr
    have HP := Lib.hid (show decide (r ∈ l) = true from decide_eq_true (by rw [← hr]; exact List.mem_of_getElem? hy))
    clear hy hye
    go_wp2
    go_ret
    exact ⟨by rw [HP.out] <;> rfl, rfl⟩
   ·have d0 : (y == r) = false := beq_eq_false_iff_ne.2 hr
    have d1 : decide (y = r) = false := decide_eq_false hr
    have HT := Lib.hid (take_more HS.out hy (decide_eq_false hr))
    clear hy hye
    go_wp2
    go_roundw
    case rel => exact ⟨_, q + 1, rfl, by go_num, by omega, HT.out, by first | trivial | rfl⟩
    case measure => simp [intOf]; omega
  ·have hqn : q = n := by omega
   subst hqn
   have HP := Lib.hid (show decide (r ∈ l) = false from decide_eq_false (fun hm => by
    have := HS.out r (by rw [List.take_of_length_le (by rw [HN.out]; exact Nat.le_refl _)]; exact hm)
    simp at this))
   go_wp2
   go_ret
   exact ⟨by rw [HP.out] <;> rfl, rfl⟩
theorem lisAtG (vL vC : Value) (D : List PN.PL) (r : Int) (w : World) (h : LRow w vL D) (hn : D.length ≤ 100000) :
  Calls Tryz.prog 47 #[.agg #[vL, vC], .int .i64 r] w fun e w' => e = .returned (.int .i64 (place (PN.pick (PN.refP r) D 0))) ∧ Fr [] w w' := by
 obtain ⟨a, c, rfl⟩ := h.val
 obtain ⟨n, hnl⟩ : ∃ n, D.length = n := ⟨_, rfl⟩
 have HN := Lib.hid hnl
 rw [hnl] at h hn ⊢
 obtain ⟨B, hB⟩ : ∃ B, w.heap.size = B := ⟨_, rfl⟩
 have HB := Lib.hid hB
 obtain ⟨wb, hwb⟩ : ∃ z, w.alloc (.cells #[.slice a n c, vC] 31) = z := ⟨_, rfl⟩
 have hb : Blk wb B 31 [.slice a n c, vC] := by
  rw [← hwb, ← hB]
  exact Blk.made w 31 [.slice a n c, vC]
 have hf : Fr [] w wb := by rw [← hwb]; exact (Fr.refl [] w).alloc _
 have HF := Lib.hid hf
 have HWB := Lib.hid hwb
 have HR := Lib.hid (LRow.next h hf)
 have hc1 : wb.cell? ⟨B, 0, none⟩ = some (.slice a n c) := hb.at 0 _ rfl
 clear hb hf hwb hB h hnl
 go_enter Tryz.func47, Tryz.ntmps47
 go_wp2
 rw [HWB.out]
 simp only [HB.out]
 go_loopw [5] (fun i wr => ∃ (wz : World) (q : Nat), wz = wr ∧ i = .int .i64 q ∧ q ≤ n ∧ (∀ x ∈ D.take q, PN.refP r x = false) ∧ wb = wr) (fun i _ => n - (intOf i).toNat)
 case atStart => exact ⟨_, 0, rfl, rfl, by omega, (fun x hx => by simp at hx), rfl⟩
 case round =>
  obtain ⟨wr, q, hwz, rfl, hq, hs, rfl⟩ := hrel
  subst hwz
  have HS := Lib.hid hs
  clear hs
  by_cases hlt : q < n
  ·have hlt' : (q : Int) < (n : Int) := by omega
   have hy := List.getElem?_eq_getElem (l := D) (i := q) (by rw [HN.out]; exact hlt)
   obtain ⟨y, hye⟩ : ∃ y, D[q]'(by rw [HN.out]; exact hlt) = y := ⟨_, rfl⟩
   rw [hye] at hy
   obtain ⟨g, off, cap, X, hv, hg, _, hl, q0, rfl, _⟩ := HR.out.lies hy
   rw [HN.out] at hv
   simp only [Value.slice.injEq] at hv
   obtain ⟨rfl, _, rfl⟩ := hv
   have c0 := hl 0 _ rfl
   rw [Nat.add_zero] at c0
   by_cases hr : (y.ref : Int) = r
   ·have d0 : ((y.ref : Int) == r) = true := beq_iff_eq.2 hr
    have d1 : decide ((y.ref : Int) = r) = true := decide_eq_true hr
    have HP := Lib.hid (show place (PN.pick (PN.refP r) D 0) = (q : Int) from by rw [PN.pick_at hy HS.out (decide_eq_true hr)]; rfl)
    clear hy hye hl
    go_wp2
    go_ret
    exact ⟨by rw [HP.out] <;> rfl, HF.out⟩
   ·have d0 : ((y.ref : Int) == r) = false := beq_eq_false_iff_ne.2 hr
    have d1 : decide ((y.ref : Int) = r) = false := decide_eq_false hr
    have HT := Lib.hid (take_more HS.out hy (decide_eq_false hr))
    clear hy hye hl
    go_wp2
    go_roundw
    case rel => exact ⟨_, q + 1, rfl, by go_num, by omega, HT.out, by first | trivial | rfl⟩
    case measure => simp [intOf]; omega
  ·have hqn : q = n := by omega
   subst hqn
   have HP := Lib.hid (show place (PN.pick (PN.refP r) D 0) = -1 from by
    rw [PN.pick_end (fun x hx => HS.out x (by rw [List.take_of_length_le (by rw [HN.out]; exact Nat.le_refl _)]; exact hx))]
    rfl)
   go_wp2
   go_ret
   exact ⟨by rw [HP.out] <;> rfl, HF.out⟩
theorem connAtG (vL vC : Value) (D : List PG) (r : Int) (w : World) (h : CRow w vC D) (hn : D.length ≤ 100000) :
  Calls Tryz.prog 58 #[.agg #[vL, vC], .int .i64 r] w fun e w' => e = .returned (.int .i64 (place (PN.pick (refG r) D 0))) ∧ Fr [] w w' := by
 obtain ⟨a, c, rfl⟩ := h.val
 obtain ⟨n, hnl⟩ : ∃ n, D.length = n := ⟨_, rfl⟩
 have HN := Lib.hid hnl
 rw [hnl] at h hn ⊢
 obtain ⟨B, hB⟩ : ∃ B, w.heap.size = B := ⟨_, rfl⟩
 have HB := Lib.hid hB
 obtain ⟨wb, hwb⟩ : ∃ z, w.alloc (.cells #[vL, .slice a n c] 31) = z := ⟨_, rfl⟩
 have hb : Blk wb B 31 [vL, .slice a n c] := by
  rw [← hwb, ← hB]
  exact Blk.made w 31 [vL, .slice a n c]
 have hf : Fr [] w wb := by rw [← hwb]; exact (Fr.refl [] w).alloc _
 have HBB := Lib.hid hb
 have HF := Lib.hid hf
 have HWB := Lib.hid hwb
 have HR := Lib.hid (CRow.next h hf)
 have hc1 : wb.cell? ⟨B, 1, none⟩ = some (.slice a n c) := hb.at 1 _ rfl
 clear hb hf hwb hB h hnl
 go_enter Tryz.func58, Tryz.ntmps58
 go_wp2
 rw [HWB.out]
 simp only [HB.out]
 go_loopw [5] (fun i wr => ∃ (wz : World) (q : Nat), wz = wr ∧ i = .int .i64 q ∧ q ≤ n ∧ (∀ x ∈ D.take q, refG r x = false) ∧ wb = wr) (fun i _ => n - (intOf i).toNat)
 case atStart => exact ⟨_, 0, rfl, rfl, by omega, (fun x hx => by simp at hx), rfl⟩
 case round =>
  obtain ⟨wr, q, hwz, rfl, hq, hs, rfl⟩ := hrel
  subst hwz
  have HS := Lib.hid hs
  clear hs
  by_cases hlt : q < n
  ·have hlt' : (q : Int) < (n : Int) := by omega
   have hy := List.getElem?_eq_getElem (l := D) (i := q) (by rw [HN.out]; exact hlt)
   obtain ⟨y, hye⟩ : ∃ y, D[q]'(by rw [HN.out]; exact hlt) = y := ⟨_, rfl⟩
   rw [hye] at hy
   obtain ⟨g, off, cap, X, hv, hg, _, hl, q0, rfl, _⟩ := HR.out.lies hy
   rw [HN.out] at hv
   simp only [Value.slice.injEq] at hv
   obtain ⟨rfl, _, rfl⟩ := hv
   have c0 := hl 0 _ rfl
   rw [Nat.add_zero] at c0
   by_cases hr : (y.ref : Int) = r
   ·have d0 : ((y.ref : Int) == r) = true := beq_iff_eq.2 hr
    have d1 : decide ((y.ref : Int) = r) = true := decide_eq_true hr
    have HP := Lib.hid (show place (PN.pick (refG r) D 0) = (q : Int) from by rw [PN.pick_at hy HS.out (decide_eq_true hr)]; rfl)
    clear hy hye hl
    go_wp2
    go_ret
    exact ⟨by rw [HP.out] <;> rfl, HF.out⟩
   ·have d0 : ((y.ref : Int) == r) = false := beq_eq_false_iff_ne.2 hr
    have d1 : decide ((y.ref : Int) = r) = false := decide_eq_false hr
    have HT := Lib.hid (take_more HS.out hy (decide_eq_false hr))
    clear hy hye hl
    go_wp2
    go_roundw
    case rel => exact ⟨_, q + 1, rfl, by go_num, by omega, HT.out, by first | trivial | rfl⟩
    case measure => simp [intOf]; omega
  ·have hqn : q = n := by omega
   subst hqn
   have HP := Lib.hid (show place (PN.pick (refG r) D 0) = -1 from by
    rw [PN.pick_end (fun x hx => HS.out x (by rw [List.take_of_length_le (by rw [HN.out]; exact Nat.le_refl _)]; exact hx))]
    rfl)
   go_wp2
   go_ret
   exact ⟨by rw [HP.out] <;> rfl, HF.out⟩
theorem waits_none {D : List PN.PL} {r : Int} (h : ∀ x ∈ D, decide (r ∈ x.l) = false) : decide (r ∈ PN.waitsOf D) = false := decide_eq_false (fun hm => by
 obtain ⟨x, hx, hr⟩ := List.mem_flatMap.1 hm
 have := h x hx
 rw [decide_eq_true hr] at this
 cases this)
theorem waitsG (vL vC : Value) (D : List PN.PL) (r : Int) (w : World) (h : LRow w vL D) (hn : D.length ≤ 100000) (hq : ∀ x ∈ D, x.l.length ≤ 100000) :
  Calls Tryz.prog 59 #[.agg #[vL, vC], .int .i64 r] w fun e w' => e = .returned (.bool (decide (r ∈ PN.waitsOf D))) ∧ Fr [] w w' := by
 obtain ⟨a, c, rfl⟩ := h.val
 obtain ⟨n, hnl⟩ : ∃ n, D.length = n := ⟨_, rfl⟩
 have HN := Lib.hid hnl
 have HQ := Lib.hid hq
 rw [hnl] at h hn ⊢
 obtain ⟨B, hB⟩ : ∃ B, w.heap.size = B := ⟨_, rfl⟩
 have HB := Lib.hid hB
 obtain ⟨wb, hwb⟩ : ∃ z, w.alloc (.cells #[.slice a n c, vC] 31) = z := ⟨_, rfl⟩
 have hb : Blk wb B 31 [.slice a n c, vC] := by
  rw [← hwb, ← hB]
  exact Blk.made w 31 [.slice a n c, vC]
 have hf : Fr [] w wb := by rw [← hwb]; exact (Fr.refl [] w).alloc _
 have HF := Lib.hid hf
 have HWB := Lib.hid hwb
 have HR := Lib.hid (LRow.next h hf)
 have hc1 : wb.cell? ⟨B, 0, none⟩ = some (.slice a n c) := hb.at 0 _ rfl
 clear hb hf hwb hB h hnl hq
 go_enter Tryz.func59, Tryz.ntmps59
 go_wp2
 rw [HWB.out]
 simp only [HB.out]
 go_loopw [5] (fun i wr => ∃ (wz : World) (q : Nat), wz = wr ∧ i = .int .i64 q ∧ q ≤ n ∧ (∀ x ∈ D.take q, decide (r ∈ x.l) = false) ∧ wb = wr) (fun i _ => n - (intOf i).toNat)
 case atStart => exact ⟨_, 0, rfl, rfl, by omega, (fun x hx => by simp at hx), rfl⟩
 case round =>
  obtain ⟨wr, q, hwz, rfl, hq, hs, rfl⟩ := hrel
  subst hwz
  have HS := Lib.hid hs
  clear hs
  by_cases hlt : q < n
  ·have hlt' : (q : Int) < (n : Int) := by omega
   have hy := List.getElem?_eq_getElem (l := D) (i := q) (by rw [HN.out]; exact hlt)
   obtain ⟨y, hye⟩ : ∃ y, D[q]'(by rw [HN.out]; exact hlt) = y := ⟨_, rfl⟩
   rw [hye] at hy
   obtain ⟨g, off, cap, X, hv, hg, _, hl, q0, rfl, hrow⟩ := HR.out.lies hy
   rw [HN.out] at hv
   simp only [Value.slice.injEq] at hv
   obtain ⟨rfl, _, rfl⟩ := hv
   have c4 := hl 4 _ rfl
   have HH := Lib.hid (has_any (slv q0) y.l r _ (IntRow.ofV hrow (HQ.out y (List.mem_of_getElem? hy))) (HQ.out y (List.mem_of_getElem? hy)))
   have HY := Lib.hid hy
   clear hy hye hl hrow hg
   go_wp2_with fail
   refine HH.out.mono ?_
   rintro e w' ⟨rfl, hw'⟩
   subst hw'
   obtain ⟨b, hb⟩ : ∃ b, decide (r ∈ y.l) = b := ⟨_, rfl⟩
   rw [hb]
   have HBB := Lib.hid hb
   clear hb c4
   cases b with
   | true =>
    have HP := Lib.hid (show decide (r ∈ PN.waitsOf D) = true from decide_eq_true (List.mem_flatMap.2 ⟨y, List.mem_of_getElem? HY.out, of_decide_eq_true HBB.out⟩))
    go_wp2
    go_ret
    exact ⟨by rw [HP.out] <;> rfl, HF.out⟩
   | false =>
    have HT := Lib.hid (take_more (p := fun x : PN.PL => decide (r ∈ x.l)) HS.out HY.out HBB.out)
    go_wp2
    go_roundw
    case rel => exact ⟨_, q + 1, rfl, by go_num, by omega, HT.out, by first | trivial | rfl⟩
    case measure => simp [intOf]; omega
  ·have hqn : q = n := by omega
   subst hqn
   have HP := Lib.hid (show decide (r ∈ PN.waitsOf D) = false from waits_none (fun x hx => HS.out x (by rw [List.take_of_length_le (by rw [HN.out]; exact Nat.le_refl _)]; exact hx)))
   go_wp2
   go_ret
   exact ⟨by rw [HP.out] <;> rfl, HF.out⟩
theorem atG (vL vC : Value) (D : List PN.PL) (s : ByteArray) (p : Int) (w : World) (h : LRow w vL D) (hn : D.length ≤ 100000) :
  Calls Tryz.prog 79 #[.agg #[vL, vC], .agg #[.string s, .int .i64 p]] w fun e w' => e = .returned (.int .i64 (place (PN.pick (PN.atP s p) D 0))) ∧ Fr [] w w' := by
 obtain ⟨a, c, rfl⟩ := h.val
 obtain ⟨n, hnl⟩ : ∃ n, D.length = n := ⟨_, rfl⟩
 have HN := Lib.hid hnl
 rw [hnl] at h hn ⊢
 obtain ⟨B, hB⟩ : ∃ B, w.heap.size = B := ⟨_, rfl⟩
 have HB := Lib.hid hB
 obtain ⟨wb, hwb⟩ : ∃ z, (w.alloc (.cells #[.slice a n c, vC] 31)).alloc (.cells #[.string s, .int .i64 p] 36) = z := ⟨_, rfl⟩
 have hb : Blk wb B 31 [.slice a n c, vC] := by
  rw [← hwb, ← hB]
  exact (Blk.made w 31 [.slice a n c, vC]).keep ((Fr.refl [] _).alloc _) (by simp)
 have hb2 : Blk wb (B + 1) 36 [.string s, .int .i64 p] := by
  have h := Blk.made (w.alloc (.cells #[.slice a n c, vC] 31)) 36 [.string s, .int .i64 p]
  rw [show (w.alloc (.cells #[.slice a n c, vC] 31)).heap.size = B + 1 from by rw [← hB]; simp] at h
  rw [← hwb]
  exact h
 have hf : Fr [] w wb := by rw [← hwb]; exact ((Fr.refl [] w).alloc _).alloc _
 have HF := Lib.hid hf
 have HWB := Lib.hid hwb
 have HR := Lib.hid (LRow.next h hf)
 have HC := Lib.hid hb
 have HC2 := Lib.hid hb2
 clear hb hb2 hf hwb hB h hnl
 go_enter Tryz.func79, Tryz.ntmps79
 go_wp2
 rw [HWB.out]
 simp only [HB.out]
 go_loopw [5] (fun i wr => ∃ (wz : World) (q : Nat), wz = wr ∧ i = .int .i64 q ∧ q ≤ n ∧ (∀ x ∈ D.take q, PN.atP s p x = false) ∧ Fr [] wb wr) (fun i _ => n - (intOf i).toNat)
 case atStart => exact ⟨_, 0, rfl, rfl, by omega, (fun x hx => by simp at hx), Fr.refl _ _⟩
 case round =>
  obtain ⟨wr, q, hwz, rfl, hq, hs, hF⟩ := hrel
  subst hwz
  have HS := Lib.hid hs
  have HW := Lib.hid hF
  have b0 : wr.cell? ⟨B, 0, none⟩ = some (.slice a n c) := (HC.out.keep hF (by simp)).at 0 _ rfl
  have e0 : wr.cell? ⟨B + 1, 0, none⟩ = some (.string s) := (HC2.out.keep hF (by simp)).at 0 _ rfl
  have e1 : wr.cell? ⟨B + 1, 1, none⟩ = some (.int .i64 p) := (HC2.out.keep hF (by simp)).at 1 _ rfl
  clear hs hF
  by_cases hlt : q < n
  ·have hlt' : (q : Int) < (n : Int) := by omega
   have hq0 : (0 : Int) ≤ (q : Int) := by omega
   have hy := List.getElem?_eq_getElem (l := D) (i := q) (by rw [HN.out]; exact hlt)
   obtain ⟨y, hye⟩ : ∃ y, D[q]'(by rw [HN.out]; exact hlt) = y := ⟨_, rfl⟩
   rw [hye] at hy
   obtain ⟨g, off, cap, X, hv, hg, _, hl, q0, rfl, _⟩ := (LRow.next HR.out HW.out).lies hy
   rw [HN.out] at hv
   simp only [Value.slice.injEq] at hv
   obtain ⟨rfl, _, rfl⟩ := hv
   have x1 := hl 1 _ rfl
   have x2 := hl 2 _ rfl
   have heq := fun W => eqAdr y.s s y.p p W
   have HY := Lib.hid hy
   clear hy hye hl hg
   by_cases hr : y.s = s ∧ y.p = p
   ·rw [decide_eq_true hr] at heq
    have HP := Lib.hid (show place (PN.pick (PN.atP s p) D 0) = (q : Int) from by rw [PN.pick_at HY.out HS.out (decide_eq_true hr)]; rfl)
    clear hr
    go_upto_region 4 with fail
    go_quiet (fail)
    go_wp2
    go_ret
    exact ⟨by rw [HP.out] <;> rfl, (HF.out.step HW.out).drewN _⟩
   ·rw [decide_eq_false hr] at heq
    have HT := Lib.hid (take_more HS.out HY.out (decide_eq_false hr))
    clear hr
    go_upto_region 4 with fail
    go_quiet (fail)
    go_wp2
    go_roundw
    case rel => exact ⟨_, q + 1, rfl, by go_num, by omega, HT.out, HW.out.drewN _⟩
    case measure => simp [intOf]; omega
  ·have hqn : q = n := by omega
   subst hqn
   have HP := Lib.hid (show place (PN.pick (PN.atP s p) D 0) = -1 from by
    rw [PN.pick_end (fun x hx => HS.out x (by rw [List.take_of_length_le (by rw [HN.out]; exact Nat.le_refl _)]; exact hx))]
    rfl)
   go_wp2
   go_ret
   exact ⟨by rw [HP.out] <;> rfl, HF.out.step HW.out⟩
end Go.Proofs.YtgbmenfmaphciaaGreat
namespace Go.Proofs.YtgbmenfmaphciaaGreat
set_option linter.unusedVariables false
set_option linter.unusedSimpArgs false
set_option linter.unusedSectionVars false
open Go.RowKit
set_option linter.unusedVariables false
set_option linter.unusedSimpArgs false
set_option maxRecDepth 100000
set_option maxHeartbeats 8000000
section
variable {P : Program} {w : World} {base n sz bytes : Nat} {t e : TypeId} {v : Value} {xs : List Value}
theorem Elem.el (E : Elem P t e sz bytes) : P.elem t = e ∧ P.underlying t = some (.slice (P.elem t)) ∧ ∀ W : World, (sizeOf (P.elem t)).run P W = .ok sz W := by
 have he : P.elem t = e := by simp [Program.elem, E.ht]
 obtain ⟨i, z, hi, _, hsz, _⟩ := E.hi
 refine ⟨he, by rw [he]; exact E.ht, fun W => ?_⟩
 rw [he]
 simp [sizeOf, typeInfo, hi, hsz]
theorem own_slice_from (E : Elem P t e sz bytes) (h : w.ownsRow base e sz v n xs) (k : Nat) (hk : k ≤ n) :
  ∃ v', (∀ W : World, (Instr.slice t v (some (.int .i64 k)) none none).run P W = .ok v' W) ∧ RowV w v' (n - k) sz (xs.drop (k * sz)) := by
 obtain ⟨_, ht, hs⟩ := E.el
 have hl : (xs.drop (k * sz)).length = (n - k) * sz := by rw [List.length_drop, h.1, Nat.sub_mul]
 obtain ⟨a, cap, rfl, hnc⟩ : ∃ a cap, v = .slice a n cap ∧ n ≤ cap := by
  rcases h.2 with ⟨rfl, rfl⟩ | ⟨g, cap, cur, rfl, hb, hg, hnc, _⟩
  ·exact ⟨none, 0, rfl, Nat.le_refl _⟩
  ·exact ⟨_, cap, rfl, hnc⟩
 refine ⟨sliced a k n cap sz, fun W => ?_, hl, ?_⟩
 ·rw [run_slice_l W t a n cap ht .i64 k (by omega) (by omega), hs]
  simp [Result.andThen]
 ·unfold sliced
  by_cases h0 : n - k = 0
  ·rw [h0]
   exact .inl ⟨rfl, _, _, rfl⟩
  ·rw [if_neg (by omega)]
   rcases h.2 with ⟨he, rfl⟩ | ⟨g, cap', cur, he, hb, hg, _⟩
   ·omega
   ·simp only [Value.slice.injEq] at he
    obtain ⟨rfl, _, rfl⟩ := he
    refine .inr ⟨g, k * sz, cap - k, ?_, (Array.getElem?_eq_some_iff.1 hg).1, fun j u hj => ?_⟩
    ·simp [Addr.add_lit]
    ·rw [List.getElem?_drop] at hj
     have := World.ownsRow.cells h (g := g) rfl _ u hj
     rwa [Addr.add_lit, Nat.zero_add] at this
theorem own_slice_to (E : Elem P t e sz bytes) (h : w.ownsRow base e sz v n xs) (k : Nat) (hk : k ≤ n) :
  ∃ a0, (∀ W : World, (Instr.slice t v none (some (.int .i64 k)) (some (.int .i64 k))).run P W = .ok (.slice a0 k k) W) ∧ RowV w (.slice a0 k k) k sz (xs.take (k * sz)) := by
 obtain ⟨_, ht, hs⟩ := E.el
 have hl : (xs.take (k * sz)).length = k * sz := by
  rw [List.length_take, h.1, Nat.min_eq_left (Nat.mul_le_mul_right _ hk)]
 obtain ⟨a, cap, rfl, hnc⟩ : ∃ a cap, v = .slice a n cap ∧ n ≤ cap := by
  rcases h.2 with ⟨rfl, rfl⟩ | ⟨g, cap, cur, rfl, hb, hg, hnc, _⟩
  ·exact ⟨none, 0, rfl, Nat.le_refl _⟩
  ·exact ⟨_, cap, rfl, hnc⟩
 refine ⟨if k = 0 then a else a.map (·.add (0 * sz)), fun W => ?_, hl, ?_⟩
 ·rw [run_slice_hm W t a n cap ht .i64 .i64 k k (by omega) (by omega) (by omega), hs]
  simp [Result.andThen, sliced]
 ·by_cases h0 : k = 0
  ·subst h0
   exact .inl ⟨rfl, _, _, rfl⟩
  ·rw [if_neg h0]
   rcases h.2 with ⟨he, rfl⟩ | ⟨g, cap', cur, he, hb, hg, _⟩
   ·omega
   ·simp only [Value.slice.injEq] at he
    obtain ⟨rfl, _, rfl⟩ := he
    refine .inr ⟨g, 0, k, ?_, (Array.getElem?_eq_some_iff.1 hg).1, fun j u hj => ?_⟩
    ·simp [Addr.add_lit]
    ·rw [List.getElem?_take] at hj
     split at hj
     ·have := World.ownsRow.cells h (g := g) rfl j u hj
      rwa [Addr.add_lit] at this
     ·cases hj
end
section
variable {P : Program} {o : Oper} {a : Act} {w w' : World} {v : Value}
theorem exec_slice_from {t : TypeId} {x lo : Operand} {V L : Value} (ho : o.op = .slice t x (some lo) none none) (hx : a.eval x = V) (hl : a.eval lo = L) (ht : P.underlying t = some (.slice (P.elem t))) (hrun : (Instr.slice t V (some L) none none).run P w = .ok v w') : (execOp a.eval o).run P w = .ok (.value v) w' := by
 simp [execOp, ho, hx, hl, run_sliceAt_slice w t V (some L) none none ht, hrun]
theorem exec_slice_to {t : TypeId} {x hi mx : Operand} {V H M : Value} (ho : o.op = .slice t x none (some hi) (some mx)) (hx : a.eval x = V) (hh : a.eval hi = H) (hm : a.eval mx = M) (ht : P.underlying t = some (.slice (P.elem t))) (hrun : (Instr.slice t V none (some H) (some M)).run P w = .ok v w') : (execOp a.eval o).run P w = .ok (.value v) w' := by
 simp [execOp, ho, hx, hh, hm, run_sliceAt_slice w t V none (some H) (some M) ht, hrun]
end
def zSS (c : Int) : SS := ⟨c, [], false, [], 0, 0, 0⟩
def newCC (c : Int) : CC := ⟨zSS c, zSS c, false, false⟩
def frG (C : List PG) : Nat := PN.free (C.map (·.ref))
def insG (C : List PG) (c : Int) : List PG := C.take (frG C) ++ ⟨frG C, newCC c⟩ :: C.drop (frG C)
def q0 : Q4 := ⟨(none, 0, 0), (none, 0, 0), (none, 0, 0), (none, 0, 0)⟩
theorem q0_own (w : World) (B : Nat) (c : Int) : CnO w B (newCC c) q0 := ⟨BsO.nil w B, BsO.nil w B, BsO.nil w B, BsO.nil w B⟩
theorem COwn.ins {w : World} {B : Nat} {v : Value} {C : List PG} (h : COwn w B v C) : ∃ Xs, Recs 17 (ElCO B w) Xs C ∧ w.ownsRow B 138 17 v C.length Xs.flatten := h
theorem refG_mem {C : List PG} {r : Nat} : (∃ i y, PN.pick (refG r) C 0 = some (i, y)) ↔ r ∈ C.map (·.ref) := by
 constructor
 ·rintro ⟨i, y, h⟩
  obtain ⟨j, _, h2, h3⟩ := PN.pick_some h
  have h3 := of_decide_eq_true h3
  exact List.mem_map.2 ⟨y, List.mem_of_getElem? h2, by omega⟩
 ·intro h
  obtain ⟨y, hy, hr⟩ := List.mem_map.1 h
  cases e : PN.pick (refG r) C 0 with
  | none =>
   have := PN.pick_none e y hy
   simp [refG] at this
   omega
  | some a => exact ⟨a.1, a.2, rfl⟩
def NetOut (w : World) (D : List PN.PL) (C : List PG) (rs : List Value) (e : Ending) (w' : World) : Prop :=
 ∃ sL sC : Sli, e = .returned (.tuple (.agg #[slv sL, slv sC] :: rs).toArray) ∧ LOwn w' w.heap.size (slv sL) D ∧ COwn w' w.heap.size (slv sC) C ∧ Fr [] w w'
theorem two_oneS (a b : Option Addr) (n m c d : Nat) : ∀ u ∈ two (.slice a n c) (.slice b m d), u.oneCell' = true := by
 intro u hu
 simp only [two, List.mem_cons, List.not_mem_nil, or_false] at hu
 rcases hu with rfl | rfl <;> rfl
theorem nPair_full (vL vC : Value) (D : List PN.PL) (C : List PG) (c : Int) (w : World) (hL : LRow w vL D) (hC : CRow w vC C) (hc : 0 ≤ c ∧ c ≤ 4096) (hm : 128 ≤ C.length) (hm2 : C.length ≤ 1000) :
  Calls Tryz.prog 80 #[.agg #[vL, vC], .int .i64 c] w fun e w' => e = .returned (.tuple #[.agg #[vL, vC], .int .i64 0, .int .i64 7]) ∧ Fr [] w w' := by
 obtain ⟨n, hnl⟩ : ∃ n, D.length = n := ⟨_, rfl⟩
 obtain ⟨m, hml⟩ : ∃ m, C.length = m := ⟨_, rfl⟩
 obtain ⟨aL, cL, rfl⟩ := hL.val
 obtain ⟨aC, cC, rfl⟩ := hC.val
 rw [hnl] at hL ⊢
 rw [hml] at hC ⊢
 have HN := Lib.hid hnl
 have HM := Lib.hid hml
 obtain ⟨B, hB⟩ : ∃ B, w.heap.size = B := ⟨_, rfl⟩
 obtain ⟨wA, hwA⟩ : ∃ z, (w.alloc (.cells #[.slice aL n cL, .slice aC m cC] 31)).alloc (.cells #[.slice none 0 0, .slice none 0 0] 31) = z := ⟨_, rfl⟩
 have f2 := (Fr.refl [] (w.alloc (.cells #[.slice aL n cL, .slice aC m cC] 31))).alloc (.cells #[.slice none 0 0, .slice none 0 0] 31)
 have hb0 : Blk wA B 31 (two (.slice aL n cL) (.slice aC m cC)) := by
  rw [← hwA, ← hB]
  exact (Blk.made w 31 (two (.slice aL n cL) (.slice aC m cC))).keep f2 (by simp)
 have hb1 : Blk wA (B + 1) 31 zNt := by
  have h := Blk.made (w.alloc (.cells #[.slice aL n cL, .slice aC m cC] 31)) 31 zNt
  rw [show (w.alloc (.cells #[.slice aL n cL, .slice aC m cC] 31)).heap.size = B + 1 from by rw [← hB]; simp] at h
  rw [← hwA]
  exact h
 have hf : Fr [] w wA := by rw [← hwA]; exact ((Fr.refl [] w).alloc _).step f2
 have HB0 := Lib.hid hb0
 have HB1 := Lib.hid hb1
 have HF := Lib.hid hf
 have HBS := Lib.hid hB
 have HWA := Lib.hid hwA
 have HL := Lib.hid hL
 have HC := Lib.hid hC
 clear hb0 hb1 hf hB hwA f2 hL hC hnl hml
 
 rw [HM.out] at hm hm2
 have hm' : (128 : Int) ≤ (m : Int) := by omega
 go_enter Tryz.func80, Tryz.ntmps80
 go_upto_region 1 with fail
 rw [HWA.out]
 simp only [HBS.out]
 refine wp_region_lit ?_
 iterate 2 (refine wpList_plain rfl (fun K hK => ?_); go_simp; refine hK _ _ ?_; clear hK K)
 try simp only [Act.put, nrZ]
 refine wpList_plain rfl (fun K hK => ?_)
 go_simp
 refine (dnNew_ok c hc _).mono ?_
 rintro e w1 ⟨rfl, f1⟩
 refine hK _ _ ?_
 clear hK K
 try simp only [Act.put, nrZ]
 iterate 4 (refine wpList_plain rfl (fun K hK => ?_); go_simp; refine hK _ _ ?_; clear hK K)
 try simp only [Act.put, nrZ]
 obtain ⟨E1, hE1⟩ : ∃ E, w1.heap.size = E := ⟨_, rfl⟩
 obtain ⟨wx, hwx⟩ : ∃ z, w1.alloc (.cells #[.int .i64 0, .slice none 0 0, .bool false, .slice none 0 0, .int .i64 0, .int .i64 0, .int .i64 0, .int .i64 0, .slice none 0 0, .bool false, .slice none 0 0, .int .i64 0, .int .i64 0, .int .i64 0, .bool false, .bool false] 99) = z := ⟨_, rfl⟩
 have hbx : Blk wx E1 99 zCn := by rw [← hwx, ← hE1]; exact Blk.made w1 99 zCn
 have fx : Fr [] w1 wx := by rw [← hwx]; exact (Fr.refl [] w1).alloc _
 rw [hwx]
 simp only [hE1]
 have HE1 := Lib.hid (show w.heap.size ≤ E1 ∧ B < E1 ∧ B + 1 < E1 from by rw [← hE1]; exact ⟨(HF.out.step f1).size, (HB0.out.keep f1 (by simp)).lt, (HB1.out.keep f1 (by simp)).lt⟩)
 have HX := Lib.hid hbx
 have HF1 := Lib.hid ((HF.out.step f1).step fx)
 have HB01 := Lib.hid ((HB0.out.keep f1 (by simp)).keep fx (by simp))
 have HB11 := Lib.hid ((HB1.out.keep f1 (by simp)).keep fx (by simp))
 clear f1 fx hbx hwx hE1 HB0 HB1 HF
 obtain ⟨w2, hst, hb_, hf_⟩ := store_all (t := 99) (cnL c 0 0 0 0 false false) size94 rfl (cnL_one _ _ _ _ _ _ _) HX.out rfl
 refine stZ hst ?_
 clear hst
 refine wpList_plain rfl (fun K hK => ?_); go_simp; refine hK _ _ ?_; clear hK K
 refine wpList_nil ?_
 try simp only [Act.put, nrZ]
 have HX2 := Lib.hid (show Blk w2 E1 99 (cnC (newCC c) q0) from hb_)
 have HF2 := Lib.hid (HF1.out.own1 (S := []) (B := 0) hf_ HE1.out.1)
 have HB02 := Lib.hid (HB01.out.keep hf_ (fun hm => by rw [List.mem_singleton] at hm; have := HE1.out; omega))
 have HB12 := Lib.hid (HB11.out.keep hf_ (fun hm => by rw [List.mem_singleton] at hm; have := HE1.out; omega))
 clear hb_ hf_ HX HF1 HB01 HB11
 have cC0 : w2.cell? ⟨B, 1, none⟩ = some (.slice aC m cC) := HB02.out.at 1 _ rfl
 go_upto_region 5 with fail
 clear cC0
 refine wp_region_lit ?_
 refine ldZ (load_all agg34 size34 (xs := two (.slice aL n cL) (.slice aC m cC)) rfl HB02.out.at) ?_
 obtain ⟨w9, hst, hb_, hf_⟩ := store_all (t := 31) (two (.slice aL n cL) (.slice aC m cC)) size34 rfl (two_oneS _ _ _ _ _ _) HB12.out rfl
 refine stZ hst ?_
 clear hst
 iterate 2 (refine wpList_plain rfl (fun K hK => ?_); go_simp; refine hK _ _ ?_; clear hK K)
 refine wpList_nil ?_
 try simp only [Act.put, nrZ]
 have HR9 := Lib.hid hb_
 have HF9 := Lib.hid (HF2.out.own1 (S := []) (B := 0) hf_ (by have := HBS.out; omega))
 clear hb_ hf_
 go_wp2
 have hl := load_var agg34 size34 (xs := two (.slice aL n cL) (.slice aC m cC)) rfl HR9.out.at
 refine bodyPost_ret (v := .tuple #[.agg (two (.slice aL n cL) (.slice aC m cC)).toArray, .int .i64 0, .int .i64 7]) (by simp [results, Tryz.results80, as_addr, hl]) rfl ?_
 exact ⟨rfl, HF9.out⟩
theorem nPair_ok (vL vC : Value) (D : List PN.PL) (C : List PG) (c : Int) (w : World) (hL : LRow w vL D) (hC : CRow w vC C) (hc : 0 ≤ c ∧ c ≤ 4096) (hn : NetFit D C) (hm : C.length < 128) (hs : C.Pairwise (fun a b => a.ref < b.ref)) :
  Calls Tryz.prog 80 #[.agg #[vL, vC], .int .i64 c] w (NetOut w D (insG C c) [.int .i64 (frG C), .int .i64 0]) := by
 obtain ⟨n, hnl⟩ : ∃ n, D.length = n := ⟨_, rfl⟩
 obtain ⟨m, hml⟩ : ∃ m, C.length = m := ⟨_, rfl⟩
 obtain ⟨aL, cL, rfl⟩ := hL.val
 obtain ⟨aC, cC, rfl⟩ := hC.val
 rw [hnl] at hL ⊢
 rw [hml] at hC ⊢
 have HN := Lib.hid hnl
 have HM := Lib.hid hml
 obtain ⟨B, hB⟩ : ∃ B, w.heap.size = B := ⟨_, rfl⟩
 obtain ⟨wA, hwA⟩ : ∃ z, (w.alloc (.cells #[.slice aL n cL, .slice aC m cC] 31)).alloc (.cells #[.slice none 0 0, .slice none 0 0] 31) = z := ⟨_, rfl⟩
 have f2 := (Fr.refl [] (w.alloc (.cells #[.slice aL n cL, .slice aC m cC] 31))).alloc (.cells #[.slice none 0 0, .slice none 0 0] 31)
 have hb0 : Blk wA B 31 (two (.slice aL n cL) (.slice aC m cC)) := by
  rw [← hwA, ← hB]
  exact (Blk.made w 31 (two (.slice aL n cL) (.slice aC m cC))).keep f2 (by simp)
 have hb1 : Blk wA (B + 1) 31 zNt := by
  have h := Blk.made (w.alloc (.cells #[.slice aL n cL, .slice aC m cC] 31)) 31 zNt
  rw [show (w.alloc (.cells #[.slice aL n cL, .slice aC m cC] 31)).heap.size = B + 1 from by rw [← hB]; simp] at h
  rw [← hwA]
  exact h
 have hf : Fr [] w wA := by rw [← hwA]; exact ((Fr.refl [] w).alloc _).step f2
 have HB0 := Lib.hid hb0
 have HB1 := Lib.hid hb1
 have HF := Lib.hid hf
 have HBS := Lib.hid hB
 have HWA := Lib.hid hwA
 have HL := Lib.hid hL
 have HC := Lib.hid hC
 clear hb0 hb1 hf hB hwA f2 hL hC hnl hml
 
 have HFIT := Lib.hid hn
 have HK := Lib.hid (PN.free_spec (C.map (·.ref)))
 obtain ⟨k, hk⟩ : ∃ k, frG C = k := ⟨_, rfl⟩
 have hkm : k ≤ m := by rw [← hk, ← HM.out]; exact PN.free_le
 have hk' : PN.free (C.map (·.ref)) = k := hk
 rw [hk'] at HK
 rw [hk]
 have HKK := Lib.hid hk
 clear hk hk'
 rw [HM.out] at hm
 have hm' : (m : Int) < 128 := by omega
 clear hn
 go_enter Tryz.func80, Tryz.ntmps80
 go_upto_region 1 with fail
 rw [HWA.out]
 simp only [HBS.out]
 refine wp_region_lit ?_
 iterate 2 (refine wpList_plain rfl (fun K hK => ?_); go_simp; refine hK _ _ ?_; clear hK K)
 try simp only [Act.put, nrZ]
 refine wpList_plain rfl (fun K hK => ?_)
 go_simp
 refine (dnNew_ok c hc _).mono ?_
 rintro e w1 ⟨rfl, f1⟩
 refine hK _ _ ?_
 clear hK K
 try simp only [Act.put, nrZ]
 iterate 4 (refine wpList_plain rfl (fun K hK => ?_); go_simp; refine hK _ _ ?_; clear hK K)
 try simp only [Act.put, nrZ]
 obtain ⟨E1, hE1⟩ : ∃ E, w1.heap.size = E := ⟨_, rfl⟩
 obtain ⟨wx, hwx⟩ : ∃ z, w1.alloc (.cells #[.int .i64 0, .slice none 0 0, .bool false, .slice none 0 0, .int .i64 0, .int .i64 0, .int .i64 0, .int .i64 0, .slice none 0 0, .bool false, .slice none 0 0, .int .i64 0, .int .i64 0, .int .i64 0, .bool false, .bool false] 99) = z := ⟨_, rfl⟩
 have hbx : Blk wx E1 99 zCn := by rw [← hwx, ← hE1]; exact Blk.made w1 99 zCn
 have fx : Fr [] w1 wx := by rw [← hwx]; exact (Fr.refl [] w1).alloc _
 rw [hwx]
 simp only [hE1]
 have HE1 := Lib.hid (show w.heap.size ≤ E1 ∧ B < E1 ∧ B + 1 < E1 from by rw [← hE1]; exact ⟨(HF.out.step f1).size, (HB0.out.keep f1 (by simp)).lt, (HB1.out.keep f1 (by simp)).lt⟩)
 have HX := Lib.hid hbx
 have HF1 := Lib.hid ((HF.out.step f1).step fx)
 have HB01 := Lib.hid ((HB0.out.keep f1 (by simp)).keep fx (by simp))
 have HB11 := Lib.hid ((HB1.out.keep f1 (by simp)).keep fx (by simp))
 clear f1 fx hbx hwx hE1 HB0 HB1 HF
 obtain ⟨w2, hst, hb_, hf_⟩ := store_all (t := 99) (cnL c 0 0 0 0 false false) size94 rfl (cnL_one _ _ _ _ _ _ _) HX.out rfl
 refine stZ hst ?_
 clear hst
 refine wpList_plain rfl (fun K hK => ?_); go_simp; refine hK _ _ ?_; clear hK K
 refine wpList_nil ?_
 try simp only [Act.put, nrZ]
 have HX2 := Lib.hid (show Blk w2 E1 99 (cnC (newCC c) q0) from hb_)
 have HF2 := Lib.hid (HF1.out.own1 (S := []) (B := 0) hf_ HE1.out.1)
 have HB02 := Lib.hid (HB01.out.keep hf_ (fun hm => by rw [List.mem_singleton] at hm; have := HE1.out; omega))
 have HB12 := Lib.hid (HB11.out.keep hf_ (fun hm => by rw [List.mem_singleton] at hm; have := HE1.out; omega))
 clear hb_ hf_ HX HF1 HB01 HB11
 have cC0 : w2.cell? ⟨B, 1, none⟩ = some (.slice aC m cC) := HB02.out.at 1 _ rfl
 go_wp2_with fail
 go_loopw [9] (fun i wr => ∃ (wz : World) (q : Nat), wz = wr ∧ i = .int .i64 q ∧ q ≤ k ∧ Fr [] w2 wr) (fun i _ => k - (intOf i).toNat)
 case atStart => exact ⟨_, 0, rfl, rfl, by omega, Fr.refl _ _⟩
 case round =>
  obtain ⟨wr, q, hwz, rfl, hq, fr⟩ := hrel
  subst hwz
  have HB03 := Lib.hid (HB02.out.keep fr (by simp))
  have HB13 := Lib.hid (HB12.out.keep fr (by simp))
  have HX3 := Lib.hid (HX2.out.keep fr (by simp))
  have HF3 := Lib.hid (HF2.out.step fr)
  have HFR := Lib.hid fr
  clear fr cC0
  go_upto_region 7 with fail
  refine wp_region_lit ?_
  refine ldZ (load_all agg34 size34 (xs := two (.slice aL n cL) (.slice aC m cC)) rfl HB03.out.at) ?_
  refine wpList_plain rfl (fun K hK => ?_); go_simp; refine hK _ _ ?_; clear hK K
  try simp only [Act.put, nrZ]
  refine wpList_plain rfl (fun K hK => ?_)
  go_simp
  refine (connAtG (.slice aL n cL) (.slice aC m cC) C (q : Int) _ (by have := CRow.next (show CRow w (.slice aC m cC) C from by have := HC.out; exact this) HF3.out; exact this) (by rw [HM.out]; omega)).mono ?_
  rintro e w4 ⟨rfl, f4⟩
  refine hK _ _ ?_
  clear hK K
  try simp only [Act.put, nrZ]
  have HB04 := Lib.hid (HB03.out.keep f4 (by simp))
  have HB14 := Lib.hid (HB13.out.keep f4 (by simp))
  have HX4 := Lib.hid (HX3.out.keep f4 (by simp))
  have HF4 := Lib.hid (HF3.out.step f4)
  have HFR4 := Lib.hid (HFR.out.step f4)
  clear f4 HB03 HB13 HX3 HF3 HFR
  obtain ⟨P, hP⟩ : ∃ P, place (PN.pick (refG (q : Int)) C 0) = P := ⟨_, rfl⟩
  rw [hP]
  by_cases hqk : q < k
  ·skip
   have hP0 : 0 ≤ P := by
    obtain ⟨i, y, he⟩ := refG_mem.2 (HK.out.2.1 q hqk)
    rw [← hP, he]
    simp [place]
   have d0 : decide (0 ≤ P) = true := decide_eq_true hP0
   clear hP
   go_wp2
   go_roundw
   case rel => exact ⟨_, q + 1, rfl, by go_num, by omega, HFR4.out⟩
   case measure => simp [intOf]; omega
  ·skip
   obtain rfl : q = k := by omega
   have hP0 : P < 0 := by
    rw [← hP]
    cases he : PN.pick (refG (q : Int)) C 0 with
    | none => simp [place]
    | some a => exact absurd (refG_mem.1 ⟨a.1, a.2, he⟩) HK.out.1
   have d0 : decide (0 ≤ P) = false := decide_eq_false (by omega)
   clear hP
   go_upto_region 9 with fail
   refine wp_region_lit ?_
   refine ldZ (load_all agg34 size34 (xs := two (.slice aL n cL) (.slice aC m cC)) rfl HB04.out.at) ?_
   refine wpList_plain rfl (fun K hK => ?_)
   go_simp
   refine (nCopy_any (.slice aL n cL) (.slice aC m cC) D C _ (LRow.next HL.out HF4.out) (CRow.next HC.out HF4.out) HFIT.out).mono ?_
   rintro e w5 ⟨sL, sC, rfl, oL, oC, f5⟩
   refine hK _ _ ?_
   clear hK K
   try simp only [Act.put, nrZ]
   have HB15 := Lib.hid (HB14.out.keep f5 (by simp))
   have HX5 := Lib.hid (HX4.out.keep f5 (by simp))
   have HF5 := Lib.hid (HF4.out.step f5)
   have HOL5 := Lib.hid (oL.base (B' := B) (by rw [← HBS.out]; exact HF4.out.size))
   have HOC5 := Lib.hid (oC.base (B' := B) (by rw [← HBS.out]; exact HF4.out.size))
   clear f5 oL oC HB04 HB14 HX4 HF4 HFR4
   refine wpList_plain rfl (fun K hK => ?_); go_simp; refine hK _ _ ?_; clear hK K
   try simp only [Act.put, nrZ]
   obtain ⟨E6, hE6⟩ : ∃ E, w5.heap.size = E := ⟨_, rfl⟩
   obtain ⟨wy, hwy⟩ : ∃ z, w5.alloc (.cells #[.slice none 0 0, .slice none 0 0] 31) = z := ⟨_, rfl⟩
   have hby : Blk wy E6 31 zNt := by rw [← hwy, ← hE6]; exact Blk.made w5 31 zNt
   have fy : Fr [] w5 wy := by rw [← hwy]; exact (Fr.refl [] w5).alloc _
   rw [hwy]
   simp only [hE6]
   have HE6 := Lib.hid (show w.heap.size ≤ E6 ∧ B + 1 < E6 ∧ E1 < E6 from by rw [← hE6]; exact ⟨HF5.out.size, HB15.out.lt, HX5.out.lt⟩)
   have HY6 := Lib.hid hby
   have HB16 := Lib.hid (HB15.out.keep fy (by simp))
   have HX6 := Lib.hid (HX5.out.keep fy (by simp))
   have HF6 := Lib.hid (HF5.out.step fy)
   have HOL6 := Lib.hid (HOL5.out.next fy)
   have HOC6 := Lib.hid (HOC5.out.next fy)
   clear fy hby hwy hE6 HB15 HX5 HF5 HOL5 HOC5
   obtain ⟨w7, hst, hb_, hf_⟩ := store_all (t := 31) (two (slv sL) (slv sC)) size34 rfl (two_one _ _) HY6.out rfl
   refine stZ hst ?_
   clear hst
   refine wpList_nil ?_
   try simp only [Act.put, nrZ]
   have HY7 := Lib.hid hb_
   have HB17 := Lib.hid (HB16.out.keep hf_ (fun hm => by rw [List.mem_singleton] at hm; have := HE6.out; omega))
   have HX7 := Lib.hid (HX6.out.keep hf_ (fun hm => by rw [List.mem_singleton] at hm; have := HE6.out; omega))
   have HF7 := Lib.hid (HF6.out.own1 (S := []) (B := 0) hf_ HE6.out.1)
   have HOL7 := Lib.hid (HOL6.out.far HY6.out hf_ (by decide) (by decide))
   have HOC7 := Lib.hid (HOC6.out.far HY6.out hf_ (by decide) (by decide))
   clear hb_ hf_ HY6 HB16 HX6 HF6 HOL6 HOC6
   obtain ⟨w8, hw8⟩ : ∃ z, w7.drew = z := ⟨_, rfl⟩
   have f8 : Fr [] w7 w8 := by rw [← hw8]; exact (Fr.refl [] w7).drew
   have HY8 := Lib.hid (HY7.out.keep f8 (by simp))
   have HB18 := Lib.hid (HB17.out.keep f8 (by simp))
   have HX8 := Lib.hid (HX7.out.keep f8 (by simp))
   have HF8 := Lib.hid (HF7.out.step f8)
   have HOL8 := Lib.hid (HOL7.out.next f8)
   obtain ⟨Xs, hrec, hown⟩ := HOC7.out.next f8
   rw [HM.out] at hown
   obtain ⟨vr, hvr, hrr⟩ := own_slice_from elemConn hown q hkm
   have HW8 := Lib.hid hw8
   have HREC8 := Lib.hid hrec
   have HOWN8 := Lib.hid hown
   have HRR8 := Lib.hid hrr
   clear f8 hw8 hrec hown hrr HY7 HB17 HX7 HF7 HOL7 HOC7
   go_upto_region 10 with fail
   obtain ⟨sC1, sC2, sC3⟩ := sC
   refine wp_region_held_drew (S := fun w' => w'.cell? ⟨E6, 1, none⟩ = some (.slice sC1 sC2 sC3) ∧ LiesAt w' E1 0 (cnC (newCC c) q0)) (by kernel_rfl) (by rw [HW8.out]; exact ⟨HY8.out.at 1 _ rfl, HX8.out.at⟩) (fun hHeld => ?_)
   rw [HW8.out] at hHeld ⊢
   refine tkZ 0 ?_
   refine tvZ 1 _ rfl (fun w hSw => ldX (load_all agg94 size94 (xs := cnC (newCC c) q0) rfl hSw.2)) ?_
   refine tvZ 2 (.agg (pgC ⟨q, newCC c⟩ q0).toArray) rfl ?_ ?_
   ·intro w hSw
    try dsimp only at hSw
    exact exec_bld2 (V := .int .i64 q) (U := .agg (cnC (newCC c) q0).toArray) rfl rfl rfl (bldConn ⟨q, newCC c⟩ q0 w)
   try simp only [Act.put, nrZ]
   refine tkZ 4 ?_
   refine tkZ 5 ?_
   refine tkZ 6 ?_
   refine tvZ 7 vr rfl ?_ ?_
   ·intro w hSw
    try dsimp only at hSw
    exact exec_slice_from (V := slv (sC1, sC2, sC3)) (L := .int .i64 q) rfl rfl rfl elemConn.el.2.1 (hvr w)
   try simp only [Act.put, nrZ]
   refine rdZ 3 (fun K hK => ?_)
   obtain ⟨w9, hw9⟩ : ∃ z, w8.alloc (.cells (pgC ⟨q, newCC c⟩ q0).toArray 138) = z := ⟨_, rfl⟩
   obtain ⟨E9, hE9⟩ : ∃ z, w8.heap.size = z := ⟨_, rfl⟩
   have hb9 : w9.ownsRow B 138 17 (.slice (some ⟨E9, 0, none⟩) 1 1) 1 (pgC ⟨q, newCC c⟩ q0) := by
    rw [← hw9, ← hE9]
    exact World.ownsRow_lit w8 (pgC ⟨q, newCC c⟩ q0).toArray 1 (by rw [← HBS.out]; exact HF8.out.size) (by unfold maxLen; omega) rfl
   have f9 : Fr [] w8 w9 := by rw [← hw9]; exact (Fr.refl [] w8).alloc _
   have HE9 := Lib.hid (show w.heap.size ≤ E9 ∧ w8.heap.size = E9 from ⟨by rw [← hE9]; exact HF8.out.size, hE9⟩)
   split
   rotate_left
   ·rename_i hno
    exact absurd rfl hno
   refine wp_vl (v := .slice (some ⟨E9, 0, none⟩) 1 1) (w' := w9) ?_ ?_
   ·refine exec_bsl (V := .agg (pgC ⟨q, newCC c⟩ q0).toArray) rfl rfl ?_
    rw [bslConn, hw9, hE9]
   have HB9 := Lib.hid hb9
   have HF9 := Lib.hid f9
   clear hw9 hE9 hb9 f9
   refine hK.out _ _ (⟨(HY8.out.keep HF9.out (by simp)).at 1 _ rfl, (HX8.out.keep HF9.out (by simp)).at⟩) (fun hHeld => ?_)
   clear hK K
   try simp only [Act.put, nrZ]
   refine rdZ 8 (fun K hK => ?_)
   split
   rotate_left
   ·rename_i hno
    exact absurd rfl hno
   refine wp_append_any elemConn _ _ rfl B (v := .slice (some ⟨E9, 0, none⟩) 1 1) (n := 1) (xs := pgC ⟨q, newCC c⟩ q0) rfl HB9.out (X := vr) (m := m - q) (news := (Xs.drop q).flatten) rfl (by rw [← flat_drop q HREC8.out.sz]; exact HRR8.out.new HF9.out) (flat_one (HREC8.out.drop q).one) (by omega) (by decide) (by have := HBS.out; have := (HF8.out.step HF9.out).size; omega) ?_
   intro sR w10 ho10 f10
   have HF10 := Lib.hid (show Fr [] w8 w10 from HF9.out.trans f10 (fun x hx hl => by
    simp only [Value.ownBlock, Option.toList_some, List.mem_singleton] at hx
    have := HE9.out.2
    omega))
   have HO10 := Lib.hid ho10
   clear ho10 f10
   refine hK.out _ _ (⟨(HY8.out.keep HF10.out (by simp)).at 1 _ rfl, (HX8.out.keep HF10.out (by simp)).at⟩) (fun hHeld => ?_)
   clear hK K
   try simp only [Act.put, nrZ]
   refine tkZ 9 ?_
   refine wpAnyH_done (by kernel_rfl) ?_ _
   clear hHeld
   have HY10 := Lib.hid (HY8.out.keep HF10.out (by simp))
   have HB110 := Lib.hid (HB18.out.keep HF10.out (by simp))
   have HFT := Lib.hid (HF8.out.step HF10.out)
   have HOL10 := Lib.hid (HOL8.out.next HF10.out)
   have HREC10 := Lib.hid (HREC8.out.mono (fun X y ⟨s, e1, e2⟩ => (⟨s, e1, e2.new HF10.out⟩ : ElCO B w10 X y)))
   obtain ⟨a0, ht0, hr0⟩ := own_slice_to elemConn (rowNew HOWN8.out HF10.out) q hkm
   have HR0 := Lib.hid (show RowV w10 (.slice a0 q q) q 17 (Xs.take q).flatten from by rw [← flat_take q HREC10.out.sz]; exact hr0)
   clear hr0 HB9 HF9 HF10 HY8 HX8 HB18 HF8 HOL8 HREC8 HOWN8 HRR8 HW8 HE9
   go_upto_region 11 with fail
   have c1 : w10.cell? ⟨E6, 1, none⟩ = some (.slice sC1 sC2 sC3) := HY10.out.at 1 _ rfl
   refine wp_region_lit ?_
   iterate 4 (refine wpList_plain rfl (fun K hK => ?_); go_simp; refine hK _ _ ?_; clear hK K)
   try simp only [Act.put, nrZ]
   refine wpList_val rfl (v := .slice a0 q q) (w' := w10) (exec_slice_to (V := slv (sC1, sC2, sC3)) (H := .int .i64 q) (M := .int .i64 q) rfl rfl rfl rfl elemConn.el.2.1 (ht0 w10)) ?_
   try simp only [Act.put, nrZ]
   refine wpList_plain rfl (fun K hK => ?_); go_simp; refine hK _ _ ?_; clear hK K
   try simp only [Act.put, nrZ]
   refine wpList_append_cap elemConn rfl _ _ rfl (a0 := a0) (n := q) (xs := (Xs.take q).flatten) rfl HR0.out (X := slv sR) (m := 1 + (m - q)) (news := pgC ⟨q, newCC c⟩ q0 ++ (Xs.drop q).flatten) rfl (RowV.of_own HO10.out) (by omega) (by omega) (by decide) ?_
   intro sC' w11 ho11 f11
   try simp only [Act.put, nrZ]
   refine wpList_plain rfl (fun K hK => ?_); go_simp; refine hK _ _ ?_; clear hK K
   try simp only [Act.put, nrZ]
   have HY11 := Lib.hid (HY10.out.keep f11 (by simp))
   have HB111 := Lib.hid (HB110.out.keep f11 (by simp))
   have HF11 := Lib.hid (HFT.out.step f11)
   have HOL11 := Lib.hid (HOL10.out.next f11)
   have HOC11 := Lib.hid (show COwn w11 B (slv sC') (insG C c) from by
    refine ⟨Xs.take q ++ ([pgC ⟨q, newCC c⟩ q0] ++ Xs.drop q), ?_, ?_⟩
    ·have h0 := HREC10.out.mono (fun X y ⟨s, e1, e2⟩ => (⟨s, e1, e2.new f11⟩ : ElCO B w11 X y))
     have h1 : Recs 17 (ElCO B w11) [pgC ⟨q, newCC c⟩ q0] [(⟨q, newCC c⟩ : PG)] := Recs.push Recs.nil rfl (pgC_one _ _) ⟨q0, rfl, q0_own _ _ _⟩
     have h2 := (h0.take q).app (h1.app (h0.drop q))
     unfold insG
     rw [HKK.out]
     exact h2
    ·have hlen : (insG C c).length = q + (1 + (m - q)) := by
      unfold insG
      rw [HKK.out, List.length_append, List.length_cons, List.length_take, List.length_drop, HM.out]
      omega
     rw [hlen]
     have := rowBase ho11 (base' := B) (by rw [← HBS.out]; exact HFT.out.size)
     rw [List.flatten_append, List.flatten_append, List.flatten_singleton]
     exact this)
   clear ho11 f11 c1 HY10 HB110 HFT HOL10 HREC10 HO10 HR0
   obtain ⟨w12, hst, hb_, hf_⟩ := store_cell (t := 29) (o := 1) (slv sC') size32 rfl rfl HY11.out (by show 1 + 1 ≤ 2; omega)
   refine stZ hst ?_
   clear hst
   refine wpList_nil ?_
   try simp only [Act.put, nrZ]
   have HY12 := Lib.hid (show Blk w12 E6 31 (two (slv sL) (slv sC')) from hb_)
   have HB112 := Lib.hid (HB111.out.keep hf_ (fun hm => by rw [List.mem_singleton] at hm; have := HE6.out; omega))
   have HF12 := Lib.hid (HF11.out.own1 (S := []) (B := 0) hf_ HE6.out.1)
   have HOL12 := Lib.hid (HOL11.out.far HY11.out hf_ (by decide) (by decide))
   have HOC12 := Lib.hid (HOC11.out.far HY11.out hf_ (by decide) (by decide))
   clear hb_ hf_ HY11 HB111 HF11 HOL11 HOC11
   go_upto_region 12 with fail
   refine wp_region_lit ?_
   refine ldZ (load_all agg34 size34 (xs := two (slv sL) (slv sC')) rfl HY12.out.at) ?_
   refine wpList_plain rfl (fun K hK => ?_); go_simp; refine hK _ _ ?_; clear hK K
   try simp only [Act.put, nrZ]
   obtain ⟨w13, hst, hb_, hf_⟩ := store_all (t := 31) (two (slv sL) (slv sC')) size34 rfl (two_one _ _) HB112.out rfl
   refine stZ hst ?_
   clear hst
   iterate 2 (refine wpList_plain rfl (fun K hK => ?_); go_simp; refine hK _ _ ?_; clear hK K)
   refine wpList_nil ?_
   try simp only [Act.put, nrZ]
   have HR13 := Lib.hid hb_
   have HF13 := Lib.hid (HF12.out.own1 (S := []) (B := 0) hf_ (by have := HBS.out; omega))
   have HOL13 := Lib.hid (HOL12.out.far HB112.out hf_ (by decide) (by decide))
   have HOC13 := Lib.hid (HOC12.out.far HB112.out hf_ (by decide) (by decide))
   clear hb_ hf_
   go_wp2
   have hl := load_var agg34 size34 (xs := two (slv sL) (slv sC')) rfl HR13.out.at
   refine bodyPost_ret (v := .tuple #[.agg (two (slv sL) (slv sC')).toArray, .int .i64 q, .int .i64 0]) (by simp [results, Tryz.results80, as_addr, hl]) rfl ?_
   exact ⟨sL, sC', rfl, by rw [HBS.out]; exact HOL13.out, by rw [HBS.out]; exact HOC13.out, HF13.out⟩
end Go.Proofs.YtgbmenfmaphciaaGreat
