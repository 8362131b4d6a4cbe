/- A net with its listeners and connections in memory, every block under a number of its owner; Connect over it. -/
/- Contracts of listener's Accept, and Accept over a net in memory. -/
/- Listen over a net in memory. -/
/- Hang of a connection's end 1 over a net in memory. -/
/- Contract of listener's hang at either end, open or closed, and of listener's Hang over a net in memory. -/
/- Contract of listener's Close over a net in memory. -/
/- The walk of listener's Close. -/
/- Contract of listener's waits: whether a connection waits for a listener of a net in memory. -/
/- The net in memory: a pair is opened. -/
import Derived.Test.YtmdhlodafjpnmaaGreatHang2
import Derived.Test.YtmdhlodafjpnmaaGreatHang
import Derived.Test.YtmdhlodafjpnmaaGreatWait
import Derived.Test.YtmdhlodafjpnmaaGreatBP3
import Derived.Recover
import Derived.Deep.CutRange
import Derived.Test.YtmdhlodafjpnmaaGreatSlc
import Derived.Test.YtmdhlodafjpnmaaGreatRange
namespace Go.Proofs.YtmdhlodafjpnmaaGreat
open Go.RowKit
open Go.Maps (Keyed)
set_option linter.unusedVariables false
set_option maxRecDepth 100000
set_option maxHeartbeats 4000000

structure NB where
  n : Nat
  r : Nat
  m : Nat
  lm : Nat
  cm : Nat
structure LB where
  ref : Nat
  s : ByteArray
  p : Int
  most : Int
  l : List (Nat × Int)
  g : Nat
  b : Nat
  q : Nat
  m : Nat
  t : Nat
structure CB where
  ref : Nat
  cap : Nat
  a0 : Bool
  a1 : Bool
  d : Nat
def LB.pl (x : LB) : PN.PL := ⟨x.ref, x.s, x.p, x.most, x.l.map (·.2)⟩
def LB.nm (x : LB) : Value × Value := (addrV x.s x.p, .int .i64 x.ref)
def LB.ent (x : LB) : Value × Value := (.int .i64 x.ref, qV x.b x.s x.p)
def CB.pc (y : CB) : PN.PC := ⟨y.ref, y.cap, y.a0, y.a1⟩
def CB.ent (y : CB) : Value × Value := (.int .i64 y.ref, .pointer (some ⟨y.d, 0, none⟩))

/-- The owners' numbers: 0 the net, 4 n + 1 the connection n, 4 n + 2 the listener n, 4 n + 3 others. -/
structure ListW (w : World) (own : Nat → Nat) (G : Nat) (x : LB) : Prop where
  back : BackIs w x.b x.q x.m x.t x.most false x.l x.g
  own : own x.b = 4 * x.ref + 2 ∧ own x.q = 4 * x.ref + 2 ∧ own x.m = 4 * x.ref + 2 ∧ own x.t = 4 * x.ref + 2
  adr : addrB x.s.data.toList x.p = true
  sz : x.s.size ≤ 1000000
  port : (x.p == 0) = false
  most : 1 ≤ x.most ∧ x.most ≤ 128
  len : (x.l.length : Int) ≤ x.most
  g : x.g ≤ G
structure ConnW (w : World) (own : Nat → Nat) (y : CB) : Prop where
  dup : DupS w (fun x => own x = 4 * y.ref + 1) y.d y.cap y.a0 y.a1
  cap : y.cap ≤ 4096
  op : (y.a0 && y.a1) = false

/-- What was there keeps its owner. -/
def Ext (w : World) (own own' : Nat → Nat) : Prop := ∀ x, x < w.heap.size → own' x = own x
theorem Ext.refl (w : World) (own : Nat → Nat) : Ext w own own := fun _ _ => rfl
theorem Ext.trans {S : List Nat} {w w' : World} {o1 o2 o3 : Nat → Nat} (h : Ext w o1 o2) (k : Ext w' o2 o3) (hf : Fr S w w') : Ext w o1 o3 := fun x hx => (k x (Nat.lt_of_lt_of_le hx hf.size)).trans (h x hx)
theorem Ext.step {w w' : World} {o1 o2 o3 : Nat → Nat} (h : Ext w o1 o2) (k : Ext w' o2 o3) (hs : w.heap.size ≤ w'.heap.size) : Ext w o1 o3 := fun x hx => (k x (Nat.lt_of_lt_of_le hx hs)).trans (h x hx)
/-- New blocks belong to c. -/
def ownNew (w : World) (own : Nat → Nat) (c : Nat) : Nat → Nat := fun x => if x < w.heap.size then own x else c
theorem Ext.new (w : World) (own : Nat → Nat) (c : Nat) : Ext w own (ownNew w own c) := fun x hx => if_pos hx
theorem ownNew_ge {w : World} {own : Nat → Nat} {c x : Nat} (h : w.heap.size ≤ x) : ownNew w own c x = c := if_neg (by omega)

theorem ListW.keep {S : List Nat} {w w' : World} {own : Nat → Nat} {G : Nat} {x : LB} (h : ListW w own G x) (hf : Fr S w w') (hS : ∀ z ∈ S, own z ≠ 4 * x.ref + 2) : ListW w' own G x :=
  ⟨h.back.keep hf (fun hm => hS _ hm h.own.1) (fun hm => hS _ hm h.own.2.1) (fun hm => hS _ hm h.own.2.2.1) (fun hm => hS _ hm h.own.2.2.2), h.own, h.adr, h.sz, h.port, h.most, h.len, h.g⟩
theorem ListW.ext {w : World} {own own' : Nat → Nat} {G : Nat} {x : LB} (h : ListW w own G x) (he : Ext w own own') : ListW w own' G x := by
  obtain ⟨f, h1, _⟩ := h.back.tickets
  exact ⟨h.back, ⟨(he _ (cell_lt h.back.c0)).trans h.own.1, (he _ (cell_lt h.back.queue.c0)).trans h.own.2.1, (he _ (map_lt h.back.queue)).trans h.own.2.2.1, (he _ h1.lt).trans h.own.2.2.2⟩, h.adr, h.sz, h.port, h.most, h.len, h.g⟩
theorem ListW.mono {w : World} {own : Nat → Nat} {G G' : Nat} {x : LB} (h : ListW w own G x) (hg : G ≤ G') : ListW w own G' x :=
  ⟨h.back, h.own, h.adr, h.sz, h.port, h.most, h.len, Nat.le_trans h.g hg⟩
theorem ConnW.keep {S : List Nat} {w w' : World} {own : Nat → Nat} {y : CB} (h : ConnW w own y) (hf : Fr S w w') (hS : ∀ z ∈ S, own z ≠ 4 * y.ref + 1) : ConnW w' own y :=
  ⟨h.dup.keep hf hS, h.cap, h.op⟩
theorem ConnW.ext {w : World} {own own' : Nat → Nat} {y : CB} (h : ConnW w own y) (he : Ext w own own') : ConnW w own' y :=
  ⟨h.dup.ext (fun x hx hp => (he x hx).trans hp), h.cap, h.op⟩

/-- The numbers that wait, of all listeners. -/
def qs (L : List LB) : List Int := L.flatMap fun x => x.l.map (·.2)
theorem qs_mid (L1 L2 : List LB) (x : LB) : qs (L1 ++ x :: L2) = qs L1 ++ (x.l.map (·.2) ++ qs L2) := by simp [qs]
structure NetW (w : World) (own : Nat → Nat) (B : NB) (L : List LB) (C : List CB) (G : Nat) : Prop where
  net : NetIs w B.n B.r B.m B.lm B.cm (L.map LB.nm) (L.map LB.ent) (C.map CB.ent)
  on : own B.n = 0 ∧ own B.r = 0 ∧ own B.m = 0 ∧ own B.lm = 0 ∧ own B.cm = 0
  ls : ∀ x ∈ L, ListW w own G x
  cs : ∀ y ∈ C, ConnW w own y
  refs : (L.map (·.ref)).Nodup
  crefs : (C.map (·.ref)).Nodup
  adrs : L.Pairwise fun x y => ¬ (x.s = y.s ∧ x.p = y.p)
  queue : ∀ k ∈ qs L, ∃ y ∈ C, (y.ref : Int) = k ∧ y.a1 = false
  vals : (qs L).Nodup
  nl : L.length ≤ 128
  nc : C.length ≤ 128
def plainN (L : List LB) (C : List CB) : PN.Net := ⟨L.map LB.pl, C.map CB.pc⟩
/-- The owners whose blocks a call of a net may turn. -/
def netO (c : Nat) : Prop := c = 0 ∨ c % 4 = 1 ∨ c % 4 = 2
/-- Of the blocks that were there, only those of owners in Q may have turned. -/
def FrO (own : Nat → Nat) (Q : Nat → Prop) (w w' : World) : Prop := ∃ S, Fr S w w' ∧ ∀ x ∈ S, x < w.heap.size → Q (own x)
theorem FrO.of {own : Nat → Nat} {Q : Nat → Prop} {S : List Nat} {w w' : World} (h : Fr S w w') (hS : ∀ x ∈ S, Q (own x)) : FrO own Q w w' := ⟨S, h, fun x hx _ => hS x hx⟩
theorem FrO.new {own : Nat → Nat} {Q : Nat → Prop} {w w' : World} (h : Fr [] w w') : FrO own Q w w' := ⟨[], h, fun x hx => by cases hx⟩
theorem FrO.size {own : Nat → Nat} {Q : Nat → Prop} {w w' : World} (h : FrO own Q w w') : w.heap.size ≤ w'.heap.size := by
  obtain ⟨S, h1, _⟩ := h
  exact h1.size
theorem FrO.mono {own : Nat → Nat} {Q R : Nat → Prop} {w w' : World} (h : FrO own Q w w') (hq : ∀ c, Q c → R c) : FrO own R w w' := by
  obtain ⟨S, h1, h2⟩ := h
  exact ⟨S, h1, fun x hx hl => hq _ (h2 x hx hl)⟩
theorem FrO.trans {own own' : Nat → Nat} {Q : Nat → Prop} {a b c : World} (h : FrO own Q a b) (k : FrO own' Q b c) (he : Ext a own own') : FrO own Q a c := by
  obtain ⟨S, h1, h2⟩ := h
  obtain ⟨T, k1, k2⟩ := k
  refine ⟨S ++ T, (h1.mono (T := S ++ T) (fun x hx _ => List.mem_append_left _ hx)).trans k1 (fun x hx _ => List.mem_append_right _ hx), fun x hx hl => ?_⟩
  rcases List.mem_append.1 hx with hx | hx
  · exact h2 x hx hl
  · rw [← he x hl]
    exact k2 x hx (Nat.lt_of_lt_of_le hl h1.size)
/-- .. so that a list of just these blocks can be named. -/
theorem FrO.list {own : Nat → Nat} {Q : Nat → Prop} {w w' : World} (h : FrO own Q w w') : ∃ S, Fr S w w' ∧ ∀ x ∈ S, x < w.heap.size ∧ Q (own x) := by
  obtain ⟨S, h1, h2⟩ := h
  refine ⟨S.filter (fun x => decide (x < w.heap.size)), h1.mono (fun x hx hl => List.mem_filter.2 ⟨hx, by simpa using hl⟩), fun x hx => ?_⟩
  obtain ⟨hx1, hx2⟩ := List.mem_filter.1 hx
  have := of_decide_eq_true hx2
  exact ⟨this, h2 x hx1 this⟩

theorem NetW.keep {S : List Nat} {w w' : World} {own : Nat → Nat} {B : NB} {L : List LB} {C : List CB} {G : Nat} (h : NetW w own B L C G) (hf : Fr S w w') (hS : ∀ z ∈ S, ¬ netO (own z)) : NetW w' own B L C G := by
  obtain ⟨o1, o2, o3, o4, o5⟩ := h.on
  refine ⟨h.net.keep hf ?_ ?_ ?_ ?_ ?_, h.on, fun x hx => (h.ls x hx).keep hf (fun z hz he => hS z hz (.inr (.inr (by rw [he]; omega)))), fun y hy => (h.cs y hy).keep hf (fun z hz he => hS z hz (.inr (.inl (by rw [he]; omega)))), h.refs, h.crefs, h.adrs, h.queue, h.vals, h.nl, h.nc⟩
  all_goals (intro hm; exact hS _ hm (.inl (by assumption)))
theorem NetW.new {w w' : World} {own : Nat → Nat} {B : NB} {L : List LB} {C : List CB} {G : Nat} (h : NetW w own B L C G) (hf : Fr [] w w') : NetW w' own B L C G := h.keep hf (fun z hz => by cases hz)
theorem NetW.ext {w : World} {own own' : Nat → Nat} {B : NB} {L : List LB} {C : List CB} {G : Nat} (h : NetW w own B L C G) (he : Ext w own own') : NetW w own' B L C G := by
  obtain ⟨o1, o2, o3, o4, o5⟩ := h.on
  exact ⟨h.net, ⟨(he _ (cell_lt h.net.c0)).trans o1, (he _ (cell_lt h.net.reg.c0)).trans o2, (he _ h.net.reg.map.lt).trans o3, (he _ h.net.ls.lt).trans o4, (he _ h.net.cs.lt).trans o5⟩, fun x hx => (h.ls x hx).ext he, fun y hy => (h.cs y hy).ext he, h.refs, h.crefs, h.adrs, h.queue, h.vals, h.nl, h.nc⟩
theorem NetW.mono {w : World} {own : Nat → Nat} {B : NB} {L : List LB} {C : List CB} {G G' : Nat} (h : NetW w own B L C G) (hg : G ≤ G') : NetW w own B L C G' :=
  ⟨h.net, h.on, fun x hx => (h.ls x hx).mono hg, h.cs, h.refs, h.crefs, h.adrs, h.queue, h.vals, h.nl, h.nc⟩

theorem addrV_inj {s s' : ByteArray} {p p' : Int} (h : addrV s p = addrV s' p') : s = s' ∧ p = p' := by
  unfold addrV at h
  simp only [Value.agg.injEq, Array.mk.injEq, List.cons.injEq, Value.string.injEq, Value.int.injEq, and_true, true_and] at h
  exact h
theorem i64_inj {a b : Nat} (h : Value.int .i64 (a : Int) = .int .i64 (b : Int)) : a = b := by
  simp only [Value.int.injEq, true_and] at h
  omega

/-- The listener of an address: none, or one in the middle of the others. -/
theorem at_none {L : List LB} {s : ByteArray} {p : Int} (h : PN.at? (L.map LB.pl) s p = none) : ∀ x ∈ L.map LB.nm, x.1 ≠ addrV s p := by
  intro x hx he
  obtain ⟨y, hy, rfl⟩ := List.mem_map.1 hx
  have := List.find?_eq_none.1 h y.pl (List.mem_map.2 ⟨y, hy, rfl⟩)
  have e := addrV_inj he
  simp [LB.pl, e.1, e.2] at this
theorem at_some {L : List LB} {s : ByteArray} {p : Int} {z : PN.PL} (h : PN.at? (L.map LB.pl) s p = some z) : ∃ L1 x L2, L = L1 ++ x :: L2 ∧ z = x.pl ∧ x.s = s ∧ x.p = p := by
  unfold PN.at? at h
  rw [List.find?_map, Option.map_eq_some_iff] at h
  obtain ⟨x, hx, rfl⟩ := h
  obtain ⟨h1, L1, L2, h2, _⟩ := List.find?_eq_some_iff_append.1 hx
  simp only [Function.comp, decide_eq_true_eq] at h1
  exact ⟨L1, x, L2, h2, rfl, h1.1, h1.2⟩
theorem by_none {L : List LB} {r : Int} (h : PN.byRef (L.map LB.pl) r = none) : ∀ x ∈ L.map LB.ent, x.1 ≠ .int .i64 r := by
  intro x hx he
  obtain ⟨y, hy, rfl⟩ := List.mem_map.1 hx
  have := List.find?_eq_none.1 h y.pl (List.mem_map.2 ⟨y, hy, rfl⟩)
  simp only [LB.ent, Value.int.injEq, true_and] at he
  simp [LB.pl, he] at this
theorem by_some {L : List LB} {r : Int} {z : PN.PL} (h : PN.byRef (L.map LB.pl) r = some z) : ∃ L1 x L2, L = L1 ++ x :: L2 ∧ z = x.pl ∧ (x.ref : Int) = r := by
  unfold PN.byRef at h
  rw [List.find?_map, Option.map_eq_some_iff] at h
  obtain ⟨x, hx, rfl⟩ := h
  obtain ⟨h1, L1, L2, h2, _⟩ := List.find?_eq_some_iff_append.1 hx
  simp only [Function.comp, decide_eq_true_eq] at h1
  exact ⟨L1, x, L2, h2, rfl, h1⟩
/-- In a list without a number twice, what is done to one number is done to one place. -/
theorem map_one {L1 L2 : List LB} {x : LB} (h : ((L1 ++ x :: L2).map (·.ref)).Nodup) : (∀ y ∈ L1, y.ref ≠ x.ref) ∧ (∀ y ∈ L2, y.ref ≠ x.ref) := by
  simp only [List.map_append, List.map_cons, List.nodup_append, List.nodup_cons] at h
  obtain ⟨_, ⟨h2, _⟩, h3⟩ := h
  refine ⟨fun y hy he => ?_, fun y hy he => h2 (by rw [← he]; exact List.mem_map.2 ⟨y, hy, rfl⟩)⟩
  exact h3 _ (List.mem_map.2 ⟨y, hy, rfl⟩) _ List.mem_cons_self he
theorem pushL_one {L1 L2 : List LB} {x : LB} (h : ((L1 ++ x :: L2).map (·.ref)).Nodup) (k : Int) :
    PN.pushL ((L1 ++ x :: L2).map LB.pl) x.ref k = L1.map LB.pl ++ { x.pl with l := x.pl.l ++ [k] } :: L2.map LB.pl := by
  obtain ⟨h1, h2⟩ := map_one h
  unfold PN.pushL
  rw [List.map_map, List.map_append, List.map_cons]
  congr 1
  · exact List.map_congr_left fun y hy => by simp [LB.pl, h1 y hy]
  · congr 1
    · simp [LB.pl]
    · exact List.map_congr_left fun y hy => by simp [LB.pl, h2 y hy]

end Go.Proofs.YtmdhlodafjpnmaaGreat
namespace Go.Proofs.YtmdhlodafjpnmaaGreat
open Go.RowKit
open Go.Maps (Keyed)
set_option linter.unusedVariables false
set_option maxRecDepth 100000
set_option maxHeartbeats 4000000

section
variable {n r m lm cm : Nat} {names ls cs : List (Value × Value)} (ref : Int) (w : World)

theorem netAccept_none (h : NetIs w n r m lm cm names ls cs) (hr : -9223372036854775808 ≤ ref) (hr' : ref ≤ 9223372036854775807) (hx : ∀ x ∈ ls, x.1 ≠ .int .i64 ref) :
    Calls Tryz.prog 34 #[.pointer (some ⟨n, 0, none⟩), .int .i64 ref] w fun e w' => e = .returned (.tuple #[.int .i64 0, .int .i64 9]) ∧ Fr [] w w' := by
  have c1 := h.c1
  have HN := Lib.hid (netNone_any _ h)
  have hl := h.ls.miss keyInt (t := 49) (e := 120) Tryz.underlying49 (keyInt_of ref hr hr') hx (zeroQ _) true
  simp only [if_true] at hl
  have HX := Lib.hid hx
  clear h hx
  go_enter Tryz.func34, Tryz.ntmps34
  go_wp2_with (go_at_call 55; refine HN.out.mono ?_; rintro e w' ⟨rfl, rfl⟩)
  go_ret2
  exact ⟨rfl, (Fr.refl [] _).alloc _⟩

theorem netAccept_empty (h : NetIs w n r m lm cm names ls cs) (b q mm t : Nat) (most : Int) (g : Nat) (s : ByteArray) (p : Int) (hl : (.int .i64 ref, qV b s p) ∈ ls) (hb : BackIs w b q mm t most false [] g) :
    Calls Tryz.prog 34 #[.pointer (some ⟨n, 0, none⟩), .int .i64 ref] w fun e w' => e = .returned (.tuple #[.int .i64 0, .int .i64 16]) ∧ Fr [] w w' := by
  have c1 := h.c1
  have HN := Lib.hid (netNone_any _ h)
  have hlk := h.ls.hit keyInt (t := 49) (e := 120) Tryz.underlying49 hl true
  simp only [if_true, qV] at hlk
  have f0 : Fr [] w (w.alloc (.cells #[.pointer (some ⟨b, 0, none⟩), .string s, .int .i64 p] 120)) := (Fr.refl [] _).alloc _
  have HB := Lib.hid (hb.keep f0 (by simp) (by simp) (by simp) (by simp))
  clear h hl hb
  go_enter Tryz.func34, Tryz.ntmps34
  go_wp2_with (first
    | (go_at_call 55; refine HN.out.mono ?_; rintro e w' ⟨rfl, rfl⟩)
    | (go_at_call 84; refine (backPop_empty b q mm t most g _ HB.out).mono ?_; rintro e w' ⟨rfl, rfl⟩))
  go_ret2
  exact ⟨rfl, f0⟩

theorem netAccept_hit (h : NetIs w n r m lm cm names ls cs) (b q mm t tk : Nat) (most v : Int) (l : List (Nat × Int)) (g : Nat) (s : ByteArray) (p : Int) (hg : g < 4611686018427387904) (hl : (.int .i64 ref, qV b s p) ∈ ls) (hb : BackIs w b q mm t most false ((tk, v) :: l) g) :
    Calls Tryz.prog 34 #[.pointer (some ⟨n, 0, none⟩), .int .i64 ref] w fun e w' => e = .returned (.tuple #[.int .i64 v, .int .i64 0]) ∧ BackIs w' b q mm t most false l g ∧ Fr [q, mm, t] w w' := by
  have c1 := h.c1
  have HN := Lib.hid (netNone_any _ h)
  have hlk := h.ls.hit keyInt (t := 49) (e := 120) Tryz.underlying49 hl true
  simp only [if_true, qV] at hlk
  have f0 : Fr [] w (w.alloc (.cells #[.pointer (some ⟨b, 0, none⟩), .string s, .int .i64 p] 120)) := (Fr.refl [] _).alloc _
  have HB := Lib.hid (hb.keep f0 (by simp) (by simp) (by simp) (by simp))
  clear h hl hb
  go_enter Tryz.func34, Tryz.ntmps34
  go_wp2_with (first
    | (go_at_call 55; refine HN.out.mono ?_; rintro e w' ⟨rfl, rfl⟩)
    | (go_at_call 84; refine (backPop_hit b q mm t tk most v l g hg _ HB.out).mono ?_; rintro e w2 ⟨rfl, hb2, f2⟩))
  go_ret2
  exact ⟨rfl, hb2, (f0.mono (fun x hx => by cases hx)).trans f2 (fun x hx _ => hx)⟩
end

theorem popL_one {L1 L2 : List LB} {x : LB} (h : ((L1 ++ x :: L2).map (·.ref)).Nodup) :
    PN.popL ((L1 ++ x :: L2).map LB.pl) x.ref = L1.map LB.pl ++ { x.pl with l := x.pl.l.tail } :: L2.map LB.pl := by
  obtain ⟨h1, h2⟩ := map_one h
  unfold PN.popL
  rw [List.map_map, List.map_append, List.map_cons]
  congr 1
  · exact List.map_congr_left fun y hy => by simp [LB.pl, h1 y hy]
  · congr 1
    · simp [LB.pl]
    · exact List.map_congr_left fun y hy => by simp [LB.pl, h2 y hy]

end Go.Proofs.YtmdhlodafjpnmaaGreat
namespace Go.Proofs.YtmdhlodafjpnmaaGreat
open Go.RowKit
open Go.Maps (Keyed)
set_option linter.unusedVariables false
set_option maxRecDepth 100000
set_option maxHeartbeats 4000000

theorem mem_ports {L : List LB} {s : ByteArray} {j : Nat} : j ∈ PN.ports (L.map LB.pl) s ↔ ∃ x ∈ L, x.s = s ∧ x.p = 49152 + (j : Int) := by
  unfold PN.ports
  simp only [List.mem_map, List.mem_filter, decide_eq_true_eq]
  constructor
  · rintro ⟨y, ⟨⟨x, hx, rfl⟩, h1, h2⟩, h3⟩
    simp only [LB.pl] at h1 h2 h3
    exact ⟨x, hx, h1, by omega⟩
  · rintro ⟨x, hx, h1, h2⟩
    exact ⟨x.pl, ⟨⟨x, hx, rfl⟩, h1, by simp only [LB.pl]; omega⟩, by simp only [LB.pl]; omega⟩

theorem listFree (L : List LB) : (∀ j : Nat, j < PN.free (L.map (·.ref)) → ∃ b' s' p', (.int .i64 j, qV b' s' p') ∈ L.map LB.ent) ∧ (∀ x ∈ L.map LB.ent, x.1 ≠ .int .i64 (PN.free (L.map (·.ref)) : Nat)) ∧ PN.free (L.map (·.ref)) ≤ L.length := by
  obtain ⟨h1, h2, h3⟩ := PN.free_spec (L.map (·.ref))
  refine ⟨fun j hj => ?_, fun x hx he => ?_, by simpa using h3⟩
  · obtain ⟨y, hy, rfl⟩ := List.mem_map.1 (h2 j hj)
    exact ⟨y.b, y.s, y.p, List.mem_map.2 ⟨y, hy, rfl⟩⟩
  · obtain ⟨y, hy, rfl⟩ := List.mem_map.1 hx
    exact h1 (List.mem_map.2 ⟨y, hy, i64_inj he⟩)

theorem NetW.add {w w' : World} {own : Nat → Nat} {B : NB} {L : List LB} {C : List CB} {G k : Nat} {s : ByteArray} {pp most : Int} {b q mm t : Nat} (h : NetW w own B L C G) (hk : PN.free (L.map (·.ref)) = k) (hs : s.size ≤ 1000000) (hv : addrB s.data.toList pp = true) (hp : (pp == 0) = false) (hm : 1 ≤ most ∧ most ≤ 128) (hxn : ∀ x ∈ L.map LB.nm, x.1 ≠ addrV s pp) (hln : L.length < 128)
    (hn : NetIs w' B.n B.r B.m B.lm B.cm (L.map LB.nm ++ [(addrV s pp, .int .i64 k)]) (L.map LB.ent ++ [(.int .i64 k, qV b s pp)]) (C.map CB.ent)) (hb : BackIs w' b q mm t most false [] 0) (hf : Fr [B.m, B.lm] w w') (l1 : w.heap.size ≤ b) (l2 : w.heap.size ≤ q) (l3 : w.heap.size ≤ mm) (l4 : w.heap.size ≤ t) :
    NetW w' (ownNew w own (4 * k + 2)) B (L ++ [⟨k, s, pp, most, [], 0, b, q, mm, t⟩]) C G := by
  obtain ⟨o1, o2, o3, o4, o5⟩ := h.on
  have hE := Ext.new w own (4 * k + 2)
  obtain ⟨f1, f2, f3⟩ := PN.free_spec (L.map (·.ref))
  rw [hk] at f1 f2 f3
  have hS : ∀ z ∈ [B.m, B.lm], z < w.heap.size ∧ own z = 0 := fun z hz => by
    simp only [List.mem_cons, List.not_mem_nil, or_false] at hz
    rcases hz with rfl | rfl
    · exact ⟨h.net.reg.map.lt, o3⟩
    · exact ⟨h.net.ls.lt, o4⟩
  have keepS : ∀ c, c ≠ 0 → ∀ z ∈ [B.m, B.lm], ownNew w own (4 * k + 2) z ≠ c := fun c hc z hz he => by
    obtain ⟨h1, h2⟩ := hS z hz
    rw [hE z h1, h2] at he
    exact hc he.symm
  refine ⟨?_, ⟨(hE _ (cell_lt h.net.c0)).trans o1, (hE _ (cell_lt h.net.reg.c0)).trans o2, (hE _ h.net.reg.map.lt).trans o3, (hE _ h.net.ls.lt).trans o4, (hE _ h.net.cs.lt).trans o5⟩, ?_, ?_, ?_, h.crefs, ?_, ?_, ?_, by simp; omega, h.nc⟩
  · simpa [LB.nm, LB.ent] using hn
  · intro y hy
    rcases List.mem_append.1 hy with hy | hy
    · exact ((h.ls y hy).ext hE).keep hf (fun z hz => keepS _ (by omega) z hz)
    · simp only [List.mem_singleton] at hy
      subst hy
      exact ⟨hb, ⟨ownNew_ge l1, ownNew_ge l2, ownNew_ge l3, ownNew_ge l4⟩, hv, hs, hp, hm, by simp; omega, Nat.zero_le _⟩
  · intro y hy
    exact ((h.cs y hy).ext hE).keep hf (fun z hz => keepS _ (by omega) z hz)
  · rw [List.map_append, List.nodup_append]
    exact ⟨h.refs, by simp, fun a ha b' hb' he => f1 (by simp at hb'; subst hb'; subst he; exact ha)⟩
  · rw [List.pairwise_append]
    refine ⟨h.adrs, by simp, fun a ha b' hb' he => ?_⟩
    simp only [List.mem_singleton] at hb'
    subst hb'
    simp only at he
    exact hxn _ (List.mem_map.2 ⟨a, ha, rfl⟩) (by rw [LB.nm, he.1, he.2])
  · intro z hz
    refine h.queue z ?_
    simpa [qs] using hz
  · have := h.vals
    simpa [qs] using this

theorem addrB_ports {s : ByteArray} {p : Int} (h : addrB s.data.toList p = true) (q : Int) (h0 : 0 ≤ q) (h1 : q ≤ 65535) : addrB s.data.toList q = true := by
  unfold addrB at h ⊢
  simp only [Bool.and_eq_true, decide_eq_true_eq] at h ⊢
  exact ⟨⟨h.1.1, h0⟩, h1⟩

end Go.Proofs.YtmdhlodafjpnmaaGreat
namespace Go.Proofs.YtmdhlodafjpnmaaGreat
open Go.RowKit
open Go.Maps (Keyed)
set_option linter.unusedVariables false
set_option maxRecDepth 100000
set_option maxHeartbeats 4000000

/-- What hanging the end 1 makes of a list of connections, at one place. -/
def hangAt (C1 C2 : List CB) (y : CB) : List CB := if y.a0 then C1 ++ C2 else C1 ++ { y with a1 := true } :: C2
theorem cmap_one {C1 C2 : List CB} {y : CB} (h : ((C1 ++ y :: C2).map (·.ref)).Nodup) : (∀ z ∈ C1, z.ref ≠ y.ref) ∧ (∀ z ∈ C2, z.ref ≠ y.ref) := by
  simp only [List.map_append, List.map_cons, List.nodup_append, List.nodup_cons] at h
  obtain ⟨_, ⟨h2, _⟩, h3⟩ := h
  refine ⟨fun z hz he => ?_, fun z hz he => h2 (by rw [← he]; exact List.mem_map.2 ⟨z, hz, rfl⟩)⟩
  exact h3 _ (List.mem_map.2 ⟨z, hz, rfl⟩) _ List.mem_cons_self he
theorem hang_plain {C1 C2 : List CB} {y : CB} (h : ((C1 ++ y :: C2).map (·.ref)).Nodup) (ho : ∀ z ∈ C1 ++ y :: C2, (z.a0 && z.a1) = false) :
    PN.hang ((C1 ++ y :: C2).map CB.pc) y.ref true = (hangAt C1 C2 y).map CB.pc := by
  obtain ⟨h1, h2⟩ := cmap_one h
  have same : ∀ D : List CB, (∀ z ∈ D, z.ref ≠ y.ref) → (∀ z ∈ D, (z.a0 && z.a1) = false) → (((D.map CB.pc).map fun z => if (z.ref : Int) = y.ref then PN.shutC z true else z).filter fun z => !(z.a0 && z.a1)) = D.map CB.pc := fun D hd hod => by
    rw [show ((D.map CB.pc).map fun z => if (z.ref : Int) = y.ref then PN.shutC z true else z) = D.map CB.pc by
      rw [List.map_map]
      refine List.map_congr_left fun z hz => ?_
      have := hd z hz
      show (if ((z.pc).ref : Int) = y.ref then PN.shutC z.pc true else z.pc) = z.pc
      exact if_neg (fun he => this (by have e : z.pc.ref = z.ref := rfl; omega))]
    refine List.filter_eq_self.2 fun z hz => ?_
    obtain ⟨z', hz', rfl⟩ := List.mem_map.1 hz
    simp [CB.pc, hod z' hz']
  unfold PN.hang hangAt
  rw [List.map_append, List.map_append, List.filter_append, same C1 h1 (fun z hz => ho z (by simp [hz]))]
  rw [List.map_cons, List.map_cons, List.filter_cons, same C2 h2 (fun z hz => ho z (by simp [hz]))]
  cases hy : y.a0 <;> simp [CB.pc, PN.shutC, hy]

theorem qs_ne {L : List LB} {C1 C2 : List CB} {y : CB} {k : Int} (hk : ∃ z ∈ C1 ++ y :: C2, (z.ref : Int) = k ∧ z.a1 = false) (hne : k ≠ y.ref) : ∃ z ∈ hangAt C1 C2 y, (z.ref : Int) = k ∧ z.a1 = false := by
  obtain ⟨z, hz, h1, h2⟩ := hk
  refine ⟨z, ?_, h1, h2⟩
  simp only [List.mem_append, List.mem_cons] at hz
  unfold hangAt
  split
  · rcases hz with hz | rfl | hz
    · simp [hz]
    · exact absurd h1.symm hne
    · simp [hz]
  · rcases hz with hz | rfl | hz
    · simp [hz]
    · exact absurd h1.symm hne
    · simp [hz]

end Go.Proofs.YtmdhlodafjpnmaaGreat
namespace Go.Proofs.YtmdhlodafjpnmaaGreat
open Go.RowKit
open Go.Maps (Keyed)
set_option linter.unusedVariables false
set_option maxRecDepth 100000
set_option maxHeartbeats 4000000

/-- What hang leaves, whatever the end's Close answers. -/
def HangPostV (v : Int) (P : Nat → Prop) (cm d c : Nat) (conn : Int) (f1 f2 : List (Value × Value)) (b0 b1 : Bool) (w : World) (e : Ending) (w' : World) : Prop :=
  e = .returned (.int .i64 v) ∧ MapIs Tryz.prog 3 w' cm (if b0 && b1 then f1 ++ f2 else f1 ++ (.int .i64 conn, .pointer (some ⟨d, 0, none⟩)) :: f2) ∧ ((b0 && b1) = false → DupS w' (fun x => P x ∨ w.heap.size ≤ x) d c b0 b1) ∧ ∃ S, Fr S w w' ∧ ∀ x ∈ S, P x ∨ x = cm
/-- What Close does to a connection's end. -/
def ShutsTo (en v : Int) (d c : Nat) (a0 a1 b0 b1 : Bool) : Prop :=
  ∀ (P : Nat → Prop) (W : World), DupS W P d c a0 a1 → Calls Tryz.prog 103 #[.pointer (some ⟨d, 0, none⟩), .int .i64 en] W fun e W' => e = .returned (.int .i64 v) ∧ DupS W' (fun x => P x ∨ W.heap.size ≤ x) d c b0 b1 ∧ ∃ S, Fr S W W' ∧ ∀ x ∈ S, P x
section
variable {P : Nat → Prop} {n cm d c : Nat} {conn : Int} {f1 f2 : List (Value × Value)} (w : World)

end

/-- What hanging an end makes of a list of connections, at one place. -/
def hangTo (C1 C2 : List CB) (y : CB) (b0 b1 : Bool) : List CB := if b0 && b1 then C1 ++ C2 else C1 ++ { y with a0 := b0, a1 := b1 } :: C2
end Go.Proofs.YtmdhlodafjpnmaaGreat
namespace Go.Proofs.YtmdhlodafjpnmaaGreat
open Go.RowKit
open Go.Maps (Keyed)
set_option linter.unusedVariables false
set_option maxRecDepth 100000
set_option maxHeartbeats 8000000

theorem netClose_none {n r m lm cm : Nat} {names ls cs : List (Value × Value)} (ref : Int) (w : World) (h : NetIs w n r m lm cm names ls cs) (hr : -9223372036854775808 ≤ ref) (hr' : ref ≤ 9223372036854775807) (hx : ∀ x ∈ ls, x.1 ≠ .int .i64 ref) :
    Calls Tryz.prog 35 #[.pointer (some ⟨n, 0, none⟩), .int .i64 ref] w fun e w' => e = .returned (.tuple #[.slice none 0 0, .int .i64 9]) ∧ Fr [] w w' := by
  have c1 := h.c1
  have HN := Lib.hid (netNone_any _ h)
  have hl := h.ls.miss keyInt (t := 49) (e := 120) Tryz.underlying49 (keyInt_of ref hr hr') hx (zeroQ _) true
  simp only [if_true] at hl
  have HX := Lib.hid hx
  clear h hx
  go_enter Tryz.func35, Tryz.ntmps35
  go_wp2_with (go_at_call 55; refine HN.out.mono ?_; rintro e w' ⟨rfl, rfl⟩)
  go_ret2
  exact ⟨rfl, (Fr.refl [] _).alloc _⟩

theorem dropL_one {L1 L2 : List LB} {x : LB} (h : ((L1 ++ x :: L2).map (·.ref)).Nodup) :
    PN.dropL ((L1 ++ x :: L2).map LB.pl) x.ref = (L1 ++ L2).map LB.pl := by
  obtain ⟨h1, h2⟩ := map_one h
  unfold PN.dropL
  have same : ∀ D : List LB, (∀ y ∈ D, y.ref ≠ x.ref) → (D.map LB.pl).filter (fun y => decide (y.ref ≠ x.ref)) = D.map LB.pl := fun D hd =>
    List.filter_eq_self.2 fun z hz => by
      obtain ⟨y, hy, rfl⟩ := List.mem_map.1 hz
      exact decide_eq_true (hd y hy)
  rw [List.map_append, List.filter_append, same L1 h1, List.map_cons, List.filter_cons, same L2 h2]
  simp [LB.pl]

theorem hangs_snoc : ∀ (l : List Int) (C : List PN.PC) (k : Int), PN.hangs C (l ++ [k]) = PN.hang (PN.hangs C l) k true
  | [], C, k => rfl
  | a :: l, C, k => by simp only [List.cons_append, PN.hangs]; exact hangs_snoc l _ k

/-- Between two hangs of Close: those of xs that are still to come, from j on, wait nowhere and are open at the end 1. -/
structure CloseR (w : World) (own : Nat → Nat) (B : NB) (L : List LB) (C0 C : List CB) (G : Nat) (xs : List Int) (j : Nat) : Prop where
  net : NetW w own B L C G
  hangs : C.map CB.pc = PN.hangs (C0.map CB.pc) (xs.take j)
  open_ : ∀ k ∈ xs.drop j, ∃ y ∈ C, (y.ref : Int) = k ∧ y.a1 = false
  sep : (xs.drop j).Nodup ∧ ∀ k ∈ xs.drop j, k ∉ qs L

theorem CloseR.next {w : World} {own : Nat → Nat} {B : NB} {L : List LB} {C0 C : List CB} {G : Nat} {xs : List Int} {j : Nat} (h : CloseR w own B L C0 C G xs j) (hj : j < xs.length) :
    ∃ C1 y C2, C = C1 ++ y :: C2 ∧ y.a1 = false ∧ (y.ref : Int) = xs[j] ∧ (y.ref : Int) ∉ qs L ∧
      ∀ w' own', NetW w' own' B L (hangAt C1 C2 y) G → CloseR w' own' B L C0 (hangAt C1 C2 y) G xs (j + 1) := by
  have hd : xs.drop j = xs[j] :: xs.drop (j + 1) := List.drop_eq_getElem_cons hj
  obtain ⟨y, hy, h1, h2⟩ := h.open_ xs[j] (by rw [hd]; exact List.mem_cons_self)
  obtain ⟨C1, C2, rfl⟩ := List.append_of_mem hy
  have hsep := h.sep
  rw [hd, List.nodup_cons] at hsep
  refine ⟨C1, y, C2, rfl, h2, h1, fun hm => hsep.2 xs[j] List.mem_cons_self (h1 ▸ hm), fun w' own' hn => ⟨hn, ?_, fun k hk => ?_, hsep.1.2, fun k hk => hsep.2 k (List.mem_cons_of_mem _ hk)⟩⟩
  · rw [List.take_succ_eq_append_getElem hj, hangs_snoc, ← h.hangs, ← h1]
    exact (hang_plain h.net.crefs (fun z hz => (h.net.cs z hz).op)).symm
  · refine qs_ne (L := L) (h.open_ k (by rw [hd]; exact List.mem_cons_of_mem _ hk)) (fun he => hsep.1.1 ?_)
    rw [← h1, ← he]
    exact hk

theorem NetW.drop {w w' : World} {own own' : Nat → Nat} {B : NB} {L1 L2 : List LB} {x : LB} {C : List CB} {G : Nat} (h : NetW w own B (L1 ++ x :: L2) C G)
    (hn : NetIs w' B.n B.r B.m B.lm B.cm ((L1 ++ L2).map LB.nm) ((L1 ++ L2).map LB.ent) (C.map CB.ent)) {S : List Nat} (hf : Fr S w w') (hE : Ext w own own') (hS : ∀ z ∈ S, z < w.heap.size ∧ (own z = 0 ∨ own z = 4 * x.ref + 2)) : NetW w' own' B (L1 ++ L2) C G := by
  obtain ⟨o1, o2, o3, o4, o5⟩ := h.on
  obtain ⟨g1, g2⟩ := map_one h.refs
  have hsub : List.Sublist (L1 ++ L2) (L1 ++ x :: L2) := List.Sublist.append (List.Sublist.refl _) (List.sublist_cons_self _ _)
  have hmem : ∀ y ∈ L1 ++ L2, y ∈ L1 ++ x :: L2 := fun y hy => hsub.subset hy
  have hqs : List.Sublist (qs (L1 ++ L2)) (qs (L1 ++ x :: L2)) := by
    rw [qs_mid, show qs (L1 ++ L2) = qs L1 ++ qs L2 by simp [qs]]
    exact List.Sublist.append (List.Sublist.refl _) (List.sublist_append_right _ _)
  refine ⟨hn, ⟨(hE _ (cell_lt h.net.c0)).trans o1, (hE _ (cell_lt h.net.reg.c0)).trans o2, (hE _ h.net.reg.map.lt).trans o3, (hE _ h.net.ls.lt).trans o4, (hE _ h.net.cs.lt).trans o5⟩, ?_, ?_, h.refs.sublist (hsub.map _), h.crefs, h.adrs.sublist hsub, fun k hk => h.queue k (hqs.subset hk), h.vals.sublist hqs, by have := hsub.length_le; have := h.nl; omega, h.nc⟩
  · intro y hy
    have hne : y.ref ≠ x.ref := by rcases List.mem_append.1 hy with hy | hy; exact g1 y hy; exact g2 y hy
    refine ((h.ls y (hmem y hy)).ext hE).keep hf (fun z hz he => ?_)
    obtain ⟨hl, h0⟩ := hS z hz
    rw [hE z hl] at he
    rcases h0 with h0 | h0 <;> omega
  · intro y hy
    refine ((h.cs y hy).ext hE).keep hf (fun z hz he => ?_)
    obtain ⟨hl, h0⟩ := hS z hz
    rw [hE z hl] at he
    rcases h0 with h0 | h0 <;> omega
end Go.Proofs.YtmdhlodafjpnmaaGreat
namespace Go.Proofs.YtmdhlodafjpnmaaGreat
open Go.RowKit
open Go.Maps (Keyed)
set_option linter.unusedVariables false
set_option maxRecDepth 100000
set_option maxHeartbeats 8000000

theorem RowOf.len {W w : World} {lo : Nat} {v : Value} {xs : List Value} (h : RowOf w lo v xs) : (Builtin.len_ #[75] 3 #[v]).run Tryz.prog W = .ok (.int .i64 xs.length) W := by
  rcases h with ⟨rfl, rfl⟩ | ⟨g, cap, rfl, _⟩
  · simp [Builtin.len_, run_underlying Tryz.underlying75, goInt]
  · simp [Builtin.len_, run_underlying Tryz.underlying75, goInt]

end Go.Proofs.YtmdhlodafjpnmaaGreat
namespace Go.Proofs.YtmdhlodafjpnmaaGreat
open Go.RowKit
open Go.Maps (Keyed)
set_option linter.unusedVariables false
set_option maxRecDepth 100000
set_option maxHeartbeats 8000000

theorem IntRow.of {w : World} {lo n : Nat} {v : Value} {l : List (Nat × Int)} (h : w.ownsRow lo 3 1 v n (l.map connV64)) (hl : l.length ≤ maxLen) : IntRow w v (l.map (·.2)) := by
  rcases RowOf.of h with ⟨h1, rfl⟩ | ⟨g, cap, rfl, h2, h3, h4⟩
  · exact .inl ⟨by simpa using h1, _, _, rfl⟩
  · refine .inr ⟨g, 0, cap, by simp, by simpa using hl, fun i x hx => ?_⟩
    rw [Nat.zero_add]
    refine h4 i _ ?_
    rw [List.getElem?_map] at hx ⊢
    obtain ⟨y, hy, rfl⟩ := Option.map_eq_some_iff.1 hx
    rw [hy]
    rfl
/-- What has come has not k. -/
def NoK (L : List LB) (done : List (Value × Value)) (k : Int) : Prop := ∀ x ∈ L, x.ent ∈ done → k ∉ x.l.map (·.2)
theorem ent_inj {L : List LB} (hr : (L.map (·.ref)).Nodup) {x y : LB} (hx : x ∈ L) (hy : y ∈ L) (h : x.ent = y.ent) : x = y := by
  have e : x.ref = y.ref := by
    simp only [LB.ent, Prod.mk.injEq] at h
    exact i64_inj h.1
  obtain ⟨L1, L2, rfl⟩ := List.append_of_mem hx
  obtain ⟨h1, h2⟩ := map_one hr
  rcases List.mem_append.1 hy with hy | hy
  · exact absurd e.symm (h1 y hy)
  · rcases List.mem_cons.1 hy with rfl | hy
    · rfl
    · exact absurd e.symm (h2 y hy)
end Go.Proofs.YtmdhlodafjpnmaaGreat
namespace Go.Proofs.YtmdhlodafjpnmaaGreat
open Go.RowKit
open Go.Maps (Keyed)
set_option linter.unusedVariables false
set_option maxRecDepth 100000
set_option maxHeartbeats 4000000

def PN.pair (N : PN.Net) (c : Nat) : PN.Net × Int × Int :=
  if 128 ≤ N.C.length then (N, 0, 7) else ({ N with C := N.C ++ [⟨PN.free (N.C.map (·.ref)), c, false, false⟩] }, PN.free (N.C.map (·.ref)), 0)

end Go.Proofs.YtmdhlodafjpnmaaGreat
