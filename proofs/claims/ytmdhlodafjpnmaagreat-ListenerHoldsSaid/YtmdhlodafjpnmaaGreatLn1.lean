/- A net under way: its plain form, the blocks of others that it keeps as they are, and each of its calls over that. -/
/- The net in memory: Hang at any number and any end; and a net under way, the same. -/
/- Plain laws of no program: the reference's net, in order of the numbers, and that its calls answer as the program's. -/
/- What holds of a net under way, in plain form. -/
/- Contracts of the law's own to, listens, connects, pairs, accepts, closes, finds, where the net answers what is wanted. -/
import Derived.Test.YtmdhlodafjpnmaaGreatPairW
import Derived.Test.YtmdhlodafjpnmaaGreatHang2
import Derived.Test.YtmdhlodafjpnmaaGreatBP3
import Derived.Test.YtmdhlodafjpnmaaGreatSlc
import Derived.BigQuiet
namespace Go.Proofs.YtmdhlodafjpnmaaGreat
open Go.RowKit
open Go.Maps (Keyed)
set_option linter.unusedVariables false
set_option maxRecDepth 100000
set_option maxHeartbeats 4000000

/-- Of the blocks that were there, none of K has turned. -/
def FrK (K : Nat → Prop) (w w' : World) : Prop := ∃ S, Fr S w w' ∧ ∀ x ∈ S, x < w.heap.size → ¬ K x
section
variable {K : Nat → Prop} {a b c : World}
theorem FrK.new (h : Fr [] a b) : FrK K a b := ⟨[], h, fun x hx => by cases hx⟩
theorem FrK.refl : FrK K a a := FrK.new (Fr.refl _ _)
theorem FrK.size (h : FrK K a b) : a.heap.size ≤ b.heap.size := by
  obtain ⟨S, h1, _⟩ := h
  exact h1.size
theorem FrK.trans (h : FrK K a b) (k : FrK K b c) : FrK K a c := by
  obtain ⟨S, h1, h2⟩ := h
  obtain ⟨T, k1, k2⟩ := k
  refine ⟨S ++ T, (h1.mono (T := S ++ T) (fun x hx _ => List.mem_append_left _ hx)).trans k1 (fun x hx _ => List.mem_append_right _ hx), fun x hx hl => ?_⟩
  rcases List.mem_append.1 hx with hx | hx
  · exact h2 x hx hl
  · exact k2 x hx (Nat.lt_of_lt_of_le hl h1.size)
theorem FrK.step (h : FrK K a b) (k : Fr [] b c) : FrK K a c := h.trans (.new k)
theorem FrK.mono {K' : Nat → Prop} (h : FrK K a b) (hk : ∀ x, x < a.heap.size → K' x → K x) : FrK K' a b := by
  obtain ⟨S, h1, h2⟩ := h
  exact ⟨S, h1, fun x hx hl hk' => h2 x hx hl (hk x hl hk')⟩
/-- .. so that the blocks of K are kept by a list of others. -/
theorem FrK.list (h : FrK K a b) : ∃ S, Fr S a b ∧ ∀ x, K x → x ∉ S := by
  obtain ⟨S, h1, h2⟩ := h
  refine ⟨S.filter (fun x => decide (x < a.heap.size)), h1.mono (fun x hx hl => List.mem_filter.2 ⟨hx, by simpa using hl⟩), fun x hk hx => ?_⟩
  obtain ⟨hx1, hx2⟩ := List.mem_filter.1 hx
  exact h2 x hx1 (of_decide_eq_true hx2) hk
theorem FrK.cell {p o : Nat} {v : Value} (h : FrK K a b) (hc : a.cell? ⟨p, o, none⟩ = some v) (hp : K p) : b.cell? ⟨p, o, none⟩ = some v := by
  obtain ⟨S, h1, h2⟩ := h.list
  exact h1.keep hc (h2 p hp)
/-- All that was there is kept. -/
theorem FrK.old {w0 : World} (h : Fr [] w0 a) (k : FrK K a b) (hK : ∀ z, z < w0.heap.size → K z) : Fr [] w0 b := by
  obtain ⟨S, h1, h2⟩ := k.list
  exact h.trans h1 (fun x hx hl => absurd hx (h2 x (hK x hl)))
end

def Live (K : Nat → Prop) (B : NB) (N : PN.Net) (G : Nat) (w : World) : Prop :=
  ∃ own L C, NetW w own B L C G ∧ plainN L C = N ∧ (∀ z, K z → z < w.heap.size ∧ own z = 4)

section
variable {K : Nat → Prop} {B : NB} {N : PN.Net} {G : Nat} {w w' : World}
theorem Live.new (h : Live K B N G w) (hf : Fr [] w w') : Live K B N G w' := by
  obtain ⟨own, L, C, h1, h2, h3⟩ := h
  exact ⟨own, L, C, h1.new hf, h2, fun z hz => ⟨Nat.lt_of_lt_of_le (h3 z hz).1 hf.size, (h3 z hz).2⟩⟩
theorem Live.keep {S : List Nat} (h : Live K B N G w) (hf : Fr S w w') (hS : ∀ x ∈ S, K x) : Live K B N G w' := by
  obtain ⟨own, L, C, h1, h2, h3⟩ := h
  exact ⟨own, L, C, h1.keep hf (fun z hz => by rw [(h3 z (hS z hz)).2]; unfold netO; omega), h2, fun z hz => ⟨Nat.lt_of_lt_of_le (h3 z hz).1 hf.size, (h3 z hz).2⟩⟩
theorem Live.less {K' : Nat → Prop} (h : Live K B N G w) (hk : ∀ z, K' z → K z) : Live K' B N G w := by
  obtain ⟨own, L, C, h1, h2, h3⟩ := h
  exact ⟨own, L, C, h1, h2, fun z hz => h3 z (hk z hz)⟩
theorem Live.mono {G' : Nat} (h : Live K B N G w) (hg : G ≤ G') : Live K B N G' w := by
  obtain ⟨own, L, C, h1, h2, h3⟩ := h
  exact ⟨own, L, C, h1.mono hg, h2, h3⟩
/-- What is new since w is kept, too. -/
theorem Live.more (h : Live K B N G w) (hf : Fr [] w w') : Live (fun z => K z ∨ w.heap.size ≤ z ∧ z < w'.heap.size) B N G w' := by
  obtain ⟨own, L, C, h1, h2, h3⟩ := h
  refine ⟨ownNew w own 4, L, C, (h1.ext (Ext.new w own 4)).new hf, h2, fun z hz => ?_⟩
  rcases hz with hz | ⟨hz, hz'⟩
  · obtain ⟨k1, k2⟩ := h3 z hz
    exact ⟨Nat.lt_of_lt_of_le k1 hf.size, (Ext.new w own 4 z k1).trans k2⟩
  · exact ⟨hz', ownNew_ge hz⟩
/-- Find at an address that is valid: the number and the error. -/
def PN.findN (N : PN.Net) (s : ByteArray) (p : Int) : Int × Int :=
  match PN.at? N.L s p with
  | none => (0, 9)
  | some x => (x.ref, 0)
end
end Go.Proofs.YtmdhlodafjpnmaaGreat
namespace Go.Proofs.YtmdhlodafjpnmaaGreat
open Go.RowKit
open Go.Maps (Keyed)
set_option linter.unusedVariables false
set_option maxRecDepth 100000
set_option maxHeartbeats 4000000

namespace PN
def byC (C : List PC) (k : Int) : Option PC := C.find? (fun y => decide ((y.ref : Int) = k))
def waitsOf (L : List PL) : List Int := L.flatMap (·.l)
/-- Hang at any number and end: the net, the error. -/
def hangN (N : Net) (k en : Int) : Net × Int :=
  if en ≠ 0 ∧ en ≠ 1 then (N, 2)
  else match byC N.C k with
    | none => (N, 9)
    | some y =>
      if en = 1 ∧ k ∈ waitsOf N.L then (N, 8)
      else if (if en = 1 then y.a1 else y.a0) = true then (N, 14)
      else ({ N with C := hang N.C k (decide (en = 1)) }, 0)
end PN
theorem waitsOf_qs (L : List LB) : PN.waitsOf (L.map LB.pl) = qs L := by
  unfold PN.waitsOf qs
  rw [List.flatMap_map]
  rfl
section
variable {own : Nat → Nat} {B : NB} {L : List LB} {C : List CB} {G : Nat} (w : World)
end
end Go.Proofs.YtmdhlodafjpnmaaGreat
namespace Go.Proofs.YtmdhlodafjpnmaaGreat.PN
set_option linter.unusedVariables false

section
variable {α : Type}
/-- The first that fits, with its place. -/
def pick (p : α → Bool) : List α → Nat → Option (Nat × α)
  | [], _ => none
  | x :: r, k => if p x = true then some (k, x) else pick p r (k + 1)
theorem pick_none {p : α → Bool} : ∀ {l : List α} {k : Nat}, pick p l k = none → ∀ x ∈ l, p x = false
  | [], _, _ => fun x hx => by cases hx
  | y :: r, k, h => by
    unfold pick at h
    split at h
    · cases h
    · rename_i hp
      intro x hx
      rcases List.mem_cons.1 hx with rfl | hx
      · simpa using hp
      · exact pick_none h x hx
theorem pick_some {p : α → Bool} : ∀ {l : List α} {k i : Nat} {y : α}, pick p l k = some (i, y) → ∃ j, i = k + j ∧ l[j]? = some y ∧ p y = true
  | [], _, _, _, h => by cases h
  | x :: r, k, i, y, h => by
    unfold pick at h
    split at h
    · rename_i hp
      simp only [Option.some.injEq, Prod.mk.injEq] at h
      obtain ⟨rfl, rfl⟩ := h
      exact ⟨0, rfl, rfl, hp⟩
    · obtain ⟨j, rfl, h2, h3⟩ := pick_some h
      exact ⟨j + 1, by omega, h2, h3⟩
theorem find_uniq {p : α → Bool} {C : List α} {y : α} (hm : y ∈ C) (hp : p y = true) (hu : ∀ z ∈ C, p z = true → z = y) : C.find? p = some y := by
  cases e : C.find? p with
  | none => exact absurd hp (by simpa using List.find?_eq_none.1 e y hm)
  | some z => rw [hu z (List.mem_of_find?_eq_some e) (List.find?_some e)]
/-- What fits is found in both lists. -/
theorem Rel.pick {ref : α → Nat} {C D : List α} (h : Rel ref C D) (p : α → Bool) (hu : ∀ y ∈ C, p y = true → ∀ z ∈ C, p z = true → z = y) :
    (PN.pick p D 0 = none ∧ C.find? p = none) ∨ ∃ i y, PN.pick p D 0 = some (i, y) ∧ C.find? p = some y ∧ D[i]? = some y ∧ p y = true := by
  cases e : PN.pick p D 0 with
  | none =>
    left
    refine ⟨rfl, List.find?_eq_none.2 (fun x hx => ?_)⟩
    rw [pick_none e x (h.mem.2 hx)]
    simp
  | some a =>
    obtain ⟨i, y⟩ := a
    obtain ⟨j, rfl, h2, h3⟩ := pick_some e
    rw [Nat.zero_add] at e ⊢
    have hm := h.mem.1 (List.mem_of_getElem? h2)
    exact .inr ⟨j, y, rfl, find_uniq hm h3 (fun z hz hpz => hu y hm h3 z hz hpz), h2, h3⟩
end

/-- What holds of a net that is under way. -/
structure Inv (N : Net) : Prop where
  refs : (N.L.map (·.ref)).Nodup
  crefs : (N.C.map (·.ref)).Nodup
  adrs : ∀ x ∈ N.L, ∀ y ∈ N.L, x.s = y.s → x.p = y.p → y = x
  queue : ∀ k ∈ waitsOf N.L, ∃ y ∈ N.C, (y.ref : Int) = k ∧ y.a1 = false
  op : ∀ y ∈ N.C, (y.a0 && y.a1) = false
  nl : N.L.length ≤ 128
  nc : N.C.length ≤ 128
/-- The reference's net beside it. -/
def Match (N R : Net) : Prop := RelL N.L R.L ∧ RelC N.C R.C
theorem Match.nil : Match ⟨[], []⟩ ⟨[], []⟩ := ⟨Rel.nil _, Rel.nil _⟩
def newC (D : List PC) (c : Nat) : List PC := D.take (free (D.map (·.ref))) ++ ⟨free (D.map (·.ref)), c, false, false⟩ :: D.drop (free (D.map (·.ref)))
def rPair (R : Net) (c : Nat) : Net × Int × Int := if 128 ≤ R.C.length then (R, 0, 7) else ({ R with C := newC R.C c }, free (R.C.map (·.ref)), 0)
def atP (s : ByteArray) (p : Int) (x : PL) : Bool := decide (x.s = s ∧ x.p = p)
def refP (r : Int) (x : PL) : Bool := decide ((x.ref : Int) = r)
def refC (r : Int) (x : PC) : Bool := decide ((x.ref : Int) = r)
def rConnect (R : Net) (s : ByteArray) (p : Int) (c : Nat) : Net × Int × Int :=
  match pick (atP s p) R.L 0 with
  | none => (R, 0, 15)
  | some (i, x) =>
    if (x.l.length : Int) = x.most then (R, 0, 16)
    else if 128 ≤ R.C.length then (R, 0, 7)
    else ({ L := R.L.set i { x with l := x.l ++ [(free (R.C.map (·.ref)) : Int)] }, C := newC R.C c }, free (R.C.map (·.ref)), 0)
def rAccept (R : Net) (r : Int) : Net × Int × Int :=
  match pick (refP r) R.L 0 with
  | none => (R, 0, 9)
  | some (i, x) => match x.l with
    | [] => (R, 0, 16)
    | k :: _ => ({ R with L := R.L.set i { x with l := x.l.tail } }, k, 0)
def shutAt (D : List PC) (i : Nat) (y : PC) (e : Bool) : List PC := if ((shutC y e).a0 && (shutC y e).a1) = true then D.take i ++ D.drop (i + 1) else D.set i (shutC y e)
def rHang (R : Net) (k en : Int) : Net × Int :=
  if en ≠ 0 ∧ en ≠ 1 then (R, 2)
  else match pick (refC k) R.C 0 with
    | none => (R, 9)
    | some (i, y) =>
      if en = 1 ∧ k ∈ waitsOf R.L then (R, 8)
      else if (if en = 1 then y.a1 else y.a0) = true then (R, 14)
      else ({ R with C := shutAt R.C i y (decide (en = 1)) }, 0)

theorem nodup_inj {α : Type} {f : α → Nat} : ∀ {l : List α}, (l.map f).Nodup → ∀ y ∈ l, ∀ z ∈ l, f z = f y → z = y
  | [], _, y, hy, _, _, _ => by cases hy
  | x :: r, h, y, hy, z, hz, e => by
    rw [List.map_cons, List.nodup_cons] at h
    rcases List.mem_cons.1 hy with rfl | hy
    · rcases List.mem_cons.1 hz with rfl | hz
      · rfl
      · exact absurd (List.mem_map.2 ⟨z, hz, e⟩) h.1
    · rcases List.mem_cons.1 hz with rfl | hz
      · exact absurd (show f z ∈ r.map f from List.mem_map.2 ⟨y, by assumption, e.symm⟩) h.1
      · exact nodup_inj h.2 y hy z hz e
end Go.Proofs.YtmdhlodafjpnmaaGreat.PN
namespace Go.Proofs.YtmdhlodafjpnmaaGreat
open Go.RowKit
set_option linter.unusedVariables false
set_option maxRecDepth 100000

end Go.Proofs.YtmdhlodafjpnmaaGreat
namespace Go.Proofs.YtmdhlodafjpnmaaGreat
open Go.RowKit
open Go.Maps (Keyed)
set_option linter.unusedVariables false
set_option maxRecDepth 100000
set_option maxHeartbeats 4000000

theorem to_any (s : ByteArray) (p : Int) (w : World) :
    Calls Tryz.prog 11 #[.string s, .int .i64 p] w fun e w' => e = .returned (.agg #[.string s, .int .i64 p]) ∧ Fr [] w w' := by
  go_enter Tryz.func11, Tryz.ntmps11
  go_wp2
  refine bodyPost_ret (v := .agg #[.string s, .int .i64 p]) (by simp [results, Tryz.results11, go_sem]) rfl ⟨rfl, ?_⟩
  first | exact (Fr.refl [] w).alloc _ | exact (((Fr.refl [] w).alloc _).setCell (by simp) _).setCell (by simp) _

section
variable {nv : Value} (Q : World → Prop) (w : World)
theorem listens_t (s : ByteArray) (p most r : Int) (s1 : ByteArray) (p1 e0 : Int)
    (hT : ∀ W, Fr [] w W → Calls Tryz.prog 30 #[nv, .agg #[.string s, .int .i64 p], .int .i64 most] W fun e w' => e = .returned (.tuple #[.int .i64 r, .agg #[.string s1, .int .i64 p1], .int .i64 e0]) ∧ Q w' ∧ FrK (fun z => w.heap.size ≤ z ∧ z < W.heap.size) W w')
    (hQ : ∀ W W', Q W → Fr [] W W' → Q W') :
    Calls Tryz.prog 10 #[nv, .agg #[.string s, .int .i64 p], .int .i64 most, .int .i64 r, .agg #[.string s1, .int .i64 p1], .int .i64 e0] w fun e w' => e = .returned (.bool true) ∧ Q w' := by
  have HT := Lib.hid hT
  have HQ := Lib.hid hQ
  clear hT hQ
  have f0 : Fr [] w (w.alloc (.cells #[.string s, .int .i64 p] 28)) := (Fr.refl [] w).alloc _
  have f1 := f0.alloc (.cells #[.string s1, .int .i64 p1] 28)
  have HC := Lib.hid (show ∀ w1, FrK (fun z => w.heap.size ≤ z ∧ z < ((w.alloc (.cells #[.string s, .int .i64 p] 28)).alloc (.cells #[.string s1, .int .i64 p1] 28)).heap.size) ((w.alloc (.cells #[.string s, .int .i64 p] 28)).alloc (.cells #[.string s1, .int .i64 p1] 28)) w1 → w1.cell? ⟨w.heap.size + 1, 0, none⟩ = some (.string s1) ∧ w1.cell? ⟨w.heap.size + 1, 1, none⟩ = some (.int .i64 p1) from fun w1 k1 => ⟨k1.cell (by simp) ⟨by omega, by simp⟩, k1.cell (by simp) ⟨by omega, by simp⟩⟩)
  go_enter Tryz.func10, Tryz.ntmps10
  go_wp2_with (go_at_call 30; refine (HT.out _ f1).mono ?_; rintro e w1 ⟨rfl, q1, k1⟩; obtain ⟨c0, c1⟩ := HC.out w1 k1; have d0 := ((Fr.refl [] w1).alloc (.cells #[.string s1, .int .i64 p1] 28)).keep c0 (by simp); have d1 := ((Fr.refl [] w1).alloc (.cells #[.string s1, .int .i64 p1] 28)).keep c1 (by simp))
  go_ret
  exact ⟨rfl, HQ.out _ _ q1 ((Fr.refl [] w1).alloc _)⟩
theorem connects_t (s : ByteArray) (p c r e0 : Int)
    (hT : ∀ W, Fr [] w W → Calls Tryz.prog 31 #[nv, .agg #[.string s, .int .i64 p], .int .i64 c] W fun e w' => e = .returned (.tuple #[.int .i64 r, .int .i64 e0]) ∧ Q w') :
    Calls Tryz.prog 16 #[nv, .agg #[.string s, .int .i64 p], .int .i64 c, .int .i64 r, .int .i64 e0] w fun e w' => e = .returned (.bool true) ∧ Q w' := by
  have f0 : Fr [] w (w.alloc (.cells #[.string s, .int .i64 p] 28)) := (Fr.refl [] w).alloc _
  have HT := Lib.hid hT
  clear hT
  go_enter Tryz.func16, Tryz.ntmps16
  go_wp2_with (go_at_call 31; refine (HT.out _ f0).mono ?_; rintro e w1 ⟨rfl, q1⟩)
  go_ret
  exact ⟨rfl, q1⟩
theorem pairs_t (c r e0 : Int)
    (hT : Calls Tryz.prog 33 #[nv, .int .i64 c] w fun e w' => e = .returned (.tuple #[.int .i64 r, .int .i64 e0]) ∧ Q w') :
    Calls Tryz.prog 14 #[nv, .int .i64 c, .int .i64 r, .int .i64 e0] w fun e w' => e = .returned (.bool true) ∧ Q w' := by
  have HT := Lib.hid hT
  clear hT
  go_enter Tryz.func14, Tryz.ntmps14
  go_wp2_with (go_at_call 33; refine HT.out.mono ?_; rintro e w1 ⟨rfl, q1⟩)
  go_ret
  exact ⟨rfl, q1⟩
theorem accepts_t (c r e0 : Int)
    (hT : Calls Tryz.prog 34 #[nv, .int .i64 c] w fun e w' => e = .returned (.tuple #[.int .i64 r, .int .i64 e0]) ∧ Q w') :
    Calls Tryz.prog 21 #[nv, .int .i64 c, .int .i64 r, .int .i64 e0] w fun e w' => e = .returned (.bool true) ∧ Q w' := by
  have HT := Lib.hid hT
  clear hT
  go_enter Tryz.func21, Tryz.ntmps21
  go_wp2_with (go_at_call 34; refine HT.out.mono ?_; rintro e w1 ⟨rfl, q1⟩)
  go_ret
  exact ⟨rfl, q1⟩
theorem finds_t (s : ByteArray) (p r e0 : Int)
    (hT : ∀ W, Fr [] w W → Calls Tryz.prog 32 #[nv, .agg #[.string s, .int .i64 p]] W fun e w' => e = .returned (.tuple #[.int .i64 r, .int .i64 e0]) ∧ Q w') :
    Calls Tryz.prog 23 #[nv, .agg #[.string s, .int .i64 p], .int .i64 r, .int .i64 e0] w fun e w' => e = .returned (.bool true) ∧ Q w' := by
  have f0 : Fr [] w (w.alloc (.cells #[.string s, .int .i64 p] 28)) := (Fr.refl [] w).alloc _
  have HT := Lib.hid hT
  clear hT
  go_enter Tryz.func23, Tryz.ntmps23
  go_wp2_with (go_at_call 32; refine (HT.out _ f0).mono ?_; rintro e w1 ⟨rfl, q1⟩)
  go_ret
  exact ⟨rfl, q1⟩
end

/-- Ints at two slices that read alike. -/
theorem ints_t (v v' : Value) (xs : List Int) (w : World) (h : IntRow w v xs) (h' : IntRow w v' xs) :
    Calls Tryz.prog 36 #[v, v'] w fun e w' => e = .returned (.bool true) ∧ Fr [] w w' := by
  by_cases hx : xs = []
  · subst hx
    have e : ∀ u, IntRow w u [] → ∃ a c, u = .slice a 0 c := fun u hu => by
      rcases hu with ⟨_, a, c, rfl⟩ | ⟨g, off, cap, rfl, _, _⟩
      · exact ⟨a, c, rfl⟩
      · exact ⟨_, _, rfl⟩
    obtain ⟨a, c, rfl⟩ := e v h
    obtain ⟨a', c', rfl⟩ := e v' h'
    go_enter Tryz.func36, Tryz.ntmps36
    go_wp2
    refine wp_loop_rounds 1 ?_
    rw [rounds_succ]
    go_wp2
    go_ret
    exact ⟨rfl, Fr.refl _ _⟩
  · rcases h with ⟨h0, _⟩ | ⟨g, off, cap, rfl, hm, hc⟩
    · exact absurd h0 hx
    rcases h' with ⟨h0, _⟩ | ⟨g', off', cap', rfl, hm', hc'⟩
    · exact absurd h0 hx
    obtain ⟨n, hn⟩ : ∃ n, xs.length = n := ⟨_, rfl⟩
    rw [hn] at hm hm' ⊢
    have HC := Lib.hid hc
    have HC' := Lib.hid hc'
    have HN := Lib.hid hn
    have hm2 : n ≤ 9223372036854775807 := by simp only [maxLen] at hm; omega
    clear hc hc' hx hn
    go_enter Tryz.func36, Tryz.ntmps36
    go_wp2
    go_loopw [5] (fun j w' => ∃ q : Nat, j = .int .i64 q ∧ q ≤ n ∧ Fr [] w w') (fun j _ => n - (intOf j).toNat)
    case atStart => exact ⟨0, rfl, by omega, Fr.refl _ _⟩
    case round =>
      rename_i wr
      obtain ⟨q, rfl, hq, fr⟩ := hrel
      by_cases hlt : q < n
      · have hxq := List.getElem?_eq_getElem (l := xs) (i := q) (by rw [HN.out]; exact hlt)
        have hcq := HC.out q _ hxq
        have hcq' := HC'.out q _ hxq
        generalize xs[q]'(by rw [HN.out]; exact hlt) = y at hxq hcq hcq'
        clear hxq
        have k1 := fr.keep hcq (by simp)
        have k2 := fr.keep hcq' (by simp)
        go_wp2
        go_quiet (fail)
        go_wp2
        go_roundw
        case rel => exact ⟨q + 1, by go_num, by omega, fr.drewN _⟩
        case measure => simp [intOf]; omega
      · go_wp2
        go_ret
        exact ⟨rfl, fr⟩
theorem closes_t {nv : Value} (Q : World → Prop) (w : World) (c e0 : Int) (want : Value) (xs : List Int)
    (hT : Calls Tryz.prog 35 #[nv, .int .i64 c] w fun e w' => ∃ v, e = .returned (.tuple #[v, .int .i64 e0]) ∧ IntRow w' v xs ∧ IntRow w' want xs ∧ Q w') (hQ : ∀ W W', Q W → Fr [] W W' → Q W') : Calls Tryz.prog 22 #[nv, .int .i64 c, want, .int .i64 e0] w fun e w' => e = .returned (.bool true) ∧ Q w' := by
  have HT := Lib.hid hT
  clear hT
  go_enter Tryz.func22, Tryz.ntmps22
  go_wp2_with (first
    | (go_at_call 35; refine HT.out.mono ?_; rintro e w1 ⟨v, rfl, i1, i2, q1⟩)
    | (go_at_call 36; refine (ints_t _ _ xs _ i1 i2).mono ?_; rintro e w2 ⟨rfl, f2⟩))
  go_ret
  exact ⟨rfl, hQ _ _ q1 f2⟩
end Go.Proofs.YtmdhlodafjpnmaaGreat
