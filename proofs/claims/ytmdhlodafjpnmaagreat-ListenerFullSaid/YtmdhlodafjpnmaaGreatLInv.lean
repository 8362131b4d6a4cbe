/- Plain laws of no program: the reference's net, in order of the numbers, and that its calls answer as the program's. -/
/- What holds of a net under way, in plain form. -/
import Derived.Test.YtmdhlodafjpnmaaGreatPNR
import Derived.Test.YtmdhlodafjpnmaaGreatAccept
import Derived.Test.YtmdhlodafjpnmaaGreatHang4
import Derived.Test.YtmdhlodafjpnmaaGreatLive
namespace Go.Proofs.YtmdhlodafjpnmaaGreat.PN
set_option linter.unusedVariables false

section
variable {α : Type}
/-- The first that fits, with its place. -/
def pick (p : α → Bool) : List α → Nat → Option (Nat × α)
  | [], _ => none
  | x :: r, k => if p x = true then some (k, x) else pick p r (k + 1)
theorem pick_none {p : α → Bool} : ∀ {l : List α} {k : Nat}, pick p l k = none → ∀ x ∈ l, p x = false
  | [], _, _ => fun x hx => by cases hx
  | y :: r, k, h => by
    unfold pick at h
    split at h
    · cases h
    · rename_i hp
      intro x hx
      rcases List.mem_cons.1 hx with rfl | hx
      · simpa using hp
      · exact pick_none h x hx
theorem pick_some {p : α → Bool} : ∀ {l : List α} {k i : Nat} {y : α}, pick p l k = some (i, y) → ∃ j, i = k + j ∧ l[j]? = some y ∧ p y = true
  | [], _, _, _, h => by cases h
  | x :: r, k, i, y, h => by
    unfold pick at h
    split at h
    · rename_i hp
      simp only [Option.some.injEq, Prod.mk.injEq] at h
      obtain ⟨rfl, rfl⟩ := h
      exact ⟨0, rfl, rfl, hp⟩
    · obtain ⟨j, rfl, h2, h3⟩ := pick_some h
      exact ⟨j + 1, by omega, h2, h3⟩
/-- Walked from the left: what has been seen does not fit. -/
theorem pick_skip {p : α → Bool} : ∀ (l : List α) (q k : Nat), (∀ x ∈ l.take q, p x = false) → pick p l k = pick p (l.drop q) (k + min q l.length)
  | [], q, k, _ => by simp [pick]
  | x :: r, 0, k, _ => by simp
  | x :: r, q + 1, k, h => by
    have h1 : p x = false := h x (by simp)
    have h2 := pick_skip r q (k + 1) (fun y hy => h y (by rw [List.take_succ_cons]; exact List.mem_cons_of_mem _ hy))
    rw [pick, if_neg (by rw [h1]; simp), h2, List.drop_succ_cons, List.length_cons]
    congr 1
    omega
theorem pick_at {p : α → Bool} {l : List α} {q : Nat} {x : α} (hx : l[q]? = some x) (h : ∀ x ∈ l.take q, p x = false) (hp : p x = true) : pick p l 0 = some (q, x) := by
  have hq := (List.getElem?_eq_some_iff.1 hx)
  obtain ⟨hq, rfl⟩ := hq
  rw [pick_skip l q 0 h, List.drop_eq_getElem_cons hq, pick, if_pos hp, Nat.zero_add, Nat.min_eq_left (by omega)]
theorem pick_end {p : α → Bool} {l : List α} (h : ∀ x ∈ l, p x = false) : pick p l 0 = none := by
  cases e : pick p l 0 with
  | none => rfl
  | some a =>
    obtain ⟨j, _, h2, h3⟩ := pick_some (i := a.1) (y := a.2) e
    rw [h _ (List.mem_of_getElem? h2)] at h3
    cases h3
theorem find_uniq {p : α → Bool} {C : List α} {y : α} (hm : y ∈ C) (hp : p y = true) (hu : ∀ z ∈ C, p z = true → z = y) : C.find? p = some y := by
  cases e : C.find? p with
  | none => exact absurd hp (by simpa using List.find?_eq_none.1 e y hm)
  | some z => rw [hu z (List.mem_of_find?_eq_some e) (List.find?_some e)]
/-- What fits is found in both lists. -/
theorem Rel.pick {ref : α → Nat} {C D : List α} (h : Rel ref C D) (p : α → Bool) (hu : ∀ y ∈ C, p y = true → ∀ z ∈ C, p z = true → z = y) :
    (PN.pick p D 0 = none ∧ C.find? p = none) ∨ ∃ i y, PN.pick p D 0 = some (i, y) ∧ C.find? p = some y ∧ D[i]? = some y ∧ p y = true := by
  cases e : PN.pick p D 0 with
  | none =>
    left
    refine ⟨rfl, List.find?_eq_none.2 (fun x hx => ?_)⟩
    rw [pick_none e x (h.mem.2 hx)]
    simp
  | some a =>
    obtain ⟨i, y⟩ := a
    obtain ⟨j, rfl, h2, h3⟩ := pick_some e
    rw [Nat.zero_add] at e ⊢
    have hm := h.mem.1 (List.mem_of_getElem? h2)
    exact .inr ⟨j, y, rfl, find_uniq hm h3 (fun z hz hpz => hu y hm h3 z hz hpz), h2, h3⟩
end

/-- What holds of a net that is under way. -/
structure Inv (N : Net) : Prop where
  refs : (N.L.map (·.ref)).Nodup
  crefs : (N.C.map (·.ref)).Nodup
  adrs : ∀ x ∈ N.L, ∀ y ∈ N.L, x.s = y.s → x.p = y.p → y = x
  queue : ∀ k ∈ waitsOf N.L, ∃ y ∈ N.C, (y.ref : Int) = k ∧ y.a1 = false
  op : ∀ y ∈ N.C, (y.a0 && y.a1) = false
  nl : N.L.length ≤ 128
  nc : N.C.length ≤ 128
/-- The reference's net beside it. -/
def Match (N R : Net) : Prop := RelL N.L R.L ∧ RelC N.C R.C
theorem Match.nil : Match ⟨[], []⟩ ⟨[], []⟩ := ⟨Rel.nil _, Rel.nil _⟩
def newC (D : List PC) (c : Nat) : List PC := D.take (free (D.map (·.ref))) ++ ⟨free (D.map (·.ref)), c, false, false⟩ :: D.drop (free (D.map (·.ref)))
def rPair (R : Net) (c : Nat) : Net × Int × Int := if 128 ≤ R.C.length then (R, 0, 7) else ({ R with C := newC R.C c }, free (R.C.map (·.ref)), 0)
def atP (s : ByteArray) (p : Int) (x : PL) : Bool := decide (x.s = s ∧ x.p = p)
def refP (r : Int) (x : PL) : Bool := decide ((x.ref : Int) = r)
def refC (r : Int) (x : PC) : Bool := decide ((x.ref : Int) = r)
def rConnect (R : Net) (s : ByteArray) (p : Int) (c : Nat) : Net × Int × Int :=
  match pick (atP s p) R.L 0 with
  | none => (R, 0, 15)
  | some (i, x) =>
    if (x.l.length : Int) = x.most then (R, 0, 16)
    else if 128 ≤ R.C.length then (R, 0, 7)
    else ({ L := R.L.set i { x with l := x.l ++ [(free (R.C.map (·.ref)) : Int)] }, C := newC R.C c }, free (R.C.map (·.ref)), 0)
def rAccept (R : Net) (r : Int) : Net × Int × Int :=
  match pick (refP r) R.L 0 with
  | none => (R, 0, 9)
  | some (i, x) => match x.l with
    | [] => (R, 0, 16)
    | k :: _ => ({ R with L := R.L.set i { x with l := x.l.tail } }, k, 0)
def shutAt (D : List PC) (i : Nat) (y : PC) (e : Bool) : List PC := if ((shutC y e).a0 && (shutC y e).a1) = true then D.take i ++ D.drop (i + 1) else D.set i (shutC y e)
def rHang (R : Net) (k en : Int) : Net × Int :=
  if en ≠ 0 ∧ en ≠ 1 then (R, 2)
  else match pick (refC k) R.C 0 with
    | none => (R, 9)
    | some (i, y) =>
      if en = 1 ∧ k ∈ waitsOf R.L then (R, 8)
      else if (if en = 1 then y.a1 else y.a0) = true then (R, 14)
      else ({ R with C := shutAt R.C i y (decide (en = 1)) }, 0)

theorem match_pair {N R : Net} (h : Match N R) (c : Nat) : (rPair R c).2 = (pair N c).2 ∧ Match (pair N c).1 (rPair R c).1 := by
  unfold rPair pair
  have hl : R.C.length = N.C.length := h.2.len
  have hf : free (R.C.map (·.ref)) = free (N.C.map (·.ref)) := h.2.free
  rw [hl]
  by_cases h1 : 128 ≤ N.C.length
  · rw [if_pos h1, if_pos h1]
    exact ⟨rfl, h⟩
  · rw [if_neg h1, if_neg h1]
    refine ⟨by rw [hf], h.1, ?_⟩
    have := Rel.ins h.2 rfl ⟨free (N.C.map (·.ref)), c, false, false⟩ rfl
    unfold newC
    rw [hf]
    exact this
theorem adr_uniq {N : Net} (hi : Inv N) (s : ByteArray) (p : Int) : ∀ y ∈ N.L, atP s p y = true → ∀ z ∈ N.L, atP s p z = true → z = y := fun y hy h1 z hz h2 => by
  have h1 := of_decide_eq_true h1
  have h2 := of_decide_eq_true h2
  exact hi.adrs y hy z hz (h1.1.trans h2.1.symm) (h1.2.trans h2.2.symm)
theorem nodup_inj {α : Type} {f : α → Nat} : ∀ {l : List α}, (l.map f).Nodup → ∀ y ∈ l, ∀ z ∈ l, f z = f y → z = y
  | [], _, y, hy, _, _, _ => by cases hy
  | x :: r, h, y, hy, z, hz, e => by
    rw [List.map_cons, List.nodup_cons] at h
    rcases List.mem_cons.1 hy with rfl | hy
    · rcases List.mem_cons.1 hz with rfl | hz
      · rfl
      · exact absurd (List.mem_map.2 ⟨z, hz, e⟩) h.1
    · rcases List.mem_cons.1 hz with rfl | hz
      · exact absurd (show f z ∈ r.map f from List.mem_map.2 ⟨y, by assumption, e.symm⟩) h.1
      · exact nodup_inj h.2 y hy z hz e
theorem ref_uniq {N : Net} (hi : Inv N) (r : Int) : ∀ y ∈ N.L, refP r y = true → ∀ z ∈ N.L, refP r z = true → z = y := fun y hy h1 z hz h2 =>
  nodup_inj hi.refs y hy z hz (by
    have h1 := of_decide_eq_true h1
    have h2 := of_decide_eq_true h2
    omega)
theorem cref_uniq {N : Net} (hi : Inv N) (r : Int) : ∀ y ∈ N.C, refC r y = true → ∀ z ∈ N.C, refC r z = true → z = y := fun y hy h1 z hz h2 =>
  nodup_inj hi.crefs y hy z hz (by
    have h1 := of_decide_eq_true h1
    have h2 := of_decide_eq_true h2
    omega)
theorem match_connect {N R : Net} (h : Match N R) (hi : Inv N) (s : ByteArray) (p : Int) (c : Nat) : (rConnect R s p c).2 = (connect N s p c).2 ∧ Match (connect N s p c).1 (rConnect R s p c).1 := by
  have hl : R.C.length = N.C.length := h.2.len
  have hf : free (R.C.map (·.ref)) = free (N.C.map (·.ref)) := h.2.free
  unfold rConnect connect
  rcases Rel.pick h.1 (atP s p) (adr_uniq hi s p) with ⟨h1, h2⟩ | ⟨i, y, h1, h2, h3, h4⟩
  · have h2' : at? N.L s p = none := h2
    rw [h1, h2']
    exact ⟨rfl, h⟩
  · have h2' : at? N.L s p = some y := h2
    rw [h1, h2']
    simp only
    rw [hl]
    by_cases e1 : (y.l.length : Int) = y.most
    · rw [if_pos e1, if_pos e1]
      exact ⟨rfl, h⟩
    · rw [if_neg e1, if_neg e1]
      by_cases e2 : 128 ≤ N.C.length
      · rw [if_pos e2, if_pos e2]
        exact ⟨rfl, h⟩
      · rw [if_neg e2, if_neg e2]
        refine ⟨by rw [hf], ?_, ?_⟩
        · have := RelL.push h.1 h3 (free (N.C.map (·.ref)) : Int)
          rw [hf]
          exact this
        · have := Rel.ins h.2 rfl ⟨free (N.C.map (·.ref)), c, false, false⟩ rfl
          unfold newC
          rw [hf]
          exact this
theorem match_accept {N R : Net} (h : Match N R) (hi : Inv N) (r : Int) : (rAccept R r).2 = (accept N r).2 ∧ Match (accept N r).1 (rAccept R r).1 := by
  unfold rAccept accept
  rcases Rel.pick h.1 (refP r) (ref_uniq hi r) with ⟨h1, h2⟩ | ⟨i, y, h1, h2, h3, h4⟩
  · have h2' : byRef N.L r = none := h2
    rw [h1, h2']
    exact ⟨rfl, h⟩
  · have h2' : byRef N.L r = some y := h2
    rw [h1, h2']
    simp only
    have hp := RelL.pop h.1 h3
    cases e : y.l with
    | nil => exact ⟨rfl, h⟩
    | cons k t =>
      rw [e] at hp
      exact ⟨rfl, hp, h.2⟩
theorem waits_mem {N R : Net} (h : Match N R) (k : Int) : k ∈ waitsOf R.L ↔ k ∈ waitsOf N.L := by
  unfold waitsOf
  simp only [List.mem_flatMap, h.1.mem]
theorem match_hang {N R : Net} (h : Match N R) (hi : Inv N) (k en : Int) : (rHang R k en).2 = (hangN N k en).2 ∧ Match (hangN N k en).1 (rHang R k en).1 := by
  unfold rHang hangN
  by_cases e0 : en ≠ 0 ∧ en ≠ 1
  · rw [if_pos e0, if_pos e0]
    exact ⟨rfl, h⟩
  · rw [if_neg e0, if_neg e0]
    rcases Rel.pick h.2 (refC k) (cref_uniq hi k) with ⟨h1, h2⟩ | ⟨i, y, h1, h2, h3, h4⟩
    · have h2' : byC N.C k = none := h2
      rw [h1, h2']
      exact ⟨rfl, h⟩
    · have h2' : byC N.C k = some y := h2
      rw [h1, h2']
      simp only [waits_mem h k]
      by_cases e1 : en = 1 ∧ k ∈ waitsOf N.L
      · rw [if_pos e1, if_pos e1]
        exact ⟨rfl, h⟩
      · rw [if_neg e1, if_neg e1]
        by_cases e2 : (if en = 1 then y.a1 else y.a0) = true
        · rw [if_pos e2, if_pos e2]
          exact ⟨rfl, h⟩
        · rw [if_neg e2, if_neg e2]
          refine ⟨rfl, h.1, ?_⟩
          have hk : (y.ref : Int) = k := of_decide_eq_true h4
          have := RelC.shut h.2 (fun z hz => hi.op z (h.2.mem.1 hz)) h3 (decide (en = 1))
          rw [hk] at this
          exact this
end Go.Proofs.YtmdhlodafjpnmaaGreat.PN
namespace Go.Proofs.YtmdhlodafjpnmaaGreat
open Go.RowKit
set_option linter.unusedVariables false
set_option maxRecDepth 100000

theorem adr_one : ∀ {L : List LB}, (L.Pairwise fun x y => ¬ (x.s = y.s ∧ x.p = y.p)) → ∀ x ∈ L, ∀ y ∈ L, x.s = y.s → x.p = y.p → y = x
  | [], _, x, hx, _, _, _, _ => by cases hx
  | a :: r, h, x, hx, y, hy, h1, h2 => by
    rw [List.pairwise_cons] at h
    rcases List.mem_cons.1 hx with rfl | hx'
    · rcases List.mem_cons.1 hy with rfl | hy'
      · rfl
      · exact absurd ⟨h1, h2⟩ (h.1 y hy')
    · rcases List.mem_cons.1 hy with rfl | hy'
      · exact absurd ⟨h1.symm, h2.symm⟩ (h.1 x hx')
      · exact adr_one h.2 x hx' y hy' h1 h2
theorem Live.inv {K : Nat → Prop} {B : NB} {N : PN.Net} {G : Nat} {w : World} (h : Live K B N G w) : PN.Inv N := by
  obtain ⟨own, L, C, h1, rfl, _⟩ := h
  refine ⟨?_, ?_, ?_, ?_, ?_, ?_, ?_⟩
  · have := h1.refs
    simpa [plainN, LB.pl, Function.comp_def] using this
  · have := h1.crefs
    simpa [plainN, CB.pc, Function.comp_def] using this
  · intro x hx y hy e1 e2
    obtain ⟨a, ha, rfl⟩ := List.mem_map.1 hx
    obtain ⟨b, hb, rfl⟩ := List.mem_map.1 hy
    rw [adr_one h1.adrs a ha b hb e1 e2]
  · intro k hk
    have hk' : k ∈ qs L := by rw [← waitsOf_qs]; exact hk
    obtain ⟨y, hy, h2, h3⟩ := h1.queue k hk'
    exact ⟨y.pc, List.mem_map.2 ⟨y, hy, rfl⟩, h2, h3⟩
  · intro y hy
    obtain ⟨a, ha, rfl⟩ := List.mem_map.1 hy
    exact (h1.cs a ha).op
  · simpa [plainN] using h1.nl
  · simpa [plainN] using h1.nc
end Go.Proofs.YtmdhlodafjpnmaaGreat
