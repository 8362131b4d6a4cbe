/- Plain laws of no program: a net of listeners and connections, and what its calls make of it. -/
import Derived.WalkKit
namespace Go.Proofs.YtmdhlodafjpnmaaGreat.PN
set_option linter.unusedVariables false

/-- The lowest number from k on that is not in R, within f steps. -/
def low : Nat → List Nat → Nat → Nat
  | 0, _, k => k
  | f + 1, R, k => if k ∈ R then low f R (k + 1) else k
def free (R : List Nat) : Nat := low R.length R 0

theorem pigeon : ∀ (n : Nat) (R : List Nat), (∀ j, j < n → j ∈ R) → n ≤ R.length
  | 0, _, _ => Nat.zero_le _
  | n + 1, R, h => by
    have h1 : n ∈ R := h n (by omega)
    have h2 := pigeon n (R.erase n) (fun j hj => (List.mem_erase_of_ne (by omega)).2 (h j (by omega)))
    have h3 := List.length_erase_of_mem h1
    have h4 : 0 < R.length := List.length_pos_of_mem h1
    omega
theorem low_spec : ∀ (f : Nat) (R : List Nat) (k : Nat), (∀ j, j < k → j ∈ R) → R.length ≤ k + f → low f R k ∉ R ∧ (∀ j, j < low f R k → j ∈ R) ∧ low f R k ≤ k + f
  | 0, R, k, h, hl => by
    refine ⟨fun hm => ?_, h, Nat.le_refl _⟩
    have := pigeon (k + 1) R (fun j hj => by
      rcases Nat.lt_or_ge j k with h1 | h1
      · exact h j h1
      · obtain rfl : j = k := by omega
        exact hm)
    omega
  | f + 1, R, k, h, hl => by
    unfold low
    by_cases hk : k ∈ R
    · rw [if_pos hk]
      obtain ⟨h1, h2, h3⟩ := low_spec f R (k + 1) (fun j hj => by
        rcases Nat.lt_or_ge j k with h1 | h1
        · exact h j h1
        · obtain rfl : j = k := by omega
          exact hk) (by omega)
      exact ⟨h1, h2, by omega⟩
    · rw [if_neg hk]
      exact ⟨hk, h, by omega⟩
theorem free_spec (R : List Nat) : free R ∉ R ∧ (∀ j, j < free R → j ∈ R) ∧ free R ≤ R.length := by
  obtain ⟨h1, h2, h3⟩ := low_spec R.length R 0 (fun j hj => by omega) (by omega)
  exact ⟨h1, h2, by unfold free; omega⟩
theorem free_uniq {R : List Nat} {k : Nat} (h : k ∉ R) (h' : ∀ j, j < k → j ∈ R) : free R = k := by
  obtain ⟨h1, h2, _⟩ := free_spec R
  rcases Nat.lt_trichotomy (free R) k with hlt | heq | hgt
  · exact absurd (h' _ hlt) h1
  · exact heq
  · exact absurd (h2 _ hgt) h

/-- A listener: its number, its address, how many may wait, and who waits. -/
structure PL where
  ref : Nat
  s : ByteArray
  p : Int
  most : Int
  l : List Int
/-- A connection: its number, its capacity, and whether its ends are closed. -/
structure PC where
  ref : Nat
  cap : Nat
  a0 : Bool
  a1 : Bool
structure Net where
  L : List PL
  C : List PC

def at? (L : List PL) (s : ByteArray) (p : Int) : Option PL := L.find? (fun x => decide (x.s = s ∧ x.p = p))
def byRef (L : List PL) (r : Int) : Option PL := L.find? (fun x => decide ((x.ref : Int) = r))
def pushL (L : List PL) (r : Nat) (k : Int) : List PL := L.map fun y => if y.ref = r then { y with l := y.l ++ [k] } else y
def popL (L : List PL) (r : Nat) : List PL := L.map fun y => if y.ref = r then { y with l := y.l.tail } else y
def dropL (L : List PL) (r : Nat) : List PL := L.filter fun y => decide (y.ref ≠ r)

/-- Connect to an address that is valid with a capacity that is valid: the net, the number, the error. -/
def connect (N : Net) (s : ByteArray) (p : Int) (c : Nat) : Net × Int × Int :=
  match at? N.L s p with
  | none => (N, 0, 15)
  | some x =>
    if (x.l.length : Int) = x.most then (N, 0, 16)
    else if 128 ≤ N.C.length then (N, 0, 7)
    else ({ L := pushL N.L x.ref (free (N.C.map (·.ref))), C := N.C ++ [⟨free (N.C.map (·.ref)), c, false, false⟩] }, free (N.C.map (·.ref)), 0)
def accept (N : Net) (r : Int) : Net × Int × Int :=
  match byRef N.L r with
  | none => (N, 0, 9)
  | some x => match x.l with
    | [] => (N, 0, 16)
    | k :: _ => ({ N with L := popL N.L x.ref }, k, 0)
/-- The end of a connection that is closed. -/
def shutC (y : PC) (e : Bool) : PC := if e then { y with a1 := true } else { y with a0 := true }
def hang (C : List PC) (k : Int) (e : Bool) : List PC := (C.map fun y => if (y.ref : Int) = k then shutC y e else y).filter fun y => !(y.a0 && y.a1)
def hangs (C : List PC) : List Int → List PC
  | [] => C
  | k :: r => hangs (hang C k true) r
def close (N : Net) (r : Int) : Net × List Int × Int :=
  match byRef N.L r with
  | none => (N, [], 9)
  | some x => ({ L := dropL N.L x.ref, C := hangs N.C x.l }, x.l, 0)
def ports (L : List PL) (s : ByteArray) : List Nat := (L.filter fun x => decide (x.s = s ∧ 49152 ≤ x.p)).map fun x => (x.p - 49152).toNat
def portOf (L : List PL) (s : ByteArray) (p : Int) : Int := if p = 0 then 49152 + (free (ports L s) : Int) else p
def listen (N : Net) (s : ByteArray) (p most : Int) (ok : Bool) : Net × Int × (ByteArray × Int) × Int :=
  if most < 1 ∨ 128 < most ∨ ok = false then (N, 0, (⟨#[]⟩, 0), 2)
  else if (at? N.L s (portOf N.L s p)).isSome then (N, 0, (⟨#[]⟩, 0), 11)
  else if 128 ≤ N.L.length then (N, 0, (⟨#[]⟩, 0), 7)
  else ({ N with L := N.L ++ [⟨free (N.L.map (·.ref)), s, portOf N.L s p, most, []⟩] }, free (N.L.map (·.ref)), (s, portOf N.L s p), 0)
end Go.Proofs.YtmdhlodafjpnmaaGreat.PN
