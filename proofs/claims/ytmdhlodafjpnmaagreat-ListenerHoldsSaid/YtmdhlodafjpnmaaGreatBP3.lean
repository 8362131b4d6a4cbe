/- Plain laws of no program: a net of listeners and connections, and what its calls make of it. -/
/- Plain laws of no program: the reference's lists of listeners and connections, in order of their numbers, beside the lists of the program. -/
/- Plain: a ring's content. -/
/- Plain: a ring's content as two pieces; two pieces written in turn. -/
/- Plain: a ring's content once bytes are skipped. -/
import Derived.WalkKit
namespace Go.Proofs.YtmdhlodafjpnmaaGreat.PN
set_option linter.unusedVariables false

/-- The lowest number from k on that is not in R, within f steps. -/
def low : Nat → List Nat → Nat → Nat
  | 0, _, k => k
  | f + 1, R, k => if k ∈ R then low f R (k + 1) else k
def free (R : List Nat) : Nat := low R.length R 0

theorem pigeon : ∀ (n : Nat) (R : List Nat), (∀ j, j < n → j ∈ R) → n ≤ R.length
  | 0, _, _ => Nat.zero_le _
  | n + 1, R, h => by
    have h1 : n ∈ R := h n (by omega)
    have h2 := pigeon n (R.erase n) (fun j hj => (List.mem_erase_of_ne (by omega)).2 (h j (by omega)))
    have h3 := List.length_erase_of_mem h1
    have h4 : 0 < R.length := List.length_pos_of_mem h1
    omega
theorem low_spec : ∀ (f : Nat) (R : List Nat) (k : Nat), (∀ j, j < k → j ∈ R) → R.length ≤ k + f → low f R k ∉ R ∧ (∀ j, j < low f R k → j ∈ R) ∧ low f R k ≤ k + f
  | 0, R, k, h, hl => by
    refine ⟨fun hm => ?_, h, Nat.le_refl _⟩
    have := pigeon (k + 1) R (fun j hj => by
      rcases Nat.lt_or_ge j k with h1 | h1
      · exact h j h1
      · obtain rfl : j = k := by omega
        exact hm)
    omega
  | f + 1, R, k, h, hl => by
    unfold low
    by_cases hk : k ∈ R
    · rw [if_pos hk]
      obtain ⟨h1, h2, h3⟩ := low_spec f R (k + 1) (fun j hj => by
        rcases Nat.lt_or_ge j k with h1 | h1
        · exact h j h1
        · obtain rfl : j = k := by omega
          exact hk) (by omega)
      exact ⟨h1, h2, by omega⟩
    · rw [if_neg hk]
      exact ⟨hk, h, by omega⟩
theorem free_spec (R : List Nat) : free R ∉ R ∧ (∀ j, j < free R → j ∈ R) ∧ free R ≤ R.length := by
  obtain ⟨h1, h2, h3⟩ := low_spec R.length R 0 (fun j hj => by omega) (by omega)
  exact ⟨h1, h2, by unfold free; omega⟩
theorem free_uniq {R : List Nat} {k : Nat} (h : k ∉ R) (h' : ∀ j, j < k → j ∈ R) : free R = k := by
  obtain ⟨h1, h2, _⟩ := free_spec R
  rcases Nat.lt_trichotomy (free R) k with hlt | heq | hgt
  · exact absurd (h' _ hlt) h1
  · exact heq
  · exact absurd (h2 _ hgt) h

/-- A listener: its number, its address, how many may wait, and who waits. -/
structure PL where
  ref : Nat
  s : ByteArray
  p : Int
  most : Int
  l : List Int
/-- A connection: its number, its capacity, and whether its ends are closed. -/
structure PC where
  ref : Nat
  cap : Nat
  a0 : Bool
  a1 : Bool
structure Net where
  L : List PL
  C : List PC

def at? (L : List PL) (s : ByteArray) (p : Int) : Option PL := L.find? (fun x => decide (x.s = s ∧ x.p = p))
def byRef (L : List PL) (r : Int) : Option PL := L.find? (fun x => decide ((x.ref : Int) = r))
def pushL (L : List PL) (r : Nat) (k : Int) : List PL := L.map fun y => if y.ref = r then { y with l := y.l ++ [k] } else y
def popL (L : List PL) (r : Nat) : List PL := L.map fun y => if y.ref = r then { y with l := y.l.tail } else y
def dropL (L : List PL) (r : Nat) : List PL := L.filter fun y => decide (y.ref ≠ r)

/-- Connect to an address that is valid with a capacity that is valid: the net, the number, the error. -/
def connect (N : Net) (s : ByteArray) (p : Int) (c : Nat) : Net × Int × Int :=
  match at? N.L s p with
  | none => (N, 0, 15)
  | some x =>
    if (x.l.length : Int) = x.most then (N, 0, 16)
    else if 128 ≤ N.C.length then (N, 0, 7)
    else ({ L := pushL N.L x.ref (free (N.C.map (·.ref))), C := N.C ++ [⟨free (N.C.map (·.ref)), c, false, false⟩] }, free (N.C.map (·.ref)), 0)
def accept (N : Net) (r : Int) : Net × Int × Int :=
  match byRef N.L r with
  | none => (N, 0, 9)
  | some x => match x.l with
    | [] => (N, 0, 16)
    | k :: _ => ({ N with L := popL N.L x.ref }, k, 0)
/-- The end of a connection that is closed. -/
def shutC (y : PC) (e : Bool) : PC := if e then { y with a1 := true } else { y with a0 := true }
def hang (C : List PC) (k : Int) (e : Bool) : List PC := (C.map fun y => if (y.ref : Int) = k then shutC y e else y).filter fun y => !(y.a0 && y.a1)
def hangs (C : List PC) : List Int → List PC
  | [] => C
  | k :: r => hangs (hang C k true) r
def close (N : Net) (r : Int) : Net × List Int × Int :=
  match byRef N.L r with
  | none => (N, [], 9)
  | some x => ({ L := dropL N.L x.ref, C := hangs N.C x.l }, x.l, 0)
def ports (L : List PL) (s : ByteArray) : List Nat := (L.filter fun x => decide (x.s = s ∧ 49152 ≤ x.p)).map fun x => (x.p - 49152).toNat
def portOf (L : List PL) (s : ByteArray) (p : Int) : Int := if p = 0 then 49152 + (free (ports L s) : Int) else p
def listen (N : Net) (s : ByteArray) (p most : Int) (ok : Bool) : Net × Int × (ByteArray × Int) × Int :=
  if most < 1 ∨ 128 < most ∨ ok = false then (N, 0, (⟨#[]⟩, 0), 2)
  else if (at? N.L s (portOf N.L s p)).isSome then (N, 0, (⟨#[]⟩, 0), 11)
  else if 128 ≤ N.L.length then (N, 0, (⟨#[]⟩, 0), 7)
  else ({ N with L := N.L ++ [⟨free (N.L.map (·.ref)), s, portOf N.L s p, most, []⟩] }, free (N.L.map (·.ref)), (s, portOf N.L s p), 0)
end Go.Proofs.YtmdhlodafjpnmaaGreat.PN
namespace Go.Proofs.YtmdhlodafjpnmaaGreat.PN
set_option linter.unusedVariables false

section
variable {α : Type} (ref : α → Nat)
/-- The same things, in order of their numbers. -/
def Rel (C D : List α) : Prop := D.Perm C ∧ D.Pairwise (fun a b => ref a < ref b)
theorem Rel.nil : Rel ref [] [] := ⟨List.Perm.nil, List.Pairwise.nil⟩
variable {ref}
theorem Rel.len {C D : List α} (h : Rel ref C D) : D.length = C.length := h.1.length_eq
theorem Rel.mem {C D : List α} (h : Rel ref C D) {y : α} : y ∈ D ↔ y ∈ C := h.1.mem_iff
theorem free_perm {R S : List Nat} (h : S.Perm R) : free S = free R := by
  obtain ⟨h1, h2, _⟩ := free_spec R
  exact free_uniq (fun hm => h1 (h.mem_iff.1 hm)) (fun j hj => h.mem_iff.2 (h2 j hj))
theorem Rel.free {C D : List α} (h : Rel ref C D) : PN.free (D.map ref) = PN.free (C.map ref) := free_perm (h.1.map _)
theorem ref_inj {D : List α} (h : D.Pairwise (fun a b => ref a < ref b)) {i j : Nat} {y z : α} (hy : D[i]? = some y) (hz : D[j]? = some z) (e : ref y = ref z) : i = j := by
  obtain ⟨hi, rfl⟩ := List.getElem?_eq_some_iff.1 hy
  obtain ⟨hj, rfl⟩ := List.getElem?_eq_some_iff.1 hz
  rcases Nat.lt_trichotomy i j with hl | he | hg
  · have := List.pairwise_iff_getElem.1 h i j hi hj hl
    omega
  · exact he
  · have := List.pairwise_iff_getElem.1 h j i hj hi hg
    omega
theorem set_cut {D : List α} {i : Nat} (hi : i < D.length) (x : α) : D.set i x = D.take i ++ x :: D.drop (i + 1) := (List.set_eq_take_append_cons_drop ..).trans (by rw [if_pos hi])
theorem self_cut {D : List α} {i : Nat} {y : α} (hy : D[i]? = some y) : D = D.take i ++ y :: D.drop (i + 1) := by
  obtain ⟨hi, rfl⟩ := List.getElem?_eq_some_iff.1 hy
  rw [← set_cut hi, List.set_getElem_self]
/-- A change of the one thing with a number. -/
theorem Rel.upd {C D : List α} (h : Rel ref C D) {i : Nat} {y : α} (hy : D[i]? = some y) (f : α → α) (hf : ref (f y) = ref y) (p : α → Bool) (hp : ∀ z, p z = true ↔ ref z = ref y) :
    Rel ref (C.map fun z => if p z = true then f z else z) (D.set i (f y)) := by
  have hi := (List.getElem?_eq_some_iff.1 hy).1
  have hm : (D.map fun z => if p z = true then f z else z) = D.set i (f y) := by
    apply List.ext_getElem?
    intro j
    rw [List.getElem?_map]
    by_cases hj : i = j
    · subst hj
      rw [hy, List.getElem?_set_self hi]
      simp [(hp y).2 rfl]
    · rw [List.getElem?_set_ne hj]
      cases hz : D[j]? with
      | none => rfl
      | some z =>
        have hne : ¬ p z = true := fun e => hj (ref_inj h.2 hy hz ((hp z).1 e).symm)
        simp [hne]
  refine ⟨by rw [← hm]; exact h.1.map _, ?_⟩
  have hr : (D.set i (f y)).map ref = D.map ref := by
    apply List.ext_getElem?
    intro j
    rw [List.getElem?_map, List.getElem?_map]
    by_cases hj : i = j
    · subst hj
      rw [hy, List.getElem?_set_self hi]
      simp [hf]
    · rw [List.getElem?_set_ne hj]
  have h1 : (D.map ref).Pairwise (· < ·) := List.pairwise_map.2 h.2
  rw [← hr] at h1
  exact List.pairwise_map.1 h1
theorem cut_sub {D : List α} (i : Nat) : (D.take i ++ D.drop (i + 1)).Sublist D := by
  conv => rhs; rw [← List.take_append_drop i D]
  refine List.Sublist.append (List.Sublist.refl _) ?_
  rw [← List.drop_drop]
  exact List.drop_sublist _ _
/-- The one thing with a number taken away. -/
theorem Rel.del {C D : List α} (h : Rel ref C D) {i : Nat} {y : α} (hy : D[i]? = some y) (p : α → Bool) (hp : ∀ z, p z = true ↔ ref z = ref y) :
    Rel ref (C.filter fun z => !(p z)) (D.take i ++ D.drop (i + 1)) := by
  have h2 := h.1.filter fun z => !(p z)
  have hn : ∀ j z, D[j]? = some z → j ≠ i → p z = false := fun j z hz hj => by
    cases e : p z with
    | false => rfl
    | true => exact absurd (ref_inj h.2 hz hy ((hp z).1 e)) hj
  have htk : (D.take i).filter (fun z => !(p z)) = D.take i := List.filter_eq_self.2 (fun z hz => by
    obtain ⟨j, hj⟩ := List.getElem?_of_mem hz
    have hl := (List.getElem?_eq_some_iff.1 hj).1
    rw [List.length_take] at hl
    rw [List.getElem?_take_of_lt (by omega)] at hj
    rw [hn j z hj (by omega)]
    rfl)
  have hdr : (D.drop (i + 1)).filter (fun z => !(p z)) = D.drop (i + 1) := List.filter_eq_self.2 (fun z hz => by
    obtain ⟨j, hj⟩ := List.getElem?_of_mem hz
    rw [List.getElem?_drop] at hj
    rw [hn _ z hj (by omega)]
    rfl)
  rw [self_cut hy, List.filter_append, List.filter_cons, (hp y).2 rfl] at h2
  simp only [Bool.not_true, Bool.false_eq_true, if_false] at h2
  rw [htk, hdr] at h2
  exact ⟨h2, h.2.sublist (cut_sub i)⟩
end

abbrev RelC : List PC → List PC → Prop := Rel PC.ref
abbrev RelL : List PL → List PL → Prop := Rel PL.ref
theorem shut_ref (y : PC) (e : Bool) : (shutC y e).ref = y.ref := by cases e <;> rfl
/-- An end closed: the list after it. -/
theorem RelC.shut {C D : List PC} (h : RelC C D) (hok : ∀ z ∈ D, (z.a0 && z.a1) = false) {i : Nat} {y : PC} (hy : D[i]? = some y) (e : Bool) :
    RelC (hang C (y.ref : Int) e) (if ((shutC y e).a0 && (shutC y e).a1) = true then D.take i ++ D.drop (i + 1) else D.set i (shutC y e)) := by
  have hi := (List.getElem?_eq_some_iff.1 hy).1
  have hu := Rel.upd h hy (fun z => shutC z e) (shut_ref y e) (fun z => decide ((z.ref : Int) = (y.ref : Int))) (fun z => by rw [decide_eq_true_iff]; omega)
  have he : (C.map fun z => if decide ((z.ref : Int) = (y.ref : Int)) = true then shutC z e else z) = C.map fun z => if (z.ref : Int) = (y.ref : Int) then shutC z e else z := by simp only [decide_eq_true_eq]
  rw [he] at hu
  have h2 : ((D.set i (shutC y e)).filter fun z => !(z.a0 && z.a1)).Perm (hang C (y.ref : Int) e) := hu.1.filter _
  have hset := set_cut hi (shutC y e)
  have htk : (D.take i).filter (fun z => !(z.a0 && z.a1)) = D.take i := List.filter_eq_self.2 (fun z hz => by rw [hok z (List.mem_of_mem_take hz)]; rfl)
  have hdr : (D.drop (i + 1)).filter (fun z => !(z.a0 && z.a1)) = D.drop (i + 1) := List.filter_eq_self.2 (fun z hz => by rw [hok z (List.mem_of_mem_drop hz)]; rfl)
  by_cases hb : ((shutC y e).a0 && (shutC y e).a1) = true
  · rw [if_pos hb]
    rw [hset, List.filter_append, List.filter_cons, hb] at h2
    simp only [Bool.not_true, Bool.false_eq_true, if_false] at h2
    rw [htk, hdr] at h2
    exact ⟨h2, h.2.sublist (cut_sub i)⟩
  · rw [if_neg hb]
    have hb' : ((shutC y e).a0 && (shutC y e).a1) = false := by simpa using hb
    rw [hset, List.filter_append, List.filter_cons, hb'] at h2
    simp only [Bool.not_false, if_true] at h2
    rw [htk, hdr, ← hset] at h2
    exact ⟨h2, hu.2⟩
theorem RelL.push {C D : List PL} (h : RelL C D) {i : Nat} {y : PL} (hy : D[i]? = some y) (k : Int) : RelL (pushL C y.ref k) (D.set i { y with l := y.l ++ [k] }) := by
  have := Rel.upd h hy (fun z => { z with l := z.l ++ [k] }) rfl (fun z => decide (z.ref = y.ref)) (fun z => by rw [decide_eq_true_iff])
  simp only [decide_eq_true_eq] at this
  exact this
theorem RelL.drop {C D : List PL} (h : RelL C D) {i : Nat} {y : PL} (hy : D[i]? = some y) : RelL (dropL C y.ref) (D.take i ++ D.drop (i + 1)) := by
  have := Rel.del h hy (fun z => decide (z.ref = y.ref)) (fun z => by rw [decide_eq_true_iff])
  unfold dropL
  have e : (fun z : PL => !decide (z.ref = y.ref)) = fun z => decide (z.ref ≠ y.ref) := by
    funext z
    by_cases hz : z.ref = y.ref <;> simp [hz]
  rwa [e] at this
end Go.Proofs.YtmdhlodafjpnmaaGreat.PN
namespace Go.Proofs.YtmdhlodafjpnmaaGreat
set_option linter.unusedVariables false
set_option linter.unusedSimpArgs false

/-- The n bytes of a ring from f on. -/
def cont (l : List UInt8) (f n : Nat) : List UInt8 := (List.range n).map fun j => l.getD ((f + j) % l.length) 0
theorem cont_len (l : List UInt8) (f n : Nat) : (cont l f n).length = n := by simp [cont]
theorem cont_get (l : List UInt8) (f n j : Nat) : (cont l f n)[j]? = if j < n then some (l.getD ((f + j) % l.length) 0) else none := by
  unfold cont
  rw [List.getElem?_map]
  by_cases h : j < n
  · rw [if_pos h, List.getElem?_range h]
    rfl
  · rw [if_neg h, List.getElem?_eq_none (by rw [List.length_range]; omega)]
    rfl
/-- Some bytes written over others. -/
def putAt (l : List UInt8) (p : Nat) (s : List UInt8) : List UInt8 := l.take p ++ s ++ l.drop (p + s.length)
theorem putAt_len {l s : List UInt8} {p : Nat} (h : p + s.length ≤ l.length) : (putAt l p s).length = l.length := by
  unfold putAt
  rw [List.length_append, List.length_append, List.length_take, List.length_drop]
  omega
theorem putAt_get {l s : List UInt8} {p : Nat} (h : p + s.length ≤ l.length) (i : Nat) : (putAt l p s).getD i 0 = if p ≤ i ∧ i < p + s.length then s.getD (i - p) 0 else l.getD i 0 := by
  unfold putAt
  simp only [List.getD_eq_getElem?_getD]
  have hl : (l.take p).length = p := by rw [List.length_take]; omega
  by_cases h1 : i < p
  · rw [if_neg (by omega), List.append_assoc, List.getElem?_append_left (by omega), List.getElem?_take_of_lt h1]
  · by_cases h2 : i < p + s.length
    · rw [if_pos ⟨by omega, h2⟩, List.getElem?_append_left (by rw [List.length_append]; omega), List.getElem?_append_right (by omega), hl]
    · rw [if_neg (by omega), List.getElem?_append_right (by rw [List.length_append]; omega), List.length_append, hl, List.getElem?_drop]
      congr 2
      omega
/-- A ring's bytes once some bytes are written behind k. -/
def ringPut (l : List UInt8) (f k : Nat) (s : List UInt8) : List UInt8 :=
  putAt (putAt l ((f + k) % l.length) (s.take (min s.length (l.length - (f + k) % l.length)))) 0 (s.drop (min s.length (l.length - (f + k) % l.length)))
theorem ring_mod {c f j : Nat} (hf : f < c) (hj : j < c) : (f + j) % c = if f + j < c then f + j else f + j - c := by
  split
  · rename_i h
    exact Nat.mod_eq_of_lt h
  · rename_i h
    rw [Nat.mod_eq_sub_mod (by omega)]
    exact Nat.mod_eq_of_lt (by omega)
theorem ring_mod' {c f j : Nat} (hf : f < c) (hj : j ≤ c) : (f + j) % c = if f + j < c then f + j else f + j - c := by
  split
  · rename_i h
    exact Nat.mod_eq_of_lt h
  · rename_i h
    rw [Nat.mod_eq_sub_mod (by omega)]
    exact Nat.mod_eq_of_lt (by omega)
theorem ringPut_len {l s : List UInt8} {f k : Nat} (hf : f < l.length) (hk : k + s.length ≤ l.length) : (ringPut l f k s).length = l.length := by
  unfold ringPut
  obtain ⟨p, hp⟩ : ∃ p, (f + k) % l.length = p := ⟨_, rfl⟩
  have hpc : p < l.length := by rw [← hp]; exact Nat.mod_lt _ (by omega)
  rw [hp]
  have h1 : (putAt l p (s.take (min s.length (l.length - p)))).length = l.length := putAt_len (by rw [List.length_take]; omega)
  rw [putAt_len (by rw [List.length_drop, h1]; omega), h1]
theorem ringPut_get {l s : List UInt8} {f k : Nat} (hf : f < l.length) (hk : k + s.length ≤ l.length) (j : Nat) (hj : j < k + s.length) :
    (ringPut l f k s).getD ((f + j) % l.length) 0 = if j < k then l.getD ((f + j) % l.length) 0 else s.getD (j - k) 0 := by
  unfold ringPut
  obtain ⟨c, hc⟩ : ∃ c, l.length = c := ⟨_, rfl⟩
  rw [hc] at hf hk ⊢
  have hp := ring_mod' (c := c) (f := f) (j := k) hf (by omega)
  have hq := ring_mod (c := c) (f := f) (j := j) hf (by omega)
  obtain ⟨p, hpp⟩ : ∃ p, (f + k) % c = p := ⟨_, rfl⟩
  obtain ⟨i, hii⟩ : ∃ i, (f + j) % c = i := ⟨_, rfl⟩
  rw [hpp] at hp ⊢
  rw [hii] at hq ⊢
  have hpc : p < c := by rw [← hpp]; exact Nat.mod_lt _ (by omega)
  obtain ⟨m, hm⟩ : ∃ m, min s.length (c - p) = m := ⟨_, rfl⟩
  rw [hm]
  have hmm : m ≤ s.length ∧ m ≤ c - p ∧ (m = s.length ∨ m = c - p) := by omega
  have h1 : (putAt l p (s.take m)).length = c := by rw [putAt_len (by rw [List.length_take]; omega), hc]
  rw [putAt_get (by rw [List.length_drop, h1]; omega), putAt_get (by rw [List.length_take]; omega)]
  have lt1 : (s.take m).length = m := by rw [List.length_take]; omega
  have ld1 : (s.drop m).length = s.length - m := List.length_drop
  rw [lt1, ld1]
  simp only [List.getD_eq_getElem?_getD, List.getElem?_drop]
  clear hm h1 lt1 ld1 hpp hii
  split at hp <;> split at hq <;> by_cases hjk : j < k <;> simp only [hjk, if_true, if_false] <;> (first
    | (exfalso; omega)
    | (rw [if_neg (by omega), if_neg (by omega)])
    | (rw [if_pos (by omega)]; congr 2; omega)
    | (rw [if_neg (by omega), if_pos (by omega), List.getElem?_take_of_lt (by omega)]; congr 2; omega)
    | (rcases Nat.lt_or_ge i (s.length - m) with h5 | h5
       · rw [if_pos (by omega)]; congr 2; omega
       · rw [if_neg (by omega), if_pos (by omega), List.getElem?_take_of_lt (by omega)]; congr 2; omega))
theorem cont_put {l s : List UInt8} {f k : Nat} (hf : f < l.length) (hk : k + s.length ≤ l.length) : cont (ringPut l f k s) f (k + s.length) = cont l f k ++ s := by
  refine List.ext_getElem? fun j => ?_
  rw [cont_get, ringPut_len hf hk]
  by_cases h1 : j < k + s.length
  · rw [if_pos h1, ringPut_get hf hk j h1]
    by_cases h2 : j < k
    · rw [if_pos h2, List.getElem?_append_left (by rw [cont_len]; exact h2), cont_get, if_pos h2]
    · rw [if_neg h2, List.getElem?_append_right (by rw [cont_len]; omega), cont_len, List.getD_eq_getElem?_getD, List.getElem?_eq_getElem (by omega)]
      rfl
  · rw [if_neg h1, List.getElem?_eq_none (by rw [List.length_append, cont_len]; omega)]
end Go.Proofs.YtmdhlodafjpnmaaGreat
namespace Go.Proofs.YtmdhlodafjpnmaaGreat
set_option linter.unusedVariables false
set_option linter.unusedSimpArgs false

theorem cont_two {l : List UInt8} {f n : Nat} (hf : f < l.length) (hn : n ≤ l.length) : cont l f n = (l.drop f).take (min n (l.length - f)) ++ l.take (n - min n (l.length - f)) := by
  obtain ⟨q, hq⟩ : ∃ q, min n (l.length - f) = q := ⟨_, rfl⟩
  rw [hq]
  have hqq : q ≤ n ∧ q ≤ l.length - f ∧ (q = n ∨ q = l.length - f) := by omega
  have h1 : ((l.drop f).take q).length = q := by rw [List.length_take, List.length_drop]; omega
  have h2 : (l.take (n - q)).length = n - q := by rw [List.length_take]; omega
  refine List.ext_getElem? fun j => ?_
  rw [cont_get]
  by_cases hj : j < n
  · rw [if_pos hj, ring_mod hf (by omega)]
    by_cases hjq : j < q
    · rw [List.getElem?_append_left (by omega), List.getElem?_take_of_lt hjq, List.getElem?_drop, if_pos (by omega), List.getD_eq_getElem?_getD, List.getElem?_eq_getElem (by omega)]
      rfl
    · rw [List.getElem?_append_right (by omega), h1, List.getElem?_take_of_lt (by omega), if_neg (by omega), List.getD_eq_getElem?_getD, show f + j - l.length = j - q from by omega, List.getElem?_eq_getElem (by omega)]
      rfl
  · rw [if_neg hj, List.getElem?_eq_none (by rw [List.length_append]; omega)]
theorem put_two (A B : List UInt8) : putAt (putAt (List.replicate (A.length + B.length) 0) 0 A) A.length B = A ++ B := by
  have h1 : putAt (List.replicate (A.length + B.length) 0) 0 A = A ++ List.replicate B.length 0 := by
    simp [putAt]
  rw [h1]
  simp [putAt, List.take_left, List.drop_append]
end Go.Proofs.YtmdhlodafjpnmaaGreat
namespace Go.Proofs.YtmdhlodafjpnmaaGreat
set_option linter.unusedVariables false
set_option linter.unusedSimpArgs false

theorem ringPut_all {l s : List UInt8} {f k : Nat} (hf : f < l.length) (hk : k + s.length ≤ l.length) (j : Nat) (hj : j < l.length) :
    (ringPut l f k s).getD ((f + j) % l.length) 0 = if k ≤ j ∧ j < k + s.length then s.getD (j - k) 0 else l.getD ((f + j) % l.length) 0 := by
  unfold ringPut
  obtain ⟨c, hc⟩ : ∃ c, l.length = c := ⟨_, rfl⟩
  rw [hc] at hf hk hj ⊢
  have hp := ring_mod' (c := c) (f := f) (j := k) hf (by omega)
  have hq := ring_mod (c := c) (f := f) (j := j) hf (by omega)
  obtain ⟨p, hpp⟩ : ∃ p, (f + k) % c = p := ⟨_, rfl⟩
  obtain ⟨i, hii⟩ : ∃ i, (f + j) % c = i := ⟨_, rfl⟩
  rw [hpp] at hp ⊢
  rw [hii] at hq ⊢
  have hpc : p < c := by rw [← hpp]; exact Nat.mod_lt _ (by omega)
  obtain ⟨m, hm⟩ : ∃ m, min s.length (c - p) = m := ⟨_, rfl⟩
  rw [hm]
  have hmm : m ≤ s.length ∧ m ≤ c - p ∧ (m = s.length ∨ m = c - p) := by omega
  have h1 : (putAt l p (s.take m)).length = c := by rw [putAt_len (by rw [List.length_take]; omega), hc]
  rw [putAt_get (by rw [List.length_drop, h1]; omega), putAt_get (by rw [List.length_take]; omega)]
  have lt1 : (s.take m).length = m := by rw [List.length_take]; omega
  have ld1 : (s.drop m).length = s.length - m := List.length_drop
  rw [lt1, ld1]
  simp only [List.getD_eq_getElem?_getD, List.getElem?_drop]
  clear hm h1 lt1 ld1 hpp hii
  split at hp <;> split at hq <;> by_cases hjk : k ≤ j ∧ j < k + s.length <;> simp only [hjk, if_true, if_false, and_self, and_true, true_and] <;> (first
    | (exfalso; omega)
    | (rw [if_neg (by omega), if_neg (by omega)])
    | (rw [if_pos (by omega)]; congr 2; omega)
    | (rw [if_neg (by omega), if_pos (by omega), List.getElem?_take_of_lt (by omega)]; congr 2; omega)
    | (rcases Nat.lt_or_ge i (s.length - m) with h5 | h5
       · rw [if_pos (by omega)]; congr 2; omega
       · rw [if_neg (by omega), if_pos (by omega), List.getElem?_take_of_lt (by omega)]; congr 2; omega))
theorem cont_skip {l : List UInt8} {f k n : Nat} (hf : f < l.length) (hk : k ≤ l.length) (hn : n ≤ k) : cont (ringPut l f 0 (List.replicate n 0)) ((f + n) % l.length) (k - n) = (cont l f k).drop n := by
  have hl : (ringPut l f 0 (List.replicate n 0)).length = l.length := ringPut_len hf (by rw [List.length_replicate]; omega)
  refine List.ext_getElem? fun j => ?_
  rw [cont_get, List.getElem?_drop, cont_get, hl]
  by_cases hj : j < k - n
  · rw [if_pos hj, if_pos (by omega), Nat.mod_add_mod, Nat.add_assoc, ringPut_all hf (by rw [List.length_replicate]; omega) (n + j) (by omega), if_neg (by rw [List.length_replicate]; omega)]
  · rw [if_neg hj, if_neg (by omega)]
end Go.Proofs.YtmdhlodafjpnmaaGreat
