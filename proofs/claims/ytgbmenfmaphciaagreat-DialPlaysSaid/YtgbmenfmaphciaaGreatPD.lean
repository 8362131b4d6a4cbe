/- Plain laws of no program: a net of listeners and connections, and what its calls make of it. -/
/- Plain laws of no program: the reference's lists of listeners and connections, in order of their numbers, beside the lists of the program. -/
/- Plain laws of no program: dialings and a net; trying in turn, and that what is stable stays so. -/
import Derived.WalkKit
namespace Go.Proofs.YtgbmenfmaphciaaGreat.PN
set_option linter.unusedVariables false
def low : Nat → List Nat → Nat → Nat
 | 0, _, k => k
 | f + 1, R, k => if k ∈ R then low f R (k + 1) else k
def free (R : List Nat) : Nat := low R.length R 0
theorem pigeon : ∀ (n : Nat) (R : List Nat), (∀ j, j < n → j ∈ R) → n ≤ R.length
 | 0, _, _ => Nat.zero_le _
 | n + 1, R, h => by
  have h1 : n ∈ R := h n (by omega)
  have h2 := pigeon n (R.erase n) (fun j hj => (List.mem_erase_of_ne (by omega)).2 (h j (by omega)))
  have h3 := List.length_erase_of_mem h1
  have h4 : 0 < R.length := List.length_pos_of_mem h1
  omega
theorem low_spec : ∀ (f : Nat) (R : List Nat) (k : Nat), (∀ j, j < k → j ∈ R) → R.length ≤ k + f → low f R k ∉ R ∧ (∀ j, j < low f R k → j ∈ R) ∧ low f R k ≤ k + f
 | 0, R, k, h, hl => by
  refine ⟨fun hm => ?_, h, Nat.le_refl _⟩
  have := pigeon (k + 1) R (fun j hj => by
   rcases Nat.lt_or_ge j k with h1 | h1
   ·exact h j h1
   ·obtain rfl : j = k := by omega
    exact hm)
  omega
 | f + 1, R, k, h, hl => by
  unfold low
  by_cases hk : k ∈ R
  ·rw [if_pos hk]
   obtain ⟨h1, h2, h3⟩ := low_spec f R (k + 1) (fun j hj => by
    rcases Nat.lt_or_ge j k with h1 | h1
    ·exact h j h1
    ·obtain rfl : j = k := by omega
     exact hk) (by omega)
   exact ⟨h1, h2, by omega⟩
  ·rw [if_neg hk]
   exact ⟨hk, h, by omega⟩
theorem free_spec (R : List Nat) : free R ∉ R ∧ (∀ j, j < free R → j ∈ R) ∧ free R ≤ R.length := by
 obtain ⟨h1, h2, h3⟩ := low_spec R.length R 0 (fun j hj => by omega) (by omega)
 exact ⟨h1, h2, by unfold free; omega⟩
theorem free_uniq {R : List Nat} {k : Nat} (h : k ∉ R) (h' : ∀ j, j < k → j ∈ R) : free R = k := by
 obtain ⟨h1, h2, _⟩ := free_spec R
 rcases Nat.lt_trichotomy (free R) k with hlt | heq | hgt
 ·exact absurd (h' _ hlt) h1
 ·exact heq
 ·exact absurd (h2 _ hgt) h
structure PL where
 ref : Nat
 s : ByteArray
 p : Int
 most : Int
 l : List Int
structure PC where
 ref : Nat
 cap : Nat
 a0 : Bool
 a1 : Bool
structure Net where
 L : List PL
 C : List PC
def at? (L : List PL) (s : ByteArray) (p : Int) : Option PL := L.find? (fun x => decide (x.s = s ∧ x.p = p))
def byRef (L : List PL) (r : Int) : Option PL := L.find? (fun x => decide ((x.ref : Int) = r))
def pushL (L : List PL) (r : Nat) (k : Int) : List PL := L.map fun y => if y.ref = r then { y with l := y.l ++ [k] } else y
def popL (L : List PL) (r : Nat) : List PL := L.map fun y => if y.ref = r then { y with l := y.l.tail } else y
def dropL (L : List PL) (r : Nat) : List PL := L.filter fun y => decide (y.ref ≠ r)
def connect (N : Net) (s : ByteArray) (p : Int) (c : Nat) : Net × Int × Int :=
 match at? N.L s p with
 | none => (N, 0, 15)
 | some x =>
  if (x.l.length : Int) = x.most then (N, 0, 16)
  else if 128 ≤ N.C.length then (N, 0, 7)
  else ({ L := pushL N.L x.ref (free (N.C.map (·.ref))), C := N.C ++ [⟨free (N.C.map (·.ref)), c, false, false⟩] }, free (N.C.map (·.ref)), 0)
def accept (N : Net) (r : Int) : Net × Int × Int :=
 match byRef N.L r with
 | none => (N, 0, 9)
 | some x => match x.l with
  | [] => (N, 0, 16)
  | k :: _ => ({ N with L := popL N.L x.ref }, k, 0)
def shutC (y : PC) (e : Bool) : PC := if e then { y with a1 := true } else { y with a0 := true }
def hang (C : List PC) (k : Int) (e : Bool) : List PC := (C.map fun y => if (y.ref : Int) = k then shutC y e else y).filter fun y => !(y.a0 && y.a1)
def hangs (C : List PC) : List Int → List PC
 | [] => C
 | k :: r => hangs (hang C k true) r
def close (N : Net) (r : Int) : Net × List Int × Int :=
 match byRef N.L r with
 | none => (N, [], 9)
 | some x => ({ L := dropL N.L x.ref, C := hangs N.C x.l }, x.l, 0)
def ports (L : List PL) (s : ByteArray) : List Nat := (L.filter fun x => decide (x.s = s ∧ 49152 ≤ x.p)).map fun x => (x.p - 49152).toNat
def portOf (L : List PL) (s : ByteArray) (p : Int) : Int := if p = 0 then 49152 + (free (ports L s) : Int) else p
def listen (N : Net) (s : ByteArray) (p most : Int) (ok : Bool) : Net × Int × (ByteArray × Int) × Int :=
 if most < 1 ∨ 128 < most ∨ ok = false then (N, 0, (⟨#[]⟩, 0), 2)
 else if (at? N.L s (portOf N.L s p)).isSome then (N, 0, (⟨#[]⟩, 0), 11)
 else if 128 ≤ N.L.length then (N, 0, (⟨#[]⟩, 0), 7)
 else ({ N with L := N.L ++ [⟨free (N.L.map (·.ref)), s, portOf N.L s p, most, []⟩] }, free (N.L.map (·.ref)), (s, portOf N.L s p), 0)
section
variable {α : Type} (ref : α → Nat)
def Rel (C D : List α) : Prop := D.Perm C ∧ D.Pairwise (fun a b => ref a < ref b)
theorem Rel.nil : Rel ref [] [] := ⟨List.Perm.nil, List.Pairwise.nil⟩
variable {ref}
theorem Rel.len {C D : List α} (h : Rel ref C D) : D.length = C.length := h.1.length_eq
theorem Rel.mem {C D : List α} (h : Rel ref C D) {y : α} : y ∈ D ↔ y ∈ C := h.1.mem_iff
theorem free_perm {R S : List Nat} (h : S.Perm R) : free S = free R := by
 obtain ⟨h1, h2, _⟩ := free_spec R
 exact free_uniq (fun hm => h1 (h.mem_iff.1 hm)) (fun j hj => h.mem_iff.2 (h2 j hj))
theorem Rel.free {C D : List α} (h : Rel ref C D) : PN.free (D.map ref) = PN.free (C.map ref) := free_perm (h.1.map _)
theorem ref_ge {D : List α} (h : D.Pairwise (fun a b => ref a < ref b)) : ∀ (i : Nat) y, D[i]? = some y → i ≤ ref y := by
 intro i
 induction i with
 | zero => exact fun y _ => Nat.zero_le _
 | succ i ih =>
  intro y hy
  have hi : i + 1 < D.length := (List.getElem?_eq_some_iff.1 hy).1
  have h1 := ih (D[i]'(by omega)) (List.getElem?_eq_getElem (by omega))
  have h2 := List.pairwise_iff_getElem.1 h i (i + 1) (by omega) hi (by omega)
  rw [(List.getElem?_eq_some_iff.1 hy).2] at h2
  omega
theorem ref_at {D : List α} (h : D.Pairwise (fun a b => ref a < ref b)) : ∀ (i : Nat), i < PN.free (D.map ref) → ∃ y, D[i]? = some y ∧ ref y = i := by
 intro i
 induction i using Nat.strongRecOn with
 | _ i ih =>
  intro hi
  obtain ⟨_, h2, _⟩ := free_spec (D.map ref)
  obtain ⟨y, hy, hr⟩ := List.mem_map.1 (h2 i hi)
  obtain ⟨m, hm⟩ := List.getElem?_of_mem hy
  have hge := ref_ge h m y hm
  rw [hr] at hge
  rcases Nat.lt_or_ge m i with hlt | hge2
  ·obtain ⟨z, hz, hzr⟩ := ih m hlt (by omega)
   rw [hz] at hm
   cases hm
   omega
  ·obtain rfl : m = i := by omega
   exact ⟨y, hm, hr⟩
theorem free_le {D : List α} : PN.free (D.map ref) ≤ D.length := by
 obtain ⟨_, _, h⟩ := free_spec (D.map ref)
 rwa [List.length_map] at h
theorem ref_above {D : List α} (h : D.Pairwise (fun a b => ref a < ref b)) {i : Nat} {y : α} (hi : PN.free (D.map ref) ≤ i) (hy : D[i]? = some y) : PN.free (D.map ref) < ref y := by
 have h1 := ref_ge h i y hy
 obtain ⟨h2, _, _⟩ := free_spec (D.map ref)
 have h3 : ref y ≠ PN.free (D.map ref) := fun e => h2 (List.mem_map.2 ⟨y, List.mem_of_getElem? hy, e⟩)
 omega
theorem Rel.ins {C D : List α} (h : Rel ref C D) {k : Nat} (hk : PN.free (C.map ref) = k) (x : α) (hx : ref x = k) : Rel ref (C ++ [x]) (D.take k ++ x :: D.drop k) := by
 have hk' : PN.free (D.map ref) = k := by rw [h.free, hk]
 have hkl : k ≤ D.length := by rw [← hk']; exact free_le
 refine ⟨?_, ?_⟩
 ·refine List.perm_middle.trans ?_
  rw [List.take_append_drop]
  exact (List.Perm.cons _ h.1).trans (List.perm_append_comm (l₁ := [_]) (l₂ := C))
 ·rw [List.pairwise_append]
  refine ⟨h.2.sublist (List.take_sublist _ _), ?_, ?_⟩
  ·rw [List.pairwise_cons]
   refine ⟨fun y hy => ?_, h.2.sublist (List.drop_sublist _ _)⟩
   obtain ⟨i, hi⟩ := List.getElem?_of_mem hy
   rw [List.getElem?_drop] at hi
   have := ref_above h.2 (i := k + i) (y := y) (by omega) hi
   omega
  ·intro a ha b hb
   obtain ⟨i, hi⟩ := List.getElem?_of_mem ha
   have hil : i < k := by
    have := (List.getElem?_eq_some_iff.1 hi).1
    rw [List.length_take] at this
    omega
   rw [List.getElem?_take_of_lt hil] at hi
   obtain ⟨y, hy, hr⟩ := ref_at h.2 i (by rw [hk']; exact hil)
   rw [hi] at hy
   cases hy
   rcases List.mem_cons.1 hb with rfl | hb
   ·omega
   ·obtain ⟨j, hj⟩ := List.getElem?_of_mem hb
    rw [List.getElem?_drop] at hj
    have := ref_above h.2 (i := k + j) (y := b) (by omega) hj
    omega
theorem ref_inj {D : List α} (h : D.Pairwise (fun a b => ref a < ref b)) {i j : Nat} {y z : α} (hy : D[i]? = some y) (hz : D[j]? = some z) (e : ref y = ref z) : i = j := by
 obtain ⟨hi, rfl⟩ := List.getElem?_eq_some_iff.1 hy
 obtain ⟨hj, rfl⟩ := List.getElem?_eq_some_iff.1 hz
 rcases Nat.lt_trichotomy i j with hl | he | hg
 ·have := List.pairwise_iff_getElem.1 h i j hi hj hl
  omega
 ·exact he
 ·have := List.pairwise_iff_getElem.1 h j i hj hi hg
  omega
theorem set_cut {D : List α} {i : Nat} (hi : i < D.length) (x : α) : D.set i x = D.take i ++ x :: D.drop (i + 1) := (List.set_eq_take_append_cons_drop ..).trans (by rw [if_pos hi])
theorem self_cut {D : List α} {i : Nat} {y : α} (hy : D[i]? = some y) : D = D.take i ++ y :: D.drop (i + 1) := by
 obtain ⟨hi, rfl⟩ := List.getElem?_eq_some_iff.1 hy
 rw [← set_cut hi, List.set_getElem_self]
theorem Rel.upd {C D : List α} (h : Rel ref C D) {i : Nat} {y : α} (hy : D[i]? = some y) (f : α → α) (hf : ref (f y) = ref y) (p : α → Bool) (hp : ∀ z, p z = true ↔ ref z = ref y) :
  Rel ref (C.map fun z => if p z = true then f z else z) (D.set i (f y)) := by
 have hi := (List.getElem?_eq_some_iff.1 hy).1
 have hm : (D.map fun z => if p z = true then f z else z) = D.set i (f y) := by
  apply List.ext_getElem?
  intro j
  rw [List.getElem?_map]
  by_cases hj : i = j
  ·subst hj
   rw [hy, List.getElem?_set_self hi]
   simp [(hp y).2 rfl]
  ·rw [List.getElem?_set_ne hj]
   cases hz : D[j]? with
   | none => rfl
   | some z =>
    have hne : ¬ p z = true := fun e => hj (ref_inj h.2 hy hz ((hp z).1 e).symm)
    simp [hne]
 refine ⟨by rw [← hm]; exact h.1.map _, ?_⟩
 have hr : (D.set i (f y)).map ref = D.map ref := by
  apply List.ext_getElem?
  intro j
  rw [List.getElem?_map, List.getElem?_map]
  by_cases hj : i = j
  ·subst hj
   rw [hy, List.getElem?_set_self hi]
   simp [hf]
  ·rw [List.getElem?_set_ne hj]
 have h1 : (D.map ref).Pairwise (· < ·) := List.pairwise_map.2 h.2
 rw [← hr] at h1
 exact List.pairwise_map.1 h1
theorem cut_sub {D : List α} (i : Nat) : (D.take i ++ D.drop (i + 1)).Sublist D := by
 conv => rhs; rw [← List.take_append_drop i D]
 refine List.Sublist.append (List.Sublist.refl _) ?_
 rw [← List.drop_drop]
 exact List.drop_sublist _ _
theorem Rel.del {C D : List α} (h : Rel ref C D) {i : Nat} {y : α} (hy : D[i]? = some y) (p : α → Bool) (hp : ∀ z, p z = true ↔ ref z = ref y) :
  Rel ref (C.filter fun z => !(p z)) (D.take i ++ D.drop (i + 1)) := by
 have h2 := h.1.filter fun z => !(p z)
 have hn : ∀ j z, D[j]? = some z → j ≠ i → p z = false := fun j z hz hj => by
  cases e : p z with
  | false => rfl
  | true => exact absurd (ref_inj h.2 hz hy ((hp z).1 e)) hj
 have htk : (D.take i).filter (fun z => !(p z)) = D.take i := List.filter_eq_self.2 (fun z hz => by
  obtain ⟨j, hj⟩ := List.getElem?_of_mem hz
  have hl := (List.getElem?_eq_some_iff.1 hj).1
  rw [List.length_take] at hl
  rw [List.getElem?_take_of_lt (by omega)] at hj
  rw [hn j z hj (by omega)]
  rfl)
 have hdr : (D.drop (i + 1)).filter (fun z => !(p z)) = D.drop (i + 1) := List.filter_eq_self.2 (fun z hz => by
  obtain ⟨j, hj⟩ := List.getElem?_of_mem hz
  rw [List.getElem?_drop] at hj
  rw [hn _ z hj (by omega)]
  rfl)
 rw [self_cut hy, List.filter_append, List.filter_cons, (hp y).2 rfl] at h2
 simp only [Bool.not_true, Bool.false_eq_true, if_false] at h2
 rw [htk, hdr] at h2
 exact ⟨h2, h.2.sublist (cut_sub i)⟩
end
abbrev RelC : List PC → List PC → Prop := Rel PC.ref
abbrev RelL : List PL → List PL → Prop := Rel PL.ref
theorem shut_ref (y : PC) (e : Bool) : (shutC y e).ref = y.ref := by cases e <;> rfl
theorem RelC.shut {C D : List PC} (h : RelC C D) (hok : ∀ z ∈ D, (z.a0 && z.a1) = false) {i : Nat} {y : PC} (hy : D[i]? = some y) (e : Bool) :
  RelC (hang C (y.ref : Int) e) (if ((shutC y e).a0 && (shutC y e).a1) = true then D.take i ++ D.drop (i + 1) else D.set i (shutC y e)) := by
 have hi := (List.getElem?_eq_some_iff.1 hy).1
 have hu := Rel.upd h hy (fun z => shutC z e) (shut_ref y e) (fun z => decide ((z.ref : Int) = (y.ref : Int))) (fun z => by rw [decide_eq_true_iff]; omega)
 have he : (C.map fun z => if decide ((z.ref : Int) = (y.ref : Int)) = true then shutC z e else z) = C.map fun z => if (z.ref : Int) = (y.ref : Int) then shutC z e else z := by simp only [decide_eq_true_eq]
 rw [he] at hu
 have h2 : ((D.set i (shutC y e)).filter fun z => !(z.a0 && z.a1)).Perm (hang C (y.ref : Int) e) := hu.1.filter _
 have hset := set_cut hi (shutC y e)
 have htk : (D.take i).filter (fun z => !(z.a0 && z.a1)) = D.take i := List.filter_eq_self.2 (fun z hz => by rw [hok z (List.mem_of_mem_take hz)]; rfl)
 have hdr : (D.drop (i + 1)).filter (fun z => !(z.a0 && z.a1)) = D.drop (i + 1) := List.filter_eq_self.2 (fun z hz => by rw [hok z (List.mem_of_mem_drop hz)]; rfl)
 by_cases hb : ((shutC y e).a0 && (shutC y e).a1) = true
 ·rw [if_pos hb]
  rw [hset, List.filter_append, List.filter_cons, hb] at h2
  simp only [Bool.not_true, Bool.false_eq_true, if_false] at h2
  rw [htk, hdr] at h2
  exact ⟨h2, h.2.sublist (cut_sub i)⟩
 ·rw [if_neg hb]
  have hb' : ((shutC y e).a0 && (shutC y e).a1) = false := by simpa using hb
  rw [hset, List.filter_append, List.filter_cons, hb'] at h2
  simp only [Bool.not_false, if_true] at h2
  rw [htk, hdr, ← hset] at h2
  exact ⟨h2, hu.2⟩
theorem RelL.push {C D : List PL} (h : RelL C D) {i : Nat} {y : PL} (hy : D[i]? = some y) (k : Int) : RelL (pushL C y.ref k) (D.set i { y with l := y.l ++ [k] }) := by
 have := Rel.upd h hy (fun z => { z with l := z.l ++ [k] }) rfl (fun z => decide (z.ref = y.ref)) (fun z => by rw [decide_eq_true_iff])
 simp only [decide_eq_true_eq] at this
 exact this
theorem RelL.pop {C D : List PL} (h : RelL C D) {i : Nat} {y : PL} (hy : D[i]? = some y) : RelL (popL C y.ref) (D.set i { y with l := y.l.tail }) := by
 have := Rel.upd h hy (fun z => { z with l := z.l.tail }) rfl (fun z => decide (z.ref = y.ref)) (fun z => by rw [decide_eq_true_iff])
 simp only [decide_eq_true_eq] at this
 exact this
theorem RelL.drop {C D : List PL} (h : RelL C D) {i : Nat} {y : PL} (hy : D[i]? = some y) : RelL (dropL C y.ref) (D.take i ++ D.drop (i + 1)) := by
 have := Rel.del h hy (fun z => decide (z.ref = y.ref)) (fun z => by rw [decide_eq_true_iff])
 unfold dropL
 have e : (fun z : PL => !decide (z.ref = y.ref)) = fun z => decide (z.ref ≠ y.ref) := by
  funext z
  by_cases hz : z.ref = y.ref <;> simp [hz]
 rwa [e] at this
structure PD where
 s : ByteArray
 p : Int
 c : Nat
 un : Int
 st : Int
 conn : Int
 er : Int
 tr : Int
def pass (a b : Int) : Bool := (b != 18446744073709551615) && decide (a ≤ b)
def tryD (now : Int) (d : PD) (N : Net) : PD × Net × Int × Int :=
 if d.st ≠ 0 then (d, N, 0, 8)
 else if pass d.un now then ({ d with st := 2, er := 12 }, N, 0, 12)
 else ({ d with st := if (connect N d.s d.p d.c).2.2 = 0 then 1 else if (connect N d.s d.p d.c).2.2 = 16 then 0 else 2,
                 conn := if (connect N d.s d.p d.c).2.2 = 0 then (connect N d.s d.p d.c).2.1 else d.conn,
                 er := if (connect N d.s d.p d.c).2.2 = 0 ∨ (connect N d.s d.p d.c).2.2 = 16 then d.er else (connect N d.s d.p d.c).2.2,
                 tr := d.tr + 1 }, (connect N d.s d.p d.c).1,
    if (connect N d.s d.p d.c).2.2 = 0 ∨ (connect N d.s d.p d.c).2.2 = 16 then (connect N d.s d.p d.c).2.1 else 0, (connect N d.s d.p d.c).2.2)
def roundD (now : Int) : List PD → Net → List PD × Net × Int
 | [], N => ([], N, 0)
 | d :: r, N => ((tryD now d N).1 :: (roundD now r (tryD now d N).2.1).1, (roundD now r (tryD now d N).2.1).2.1, ((tryD now d N).1.tr - d.tr) + (roundD now r (tryD now d N).2.1).2.2)
def sts (D : List PD) : List Int := D.map (·.st)
def trying (D : List PD) : Nat := (D.filter fun d => decide (d.st = 0)).length
def allD (now : Int) : Nat → List PD → Net → List PD × Net × Int
 | 0, D, N => (D, N, 0)
 | f + 1, D, N =>
  if sts (roundD now D N).1 = sts D then roundD now D N
  else ((allD now f (roundD now D N).1 (roundD now D N).2.1).1, (allD now f (roundD now D N).1 (roundD now D N).2.1).2.1, (roundD now D N).2.2 + (allD now f (roundD now D N).1 (roundD now D N).2.1).2.2)
theorem tryD_done {now : Int} {d : PD} {N : Net} (h : d.st ≠ 0) : tryD now d N = (d, N, 0, 8) := if_pos h
theorem tryD_fix (now : Int) (d : PD) (N : Net) : (tryD now d N).1.s = d.s ∧ (tryD now d N).1.p = d.p ∧ (tryD now d N).1.c = d.c ∧ (tryD now d N).1.un = d.un := by
 unfold tryD
 split
 ·exact ⟨rfl, rfl, rfl, rfl⟩
 ·split <;> exact ⟨rfl, rfl, rfl, rfl⟩
def bump (d : PD) : PD := { d with tr := d.tr + if d.st = 0 then 1 else 0 }
theorem tryD_st {now : Int} {d : PD} {N : Net} : (tryD now d N).1.st = d.st ∨ d.st = 0 ∧ (tryD now d N).1.st ≠ 0 := by
 by_cases h0 : d.st = 0
 ·by_cases h1 : (tryD now d N).1.st = 0
  ·exact .inl (h1.trans h0.symm)
  ·exact .inr ⟨h0, h1⟩
 ·rw [tryD_done h0]
  exact .inl rfl
theorem round_trying {now : Int} : ∀ (D : List PD) (N : Net), trying (roundD now D N).1 ≤ trying D ∧ (sts (roundD now D N).1 ≠ sts D → trying (roundD now D N).1 < trying D)
 | [], N => ⟨Nat.le_refl _, fun h => absurd rfl h⟩
 | d :: r, N => by
  obtain ⟨i1, i2⟩ := round_trying (now := now) r (tryD now d N).2.1
  have cons : ∀ (x : PD) (l : List PD), trying (x :: l) = (if x.st = 0 then 1 else 0) + trying l := fun x l => by
   by_cases h : x.st = 0
   ·simp [trying, h]; omega
   ·simp [trying, h]
  simp only [roundD, cons, sts, List.map_cons]
  rcases tryD_st (now := now) (d := d) (N := N) with h | ⟨h1, h2⟩
  ·rw [h]
   refine ⟨by omega, fun hne => ?_⟩
   have := i2 (fun he => hne (by simp only [sts] at he; rw [he]))
   omega
  ·rw [if_neg h2, if_pos h1]
   exact ⟨by omega, fun _ => by omega⟩
end Go.Proofs.YtgbmenfmaphciaaGreat.PN
