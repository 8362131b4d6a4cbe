/- The reference's Listen, Accept, Close, Connect of a net without bytes, as the program's plain net answers. -/
/- The reference's dialings in memory: Try, Give; and plain: as the program's. -/
/- The reference's Give; the program's Give and Copy of a dialing; plain: a try of the reference beside the program's. -/
/- The law's all: rounds of the reference's tries, beside the program's. -/
import Derived.Test.YtgbmenfmaphciaaGreatTK
import Derived.Test.YtgbmenfmaphciaaGreatG25
import Derived.Test.YtgbmenfmaphciaaGreatGLS
import Derived.Test.YtgbmenfmaphciaaGreatFew
import Derived.Deep.CutRange
namespace Go.Proofs.YtgbmenfmaphciaaGreat
set_option linter.unusedVariables false
set_option linter.unusedSimpArgs false
set_option linter.unusedSectionVars false
open Go.RowKit
set_option linter.unusedVariables false
set_option linter.unusedSectionVars false
set_option linter.unusedSimpArgs false
set_option maxRecDepth 100000
set_option maxHeartbeats 8000000
def RefP (W : World) (sL sC : Sli) (R R' : PN.Net) (sL' sC' : Sli) (w' : World) : Prop :=
 (sL' = sL ∧ sC' = sC ∧ R' = R) ∨ (LRp (fun g => W.heap.size ≤ g) w' (slv sL') R'.L ∧ CRp (fun g => W.heap.size ≤ g) w' (slv sC') R'.C)
def RefQ (W : World) (sL sC : Sli) (R R' : PN.Net) (rs : List Value) (e : Ending) (w' : World) : Prop :=
 ∃ sL' sC' : Sli, e = .returned (.tuple (.agg #[slv sL', slv sC'] :: rs).toArray) ∧ Fr [] W w' ∧ RefP W sL sC R R' sL' sC' w'
theorem RefOut.q {W : World} {sL sC : Sli} {R R' : PN.Net} {rs : List Value} {e : Ending} {w' : World} (h : RefOut W sL sC R R' rs e w') : RefQ W sL sC R R' rs e w' := by
 obtain ⟨sL', sC', h1, h2, h3⟩ := h
 refine ⟨sL', sC', h1, h2, h3.imp id ?_⟩
 rintro ⟨o1, o2, o3⟩
 exact ⟨o1.lrd.p, o2, o3⟩
def rListen (R : PN.Net) (s : ByteArray) (p most : Int) (ok : Bool) : PN.Net × Int × (ByteArray × Int) × Int :=
 if most < 1 ∨ 128 < most ∨ ok = false then (R, 0, (⟨#[]⟩, 0), 2)
 else if (PN.pick (PN.atP s (PN.portOf R.L s p)) R.L 0).isSome then (R, 0, (⟨#[]⟩, 0), 11)
 else if 128 ≤ R.L.length then (R, 0, (⟨#[]⟩, 0), 7)
 else ({ R with L := insL R.L s (PN.portOf R.L s p) most }, frL R.L, (s, PN.portOf R.L s p), 0)
theorem pick_all {s : ByteArray} {q : Int} {D : List PN.PL} : (PN.pick (PN.atP s q) D 0).isSome = true ↔ ¬ ∀ x ∈ D, PN.atP s q x = false := by
 cases e : PN.pick (PN.atP s q) D 0 with
 | none =>
  have := PN.pick_none e
  simp only [Option.isSome_none, Bool.false_eq_true, false_iff]
  exact fun h => h this
 | some a =>
  obtain ⟨j, _, h2, h3⟩ := PN.pick_some (i := a.1) (y := a.2) e
  simp only [Option.isSome_some, true_iff]
  intro h
  rw [h _ (List.mem_of_getElem? h2)] at h3
  cases h3
section
variable {W : World} {sL sC : Sli} {R : PN.Net} (hL : LRow W (slv sL) R.L) (hC : CRow W (slv sC) (R.C.map emb)) (hf : RFit R)
include hL hC hf
theorem refListen (s : ByteArray) (p most : Int) (ha : AdrFit R.L) (hs : s.size ≤ 1000000) :
  Calls Tryz.prog 14 #[.agg #[slv sL, slv sC], .agg #[.string s, .int .i64 p], .int .i64 most] W (RefQ W sL sC R (rListen R s p most (addrB s.data.toList p)).1 [.int .i64 (rListen R s p most (addrB s.data.toList p)).2.1, .agg #[.string (rListen R s p most (addrB s.data.toList p)).2.2.1.1, .int .i64 (rListen R s p most (addrB s.data.toList p)).2.2.1.2], .int .i64 (rListen R s p most (addrB s.data.toList p)).2.2.2]) := by
 unfold rListen
 by_cases hb : most < 1 ∨ 128 < most ∨ addrB s.data.toList p = false
 ·rw [if_pos hb]
  refine (nListen_bad (slv sL) (slv sC) R.L (R.C.map emb) s p most W hL hC hs hf.fit (addrB s.data.toList p) rfl (by rcases hb with h | h | h; exact .inr (.inl h); exact .inr (.inr h); exact .inl h)).mono ?_
  rintro e w' ⟨rfl, f⟩
  exact ⟨sL, sC, rfl, f, .inl ⟨rfl, rfl, rfl⟩⟩
 ·rw [if_neg hb]
  have hv : addrB s.data.toList p = true := by
   cases e : addrB s.data.toList p with
   | true => rfl
   | false => exact absurd (.inr (.inr e)) hb
  have hmo : 1 ≤ most ∧ most ≤ 128 := ⟨by omega, by omega⟩
  obtain ⟨b1, b2, b3⟩ := bindAns_any (slv sL) (slv sC) R.L s p W hL ha hs hv
  have bad : ∀ e0 : Int, e0 ≠ 0 → BindAns W (slv sL) (slv sC) s p ⟨#[]⟩ 0 e0 → Calls Tryz.prog 14 #[.agg #[slv sL, slv sC], .agg #[.string s, .int .i64 p], .int .i64 most] W (RefQ W sL sC R R [.int .i64 0, .agg #[.string ⟨#[]⟩, .int .i64 0], .int .i64 e0]) := fun e0 hne hbd => by
   refine (nListen_ans (slv sL) (slv sC) R.L (R.C.map emb) s p 0 most W hL hC hs hv hmo hf.fit ⟨#[]⟩ e0 (fun h => absurd h hne) hbd).mono ?_
   rintro e w' (⟨h, _⟩ | ⟨_, rfl, f⟩)
   ·exact absurd h hne
   ·exact ⟨sL, sC, rfl, f, .inl ⟨rfl, rfl, rfl⟩⟩
  by_cases hp : (PN.pick (PN.atP s (PN.portOf R.L s p)) R.L 0).isSome = true
  ·rw [if_pos hp]
   exact bad 11 (by decide) (b1 (pick_all.1 hp))
  ·rw [if_neg hp]
   have hp' : ∀ x ∈ R.L, PN.atP s (PN.portOf R.L s p) x = false := by
    refine Classical.byContradiction fun h => hp (pick_all.2 h)
   by_cases hm : 128 ≤ R.L.length
   ·rw [if_pos hm]
    exact bad 7 (by decide) (b2 hp' hm)
   ·rw [if_neg hm]
    refine (nListen_ok (slv sL) (slv sC) R.L (R.C.map emb) s p (PN.portOf R.L s p) most W hL hC hs hv hmo hf.fit (b3 hp' (by omega))).mono ?_
    rintro e w' ⟨sL', sC', h1, h2, h3, h4⟩
    exact ⟨sL', sC', h1, h4, .inr ⟨h2.lrd.p, h3⟩⟩
theorem refAccept (r : Int) :
  Calls Tryz.prog 16 #[.agg #[slv sL, slv sC], .int .i64 r] W (RefQ W sL sC R (PN.rAccept R r).1 [.int .i64 (PN.rAccept R r).2.1, .int .i64 (PN.rAccept R r).2.2]) := by
 unfold PN.rAccept
 cases hp : PN.pick (PN.refP r) R.L 0 with
 | none =>
  refine (nAccept_none (slv sL) (slv sC) R.L (R.C.map emb) r W hL hC hf.fit hp).mono ?_
  rintro e w' ⟨rfl, f⟩
  exact ⟨sL, sC, rfl, f, .inl ⟨rfl, rfl, rfl⟩⟩
 | some a =>
  obtain ⟨i, y⟩ := a
  simp only
  cases hq : y.l with
  | nil =>
   refine (nAccept_empty (slv sL) (slv sC) R.L (R.C.map emb) r W hL hC hf.fit i y hp hq).mono ?_
   rintro e w' ⟨rfl, f⟩
   exact ⟨sL, sC, rfl, f, .inl ⟨rfl, rfl, rfl⟩⟩
  | cons k l =>
   refine (nAccept_ok (slv sL) (slv sC) R.L (R.C.map emb) r W hL hC hf.fit i y k l hp hq).mono ?_
   rintro e w' ⟨sL', sC', h1, h2, h3, h4⟩
   exact ⟨sL', sC', h1, h4, .inr ⟨h2.p, h3⟩⟩
theorem refClose (r : Int) :
  Calls Tryz.prog 18 #[.agg #[slv sL, slv sC], .int .i64 r] W fun e w' => ∃ sL' sC' sq : Sli, e = .returned (.tuple #[.agg #[slv sL', slv sC'], slv sq, .int .i64 (rClose R r).2.2]) ∧ RowV w' (slv sq) (rClose R r).2.1.length 1 (intsV (rClose R r).2.1) ∧ (∀ g, (slv sq).ownBlock = some g → W.heap.size ≤ g) ∧ Fr [] W w' ∧ RefP W sL sC R (rClose R r).1 sL' sC' w' := by
 unfold rClose
 cases hp : PN.pick (PN.refP r) R.L 0 with
 | none =>
  refine (nClose_none sL sC R r W hL hC hf hp).mono ?_
  rintro e w' ⟨rfl, f⟩
  exact ⟨sL, sC, (none, 0, 0), rfl, RowV.nil _ _ _ _, (fun g hg => by simp [slv, Value.ownBlock] at hg), f, .inl ⟨rfl, rfl, rfl⟩⟩
 | some a =>
  obtain ⟨i, y⟩ := a
  refine (nClose_ok sL sC R r W hL hC hf i y hp).mono ?_
  rintro e w' ⟨sL', sC', sq, h1, h2, h3, h4, h5⟩
  exact ⟨sL', sC', sq, h1, h2, h3, h4, h5⟩
end
/-! plain: the program's net beside the reference's -/
namespace PN
set_option linter.unusedVariables false
set_option linter.unusedSimpArgs false
set_option linter.unusedSectionVars false
theorem ports_perm {L D : List PL} (h : D.Perm L) (s : ByteArray) (p : Int) : portOf D s p = portOf L s p := by
 unfold portOf ports
 rw [free_perm ((h.filter _).map _)]
theorem at_pick {N R : Net} (h : Match N R) (s : ByteArray) (q : Int) : (pick (atP s q) R.L 0).isSome = (at? N.L s q).isSome := by
 cases e : pick (atP s q) R.L 0 with
 | none =>
  have h1 := pick_none e
  have h2 : at? N.L s q = none := List.find?_eq_none.2 (fun x hx => by
   have := h1 x (h.1.mem.2 hx)
   simpa [atP] using this)
  rw [h2]
  rfl
 | some a =>
  obtain ⟨j, _, h2, h3⟩ := pick_some (i := a.1) (y := a.2) e
  cases e2 : at? N.L s q with
  | some z => rfl
  | none =>
   have := List.find?_eq_none.1 e2 a.2 (h.1.mem.1 (List.mem_of_getElem? h2))
   exact absurd h3 (by simpa [atP] using this)
theorem match_listen {N R : Net} (h : Match N R) (s : ByteArray) (p most : Int) (ok : Bool) : (rListen R s p most ok).2 = (listen N s p most ok).2 ∧ Match (listen N s p most ok).1 (rListen R s p most ok).1 := by
 have hl : R.L.length = N.L.length := h.1.len
 have hf : frL R.L = free (N.L.map (·.ref)) := h.1.free
 have hp : portOf R.L s p = portOf N.L s p := ports_perm h.1.1 s p
 unfold rListen listen
 rw [at_pick h, hp, hl]
 by_cases h0 : most < 1 ∨ 128 < most ∨ ok = false
 ·rw [if_pos h0, if_pos h0]
  exact ⟨rfl, h⟩
 ·rw [if_neg h0, if_neg h0]
  by_cases h1 : (at? N.L s (portOf N.L s p)).isSome = true
  ·rw [if_pos h1, if_pos h1]
   exact ⟨rfl, h⟩
  ·rw [if_neg h1, if_neg h1]
   by_cases h2 : 128 ≤ N.L.length
   ·rw [if_pos h2, if_pos h2]
    exact ⟨rfl, h⟩
   ·rw [if_neg h2, if_neg h2]
    refine ⟨by rw [hf], ?_, h.2⟩
    have := Rel.ins h.1 rfl ⟨free (N.L.map (·.ref)), s, portOf N.L s p, most, []⟩ rfl
    unfold insL
    rw [hf]
    exact this
theorem inv_hang {N : Net} (hi : Inv N) (k : Int) (hk : k ∉ waitsOf N.L) : Inv { N with C := hang N.C k true } := by
 have sub : ∀ y ∈ hang N.C k true, ∃ z ∈ N.C, y = (if (z.ref : Int) = k then shutC z true else z) ∧ (y.a0 && y.a1) = false := fun y hy => by
  unfold hang at hy
  obtain ⟨h1, h2⟩ := List.mem_filter.1 hy
  obtain ⟨z, hz, rfl⟩ := List.mem_map.1 h1
  refine ⟨z, hz, rfl, ?_⟩
  revert h2
  obtain ⟨u, hu⟩ : ∃ u, (if (z.ref : Int) = k then shutC z true else z) = u := ⟨_, rfl⟩
  rw [hu]
  cases u.a0 <;> cases u.a1 <;> simp
 have hrf : ∀ z : PC, (if (z.ref : Int) = k then shutC z true else z).ref = z.ref := fun z => by split <;> rfl
 have hsl : ((hang N.C k true).map (·.ref)).Sublist (N.C.map (·.ref)) := by
  unfold hang
  have h1 : ((N.C.map fun y => if (y.ref : Int) = k then shutC y true else y).map PC.ref) = N.C.map PC.ref := by
   rw [List.map_map]
   exact List.map_congr_left (fun z _ => hrf z)
  rw [← h1]
  exact List.filter_sublist.map _
 refine ⟨hi.refs, hi.crefs.sublist hsl, hi.adrs, fun q hq => ?_, fun y hy => ?_, hi.nl, ?_⟩
 ·obtain ⟨y, hy, h1, h2⟩ := hi.queue q hq
  have hne : (y.ref : Int) ≠ k := fun he => hk (by rw [← he, h1]; exact hq)
  refine ⟨y, ?_, h1, h2⟩
  show y ∈ hang N.C k true
  unfold hang
  refine List.mem_filter.2 ⟨List.mem_map.2 ⟨y, hy, by rw [if_neg hne]⟩, by simp [h2]⟩
 ·obtain ⟨_, _, _, h⟩ := sub y hy
  exact h
 ·have := hsl.length_le
  simp only [List.length_map] at this
  exact Nat.le_trans this hi.nc
theorem hangN_open {N : Net} (hi : Inv N) (k : Int) (hk : k ∉ waitsOf N.L) (hy : ∃ y ∈ N.C, (y.ref : Int) = k ∧ y.a1 = false) : hangN N k 1 = ({ N with C := hang N.C k true }, 0) := by
 obtain ⟨y, h1, h2, h3⟩ := hy
 have hb : byC N.C k = some y := find_uniq h1 (by simpa using h2) (fun z hz hp => cref_uniq hi k y h1 (by simpa [refC] using h2) z hz (by simpa [refC] using hp))
 unfold hangN
 rw [if_neg (by omega), hb]
 simp only
 rw [if_neg (fun h => hk h.2)]
 simp [h3]
theorem match_hangs : ∀ (l : List Int) {N R : Net}, Match N R → Inv N → l.Nodup → (∀ k ∈ l, k ∉ waitsOf N.L ∧ ∃ y ∈ N.C, (y.ref : Int) = k ∧ y.a1 = false) → Match { N with C := hangs N.C l } (rHangs R l)
 | [], _, _, h, _, _, _ => h
 | k :: r, N, R, h, hi, hd, hl => by
  obtain ⟨h1, h2⟩ := hl k (by simp)
  have hm := match_hang h hi k 1
  rw [hangN_open hi k h1 h2] at hm
  rw [List.nodup_cons] at hd
  refine match_hangs r (N := { N with C := hang N.C k true }) hm.2 (inv_hang hi k h1) hd.2 (fun q hq => ?_)
  obtain ⟨g1, y, g2, g3, g4⟩ := hl q (List.mem_cons_of_mem _ hq)
  have hne : (y.ref : Int) ≠ k := fun he => hd.1 (by rw [← he, g3]; exact hq)
  refine ⟨g1, y, ?_, g3, g4⟩
  show y ∈ hang N.C k true
  unfold hang
  exact List.mem_filter.2 ⟨List.mem_map.2 ⟨y, g2, by rw [if_neg hne]⟩, by simp [g4]⟩
theorem nodup_drop : ∀ {L : List PL} {r : Nat} {x : PL}, (waitsOf L).Nodup → (L.map (·.ref)).Nodup → x ∈ L → x.ref = r → x.l.Nodup ∧ ∀ k ∈ x.l, k ∉ waitsOf (dropL L r)
 | [], _, _, _, _, hx, _ => by cases hx
 | a :: t, r, x, hw, hr, hx, he => by
  unfold waitsOf at hw
  rw [List.flatMap_cons, List.nodup_append] at hw
  rw [List.map_cons, List.nodup_cons] at hr
  have hsub : ∀ k ∈ waitsOf (dropL t r), k ∈ waitsOf t := fun k hk => by
   unfold waitsOf at hk ⊢
   obtain ⟨y, hy, h2⟩ := List.mem_flatMap.1 hk
   exact List.mem_flatMap.2 ⟨y, (List.mem_filter.1 hy).1, h2⟩
  rcases List.mem_cons.1 hx with rfl | hx
  ·refine ⟨hw.1, fun k hk hm => ?_⟩
   have hd : dropL (x :: t) r = dropL t r := by
    unfold dropL
    rw [List.filter_cons_of_neg (by simp [he])]
   rw [hd] at hm
   exact hw.2.2 k hk k (hsub k hm) rfl
  ·have ih := nodup_drop (L := t) hw.2.1 hr.2 hx he
   refine ⟨ih.1, fun k hk hm => ?_⟩
   have hne : a.ref ≠ r := fun h => hr.1 (by rw [h, ← he]; exact List.mem_map.2 ⟨x, hx, rfl⟩)
   have hd : dropL (a :: t) r = a :: dropL t r := by
    unfold dropL
    rw [List.filter_cons_of_pos (by simp [hne])]
   rw [hd] at hm
   unfold waitsOf at hm
   rw [List.flatMap_cons] at hm
   rcases List.mem_append.1 hm with hm | hm
   ·exact hw.2.2 k hm k (List.mem_flatMap.2 ⟨x, hx, hk⟩) rfl
   ·exact ih.2 k hk hm
theorem drop_sub {L : List PL} {r : Nat} {k : Int} (h : k ∈ waitsOf (dropL L r)) : k ∈ waitsOf L := by
 unfold waitsOf at h ⊢
 obtain ⟨y, hy, h2⟩ := List.mem_flatMap.1 h
 exact List.mem_flatMap.2 ⟨y, (List.mem_filter.1 hy).1, h2⟩
theorem inv_drop {N : Net} (hi : Inv N) (r : Nat) : Inv { N with L := dropL N.L r } := by
 have hs : (dropL N.L r).Sublist N.L := List.filter_sublist
 refine ⟨hi.refs.sublist (hs.map _), hi.crefs, fun x hx y hy => hi.adrs x (hs.subset hx) y (hs.subset hy), fun k hk => hi.queue k (drop_sub hk), hi.op, Nat.le_trans hs.length_le hi.nl, hi.nc⟩
theorem match_close {N R : Net} (h : Match N R) (hi : Inv N) (hw : (waitsOf N.L).Nodup) (r : Int) : (rClose R r).2 = (close N r).2 ∧ Match (close N r).1 (rClose R r).1 := by
 unfold rClose close
 rcases Rel.pick h.1 (refP r) (ref_uniq hi r) with ⟨h1, h2⟩ | ⟨i, y, h1, h2, h3, h4⟩
 ·have h2' : byRef N.L r = none := h2
  rw [h1, h2']
  exact ⟨rfl, h⟩
 ·have h2' : byRef N.L r = some y := h2
  rw [h1, h2']
  refine ⟨rfl, ?_⟩
  have hyN : y ∈ N.L := h.1.mem.1 (List.mem_of_getElem? h3)
  obtain ⟨n1, n2⟩ := nodup_drop hw hi.refs hyN rfl
  have hm : Match { N with L := dropL N.L y.ref } { R with L := R.L.take i ++ R.L.drop (i + 1) } := by
   refine ⟨?_, h.2⟩
   have := Rel.del h.1 h3 (fun z => decide (z.ref = y.ref)) (fun z => by simp)
   have hd : dropL N.L y.ref = N.L.filter fun z => !(decide (z.ref = y.ref)) := by
    unfold dropL
    refine List.filter_congr (fun z _ => by simp)
   show RelL (dropL N.L y.ref) _
   rw [hd]
   exact this
  refine match_hangs y.l hm (inv_drop hi _) n1 (fun k hk => ⟨n2 k hk, ?_⟩)
  exact hi.queue k (List.mem_flatMap.2 ⟨y, hyN, hk⟩)
end PN
def wD (x : PN.PD) : List Value := [.string x.s, .int .i64 x.p, .int .i64 x.c, .int .u64 x.un, .int .i64 x.st, .int .i64 x.conn, .int .i64 x.er, .int .i64 x.tr]
theorem wD_one (x : PN.PD) : ∀ u ∈ wD x, u.oneCell' = true := by
 intro u hu
 simp only [wD, List.mem_cons, List.not_mem_nil, or_false] at hu
 rcases hu with rfl | rfl | rfl | rfl | rfl | rfl | rfl | rfl <;> rfl
def wDz : List Value := [.string ⟨#[]⟩, .int .i64 0, .int .i64 0, .int .u64 0, .int .i64 0, .int .i64 0, .int .i64 0, .int .i64 0]
theorem aggD : ∀ w, (isAgg 46).run Tryz.prog w = .ok true w := fun w => by kernel_rfl
theorem sizeD : ∀ w, (sizeOf 46).run Tryz.prog w = .ok 8 w := fun w => by kernel_rfl
theorem sizeEr : ∀ w, (sizeOf 42).run Tryz.prog w = .ok 1 w := fun w => by kernel_rfl
theorem sizeI : ∀ w, (sizeOf 3).run Tryz.prog w = .ok 1 w := fun w => by kernel_rfl
theorem wD_adr {w : World} {b : Nat} {t : TypeId} {x : PN.PD} (h : Blk w b t (wD x)) : LiesAt w b 0 (sp x.s x.p) := fun j u hj => h.at j u (by
 match j with
 | 0 => exact hj
 | 1 => exact hj
 | j + 2 => simp [sp] at hj)
theorem RefP.rows {W : World} {sL sC : Sli} {R R' : PN.Net} {sL' sC' : Sli} {w' : World} (h : RefP W sL sC R R' sL' sC' w') (f : Fr [] W w') (hL : LRow W (slv sL) R.L) (hC : CRow W (slv sC) (R.C.map emb)) : LRow w' (slv sL') R'.L ∧ CRow w' (slv sC') (R'.C.map emb) := by
 rcases h with ⟨rfl, rfl, rfl⟩ | ⟨h1, h2⟩
 ·exact ⟨LRow.next hL f, CRow.next hC f⟩
 ·exact ⟨h1.row, h2.1⟩
theorem RefP.more {W : World} {sL sC : Sli} {R R' : PN.Net} {sL' sC' : Sli} {w' w'' : World} {S : List Nat} (h : RefP W sL sC R R' sL' sC' w') (f : Fr S w' w'') (hS : ∀ z ∈ S, z < W.heap.size) : RefP W sL sC R R' sL' sC' w'' := by
 rcases h with h | ⟨h1, h2⟩
 ·exact .inl h
 ·exact .inr ⟨h1.keep f (fun z hz hp => by have := hS z hz; omega), h2.keep f (fun z hz hp => by have := hS z hz; omega)⟩
theorem RefP.base {W W0 : World} {sL sC : Sli} {R R' : PN.Net} {sL' sC' : Sli} {w' : World} (h : RefP W sL sC R R' sL' sC' w') (hb : W0.heap.size ≤ W.heap.size) : RefP W0 sL sC R R' sL' sC' w' := by
 rcases h with h | ⟨h1, h2⟩
 ·exact .inl h
 ·exact .inr ⟨h1.mono (fun g hg => by omega), h2.mono (fun g hg => by omega)⟩
theorem RefP.far {W : World} {sL sC : Sli} {R R' : PN.Net} {sL' sC' : Sli} {w' w'' : World} {b : Nat} {t : TypeId} {ys : List Value} (h : RefP W sL sC R R' sL' sC' w') (hb : ∀ g, W.heap.size ≤ g → g ≠ b) (f : Fr [b] w' w'') : RefP W sL sC R R' sL' sC' w'' := by
 rcases h with h | ⟨h1, h2⟩
 ·exact .inl h
 ·exact .inr ⟨h1.keep f (fun z hz hp => by rw [List.mem_singleton] at hz; exact hb z hp hz), h2.keep f (fun z hz hp => by rw [List.mem_singleton] at hz; exact hb z hp hz)⟩
theorem refConnectQ {W : World} {sL sC : Sli} {R : PN.Net} (hL : LRow W (slv sL) R.L) (hC : CRow W (slv sC) (R.C.map emb)) (hf : RFit R) (s : ByteArray) (p : Int) (c : Nat) (hs : s.size ≤ 1000000) (hv : addrB s.data.toList p = true) (hc : c ≤ 4096) :
  Calls Tryz.prog 41 #[.agg #[slv sL, slv sC], .agg #[.string s, .int .i64 p], .int .i64 c] W (RefQ W sL sC R (PN.rConnect R s p c).1 [.int .i64 (PN.rConnect R s p c).2.1, .int .i64 (PN.rConnect R s p c).2.2]) := by
 have same : ∀ (x : Int) e w', (e = .returned (.tuple #[.agg (two (slv sL) (slv sC)).toArray, .int .i64 0, .int .i64 x]) ∧ Fr [] W w') → RefQ W sL sC R R [.int .i64 0, .int .i64 x] e w' := fun x e w' ⟨h1, f⟩ => ⟨sL, sC, h1, f, .inl ⟨rfl, rfl, rfl⟩⟩
 cases hp : PN.pick (PN.atP s p) R.L 0 with
 | none =>
  unfold PN.rConnect
  rw [hp]
  exact (nConnect_none (slv sL) (slv sC) R.L (R.C.map emb) s p c W hL hC hs hv ⟨by omega, by omega⟩ hf.fit hp).mono (same 15)
 | some a =>
  obtain ⟨i, y⟩ := a
  by_cases hq : (y.l.length : Int) = y.most
  ·unfold PN.rConnect
   rw [hp]
   simp only
   rw [if_pos hq]
   exact (nConnect_block (slv sL) (slv sC) R.L (R.C.map emb) s p c W hL hC hs hv ⟨by omega, by omega⟩ hf.fit i y hp hq).mono (same 16)
  ·by_cases hm : 128 ≤ R.C.length
   ·unfold PN.rConnect
    rw [hp]
    simp only
    rw [if_neg hq, if_pos hm]
    exact (nConnect_full (slv sL) (slv sC) R.L (R.C.map emb) s p c W hL hC hs hv ⟨by omega, by omega⟩ hf.fit (by rw [List.length_map]; exact hm) i y hp hq).mono (same 7)
   ·exact (refConnect hL hC hf s p c hs hv hc (by omega) i y hp hq).mono (fun e w' h => h.q)
def ovB (a b : Int) : Bool := (a != 18446744073709551615) && ((b != 18446744073709551615) && decide (a ≤ b))
theorem refOver_w (a b : Int) (w : World) : Calls Tryz.prog 40 #[.int .u64 a, .int .u64 b] w fun e w' => e = .returned (.bool (ovB a b)) ∧ Fr [] w w' := by
 unfold ovB
 by_cases ha : a = 18446744073709551615
 ·subst ha
  go_enter Tryz.func40, Tryz.ntmps40
  go_wp2
  go_ret
  exact ⟨rfl, Fr.refl _ _⟩
 ·have h1 : (a != 18446744073709551615) = true := by simp [ha]
  by_cases hb : b = 18446744073709551615
  ·subst hb
   go_enter Tryz.func40, Tryz.ntmps40
   go_wp2
   go_ret
   exact ⟨by simp [h1], Fr.refl _ _⟩
  ·have h2 : (b != 18446744073709551615) = true := by simp [hb]
   go_enter Tryz.func40, Tryz.ntmps40
   go_wp2
   go_ret
   exact ⟨by simp [h1, h2], Fr.refl _ _⟩
theorem ov_pass {a b : Int} (hb : b ≤ 18446744073709551615) : ovB a b = PN.pass a b := by
 unfold ovB PN.pass
 by_cases h1 : b = 18446744073709551615
 ·simp [h1]
 ·by_cases h2 : a ≤ b
  ·have h3 : a ≠ 18446744073709551615 := by omega
   simp [h1, h2, h3]
  ·simp [h2]
def aftD (x : PN.PD) (k e : Int) : PN.PD := if e = 0 then { x with tr := x.tr + 1, st := 1, conn := k } else if e = 16 then { x with tr := x.tr + 1 } else { x with tr := x.tr + 1, st := 2, er := e }
def rTry (now : Int) (x : PN.PD) (R : PN.Net) : PN.PD × PN.Net × Int × Int :=
 if x.st ≠ 0 then (x, R, 0, 8)
 else if ovB x.un now = true then ({ x with st := 2, er := 12 }, R, 0, 12)
 else (aftD x (PN.rConnect R x.s x.p x.c).2.1 (PN.rConnect R x.s x.p x.c).2.2, (PN.rConnect R x.s x.p x.c).1, (PN.rConnect R x.s x.p x.c).2.1, (PN.rConnect R x.s x.p x.c).2.2)
def TryOut (w : World) (sL sC : Sli) (R : PN.Net) (y : PN.PD × PN.Net × Int × Int) (e : Ending) (w' : World) : Prop :=
 ∃ sL' sC' : Sli, e = .returned (.tuple #[.agg (wD y.1).toArray, .agg (two (slv sL') (slv sC')).toArray, .int .i64 y.2.2.1, .int .i64 y.2.2.2]) ∧ Fr [] w w' ∧ RefP w sL sC R y.2.1 sL' sC' w'
def giveD (x : PN.PD) : PN.PD × Int := if x.st ≠ 0 then (x, 8) else ({ x with st := 2, er := 14 }, 0)
theorem RefP.apart {W : World} {sL sC : Sli} {R R' : PN.Net} {sL' sC' : Sli} {w4 w5 w6 : World} {E5 : Nat} {ys : List Value} (h : RefP W sL sC R R' sL' sC' w4) (hE : w4.heap.size = E5) (f : Fr [] w4 w5) (f2 : Fr [E5] w5 w6) : RefP W sL sC R R' sL' sC' w6 := by
 rcases h with h | ⟨⟨Xs, h1, h2, h3⟩, ⟨⟨Ys, r1, r2⟩, r3⟩⟩
 ·exact .inl h
 ·have hlt : ∀ {v : Value} {n sz : Nat} {xs : List Value}, RowV w4 v n sz xs → ∀ g, v.ownBlock = some g → n = 0 ∨ g < w4.heap.size := fun hv g hg => by
   rcases hv.2 with ⟨h0, _⟩ | ⟨g', off, c, rfl, hg', _⟩
   ·exact .inl h0
   ·simp [Value.ownBlock] at hg
    subst hg
    exact .inr hg'
  have kp : ∀ {v : Value} {n sz : Nat} {xs : List Value}, RowV w4 v n sz xs → RowV w6 v n sz xs := fun hv => by
   refine ⟨hv.1, hv.2.imp id ?_⟩
   rintro ⟨g, off, c, rfl, hg, hc⟩
   exact ⟨g, off, c, rfl, by have := f.size; have := f2.size; omega, fun j u hj => f2.keep (f.keep (hc j u hj) (by simp)) (by rw [List.mem_singleton]; omega)⟩
  refine .inr ⟨⟨Xs, h1.mono (fun X y ⟨q, e1, e2, e3⟩ => ⟨q, e1, kp e2, e3⟩), kp h2, h3⟩, ⟨⟨Ys, ⟨r1.len, r1.sz, r1.one, fun i X y hX hy => ?_⟩, kp r2⟩, r3⟩⟩
  obtain ⟨q, e1, e2⟩ := r1.el i X y hX hy
  rw [List.getElem?_map] at hy
  obtain ⟨y0, hy0, rfl⟩ := Option.map_eq_some_iff.1 hy
  exact ⟨q, e1, emb_any e2⟩
theorem refTry (x : PN.PD) (sL sC : Sli) (R : PN.Net) (now : Int) (w : World) (hL : LRow w (slv sL) R.L) (hC : CRow w (slv sC) (R.C.map emb)) (hf : RFit R) (hs : x.s.size ≤ 1000000) (hv : addrB x.s.data.toList x.p = true) (hc : x.c ≤ 4096) (htr : 0 ≤ x.tr ∧ x.tr ≤ 1000000000) :
  Calls Tryz.prog 9 #[.agg (wD x).toArray, .agg #[slv sL, slv sC], .int .u64 now] w (TryOut w sL sC R (rTry now x R)) := by
 obtain ⟨B, hB⟩ : ∃ B, w.heap.size = B := ⟨_, rfl⟩
 obtain ⟨u1, hu1⟩ : ∃ z, w.alloc (.cells (wD x).toArray 46) = z := ⟨_, rfl⟩
 obtain ⟨u2, hu2⟩ : ∃ z, u1.alloc (.cells (two (slv sL) (slv sC)).toArray 31) = z := ⟨_, rfl⟩
 obtain ⟨u3, hu3⟩ : ∃ z, u2.alloc (.cells wDz.toArray 46) = z := ⟨_, rfl⟩
 obtain ⟨wA, hwA⟩ : ∃ z, u3.alloc (.cells zNt.toArray 31) = z := ⟨_, rfl⟩
 have s1 : u1.heap.size = B + 1 := by rw [← hu1, ← hB]; simp
 have s2 : u2.heap.size = B + 2 := by rw [← hu2]; simp [s1]
 have s3 : u3.heap.size = B + 3 := by rw [← hu3]; simp [s2]
 have f1 : Fr [] w u1 := by rw [← hu1]; exact (Fr.refl [] w).alloc _
 have f2 : Fr [] u1 u2 := by rw [← hu2]; exact (Fr.refl [] u1).alloc _
 have f3 : Fr [] u2 u3 := by rw [← hu3]; exact (Fr.refl [] u2).alloc _
 have f4 : Fr [] u3 wA := by rw [← hwA]; exact (Fr.refl [] u3).alloc _
 have hb0 : Blk wA B 46 (wD x) := by
  have h := Blk.made w 46 (wD x)
  rw [hB] at h
  exact (((show Blk u1 B 46 _ from by rw [← hu1]; exact h).keep f2 (by simp)).keep f3 (by simp)).keep f4 (by simp)
 have hb1 : Blk wA (B + 1) 31 (two (slv sL) (slv sC)) := by
  have h := Blk.made u1 31 (two (slv sL) (slv sC))
  rw [s1] at h
  exact ((show Blk u2 (B + 1) 31 _ from by rw [← hu2]; exact h).keep f3 (by simp)).keep f4 (by simp)
 have hb2 : Blk wA (B + 2) 46 wDz := by
  have h := Blk.made u2 46 wDz
  rw [s2] at h
  exact (show Blk u3 (B + 2) 46 _ from by rw [← hu3]; exact h).keep f4 (by simp)
 have hb3 : Blk wA (B + 3) 31 zNt := by
  have h := Blk.made u3 31 zNt
  rw [s3] at h
  rw [← hwA]
  exact h
 have hff : Fr [] w wA := ((f1.step f2).step f3).step f4
 have HB0 := Lib.hid hb0
 have HB1 := Lib.hid hb1
 have HB2 := Lib.hid hb2
 have HB3 := Lib.hid hb3
 have HF := Lib.hid hff
 have HBS := Lib.hid hB
 have HU1 := Lib.hid hu1
 have HU2 := Lib.hid hu2
 have HU3 := Lib.hid hu3
 have HWA := Lib.hid hwA
 have HL := Lib.hid hL
 have HC := Lib.hid hC
 have HFT := Lib.hid hf
 have HS1 := Lib.hid s1
 have HS2 := Lib.hid s2
 have HS3 := Lib.hid s3
 have HV := Lib.hid hv
 clear hb0 hb1 hb2 hb3 hff hB hu1 hu2 hu3 hwA f1 f2 f3 f4 s1 s2 s3 hL hC hf hv
 have e4 : wA.cell? ⟨B, 4, none⟩ = some (.int .i64 x.st) := HB0.out.at 4 _ rfl
 go_enter Tryz.func9, Tryz.ntmps9
 go_upto_region 1 with fail
 have hz1 : (#[.string x.s, .int .i64 x.p, .int .i64 x.c, .int .u64 x.un, .int .i64 x.st, .int .i64 x.conn, .int .i64 x.er, .int .i64 x.tr] : Array Value) = (wD x).toArray := rfl
 simp only [show (World.alloc w (.cells (wD x).toArray 46)) = u1 from HU1.out, HBS.out]
 simp only [show (World.alloc u1 (.cells #[slv sL, slv sC] 31)) = u2 from HU2.out, HS1.out]
 simp only [show (World.alloc u2 (.cells #[.string ⟨#[]⟩, .int .i64 0, .int .i64 0, .int .u64 0, .int .i64 0, .int .i64 0, .int .i64 0, .int .i64 0] 46)) = u3 from HU3.out, HS2.out]
 simp only [show (World.alloc u3 (.cells #[.slice none 0 0, .slice none 0 0] 31)) = wA from HWA.out, HS3.out]
 simp only [Nat.add_assoc, Nat.reduceAdd]
 clear HU1 HU2 HU3 HWA HS1 HS2 HS3 hz1
 by_cases h0 : x.st ≠ 0
 ·have HRT := Lib.hid (show rTry now x R = (x, R, 0, 8) from if_pos h0)
  have d0 : (x.st == 0) = false := beq_eq_false_iff_ne.2 h0
  have d0' : decide (x.st = 0) = false := decide_eq_false h0
  clear h0
  obtain ⟨wd, hwd⟩ : ∃ z, wA.drew = z := ⟨_, rfl⟩
  have fd : Fr [] wA wd := by rw [← hwd]; exact (Fr.refl [] wA).drew
  have G0 := Lib.hid (HB0.out.keep fd (by simp))
  have G1 := Lib.hid (HB1.out.keep fd (by simp))
  have G2 := Lib.hid (HB2.out.keep fd (by simp))
  have G3 := Lib.hid (HB3.out.keep fd (by simp))
  have GF := Lib.hid (HF.out.step fd)
  have FD := Lib.hid fd
  have GW := Lib.hid hwd
  clear fd hwd
  go_upto_region 2 with fail
  refine wp_region_held_drew (S := fun w' => LiesAt w' B 0 (wD x) ∧ LiesAt w' (B + 1) 0 (two (slv sL) (slv sC))) (by kernel_rfl) (by rw [GW.out]; exact ⟨G0.out.at, G1.out.at⟩) (fun hHeld => ?_)
  rw [GW.out] at hHeld ⊢
  refine tvZ 0 _ rfl (fun w hSw => ldX (load_all aggD sizeD (xs := wD x) rfl hSw.1)) ?_
  refine tvZ 1 _ rfl (fun w hSw => ldX (load_all agg34 size34 (xs := two (slv sL) (slv sC)) rfl hSw.2)) ?_
  refine rdZ 2 (fun K hK => ?_)
  obtain ⟨w8, hst, hb_, hf_⟩ := store_all (t := 46) (wD x) sizeD rfl (wD_one _) G2.out rfl
  split
  rotate_left
  ·rename_i hno
   exact absurd rfl hno
  refine stY hst ?_
  clear hst
  have G28 := Lib.hid hb_
  have G38 := Lib.hid (G3.out.keep hf_ (by simp))
  have GF8 := Lib.hid (GF.out.own1 (S := []) (B := 0) hf_ (by have := HBS.out; omega))
  have K8 := Lib.hid hf_
  have GS := Lib.hid (show _ ∧ _ from ⟨hHeld.1.keep hf_ (by simp), hHeld.2.keep hf_ (by rw [List.mem_singleton]; omega)⟩)
  clear hb_ hf_
  refine hK.out _ _ (GS.out) (fun hHeld => ?_)
  clear hK K
  try simp only [Act.put, nrZ]
  refine rdZ 3 (fun K hK => ?_)
  obtain ⟨w9, hst, hb_, hf_⟩ := store_all (t := 31) (two (slv sL) (slv sC)) size34 rfl (two_one _ _) G38.out rfl
  split
  rotate_left
  ·rename_i hno
   exact absurd rfl hno
  refine stY hst ?_
  clear hst
  have G39 := Lib.hid hb_
  have G29 := Lib.hid (G28.out.keep hf_ (by simp))
  have GF9 := Lib.hid (GF8.out.own1 (S := []) (B := 0) hf_ (by have := HBS.out; omega))
  have K9 := Lib.hid hf_
  have GS9 := Lib.hid (show _ ∧ _ from ⟨hHeld.1.keep hf_ (by simp), hHeld.2.keep hf_ (by rw [List.mem_singleton]; omega)⟩)
  clear hb_ hf_
  refine hK.out _ _ (GS9.out) (fun hHeld => ?_)
  clear hK K
  try simp only [Act.put, nrZ]
  refine tkZ 4 ?_
  refine tkZ 5 ?_
  refine wpAnyH_done (by kernel_rfl) ?_ _
  clear hHeld
  go_wp2
  have hl := load_var aggD sizeD (xs := wD x) rfl G29.out.at
  have hl2 := load_var agg34 size34 (xs := two (slv sL) (slv sC)) rfl G39.out.at
  refine bodyPost_ret (v := .tuple #[.agg (wD x).toArray, .agg (two (slv sL) (slv sC)).toArray, .int .i64 0, .int .i64 8]) (by simp [results, Tryz.results9, as_addr, hl, hl2]) rfl ?_
  rw [HRT.out]
  exact ⟨sL, sC, rfl, GF9.out, .inl ⟨rfl, rfl, rfl⟩⟩
 ·have HN0 := Lib.hid h0
  have h0' : x.st = 0 := by omega
  have d0 : (x.st == 0) = true := beq_iff_eq.2 h0'
  have d0' : decide (x.st = 0) = true := decide_eq_true h0'
  clear h0 h0'
  have e3 : wA.cell? ⟨B, 3, none⟩ = some (.int .u64 x.un) := HB0.out.at 3 _ rfl
  go_wp2_with fail
  refine (refOver_w x.un now _).mono ?_
  rintro e w1 ⟨rfl, f1⟩
  have HF1 := Lib.hid (HF.out.step f1)
  have HB01 := Lib.hid (HB0.out.keep f1 (by simp))
  have HB11 := Lib.hid (HB1.out.keep f1 (by simp))
  have HB21 := Lib.hid (HB2.out.keep f1 (by simp))
  have HB31 := Lib.hid (HB3.out.keep f1 (by simp))
  clear f1 HF HB0 HB1 HB2 HB3 e3 e4 d0 d0'
  obtain ⟨ov, hov⟩ : ∃ b, ovB x.un now = b := ⟨_, rfl⟩
  rw [hov]
  have HOV := Lib.hid hov
  clear hov
  cases ov with
  | true =>
   have HRT := Lib.hid (show rTry now x R = ({ x with st := 2, er := 12 }, R, 0, 12) from (if_neg HN0.out).trans (if_pos HOV.out))
   go_upto_region 4 with fail
   refine wp_region_lit ?_
   refine wpList_plain rfl (fun K hK => ?_); go_simp; refine hK _ _ ?_; clear hK K
   try simp only [Act.put, nrZ]
   obtain ⟨w2, hst, hb_, hf_⟩ := store_cell (o := 4) (t := 3) (.int .i64 2) sizeI rfl rfl HB01.out (by simp [wD])
   refine stZ hst ?_
   clear hst
   have HB02 := Lib.hid (show Blk w2 B 46 (wD { x with st := 2 }) from hb_)
   have HF2 := Lib.hid (HF1.out.own1 (S := []) (B := 0) hf_ (by have := HBS.out; omega))
   have HB12 := Lib.hid (HB11.out.keep hf_ (by simp))
   have HB22 := Lib.hid (HB21.out.keep hf_ (by simp))
   have HB32 := Lib.hid (HB31.out.keep hf_ (by simp))
   clear hb_ hf_
   refine wpList_plain rfl (fun K hK => ?_); go_simp; refine hK _ _ ?_; clear hK K
   try simp only [Act.put, nrZ]
   obtain ⟨w3, hst, hb_, hf_⟩ := store_cell (o := 6) (t := 42) (.int .i64 12) sizeEr rfl rfl HB02.out (by simp [wD])
   refine stZ hst ?_
   clear hst
   refine wpList_nil ?_
   try simp only [Act.put, nrZ]
   have HB03 := Lib.hid (show Blk w3 B 46 (wD { x with st := 2, er := 12 }) from hb_)
   have HF3 := Lib.hid (HF2.out.own1 (S := []) (B := 0) hf_ (by have := HBS.out; omega))
   have HB13 := Lib.hid (HB12.out.keep hf_ (by simp))
   have HB23 := Lib.hid (HB22.out.keep hf_ (by simp))
   have HB33 := Lib.hid (HB32.out.keep hf_ (by simp))
   clear hb_ hf_
   obtain ⟨wd, hwd⟩ : ∃ z, w3.drew = z := ⟨_, rfl⟩
   have fd : Fr [] w3 wd := by rw [← hwd]; exact (Fr.refl [] w3).drew
   have G0 := Lib.hid (HB03.out.keep fd (by simp))
   have G1 := Lib.hid (HB13.out.keep fd (by simp))
   have G2 := Lib.hid (HB23.out.keep fd (by simp))
   have G3 := Lib.hid (HB33.out.keep fd (by simp))
   have GF := Lib.hid (HF3.out.step fd)
   have FD := Lib.hid fd
   have GW := Lib.hid hwd
   clear fd hwd
   go_upto_region 5 with fail
   refine wp_region_held_drew (S := fun w' => LiesAt w' B 0 (wD { x with st := 2, er := 12 }) ∧ LiesAt w' (B + 1) 0 (two (slv sL) (slv sC))) (by kernel_rfl) (by rw [GW.out]; exact ⟨G0.out.at, G1.out.at⟩) (fun hHeld => ?_)
   rw [GW.out] at hHeld ⊢
   refine tvZ 0 _ rfl (fun w hSw => ldX (load_all aggD sizeD (xs := wD { x with st := 2, er := 12 }) rfl hSw.1)) ?_
   refine tvZ 1 _ rfl (fun w hSw => ldX (load_all agg34 size34 (xs := two (slv sL) (slv sC)) rfl hSw.2)) ?_
   refine rdZ 2 (fun K hK => ?_)
   obtain ⟨w8, hst, hb_, hf_⟩ := store_all (t := 46) (wD { x with st := 2, er := 12 }) sizeD rfl (wD_one _) G2.out rfl
   split
   rotate_left
   ·rename_i hno
    exact absurd rfl hno
   refine stY hst ?_
   clear hst
   have G28 := Lib.hid hb_
   have G38 := Lib.hid (G3.out.keep hf_ (by simp))
   have GF8 := Lib.hid (GF.out.own1 (S := []) (B := 0) hf_ (by have := HBS.out; omega))
   have K8 := Lib.hid hf_
   have GS := Lib.hid (show _ ∧ _ from ⟨hHeld.1.keep hf_ (by simp), hHeld.2.keep hf_ (by rw [List.mem_singleton]; omega)⟩)
   clear hb_ hf_
   refine hK.out _ _ (GS.out) (fun hHeld => ?_)
   clear hK K
   try simp only [Act.put, nrZ]
   refine rdZ 3 (fun K hK => ?_)
   obtain ⟨w9, hst, hb_, hf_⟩ := store_all (t := 31) (two (slv sL) (slv sC)) size34 rfl (two_one _ _) G38.out rfl
   split
   rotate_left
   ·rename_i hno
    exact absurd rfl hno
   refine stY hst ?_
   clear hst
   have G39 := Lib.hid hb_
   have G29 := Lib.hid (G28.out.keep hf_ (by simp))
   have GF9 := Lib.hid (GF8.out.own1 (S := []) (B := 0) hf_ (by have := HBS.out; omega))
   have K9 := Lib.hid hf_
   have GS9 := Lib.hid (show _ ∧ _ from ⟨hHeld.1.keep hf_ (by simp), hHeld.2.keep hf_ (by rw [List.mem_singleton]; omega)⟩)
   clear hb_ hf_
   refine hK.out _ _ (GS9.out) (fun hHeld => ?_)
   clear hK K
   try simp only [Act.put, nrZ]
   refine tkZ 4 ?_
   refine tkZ 5 ?_
   refine wpAnyH_done (by kernel_rfl) ?_ _
   clear hHeld
   go_wp2
   have hl := load_var aggD sizeD (xs := wD { x with st := 2, er := 12 }) rfl G29.out.at
   have hl2 := load_var agg34 size34 (xs := two (slv sL) (slv sC)) rfl G39.out.at
   refine bodyPost_ret (v := .tuple #[.agg (wD { x with st := 2, er := 12 }).toArray, .agg (two (slv sL) (slv sC)).toArray, .int .i64 0, .int .i64 12]) (by simp [results, Tryz.results9, as_addr, hl, hl2]) rfl ?_
   rw [HRT.out]
   exact ⟨sL, sC, rfl, GF9.out, .inl ⟨rfl, rfl, rfl⟩⟩
  | false =>
   have HRT := Lib.hid (show rTry now x R = (aftD x (PN.rConnect R x.s x.p x.c).2.1 (PN.rConnect R x.s x.p x.c).2.2, (PN.rConnect R x.s x.p x.c).1, (PN.rConnect R x.s x.p x.c).2.1, (PN.rConnect R x.s x.p x.c).2.2) from (if_neg HN0.out).trans (if_neg (by rw [HOV.out]; decide)))
   have e7 : w1.cell? ⟨B, 7, none⟩ = some (.int .i64 x.tr) := HB01.out.at 7 _ rfl
   have hwr : IntKind.i64.wrap (x.tr + 1) = x.tr + 1 := IntWalk.i64_in _ (by omega)
   go_upto_region 6 with fail
   refine wp_region_lit ?_
   iterate 4 (refine wpList_plain rfl (fun K hK => ?_); go_simp; refine hK _ _ ?_; clear hK K)
   try simp only [Act.put, nrZ]
   try rw [hwr]
   obtain ⟨w2, hst, hb_, hf_⟩ := store_cell (o := 7) (t := 3) (.int .i64 (x.tr + 1)) sizeI rfl rfl HB01.out (by simp [wD])
   refine stZ hst ?_
   clear hst
   refine wpList_nil ?_
   try simp only [Act.put, nrZ]
   have HB02 := Lib.hid (show Blk w2 B 46 (wD { x with tr := x.tr + 1 }) from hb_)
   have HF2 := Lib.hid (HF1.out.own1 (S := []) (B := 0) hf_ (by have := HBS.out; omega))
   have HB12 := Lib.hid (HB11.out.keep hf_ (by simp))
   have HB22 := Lib.hid (HB21.out.keep hf_ (by simp))
   have HB32 := Lib.hid (HB31.out.keep hf_ (by simp))
   clear hb_ hf_ e7 HB01 HB11 HB21 HB31 HF1
   have c2 : w2.cell? ⟨B, 2, none⟩ = some (.int .i64 x.c) := HB02.out.at 2 _ rfl
   go_upto_region 7 with fail
   refine wp_region_lit ?_
   refine ldZ (load_all agg34 size34 (xs := two (slv sL) (slv sC)) rfl HB12.out.at) ?_
   refine wpList_plain rfl (fun K hK => ?_); go_simp; refine hK _ _ ?_; clear hK K
   try simp only [Act.put, nrZ]
   refine ldZ (load_all agg28 size28 (xs := sp x.s x.p) rfl (wD_adr (x := { x with tr := x.tr + 1 }) HB02.out)) ?_
   iterate 2 (refine wpList_plain rfl (fun K hK => ?_); go_simp; refine hK _ _ ?_; clear hK K)
   try simp only [Act.put, nrZ]
   refine wpList_plain rfl (fun K hK => ?_)
   go_simp
   refine (refConnectQ (LRow.next HL.out HF2.out) (CRow.next HC.out HF2.out) HFT.out x.s x.p x.c hs HV.out hc).mono ?_
   obtain ⟨R', hR'⟩ : ∃ r, (PN.rConnect R x.s x.p x.c).1 = r := ⟨_, rfl⟩
   obtain ⟨k, hk⟩ : ∃ r, (PN.rConnect R x.s x.p x.c).2.1 = r := ⟨_, rfl⟩
   obtain ⟨er, her⟩ : ∃ r, (PN.rConnect R x.s x.p x.c).2.2 = r := ⟨_, rfl⟩
   rw [hR', hk, her]
   have HEQ := Lib.hid (show _ ∧ _ ∧ _ from ⟨hR', hk, her⟩)
   clear hR' hk her
   rintro e w4 ⟨sL', sC', rfl, f4, ho⟩
   refine hK _ _ ?_
   clear hK K
   try simp only [Act.put, nrZ]
   iterate 5 (refine wpList_plain rfl (fun K hK => ?_); go_simp; refine hK _ _ ?_; clear hK K)
   try simp only [Act.put, nrZ]
   have HO := Lib.hid (ho.base (W0 := w) HF2.out.size)
   have HF4 := Lib.hid (HF2.out.step f4)
   have HB04 := Lib.hid (HB02.out.keep f4 (by simp))
   have HB24 := Lib.hid (HB22.out.keep f4 (by simp))
   have HB34 := Lib.hid (HB32.out.keep f4 (by simp))
   have HWS := Lib.hid (show B + 3 < w2.heap.size from HB32.out.lt)
   have HO2 := Lib.hid ho
   have HF24 := Lib.hid f4
   clear f4 ho HF2 HB02 HB12 HB22 HB32 c2
   obtain ⟨E5, hE_⟩ : ∃ E, w4.heap.size = E := ⟨_, rfl⟩
   obtain ⟨w5, hw_⟩ : ∃ z, w4.alloc (.cells #[.slice none 0 0, .slice none 0 0] 31) = z := ⟨_, rfl⟩
   have hbx : Blk w5 E5 31 zNt := by rw [← hw_, ← hE_]; exact Blk.made w4 31 zNt
   have fx : Fr [] w4 w5 := by rw [← hw_]; exact (Fr.refl [] w4).alloc _
   rw [hw_]
   simp only [hE_]
   have HE := Lib.hid (show B + 3 < E5 from by rw [← hE_]; exact HB34.out.lt)
   have HEE := Lib.hid hE_
   have HX5 := Lib.hid hbx
   have HF5 := Lib.hid (HF4.out.step fx)
   have HB05 := Lib.hid (HB04.out.keep fx (by simp))
   have HB25 := Lib.hid (HB24.out.keep fx (by simp))
   have HB35 := Lib.hid (HB34.out.keep fx (by simp))
   have HO5 := HO2
   have HFX := Lib.hid fx
   clear fx hbx hw_ hE_ HF4 HB04 HB24 HB34
   obtain ⟨w6, hst, hb_, hf_⟩ := store_all (t := 31) (two (slv sL') (slv sC')) size34 rfl (two_one _ _) HX5.out rfl
   refine stZ hst ?_
   clear hst
   iterate 2 (refine wpList_plain rfl (fun K hK => ?_); go_simp; refine hK _ _ ?_; clear hK K)
   refine wpList_nil ?_
   try simp only [Act.put, nrZ]
   have HX6 := Lib.hid hb_
   have HF6 := Lib.hid (HF5.out.own1 (S := []) (B := 0) hf_ (by have := HBS.out; have := HE.out; omega))
   have HB06 := Lib.hid (HB05.out.keep hf_ (by rw [List.mem_singleton]; have := HE.out; omega))
   have HB26 := Lib.hid (HB25.out.keep hf_ (by rw [List.mem_singleton]; have := HE.out; omega))
   have HB36 := Lib.hid (HB35.out.keep hf_ (by rw [List.mem_singleton]; have := HE.out; omega))
   have HO6 := Lib.hid (show RefP w2 sL sC R R' sL' sC' w6 from by
    exact RefP.apart (ys := []) HO5.out HEE.out HFX.out hf_)
   clear hb_ hf_ HX5 HF5 HB05 HB25 HB35 HO5
   go_upto_if 41 with fail
   go_cut [] from 40 to 49 (fun wc => Blk wc B 46 (wD (aftD x k er)) ∧ Blk wc E5 31 (two (slv sL') (slv sC')) ∧ Blk wc (B + 2) 46 wDz ∧ Blk wc (B + 3) 31 zNt ∧ Fr [] w wc ∧ Fr [B] w6 wc)
   case first =>
    by_cases z0 : er = 0
    ·have hx : aftD x k er = { x with tr := x.tr + 1, st := 1, conn := k } := if_pos z0
     have HXE := Lib.hid hx
     have dz : (er == 0) = true := beq_iff_eq.2 z0
     have dz' : decide (er = 0) = true := decide_eq_true z0
     clear hx z0
     go_upto_region 9 with fail
     refine wp_region_lit ?_
     iterate 2 (refine wpList_plain rfl (fun K hK => ?_); go_simp; refine hK _ _ ?_; clear hK K)
     try simp only [Act.put, nrZ]
     obtain ⟨w7, hst, hb_, hf_⟩ := store_cell (o := 4) (t := 3) (.int .i64 1) sizeI rfl rfl HB06.out (by simp [wD])
     refine stZ hst ?_
     clear hst
     have HB07 := Lib.hid (show Blk w7 B 46 (wD { x with tr := x.tr + 1, st := 1 }) from hb_)
     have f7 := hf_
     clear hb_ hf_
     refine wpList_plain rfl (fun K hK => ?_); go_simp; refine hK _ _ ?_; clear hK K
     try simp only [Act.put, nrZ]
     obtain ⟨w8, hst, hb_, hf_⟩ := store_cell (o := 5) (t := 3) (.int .i64 k) sizeI rfl rfl HB07.out (by simp [wD])
     refine stZ hst ?_
     clear hst
     have HB08 := Lib.hid (show Blk w8 B 46 (wD { x with tr := x.tr + 1, st := 1, conn := k }) from hb_)
     have f8 := hf_
     clear hb_ hf_
     refine wpList_nil ?_
     try simp only [Act.put, nrZ]
     have fb := f7.trans f8 (fun x hx _ => hx)
     go_wp2
     go_meet
     case rel => exact ⟨by rw [HXE.out]; exact HB08.out, HX6.out.keep fb (by rw [List.mem_singleton]; have := HE.out; omega), HB26.out.keep fb (by simp), HB36.out.keep fb (by simp), HF6.out.own1 (S := []) (B := 0) fb (by have := HBS.out; omega), fb⟩
    ·have dz : (er == 0) = false := beq_eq_false_iff_ne.2 z0
     have dz' : decide (er = 0) = false := decide_eq_false z0
     by_cases z1 : er = 16
     ·have hx : aftD x k er = { x with tr := x.tr + 1 } := (if_neg z0).trans (if_pos z1)
      have HXE := Lib.hid hx
      have dy : (er == 16) = true := beq_iff_eq.2 z1
      have dy' : decide (er = 16) = true := decide_eq_true z1
      clear hx z0 z1
      go_wp2
      go_meet
      case rel => exact ⟨by rw [HXE.out]; exact HB06.out, HX6.out, HB26.out, HB36.out, HF6.out, (Fr.refl _ _)⟩
     ·have hx : aftD x k er = { x with tr := x.tr + 1, st := 2, er := er } := (if_neg z0).trans (if_neg z1)
      have HXE := Lib.hid hx
      have dy : (er == 16) = false := beq_eq_false_iff_ne.2 z1
      have dy' : decide (er = 16) = false := decide_eq_false z1
      clear hx z0 z1
      go_upto_region 11 with fail
      refine wp_region_lit ?_
      iterate 2 (refine wpList_plain rfl (fun K hK => ?_); go_simp; refine hK _ _ ?_; clear hK K)
      try simp only [Act.put, nrZ]
      obtain ⟨w7, hst, hb_, hf_⟩ := store_cell (o := 4) (t := 3) (.int .i64 2) sizeI rfl rfl HB06.out (by simp [wD])
      refine stZ hst ?_
      clear hst
      have HB07 := Lib.hid (show Blk w7 B 46 (wD { x with tr := x.tr + 1, st := 2 }) from hb_)
      have f7 := hf_
      clear hb_ hf_
      refine wpList_plain rfl (fun K hK => ?_); go_simp; refine hK _ _ ?_; clear hK K
      try simp only [Act.put, nrZ]
      obtain ⟨w8, hst, hb_, hf_⟩ := store_cell (o := 6) (t := 42) (.int .i64 er) sizeEr rfl rfl HB07.out (by simp [wD])
      refine stZ hst ?_
      clear hst
      have HB08 := Lib.hid (show Blk w8 B 46 (wD { x with tr := x.tr + 1, st := 2, er := er }) from hb_)
      have f8 := hf_
      clear hb_ hf_
      refine wpList_nil ?_
      try simp only [Act.put, nrZ]
      have fb := f7.trans f8 (fun x hx _ => hx)
      go_wp2
      go_meet
      case rel => exact ⟨by rw [HXE.out]; exact HB08.out, HX6.out.keep fb (by rw [List.mem_singleton]; have := HE.out; omega), HB26.out.keep fb (by simp), HB36.out.keep fb (by simp), HF6.out.own1 (S := []) (B := 0) fb (by have := HBS.out; omega), fb⟩
   case rest =>
    obtain ⟨hc0, hc1, hc2, hc3, hcf, hcb⟩ := hcut
    have HCB := Lib.hid hcb
    have HO7 := Lib.hid (HO6.out.more hcb (fun z hz => by rw [List.mem_singleton] at hz; have := HWS.out; omega))
    have HB07 := Lib.hid hc0
    have HX7 := Lib.hid hc1
    have HB27 := Lib.hid hc2
    have HB37 := Lib.hid hc3
    have HF7 := Lib.hid hcf
    clear hc0 hc1 hc2 hc3 hcf hcb
    obtain ⟨wd, hwd⟩ : ∃ z, wc.drew = z := ⟨_, rfl⟩
    have fd : Fr [] wc wd := by rw [← hwd]; exact (Fr.refl [] wc).drew
    have G0 := Lib.hid (HB07.out.keep fd (by simp))
    have G1 := Lib.hid (HX7.out.keep fd (by simp))
    have G2 := Lib.hid (HB27.out.keep fd (by simp))
    have G3 := Lib.hid (HB37.out.keep fd (by simp))
    have GF := Lib.hid (HF7.out.step fd)
    have FD := Lib.hid fd
    have GW := Lib.hid hwd
    clear fd hwd
    go_upto_region 12 with fail
    refine wp_region_held_drew (S := fun w' => LiesAt w' B 0 (wD (aftD x k er)) ∧ LiesAt w' (E5) 0 (two (slv sL') (slv sC'))) (by kernel_rfl) (by rw [GW.out]; exact ⟨G0.out.at, G1.out.at⟩) (fun hHeld => ?_)
    rw [GW.out] at hHeld ⊢
    refine tvZ 0 _ rfl (fun w hSw => ldX (load_all aggD sizeD (xs := wD (aftD x k er)) rfl hSw.1)) ?_
    refine tvZ 1 _ rfl (fun w hSw => ldX (load_all agg34 size34 (xs := two (slv sL') (slv sC')) rfl hSw.2)) ?_
    refine tkZ 2 ?_
    refine tkZ 3 ?_
    refine rdZ 4 (fun K hK => ?_)
    obtain ⟨w8, hst, hb_, hf_⟩ := store_all (t := 46) (wD (aftD x k er)) sizeD rfl (wD_one _) G2.out rfl
    split
    rotate_left
    ·rename_i hno
     exact absurd rfl hno
    refine stY hst ?_
    clear hst
    have G28 := Lib.hid hb_
    have G38 := Lib.hid (G3.out.keep hf_ (by simp))
    have GF8 := Lib.hid (GF.out.own1 (S := []) (B := 0) hf_ (by have := HBS.out; omega))
    have K8 := Lib.hid hf_
    have GS := Lib.hid (show _ ∧ _ from ⟨hHeld.1.keep hf_ (by simp), hHeld.2.keep hf_ (by rw [List.mem_singleton]; have := HE.out;  omega)⟩)
    clear hb_ hf_
    refine hK.out _ _ (GS.out) (fun hHeld => ?_)
    clear hK K
    try simp only [Act.put, nrZ]
    refine rdZ 5 (fun K hK => ?_)
    obtain ⟨w9, hst, hb_, hf_⟩ := store_all (t := 31) (two (slv sL') (slv sC')) size34 rfl (two_one _ _) G38.out rfl
    split
    rotate_left
    ·rename_i hno
     exact absurd rfl hno
    refine stY hst ?_
    clear hst
    have G39 := Lib.hid hb_
    have G29 := Lib.hid (G28.out.keep hf_ (by simp))
    have GF9 := Lib.hid (GF8.out.own1 (S := []) (B := 0) hf_ (by have := HBS.out; omega))
    have K9 := Lib.hid hf_
    have GS9 := Lib.hid (show _ ∧ _ from ⟨hHeld.1.keep hf_ (by simp), hHeld.2.keep hf_ (by rw [List.mem_singleton]; have := HE.out;  omega)⟩)
    clear hb_ hf_
    refine hK.out _ _ (GS9.out) (fun hHeld => ?_)
    clear hK K
    try simp only [Act.put, nrZ]
    refine tkZ 6 ?_
    refine tkZ 7 ?_
    refine wpAnyH_done (by kernel_rfl) ?_ _
    clear hHeld
    go_wp2
    have hl := load_var aggD sizeD (xs := wD (aftD x k er)) rfl G29.out.at
    have hl2 := load_var agg34 size34 (xs := two (slv sL') (slv sC')) rfl G39.out.at
    refine bodyPost_ret (v := .tuple #[.agg (wD (aftD x k er)).toArray, .agg (two (slv sL') (slv sC')).toArray, .int .i64 k, .int .i64 er]) (by simp [results, Tryz.results9, as_addr, hl, hl2]) rfl ?_
    obtain ⟨q1, q2, q3⟩ := HEQ.out
    rw [HRT.out, q1, q2, q3]
    refine ⟨sL', sC', rfl, GF9.out, ?_⟩
    have h1 := (HO7.out.more FD.out (fun z hz => by cases hz)).more K8.out (fun z hz => by rw [List.mem_singleton] at hz; have := HWS.out; omega)
    exact (h1.more K9.out (fun z hz => by rw [List.mem_singleton] at hz; have := HWS.out; omega)).base (by have := HWS.out; have := HBS.out; omega)
theorem refGive (x : PN.PD) (w : World) :
  Calls Tryz.prog 11 #[.agg (wD x).toArray] w fun e w' => e = .returned (.tuple #[.agg (wD (giveD x).1).toArray, .int .i64 (giveD x).2]) ∧ Fr [] w w' := by
 obtain ⟨s, p, c, un, st, conn, er, tr⟩ := x
 have fE : Fr [] w ((w.alloc (.cells (wD ⟨s, p, c, un, st, conn, er, tr⟩).toArray 46)).alloc (.cells wDz.toArray 46)) := ((Fr.refl [] w).alloc _).alloc _
 show Calls _ _ #[.agg #[.string s, .int .i64 p, .int .i64 c, .int .u64 un, .int .i64 st, .int .i64 conn, .int .i64 er, .int .i64 tr]] w _
 unfold giveD
 by_cases h0 : st ≠ 0
 ·rw [if_pos h0]
  have d0 : (st == 0) = false := beq_eq_false_iff_ne.2 h0
  have d1 : decide (st = 0) = false := decide_eq_false h0
  go_enter Tryz.func11, Tryz.ntmps11
  go_wp2
  refine bodyPost_ret (v := .tuple #[.agg #[.string s, .int .i64 p, .int .i64 c, .int .u64 un, .int .i64 st, .int .i64 conn, .int .i64 er, .int .i64 tr], .int .i64 8]) (by simp [results, Tryz.results11, go_sem]) rfl ⟨rfl, ?_⟩
  exact ((Fr.refl [] w).alloc _).alloc _
 ·rw [if_neg h0]
  obtain rfl : st = 0 := by omega
  go_enter Tryz.func11, Tryz.ntmps11
  go_wp2
  refine bodyPost_ret (v := .tuple #[.agg #[.string s, .int .i64 p, .int .i64 c, .int .u64 un, .int .i64 2, .int .i64 conn, .int .i64 14, .int .i64 tr], .int .i64 0]) (by simp [results, Tryz.results11, go_sem]) rfl ⟨rfl, ?_⟩
  exact ((Fr.refl [] w).alloc _).alloc _
def dD (s : ByteArray) (p c un st conn er tr : Int) (u : Nat) : List Value := [.string s, .int .i64 p, .int .i64 c, .int .u64 un, .func (.func 38) #[] #[.pointer (some ⟨u, 0, none⟩)], .int .i64 st, .int .i64 conn, .int .i64 er, .int .i64 tr]
theorem dD_one (s : ByteArray) (p c un st conn er tr : Int) (u : Nat) : ∀ v ∈ dD s p c un st conn er tr u, v.oneCell' = true := by
 intro v hv
 simp only [dD, List.mem_cons, List.not_mem_nil, or_false] at hv
 rcases hv with rfl | rfl | rfl | rfl | rfl | rfl | rfl | rfl | rfl <;> rfl
def dDz : List Value := [.string ⟨#[]⟩, .int .i64 0, .int .i64 0, .int .u64 0, .nilFunc, .int .i64 0, .int .i64 0, .int .i64 0, .int .i64 0]
theorem aggDl : ∀ w, (isAgg 109).run Tryz.prog w = .ok true w := fun w => by kernel_rfl
theorem sizeDl : ∀ w, (sizeOf 109).run Tryz.prog w = .ok 9 w := fun w => by kernel_rfl
theorem blk_free {w : World} {b : Nat} {t : TypeId} {xs : List Value} (h : Blk w b t xs) (o : Nat) : w.frozen? ⟨b, o, none⟩ = false := by
 unfold Blk at h
 simp [World.frozen?, h]
section
variable (d u : Nat) (s : ByteArray) (p c un st conn er tr : Int) (w : World)
theorem dialGive_ok (h : DialIs w d u s p c un 0 conn er tr) :
  Calls Tryz.prog 12 #[.pointer (some ⟨d, 0, none⟩)] w fun e w' => e = .returned (.int .i64 0) ∧ DialIs w' d u s p c un 2 conn 14 tr ∧ Fr [d] w w' := by
 have c5 := h.c5
 go_enter Tryz.func12, Tryz.ntmps12
 go_wp2_with (go_at_call 43; refine (dialNone_any d u s p c un 0 conn er tr _ h).mono ?_; rintro e w' ⟨rfl, rfl⟩)
 refine (dialFail_any d u s p c un 0 conn er tr _ 14 h).mono ?_
 rintro e w' ⟨rfl, h2, f2⟩
 go_wp2
 go_ret
 exact ⟨rfl, h2, f2⟩
theorem dialCopy_ok (h : DialIs w d u s p c un st conn er tr) :
  Calls Tryz.prog 13 #[.pointer (some ⟨d, 0, none⟩)] w fun e w' => ∃ b, e = .returned (.pointer (some ⟨b, 0, none⟩)) ∧ w.heap.size ≤ b ∧ DialIs w' b u s p c un st conn er tr ∧ Fr [] w w' := by
 have hl : LiesAt w d 0 (dD s p c un st conn er tr u) := fun j v hj => by
  rw [Nat.zero_add]
  match j with
  | 0 => cases hj; exact h.c0
  | 1 => cases hj; exact h.c1
  | 2 => cases hj; exact h.c2
  | 3 => cases hj; exact h.c3
  | 4 => cases hj; exact h.c4
  | 5 => cases hj; exact h.c5
  | 6 => cases hj; exact h.c6
  | 7 => cases hj; exact h.c7
  | 8 => cases hj; exact h.c8
  | j + 9 => simp [dD] at hj
 have HLA := Lib.hid hl
 clear hl
 go_enter Tryz.func13, Tryz.ntmps13
 go_upto_region 3 with (go_at_call 43; refine (dialNone_any d u s p c un st conn er tr _ h).mono ?_; rintro e w' ⟨rfl, rfl⟩)
 refine wp_region_lit ?_
 iterate 2 (refine wpList_plain rfl (fun K hK => ?_); go_simp; refine hK _ _ ?_; clear hK K)
 try simp only [Act.put, nrZ]
 refine ldZ (load_all aggDl sizeDl (xs := dD s p c un st conn er tr u) rfl HLA.out) ?_
 refine wpList_plain rfl (fun K hK => ?_); go_simp; refine hK _ _ ?_; clear hK K
 try simp only [Act.put, nrZ]
 obtain ⟨E5, hE_⟩ : ∃ E, w.heap.size = E := ⟨_, rfl⟩
 obtain ⟨w5, hw_⟩ : ∃ z, w.alloc (.cells dDz.toArray 109) = z := ⟨_, rfl⟩
 have hbx : Blk w5 E5 109 dDz := by rw [← hw_, ← hE_]; exact Blk.made w 109 dDz
 have fx : Fr [] w w5 := by rw [← hw_]; exact (Fr.refl [] w).alloc _
 simp only [show (World.alloc w (.cells #[.string ⟨#[]⟩, .int .i64 0, .int .i64 0, .int .u64 0, .nilFunc, .int .i64 0, .int .i64 0, .int .i64 0, .int .i64 0] 109)) = w5 from hw_, hE_]
 have HX5 := Lib.hid hbx
 have HF5 := Lib.hid fx
 have HE := Lib.hid hE_
 clear hbx fx hw_ hE_
 obtain ⟨w6, hst, hb_, hf_⟩ := store_all (t := 109) (dD s p c un st conn er tr u) sizeDl rfl (dD_one _ _ _ _ _ _ _ _ _) HX5.out rfl
 refine stZ hst ?_
 clear hst
 refine wpList_nil ?_
 try simp only [Act.put, nrZ]
 have HX6 := Lib.hid hb_
 have HF6 := Lib.hid (HF5.out.own1 (S := []) (B := 0) hf_ (by have := HE.out; omega))
 clear hb_ hf_
 go_wp2
 go_ret
 have hu := cell_lt h.cu
 have c := HX6.out.at
 simp only [LiesAt, Nat.zero_add] at c
 refine ⟨E5, rfl, Nat.le_of_eq HE.out, ⟨c 0 _ rfl, c 1 _ rfl, c 2 _ rfl, c 3 _ rfl, c 4 _ rfl, c 5 _ rfl, c 6 _ rfl, c 7 _ rfl, c 8 _ rfl, fun o => blk_free HX6.out o, HF6.out.keep h.cu (by simp), by have := HE.out; omega⟩, HF6.out⟩
end
namespace PN
set_option linter.unusedVariables false
set_option linter.unusedSimpArgs false
set_option linter.unusedSectionVars false
theorem inv_connect {N : Net} (hi : Inv N) (s : ByteArray) (p : Int) (c : Nat) : Inv (connect N s p c).1 := by
 unfold connect
 cases h : at? N.L s p with
 | none => exact hi
 | some x =>
  simp only
  split
  ·exact hi
  ·split
   ·exact hi
   ·rename_i h1 h2
    have hrf : ∀ z : PL, (if z.ref = x.ref then { z with l := z.l ++ [(free (N.C.map (·.ref)) : Int)] } else z).ref = z.ref ∧ (if z.ref = x.ref then { z with l := z.l ++ [(free (N.C.map (·.ref)) : Int)] } else z).s = z.s ∧ (if z.ref = x.ref then { z with l := z.l ++ [(free (N.C.map (·.ref)) : Int)] } else z).p = z.p := fun z => by split <;> exact ⟨rfl, rfl, rfl⟩
    have hmap : (pushL N.L x.ref (free (N.C.map (·.ref)))).map PL.ref = N.L.map PL.ref := by
     unfold pushL
     rw [List.map_map]
     exact List.map_congr_left (fun z _ => (hrf z).1)
    refine ⟨?_, ?_, ?_, ?_, ?_, ?_, ?_⟩
    ·show ((pushL N.L x.ref (free (N.C.map (·.ref)))).map PL.ref).Nodup
     rw [hmap]
     exact hi.refs
    ·show ((N.C ++ [(⟨free (N.C.map (·.ref)), c, false, false⟩ : PC)]).map PC.ref).Nodup
     rw [List.map_append, List.nodup_append]
     refine ⟨hi.crefs, by simp, fun a ha b hb => ?_⟩
     simp only [List.map_cons, List.map_nil, List.mem_singleton] at hb
     rw [hb]
     intro he
     exact (free_spec (N.C.map (·.ref))).1 (by rw [← he]; exact ha)
    ·intro a ha b hb e1 e2
     obtain ⟨a0, ha0, rfl⟩ := List.mem_map.1 ha
     obtain ⟨b0, hb0, rfl⟩ := List.mem_map.1 hb
     rw [(hrf a0).2.1, (hrf b0).2.1] at e1
     rw [(hrf a0).2.2, (hrf b0).2.2] at e2
     rw [hi.adrs a0 ha0 b0 hb0 e1 e2]
    ·intro k hk
     obtain ⟨z, hz, hkz⟩ := List.mem_flatMap.1 hk
     obtain ⟨z0, hz0, rfl⟩ := List.mem_map.1 hz
     have hor : k ∈ z0.l ∨ k = (free (N.C.map (·.ref)) : Int) := by
      split at hkz
      ·rcases List.mem_append.1 hkz with h3 | h3
       ·exact .inl h3
       ·exact .inr (List.mem_singleton.1 h3)
      ·exact .inl hkz
     rcases hor with h3 | rfl
     ·obtain ⟨y, hy, q1, q2⟩ := hi.queue k (List.mem_flatMap.2 ⟨z0, hz0, h3⟩)
      exact ⟨y, List.mem_append_left _ hy, q1, q2⟩
     ·exact ⟨⟨free (N.C.map (·.ref)), c, false, false⟩, List.mem_append_right _ (List.mem_singleton.2 rfl), rfl, rfl⟩
    ·intro y hy
     rcases List.mem_append.1 hy with hy | hy
     ·exact hi.op y hy
     ·rw [List.mem_singleton] at hy
      subst hy
      rfl
    ·show (pushL N.L x.ref (free (N.C.map (·.ref)))).length ≤ 128
     unfold pushL
     rw [List.length_map]
     exact hi.nl
    ·show (N.C ++ [_]).length ≤ 128
     rw [List.length_append, List.length_singleton]
     omega
theorem connect_err {N : Net} {s : ByteArray} {p : Int} {c : Nat} (h : (connect N s p c).2.2 ≠ 0) : (connect N s p c).2.1 = 0 := by
 unfold connect at h ⊢
 cases e : at? N.L s p with
 | none => rfl
 | some x =>
  rw [e] at h
  simp only at h ⊢
  by_cases h1 : (x.l.length : Int) = x.most
  ·rw [if_pos h1]
  ·rw [if_neg h1] at h ⊢
   by_cases h2 : 128 ≤ N.C.length
   ·rw [if_pos h2]
   ·rw [if_neg h2] at h
    exact absurd rfl h
end PN
theorem match_try {N R : PN.Net} (h : PN.Match N R) (hi : PN.Inv N) (now : Int) (x : PN.PD) (hb : now ≤ 18446744073709551615) :
  (rTry now x R).1 = (PN.tryD now x N).1 ∧ PN.Match (PN.tryD now x N).2.1 (rTry now x R).2.1 ∧ (rTry now x R).2.2 = (PN.tryD now x N).2.2 := by
 unfold rTry PN.tryD
 rw [ov_pass hb]
 by_cases h0 : x.st ≠ 0
 ·rw [if_pos h0, if_pos h0]
  exact ⟨rfl, h, rfl⟩
 ·rw [if_neg h0, if_neg h0]
  by_cases h1 : PN.pass x.un now = true
  ·rw [if_pos h1, if_pos h1]
   exact ⟨rfl, h, rfl⟩
  ·rw [if_neg h1, if_neg h1]
   obtain ⟨m1, m2⟩ := PN.match_connect h hi x.s x.p x.c
   have m3 := PN.connect_err (N := N) (s := x.s) (p := x.p) (c := x.c)
   have h0' : x.st = 0 := by omega
   rw [m1]
   refine ⟨?_, m2, ?_⟩
   ·unfold aftD
    by_cases z0 : (PN.connect N x.s x.p x.c).2.2 = 0
    ·simp [z0]
    ·by_cases z1 : (PN.connect N x.s x.p x.c).2.2 = 16
     ·simp [z1, h0']
     ·simp [z0, z1]
   ·by_cases z0 : (PN.connect N x.s x.p x.c).2.2 = 0
    ·refine Prod.ext ?_ ?_ <;> simp [z0]
    ·refine Prod.ext ?_ ?_ <;> simp [m3 z0]
namespace PN
set_option linter.unusedVariables false
set_option linter.unusedSimpArgs false
set_option linter.unusedSectionVars false
structure Ok (N : Net) : Prop where
 inv : Inv N
 q : ∀ x ∈ N.L, (x.l.length : Int) ≤ x.most ∧ x.most ≤ 128
theorem ok_connect {N : Net} (h : Ok N) (s : ByteArray) (p : Int) (c : Nat) : Ok (connect N s p c).1 := by
 refine ⟨inv_connect h.inv s p c, ?_⟩
 unfold connect
 cases e : at? N.L s p with
 | none => exact h.q
 | some x =>
  simp only
  split
  ·exact h.q
  ·split
   ·exact h.q
   ·rename_i h1 _
    intro y hy
    obtain ⟨z, hz, rfl⟩ := List.mem_map.1 hy
    have hx : x ∈ N.L := List.mem_of_find?_eq_some e
    split
    ·rename_i hr
     have hzx : z = x := nodup_inj h.inv.refs x hx z hz hr
     subst hzx
     have := h.q z hz
     simp only [List.length_append, List.length_singleton]
     omega
    ·exact h.q z hz
theorem ok_try {N : Net} (h : Ok N) (now : Int) (x : PD) : Ok (tryD now x N).2.1 := by
 unfold tryD
 split
 ·exact h
 ·split
  ·exact h
  ·exact ok_connect h _ _ _
end PN
theorem ok_fit {N R : PN.Net} (h : PN.Match N R) (ho : PN.Ok N) : RFit R := by
 refine ⟨?_, ?_, fun x hx => ?_, h.2.2⟩
 ·rw [h.1.len]; exact ho.inv.nl
 ·rw [h.2.len]; exact ho.inv.nc
 ·have := ho.q x (h.1.mem.1 hx)
  omega
def ElW (_w : World) (X : List Value) (y : PN.PD) : Prop := X = wD y
abbrev WRow (w : World) (B : Nat) (v : Value) (D : List PN.PD) : Prop := RowO 46 8 ElW w B v D
theorem WRow.fr {S : List Nat} {w w' : World} {B : Nat} {v : Value} {D : List PN.PD} (h : WRow w B v D) (f : Fr S w w') (hS : ∀ g, v.ownBlock = some g → g ∉ S) : WRow w' B v D := by
 obtain ⟨Xs, h1, h2⟩ := h
 exact ⟨Xs, h1, rowFr' h2 f hS⟩
theorem WRow.lies {w : World} {B : Nat} {v : Value} {D : List PN.PD} (h : WRow w B v D) {i : Nat} {y : PN.PD} (hy : D[i]? = some y) : ∃ g c, v = .slice (some ⟨g, 0, none⟩) D.length c ∧ g < w.heap.size ∧ LiesAt w g (i * 8) (wD y) := by
 obtain ⟨Xs, h1, h2⟩ := h
 have hi := (List.getElem?_eq_some_iff.1 hy).1
 have hX := List.getElem?_eq_getElem (l := Xs) (i := i) (by rw [h1.len]; exact hi)
 obtain ⟨g, off, c, hv, hg, hl⟩ := (RowV.of_own h2).at hi
 rw [flat_at h1.sz hX, h1.el i _ y hX hy] at hl
 rcases h2.2 with ⟨rfl, h0⟩ | ⟨g', cap, cur, rfl, _⟩
 ·omega
 ·simp only [Value.slice.injEq, Option.some.injEq, Addr.mk.injEq, and_true] at hv
  obtain ⟨⟨rfl, rfl⟩, _, rfl⟩ := hv
  rw [Nat.zero_add] at hl
  exact ⟨g', cap, rfl, hg, hl⟩
theorem WRow.set {w : World} {B g c n : Nat} {D : List PN.PD} (h : WRow w B (.slice (some ⟨g, 0, none⟩) n c) D) (hn : D.length = n) (j : Nat) (hj : j < n) (x : PN.PD) :
  ∃ w', (Instr.storeAt 46 (.pointer (some ⟨g, j * 8, none⟩)) (.agg (wD x).toArray)).run Tryz.prog w = .ok () w' ∧ WRow w' B (.slice (some ⟨g, 0, none⟩) n c) (D.set j x) ∧ Fr [g] w w' := by
 obtain ⟨Xs, h1, h2⟩ := h
 rw [hn] at h2
 obtain ⟨w', e1, e2, e3⟩ := own_store (t := 46) (k := j * 8) (wD x) (.agg (wD x).toArray) sizeD rfl rfl (wD_one x) h2 (by omega)
 refine ⟨w', e1, ⟨Xs.set j (wD x), h1.set j rfl (wD_one x) rfl, ?_⟩, e3⟩
 have hX := List.getElem?_eq_getElem (l := Xs) (i := j) (by rw [h1.len, hn]; exact hj)
 have hl : (Xs[j]'(by rw [h1.len, hn]; exact hj)).length = 8 := h1.sz _ (List.getElem_mem _)
 have hf := flat_set (vs := wD x) (a := 0) h1.sz hX (Nat.le_refl 8)
 rw [List.take_zero, List.nil_append, List.drop_of_length_le (by rw [hl]; exact Nat.le_refl 8), List.append_nil, Nat.add_zero] at hf
 rw [hf, List.length_set, hn]
 exact e2
theorem RefP.trans {W w w1 : World} {sL sC tL tC uL uC : Sli} {R0 R R' : PN.Net} (h : RefP W sL sC R0 R tL tC w) (k : RefP w tL tC R R' uL uC w1) (f : Fr [] w w1) (hle : W.heap.size ≤ w.heap.size) : RefP W sL sC R0 R' uL uC w1 := by
 rcases k with ⟨rfl, rfl, rfl⟩ | ⟨k1, k2⟩
 ·exact h.more f (fun z hz => by cases hz)
 ·exact .inr ⟨k1.mono (fun g hg => by omega), k2.mono (fun g hg => by omega)⟩
structure RefD (W : World) (v : Value) (B0 : Nat) (sL sC : Sli) (R0 : PN.Net) (b : Nat) (D : List PN.PD) (N R : PN.Net) (w : World) (tL tC : Sli) : Prop where
 row : WRow w B0 v D
 box : Blk w b 31 (two (slv tL) (slv tC))
 res : Blk w (b + 1) 31 zNt
 ref : RefP W sL sC R0 R tL tC w
 mt : PN.Match N R
 ok : PN.Ok N
 fr : Fr (b :: v.ownBlock.toList) W w
 ds : ∀ x ∈ D, x.s.size ≤ 1000000 ∧ addrB x.s.data.toList x.p = true ∧ x.c ≤ 4096
section
variable {W w w1 w2 w3 : World} {v : Value} {B0 b : Nat} {sL sC tL tC uL uC : Sli} {R0 R R' N : PN.Net} {D : List PN.PD}
theorem RefD.new (h : RefD W v B0 sL sC R0 b D N R w tL tC) (f : Fr [] w w1) : RefD W v B0 sL sC R0 b D N R w1 tL tC :=
 ⟨h.row.fr f (fun g _ => by simp), h.box.keep f (by simp), h.res.keep f (by simp), h.ref.more f (fun z hz => by cases hz), h.mt, h.ok, h.fr.trans f (fun x hx => by cases hx), h.ds⟩
theorem RefD.rows (h : RefD W v B0 sL sC R0 b D N R w tL tC) (hR : ∀ w', Fr (b :: v.ownBlock.toList) W w' → LRow w' (slv sL) R0.L ∧ CRow w' (slv sC) (R0.C.map emb)) : LRow w (slv tL) R.L ∧ CRow w (slv tC) (R.C.map emb) := by
 rcases h.ref with ⟨rfl, rfl, rfl⟩ | ⟨h1, h2⟩
 ·exact hR w h.fr
 ·exact ⟨h1.row, h2.1⟩
theorem RefD.step (h : RefD W v B0 sL sC R0 b D N R w tL tC) {now : Int} {j : Nat} {x : PN.PD} (hb : now ≤ 18446744073709551615) (hW : b + 2 ≤ W.heap.size) (hvW : ∀ g, v.ownBlock = some g → g < W.heap.size) (hx : D[j]? = some x)
  (f1 : Fr [] w w1) (ho : RefP w tL tC R (rTry now x R).2.1 uL uC w1) (f2 : Fr v.ownBlock.toList w1 w2) (hr : WRow w2 B0 v (D.set j (rTry now x R).1)) (f3 : Fr [b] w2 w3) (hbx : Blk w3 b 31 (two (slv uL) (slv uC))) :
  RefD W v B0 sL sC R0 b (D.set j (PN.tryD now x N).1) (PN.tryD now x N).2.1 (rTry now x R).2.1 w3 uL uC := by
 obtain ⟨m1, m2, m3⟩ := match_try h.mt h.ok.inv now x hb
 rw [m1] at hr
 have hvb : ∀ g, v.ownBlock = some g → g ≠ b ∧ g ≠ b + 1 := fun g hg => by
  obtain ⟨Xs, _, q⟩ := h.row
  exact ⟨fun he => blkNe h.box q (by decide) (by rw [← he]; exact hg), fun he => blkNe h.res q (by decide) (by rw [← he]; exact hg)⟩
 have hfs := h.fr.size
 refine ⟨hr.fr f3 (fun g hg hm => (hvb g hg).1 (by simpa using hm)), hbx, ?_, ?_, m2, PN.ok_try h.ok now x, ?_, fun y hy => ?_⟩
 ·refine ((h.res.keep f1 (by simp)).keep f2 (fun hm => ?_)).keep f3 (by simp)
  exact (hvb (b + 1) (by simpa using hm)).2 rfl
 ·refine ((h.ref.trans ho f1 hfs).more f2 (fun z hz => hvW z (by simpa using hz))).more f3 (fun z hz => ?_)
  rw [List.mem_singleton] at hz
  omega
 ·refine ((h.fr.trans f1 (fun x hx => by cases hx)).trans f2 (fun x hx _ => List.mem_cons_of_mem _ hx)).trans f3 (fun x hx _ => by rw [List.mem_singleton] at hx; rw [hx]; exact List.mem_cons_self)
 ·rcases List.mem_or_eq_of_mem_set hy with hy | rfl
  ·exact h.ds y hy
  ·obtain ⟨a1, a2, a3, _⟩ := PN.tryD_fix now x N
   have := h.ds x (List.mem_of_getElem? hx)
   rw [a1, a2, a3]
   exact this
end
structure RndQ (now : Int) (D : List PN.PD) (N0 : PN.Net) (j : Nat) (s : Int) (P : List PN.PD) (N : PN.Net) : Prop where
 s0 : 0 ≤ s ∧ s ≤ j
 len : P.length = j ∧ j ≤ D.length
 trs : ∀ (T : Int), (∀ x ∈ D, 0 ≤ x.tr ∧ x.tr ≤ T) → ∀ x ∈ P, 0 ≤ x.tr ∧ x.tr ≤ T + 1
 eq : PN.roundD now D N0 = (P ++ (PN.roundD now (D.drop j) N).1, (PN.roundD now (D.drop j) N).2.1, s + (PN.roundD now (D.drop j) N).2.2)
theorem RndQ.step {now : Int} {D : List PN.PD} {N0 N : PN.Net} {j : Nat} {s : Int} {P : List PN.PD} (h : RndQ now D N0 j s P N) {x : PN.PD} (hx : D[j]? = some x) :
  RndQ now D N0 (j + 1) (s + ((PN.tryD now x N).1.tr - x.tr)) (P ++ [(PN.tryD now x N).1]) (PN.tryD now x N).2.1 := by
 obtain ⟨hj, rfl⟩ := List.getElem?_eq_some_iff.1 hx
 have ht := tryD_tr now D[j] N
 refine ⟨by have := h.s0; omega, by have := h.len; simp; omega, fun T hT y hy => ?_, ?_⟩
 ·rcases List.mem_append.1 hy with hy | hy
  ·exact h.trs T hT y hy
  ·rw [List.mem_singleton] at hy
   subst hy
   have := hT D[j] (List.getElem_mem hj)
   omega
 ·rw [h.eq, List.drop_eq_getElem_cons hj]
  simp only [PN.roundD, List.append_assoc, List.singleton_append, Prod.mk.injEq, true_and]
  omega
theorem sts_snoc {P D : List PN.PD} {j : Nat} (hl : P.length = j) (x y : PN.PD) (hx : D[j]? = some x) : PN.sts (P ++ [y]) = PN.sts (D.take (j + 1)) ↔ PN.sts P = PN.sts (D.take j) ∧ y.st = x.st := by
 obtain ⟨hj, rfl⟩ := List.getElem?_eq_some_iff.1 hx
 unfold PN.sts
 rw [List.take_succ_eq_append_getElem hj, List.map_append, List.map_append]
 constructor
 ·intro h
  have := List.append_inj h (by simp; omega)
  exact ⟨this.1, by simpa using this.2⟩
 ·rintro ⟨h1, h2⟩
  rw [h1]
  simp [h2]
def AllOut (W : World) (v : Value) (B0 : Nat) (sL sC : Sli) (R0 : PN.Net) (A : List PN.PD × PN.Net × Int) (e : Ending) (w' : World) : Prop :=
 ∃ (tL tC : Sli) (R : PN.Net), e = .returned (.tuple #[.agg (two (slv tL) (slv tC)).toArray, .int .i64 A.2.2]) ∧ WRow w' B0 v A.1 ∧ PN.Match A.2.1 R ∧ PN.Ok A.2.1 ∧ RefP W sL sC R0 R tL tC w' ∧ Fr v.ownBlock.toList W w'
theorem refAll (a : Option Addr) (c7 : Nat) (B0 : Nat) (D0 : List PN.PD) (sL sC : Sli) (N0 R0 : PN.Net) (now : Int) (T0 : Int) (W : World) (hrow : WRow W B0 (.slice a D0.length c7) D0)
  (hR : ∀ w', Fr (W.heap.size :: (Value.slice a D0.length c7).ownBlock.toList) W w' → LRow w' (slv sL) R0.L ∧ CRow w' (slv sC) (R0.C.map emb)) (hm : PN.Match N0 R0) (hok : PN.Ok N0)
  (hd : ∀ x ∈ D0, x.s.size ≤ 1000000 ∧ addrB x.s.data.toList x.p = true ∧ x.c ≤ 4096) (ht : ∀ x ∈ D0, 0 ≤ x.tr ∧ x.tr ≤ T0) (hT : T0 ≤ 1000000) (hn : D0.length ≤ 1000) (hnow : now ≤ 18446744073709551615) :
  Calls Tryz.prog 23 #[.slice a D0.length c7, .agg #[slv sL, slv sC], .int .u64 now] W (AllOut W (.slice a D0.length c7) B0 sL sC R0 (PN.allD now (PN.trying D0 + 1) D0 N0)) := by
 obtain ⟨n, hnl⟩ : ∃ n, D0.length = n := ⟨_, rfl⟩
 rw [hnl] at hrow hR hn ⊢
 obtain ⟨B, hB⟩ : ∃ B, W.heap.size = B := ⟨_, rfl⟩
 obtain ⟨wA, hwA⟩ : ∃ z, (W.alloc (.cells #[slv sL, slv sC] 31)).alloc (.cells #[.slice none 0 0, .slice none 0 0] 31) = z := ⟨_, rfl⟩
 have f2 := (Fr.refl [] (W.alloc (.cells #[slv sL, slv sC] 31))).alloc (.cells #[.slice none 0 0, .slice none 0 0] 31)
 have hb0 : Blk wA B 31 (two (slv sL) (slv sC)) := by
  rw [← hwA, ← hB]
  exact (Blk.made W 31 (two (slv sL) (slv sC))).keep f2 (by simp)
 have hb1 : Blk wA (B + 1) 31 zNt := by
  have h := Blk.made (W.alloc (.cells #[slv sL, slv sC] 31)) 31 zNt
  rw [show (W.alloc (.cells #[slv sL, slv sC] 31)).heap.size = B + 1 from by rw [← hB]; simp] at h
  rw [← hwA]
  exact h
 have hf : Fr [] W wA := by rw [← hwA]; exact ((Fr.refl [] W).alloc _).step f2
 have hz : wA.heap.size = B + 2 := by rw [← hwA, ← hB]; simp
 have hvW : ∀ g, (Value.slice a n c7).ownBlock = some g → g < W.heap.size := fun g hg => by
  obtain ⟨Xs, _, q⟩ := hrow
  exact (q.lt g hg).2
 have HD0 : RefD wA (.slice a n c7) B0 sL sC R0 B D0 N0 R0 wA sL sC := ⟨hrow.fr hf (fun g _ => by simp), hb0, hb1, .inl ⟨rfl, rfl, rfl⟩, hm, hok, Fr.refl _ _, hd⟩
 have HD := Lib.hid HD0
 have HVW := Lib.hid (show ∀ g, (Value.slice a n c7).ownBlock = some g → g < wA.heap.size from fun g hg => Nat.lt_of_lt_of_le (hvW g hg) hf.size)
 have HVL := Lib.hid hvW
 have HRR := Lib.hid (show ∀ w', Fr (B :: (Value.slice a n c7).ownBlock.toList) wA w' → LRow w' (slv sL) R0.L ∧ CRow w' (slv sC) (R0.C.map emb) from fun w' f => hR w' (by rw [hB]; exact (hf.mono (T := B :: (Value.slice a n c7).ownBlock.toList) (fun x hx => by cases hx)).trans f (fun x hx _ => hx)))
 have HFA := Lib.hid hf
 have HBS := Lib.hid hB
 have HZ := Lib.hid hz
 have HWA := Lib.hid hwA
 have HN := Lib.hid hnl
 have HT := Lib.hid ht
 have htl : PN.trying D0 ≤ n := by rw [← hnl]; unfold PN.trying; exact List.length_filter_le _ _
 clear hb0 hb1 hf hB hwA f2 hz hvW HD0 hrow hR hm hok hd ht hnl
 obtain ⟨F0, hF0⟩ : ∃ k, PN.trying D0 + 1 = k := ⟨_, rfl⟩
 have hFb : F0 ≤ n + 1 := by omega
 have HF0 := Lib.hid (show PN.trying D0 < F0 from by omega)
 rw [hF0]
 obtain ⟨A0, hA0⟩ : ∃ A, PN.allD now F0 D0 N0 = A := ⟨_, rfl⟩
 rw [hA0]
 have HA0 := Lib.hid hA0
 clear hF0 hA0 htl
 go_enter Tryz.func23, Tryz.ntmps23
 go_wp2
 rw [HWA.out]
 simp only [HBS.out]
 go_loopg [8, 9] F0 (fun k m b wr => ∃ (T : Int) (bb : Bool) (D : List PN.PD) (N R : PN.Net) (tL tC : Sli), m = .int .i64 T ∧ b = .bool bb ∧ RefD wA (.slice a n c7) B0 sL sC R0 B D N R wr tL tC ∧ D.length = n ∧ k ≤ F0 ∧ (0 ≤ T ∧ T ≤ 1000 * ((F0 : Int) - k + 1)) ∧ (∀ x ∈ D, 0 ≤ x.tr ∧ x.tr ≤ T0 + ((F0 : Int) - k + 1)) ∧
   ((bb = true ∧ PN.trying D < k ∧ A0 = ((PN.allD now k D N).1, (PN.allD now k D N).2.1, T + (PN.allD now k D N).2.2) ∧ T ≤ 1000 * ((F0 : Int) - k) ∧ ∀ x ∈ D, x.tr ≤ T0 + ((F0 : Int) - k)) ∨ (bb = false ∧ A0 = (D, N, T))))
 case atStart => exact ⟨0, true, D0, N0, R0, sL, sC, rfl, rfl, HD.out, HN.out, Nat.le_refl _, ⟨Int.le_refl _, by omega⟩, (fun x hx => by have := HT.out x hx; omega), .inl ⟨rfl, HF0.out, by rw [HA0.out]; simp, by omega, fun x hx => by have := HT.out x hx; omega⟩⟩
 case round =>
  obtain ⟨T, bb, D, N, R, tL, tC, rfl, rfl, hS, hDl, hk, hTb, htr, hor⟩ := hrel
  have HS := Lib.hid hS
  have HOR := Lib.hid hor
  have HTR := Lib.hid htr
  have HDL := Lib.hid hDl
  have HTB := Lib.hid hTb
  clear hS hor htr hDl hTb
  cases bb with
  | false =>
   have HE := Lib.hid (show A0 = (D, N, T) from by
    rcases HOR.out with h | h
    ·exact absurd h.1 (by decide)
    ·exact h.2)
   clear HOR
   go_upto_region 13 with fail
   refine wp_region_lit ?_
   refine ldZ (load_all agg34 size34 (xs := two (slv tL) (slv tC)) rfl HS.out.box.at) ?_
   refine wpList_plain rfl (fun K hK => ?_); go_simp; refine hK _ _ ?_; clear hK K
   try simp only [Act.put, nrZ]
   obtain ⟨w9, hst, hb_, hf_⟩ := store_all (t := 31) (two (slv tL) (slv tC)) size34 rfl (two_one _ _) HS.out.res rfl
   refine stZ hst ?_
   clear hst
   refine wpList_plain rfl (fun K hK => ?_); go_simp; refine hK _ _ ?_; clear hK K
   refine wpList_nil ?_
   try simp only [Act.put, nrZ]
   have HR9 := Lib.hid hb_
   have HF9 := Lib.hid hf_
   clear hb_ hf_
   go_wp2
   have hl := load_var agg34 size34 (xs := two (slv tL) (slv tC)) rfl HR9.out.at
   refine bodyPost_ret (v := .tuple #[.agg (two (slv tL) (slv tC)).toArray, .int .i64 T]) (by simp [results, Tryz.results23, as_addr, hl]) rfl ?_
   rw [HE.out]
   have hb1 : ∀ g, (Value.slice a n c7).ownBlock = some g → g ∉ [B + 1] := fun g hg hm => by
    have := HVL.out g hg
    have := HBS.out
    rw [List.mem_singleton] at hm
    omega
   refine ⟨tL, tC, R, rfl, HS.out.row.fr HF9.out hb1, HS.out.mt, HS.out.ok, (HS.out.ref.more HF9.out (fun z hz => by rw [List.mem_singleton] at hz; have := HZ.out; omega)).base HFA.out.size, ?_⟩
   refine (((HFA.out.mono (T := (Value.slice a n c7).ownBlock.toList) (fun x hx => by cases hx)).trans HS.out.fr (fun x hx hl => ?_))).trans HF9.out (fun x hx hl => by rw [List.mem_singleton] at hx; have := HBS.out; omega)
   rcases List.mem_cons.1 hx with rfl | hx
   ·have := HBS.out
    omega
   ·exact hx
  | true =>
   obtain ⟨hlt0, hA, hT1, htr1⟩ : PN.trying D < gk ∧ A0 = ((PN.allD now gk D N).1, (PN.allD now gk D N).2.1, T + (PN.allD now gk D N).2.2) ∧ T ≤ 1000 * ((F0 : Int) - gk) ∧ ∀ x ∈ D, x.tr ≤ T0 + ((F0 : Int) - gk) := by
    rcases HOR.out with h | h
    ·exact h.2
    ·exact absurd h.1 (by decide)
   obtain ⟨k, rfl⟩ : ∃ k, gk = k + 1 := ⟨gk - 1, by omega⟩
   have HA := Lib.hid hA
   have HTR1 := Lib.hid htr1
   have HLT := Lib.hid hlt0
   clear HOR hA htr1 hlt0
   go_wp2_with fail
   go_loopw [8, 9, 10] (fun m b i ww => ∃ (s : Int) (bb : Bool) (j : Nat) (P : List PN.PD) (N' R' : PN.Net) (uL uC : Sli), m = .int .i64 (T + s) ∧ b = .bool bb ∧ i = .int .i64 j ∧ j ≤ n ∧ RefD wA (.slice a n c7) B0 sL sC R0 B (P ++ D.drop j) N' R' ww uL uC ∧ RndQ now D N j s P N' ∧ (bb = false ↔ PN.sts P = PN.sts (D.take j))) (fun _ _ i _ => n - (intOf i).toNat)
   case atStart => exact ⟨0, false, 0, [], N, R, tL, tC, by simp, rfl, rfl, by omega, by simpa using HS.out, ⟨by omega, ⟨rfl, by omega⟩, (fun T hT x hx => by cases hx), by simp⟩, by simp [PN.sts]⟩
   case round =>
    obtain ⟨s, bb, j, P, N1, R1, uL, uC, rfl, rfl, rfl, hj, hS1, hq, hbb⟩ := hrel
    have HS1 := Lib.hid hS1
    have HQ := Lib.hid hq
    have HBB := Lib.hid hbb
    have hs0 := hq.s0
    have hPl := hq.len.1
    clear hS1 hq hbb
    by_cases hlt : j < n
    ·have hlt' : (j : Int) < (n : Int) := by omega
     have hj0 : (0 : Int) ≤ (j : Int) := by omega
     have hx := List.getElem?_eq_getElem (l := D) (i := j) (by rw [HDL.out]; exact hlt)
     obtain ⟨x, hxe⟩ : ∃ x, D[j]'(by rw [HDL.out]; exact hlt) = x := ⟨_, rfl⟩
     rw [hxe] at hx
     have hdr : D.drop j = x :: D.drop (j + 1) := by rw [List.drop_eq_getElem_cons (by rw [HDL.out]; exact hlt), hxe]
     obtain ⟨E, hE⟩ : ∃ E, P ++ D.drop j = E := ⟨_, rfl⟩
     rw [hE] at HS1
     have hxE : E[j]? = some x := by rw [← hE, List.getElem?_append_right (by omega), hPl, Nat.sub_self, hdr]; rfl
     have hEl : E.length = n := by rw [← hE, List.length_append, List.length_drop, HDL.out]; omega
     have hset : ∀ y, E.set j y = (P ++ [y]) ++ D.drop (j + 1) := fun y => by
      rw [← hE, hdr, List.set_append, if_neg (by omega), hPl, Nat.sub_self, List.set_cons_zero, List.append_assoc]
      rfl
     have htx := HTR1.out x (List.mem_of_getElem? hx)
     have htx0 := (HTR.out x (List.mem_of_getElem? hx)).1
     have hdx := HS1.out.ds x (List.mem_of_getElem? hxE)
     obtain ⟨g, cc, hv, hg, hl⟩ := HS1.out.row.lies hxE
     rw [hEl] at hv
     simp only [Value.slice.injEq] at hv
     obtain ⟨rfl, _, rfl⟩ := hv
     have HLX := Lib.hid hl
     have HXE := Lib.hid hxE
     have HX := Lib.hid hx
     have HEL := Lib.hid hEl
     have HSET := Lib.hid hset
     have HEE := Lib.hid hE
     have HDR := Lib.hid hdr
     clear hx hxe hE hxE hEl hset hg hl hdr
     have c4 : wr.cell? ⟨g, j * 8 + 3 + 1, none⟩ = some (.int .i64 x.st) := HLX.out 4 _ rfl
     have c4' : wr.cell? ⟨g, j * 8 + 4, none⟩ = some (.int .i64 x.st) := HLX.out 4 _ rfl
     by_cases h0 : x.st ≠ 0
     ·have d0 : (x.st == 0) = false := beq_eq_false_iff_ne.2 h0
      have d1 : decide (x.st = 0) = false := decide_eq_false h0
      have HH := Lib.hid h0
      clear h0
      go_wp2
      go_roundw
      case rel =>
       have hq' := HQ.out.step HX.out
       rw [PN.tryD_done HH.out] at hq'
       have hz : s + (x.tr - x.tr) = s := by omega
       rw [hz] at hq'
       refine ⟨s, bb, j + 1, P ++ [x], N1, R1, uL, uC, rfl, rfl, by go_num, by omega, ?_, hq', ?_⟩
       ·have hE : (P ++ [x]) ++ D.drop (j + 1) = E := by
         rw [← HEE.out, HDR.out, List.append_assoc]
         rfl
        rw [hE]
        exact HS1.out
       ·rw [HBB.out, sts_snoc hPl x x HX.out]
        simp
      case measure => simp [intOf]; omega
     ·have h0' : x.st = 0 := by omega
      have d0 : (x.st == 0) = true := beq_iff_eq.2 h0'
      have d1 : decide (x.st = 0) = true := decide_eq_true h0'
      have HH := Lib.hid h0'
      clear h0 h0'
      go_upto_region 9 with fail
      refine wp_region_lit ?_
      iterate 3 (refine wpList_plain rfl (fun K hK => ?_); go_simp; refine hK _ _ ?_; clear hK K)
      try simp only [Act.put, nrZ]
      refine ldZ (load_all aggD sizeD (xs := wD x) rfl HLX.out) ?_
      refine wpList_plain rfl (fun K hK => ?_); go_simp; refine hK _ _ ?_; clear hK K
      try simp only [Act.put, nrZ]
      clear c4 c4' d0 d1
      obtain ⟨E5, hE_⟩ : ∃ E, wr.heap.size = E := ⟨_, rfl⟩
      obtain ⟨w5, hw_⟩ : ∃ z, wr.alloc (.cells wDz.toArray 46) = z := ⟨_, rfl⟩
      have hbx : Blk w5 E5 46 wDz := by rw [← hw_, ← hE_]; exact Blk.made wr 46 wDz
      have fx : Fr [] wr w5 := by rw [← hw_]; exact (Fr.refl [] wr).alloc _
      simp only [show (World.alloc wr (.cells #[.string ⟨#[]⟩, .int .i64 0, .int .i64 0, .int .u64 0, .int .i64 0, .int .i64 0, .int .i64 0, .int .i64 0] 46)) = w5 from hw_, hE_]
      have HX5 := Lib.hid hbx
      have HF5 := Lib.hid fx
      have HE5 := Lib.hid hE_
      clear hbx fx hw_ hE_
      obtain ⟨w6, hst, hb_, hf_⟩ := store_all (t := 46) (wD x) sizeD rfl (wD_one _) HX5.out rfl
      refine stZ hst ?_
      clear hst
      refine wpList_nil ?_
      try simp only [Act.put, nrZ]
      have HX6 := Lib.hid hb_
      have HF6 := Lib.hid (HF5.out.own1 (S := []) (B := 0) hf_ (by have := HE5.out; omega))
      have HS6 := Lib.hid (HS1.out.new HF6.out)
      have HL6 := Lib.hid (HLX.out.keep HF6.out (by simp))
      have HGE := Lib.hid (show g < E5 ∧ B + 2 ≤ E5 ∧ g ≠ B from by
       have h1 := cell_lt (HLX.out 0 _ rfl)
       have h2 := HS1.out.fr.size
       have h3 := HE5.out
       have h4 := HZ.out
       have h5 := HVL.out g rfl
       have h6 := HBS.out
       omega)
      clear hb_ hf_ HX5 HF5 HLX
      obtain ⟨x', hx'⟩ : ∃ y, (PN.tryD now x N1).1 = y := ⟨_, rfl⟩
      obtain ⟨N2, hN2⟩ : ∃ y, (PN.tryD now x N1).2.1 = y := ⟨_, rfl⟩
      have HX' := Lib.hid hx'
      have HN2 := Lib.hid hN2
      clear hx' hN2
      go_upto_region 10 with fail
      obtain ⟨w7, hw7⟩ : ∃ z, w6.drew = z := ⟨_, rfl⟩
      have f7 : Fr [] w6 w7 := by rw [← hw7]; exact (Fr.refl [] w6).drew
      have HS7 := Lib.hid (HS6.out.new f7)
      have HL7 := Lib.hid (HL6.out.keep f7 (by simp))
      have HX7 := Lib.hid (HX6.out.keep f7 (by simp))
      have HW7 := Lib.hid hw7
      clear f7 hw7 HS6 HL6 HX6
      go_cut [] from 29 to 43 (fun wc => ∃ (R2 : PN.Net) (vL vC : Sli), RefD wA (.slice (some ⟨g, 0, none⟩) n c7) B0 sL sC R0 B (E.set j x') N2 R2 wc vL vC ∧ Blk wc E5 46 (wD x))
      case first =>
       refine wp_region_held_drew (S := fun _ => True) (by kernel_rfl) (trivial) (fun hHeld => ?_)
       clear hHeld
       rw [HW7.out]
       refine tkZ 0 ?_
       refine tkZ 1 ?_
       refine tkZ 2 ?_
       refine tkZ 3 ?_
       refine tkZ 4 ?_
       refine tkZ 7 ?_
       refine wpAnyH_ready (rs := [5, 6]) (by kernel_rfl) (by simp) ?_
       refine AllReadyH.cons (o := _) rfl (fun K hK => ?_) (AllReadyH.cons (o := _) rfl (fun K hK => ?_) AllReadyH.nil)
       ·skip
        split
        rotate_left
        ·rename_i hno
         exact absurd rfl hno
        refine ldY (load_all aggD sizeD (xs := wD x) rfl HL7.out) ?_
        refine hK.out _ _ (trivial) (fun hHeld => ?_)
        clear hK K
        clear hHeld
        try simp only [Act.put, nrZ]
        refine rdZ 6 (fun K hK => ?_)
        split
        rotate_left
        ·rename_i hno
         exact absurd rfl hno
        refine ldY (load_all agg34 size34 (xs := two (slv uL) (slv uC)) rfl HS7.out.box.at) ?_
        refine hK.out _ _ (trivial) (fun hHeld => ?_)
        clear hK K
        clear hHeld
        try simp only [Act.put, nrZ]
        refine rdZ 8 (fun K hK => ?_)
        go_simp
        refine (refTry x uL uC R1 now _ (HS7.out.rows HRR.out).1 (HS7.out.rows HRR.out).2 (ok_fit HS7.out.mt HS7.out.ok) hdx.1 hdx.2.1 hdx.2.2 (by omega)).mono ?_
        obtain ⟨y, hy⟩ : ∃ y, rTry now x R1 = y := ⟨_, rfl⟩
        rw [hy]
        have HYY := Lib.hid hy
        clear hy
        rintro e w8 ⟨vL, vC, rfl, f8, ho⟩
        have HF8 := Lib.hid f8
        have HO8 := Lib.hid ho
        clear f8 ho
        refine hK.out _ _ (trivial) (fun hHeld => ?_)
        clear hK K
        clear hHeld
        try simp only [Act.put, nrZ]
        refine tkZ 9 ?_
        refine tkZ 10 ?_
        refine tkZ 11 ?_
        refine tkZ 12 ?_
        refine tkZ 13 ?_
        refine tkZ 14 ?_
        refine rdZ 15 (fun K hK => ?_)
        have hrow8 := HS7.out.row.fr HF8.out (fun g _ => by simp)
        obtain ⟨w9, hst, hr_, hf_⟩ := hrow8.set HEL.out j hlt y.1
        split
        rotate_left
        ·rename_i hno
         exact absurd rfl hno
        refine stY hst ?_
        clear hst hrow8
        have HR9 := Lib.hid hr_
        have HF9 := Lib.hid hf_
        clear hr_ hf_
        refine hK.out _ _ (trivial) (fun hHeld => ?_)
        clear hK K
        clear hHeld
        try simp only [Act.put, nrZ]
        refine rdZ 16 (fun K hK => ?_)
        obtain ⟨w10, hst, hb_, hf_⟩ := store_all (t := 31) (two (slv vL) (slv vC)) size34 rfl (two_one _ _) ((HS7.out.box.keep HF8.out (by simp)).keep HF9.out (by rw [List.mem_singleton]; have := HGE.out; omega)) rfl
        split
        rotate_left
        ·rename_i hno
         exact absurd rfl hno
        refine stY hst ?_
        clear hst
        have hst := HS7.out.step (now := now) (j := j) (x := x) (uL := vL) (uC := vC) hnow (by have := HZ.out; omega) HVW.out HXE.out HF8.out (by rw [HYY.out]; exact HO8.out) HF9.out (by rw [HYY.out]; exact HR9.out) hf_ hb_
        rw [HX'.out, HN2.out] at hst
        have HST := Lib.hid hst
        have HX10 := Lib.hid (((HX7.out.keep HF8.out (by simp)).keep HF9.out (by rw [List.mem_singleton]; have := HGE.out; omega)).keep hf_ (by rw [List.mem_singleton]; have := HGE.out; omega))
        clear hst hb_ hf_
        refine hK.out _ _ (trivial) (fun hHeld => ?_)
        clear hK K
        clear hHeld
        try simp only [Act.put, nrZ]
        refine wpAnyH_done (by kernel_rfl) ?_ _
        go_wp2
        go_meet
        case rel => exact ⟨_, vL, vC, HST.out, HX10.out⟩
       ·skip
        split
        rotate_left
        ·rename_i hno
         exact absurd rfl hno
        refine ldY (load_all agg34 size34 (xs := two (slv uL) (slv uC)) rfl HS7.out.box.at) ?_
        refine hK.out _ _ (trivial) (fun hHeld => ?_)
        clear hK K
        clear hHeld
        try simp only [Act.put, nrZ]
        refine rdZ 5 (fun K hK => ?_)
        split
        rotate_left
        ·rename_i hno
         exact absurd rfl hno
        refine ldY (load_all aggD sizeD (xs := wD x) rfl HL7.out) ?_
        refine hK.out _ _ (trivial) (fun hHeld => ?_)
        clear hK K
        clear hHeld
        try simp only [Act.put, nrZ]
        refine rdZ 8 (fun K hK => ?_)
        go_simp
        refine (refTry x uL uC R1 now _ (HS7.out.rows HRR.out).1 (HS7.out.rows HRR.out).2 (ok_fit HS7.out.mt HS7.out.ok) hdx.1 hdx.2.1 hdx.2.2 (by omega)).mono ?_
        obtain ⟨y, hy⟩ : ∃ y, rTry now x R1 = y := ⟨_, rfl⟩
        rw [hy]
        have HYY := Lib.hid hy
        clear hy
        rintro e w8 ⟨vL, vC, rfl, f8, ho⟩
        have HF8 := Lib.hid f8
        have HO8 := Lib.hid ho
        clear f8 ho
        refine hK.out _ _ (trivial) (fun hHeld => ?_)
        clear hK K
        clear hHeld
        try simp only [Act.put, nrZ]
        refine tkZ 9 ?_
        refine tkZ 10 ?_
        refine tkZ 11 ?_
        refine tkZ 12 ?_
        refine tkZ 13 ?_
        refine tkZ 14 ?_
        refine rdZ 15 (fun K hK => ?_)
        have hrow8 := HS7.out.row.fr HF8.out (fun g _ => by simp)
        obtain ⟨w9, hst, hr_, hf_⟩ := hrow8.set HEL.out j hlt y.1
        split
        rotate_left
        ·rename_i hno
         exact absurd rfl hno
        refine stY hst ?_
        clear hst hrow8
        have HR9 := Lib.hid hr_
        have HF9 := Lib.hid hf_
        clear hr_ hf_
        refine hK.out _ _ (trivial) (fun hHeld => ?_)
        clear hK K
        clear hHeld
        try simp only [Act.put, nrZ]
        refine rdZ 16 (fun K hK => ?_)
        obtain ⟨w10, hst, hb_, hf_⟩ := store_all (t := 31) (two (slv vL) (slv vC)) size34 rfl (two_one _ _) ((HS7.out.box.keep HF8.out (by simp)).keep HF9.out (by rw [List.mem_singleton]; have := HGE.out; omega)) rfl
        split
        rotate_left
        ·rename_i hno
         exact absurd rfl hno
        refine stY hst ?_
        clear hst
        have hst := HS7.out.step (now := now) (j := j) (x := x) (uL := vL) (uC := vC) hnow (by have := HZ.out; omega) HVW.out HXE.out HF8.out (by rw [HYY.out]; exact HO8.out) HF9.out (by rw [HYY.out]; exact HR9.out) hf_ hb_
        rw [HX'.out, HN2.out] at hst
        have HST := Lib.hid hst
        have HX10 := Lib.hid (((HX7.out.keep HF8.out (by simp)).keep HF9.out (by rw [List.mem_singleton]; have := HGE.out; omega)).keep hf_ (by rw [List.mem_singleton]; have := HGE.out; omega))
        clear hst hb_ hf_
        refine hK.out _ _ (trivial) (fun hHeld => ?_)
        clear hK K
        clear hHeld
        try simp only [Act.put, nrZ]
        refine wpAnyH_done (by kernel_rfl) ?_ _
        go_wp2
        go_meet
        case rel => exact ⟨_, vL, vC, HST.out, HX10.out⟩
      case rest =>
       obtain ⟨R2, vL, vC, hc1, hc2⟩ := hcut
       obtain ⟨w8, hw8⟩ : ∃ z, wc = z := ⟨_, rfl⟩
       rw [hw8] at hc1 hc2 ⊢
       clear hw8 HS7 HL7 HX7 HW7
       have HS8 := Lib.hid hc1
       have HX8 := Lib.hid hc2
       clear hc1 hc2
       have hxE' : (E.set j x')[j]? = some x' := by rw [List.getElem?_set_self (by rw [HEL.out]; exact hlt)]
       obtain ⟨g', cc', hv', _, hl8⟩ := HS8.out.row.lies hxE'
       simp only [Value.slice.injEq, Option.some.injEq, Addr.mk.injEq, and_true] at hv'
       obtain ⟨rfl, z1, z2⟩ := hv'
       clear z1 z2
       have HL8 := Lib.hid hl8
       clear hl8 hxE'
       obtain ⟨htt1, htt2⟩ := tryD_tr now x N1
       rw [HX'.out] at htt1 htt2
       have hw1 : IntKind.i64.wrap (T + s + x'.tr) = T + s + x'.tr := IntWalk.i64_in _ (by have := HTB.out; omega)
       have hw2 : IntKind.i64.wrap (T + s + x'.tr - x.tr) = T + s + x'.tr - x.tr := IntWalk.i64_in _ (by have := HTB.out; omega)
       go_upto_region 11 with fail
       obtain ⟨w9, hw9⟩ : ∃ z, w8.drew = z := ⟨_, rfl⟩
       have f9 : Fr [] w8 w9 := by rw [← hw9]; exact (Fr.refl [] w8).drew
       have HS9 := Lib.hid (HS8.out.new f9)
       have HL9 := Lib.hid (HL8.out.keep f9 (by simp))
       have HX9 := Lib.hid (HX8.out.keep f9 (by simp))
       have HW9 := Lib.hid hw9
       clear f9 hw9 HS8 HL8 HX8
       refine wp_region_held_drew (S := fun w' => w'.cell? ⟨g, j * 8 + 7, none⟩ = some (.int .i64 x'.tr) ∧ w'.cell? ⟨E5, 7, none⟩ = some (.int .i64 x.tr)) (by kernel_rfl) (by rw [HW9.out]; exact ⟨HL9.out 7 _ rfl, HX9.out.at 7 _ rfl⟩) (fun hHeld => ?_)
       rw [HW9.out] at hHeld ⊢
       refine tkZ 0 ?_
       refine tkZ 1 ?_
       refine tkZ 2 ?_
       refine tkZ 3 ?_
       refine tkZ 4 ?_
       refine tkZ 5 ?_
       refine tkZ 6 ?_
       refine tkZ 7 ?_
       refine tkZ 8 ?_
       refine tkZ 9 ?_
       refine tkZ 10 ?_
       refine wpAnyH_done (by kernel_rfl) ?_ _
       clear hHeld
       have c4 : w9.cell? ⟨g, j * 8 + 3 + 1, none⟩ = some (.int .i64 x'.st) := HL9.out 4 _ rfl
       have c4' : w9.cell? ⟨g, j * 8 + 4, none⟩ = some (.int .i64 x'.st) := HL9.out 4 _ rfl
       have hrel : ∀ (b2 : Bool), (b2 = false ↔ bb = false ∧ x'.st = 0) → ∃ (s' : Int) (b3 : Bool) (j' : Nat) (P' : List PN.PD) (N' R' : PN.Net) (vL' vC' : Sli), Value.int .i64 (T + s + x'.tr - x.tr) = .int .i64 (T + s') ∧ Value.bool b2 = .bool b3 ∧ Value.int .i64 ((j : Int) + 1) = .int .i64 j' ∧ j' ≤ n ∧ RefD wA (.slice (some ⟨g, 0, none⟩) n c7) B0 sL sC R0 B (P' ++ D.drop j') N' R' w9 vL' vC' ∧ RndQ now D N j' s' P' N' ∧ (b3 = false ↔ PN.sts P' = PN.sts (D.take j')) := fun b2 hb2 => by
        have hq' := HQ.out.step HX.out
        rw [HX'.out, HN2.out] at hq'
        refine ⟨s + (x'.tr - x.tr), b2, j + 1, P ++ [x'], N2, R2, vL, vC, by congr 1; omega, rfl, rfl, by omega, ?_, hq', ?_⟩
        ·rw [← HSET.out x']
         exact HS9.out
        ·rw [hb2, HBB.out, sts_snoc hPl x x' HX.out, HH.out]
       have HREL := Lib.hid hrel
       clear hrel
       cases bb with
       | true =>
        go_wp2
        go_roundw
        case rel => exact HREL.out true (by simp)
        case measure => simp [intOf]; omega
       | false =>
        go_wp2
        go_roundw
        case rel => exact HREL.out (x'.st != 0) (by simp)
        case measure => simp [intOf]; omega
    ·have hjn : j = n := by omega
     subst hjn
     have HQE := Lib.hid (show PN.roundD now D N = (P, N1, s) from by
      have h := HQ.out.eq
      rw [List.drop_of_length_le (by rw [HDL.out]; exact Nat.le_refl _)] at h
      rw [h]
      simp [PN.roundD])
     have HSP := Lib.hid (show RefD wA (.slice a j c7) B0 sL sC R0 B P N1 R1 wr uL uC from by
      have h := HS1.out
      rw [List.drop_of_length_le (by rw [HDL.out]; exact Nat.le_refl _), List.append_nil] at h
      exact h)
     have HBE := Lib.hid (show bb = false ↔ PN.sts P = PN.sts D from by
      rw [HBB.out, List.take_of_length_le (by rw [HDL.out]; exact Nat.le_refl _)])
     have HPT := Lib.hid (show ∀ x ∈ P, 0 ≤ x.tr ∧ x.tr ≤ T0 + ((F0 : Int) - (k + 1)) + 1 from HQ.out.trs _ (fun x hx => ⟨(HTR.out x hx).1, by have := HTR1.out x hx; push_cast at this ⊢; exact this⟩))
     clear HS1 HBB
     go_wp2
     go_roundg k
     case measure => omega
     case rel =>
      refine ⟨T + s, bb, P, N1, R1, uL, uC, rfl, rfl, HSP.out, hPl, by omega, ⟨by have := HTB.out; omega, by push_cast at hT1; omega⟩, fun x hx => by have := HPT.out x hx; omega, ?_⟩
      cases bb with
      | true =>
       have hne : PN.sts P ≠ PN.sts D := fun h => absurd (HBE.out.2 h) (by decide)
       refine .inl ⟨rfl, ?_, ?_, by push_cast at hT1; omega, fun x hx => by have := (HPT.out x hx).2; omega⟩
       ·have h1 := (PN.round_trying (now := now) D N).2
        rw [HQE.out] at h1
        have h2 : PN.trying P < PN.trying D := h1 hne
        have := HLT.out
        omega
       ·rw [HA.out, PN.allD, HQE.out, if_neg hne]
        simp only [Prod.mk.injEq, true_and]
        omega
      | false =>
       refine .inr ⟨rfl, ?_⟩
       rw [HA.out, PN.allD, HQE.out, if_pos (HBE.out.1 rfl)]
end Go.Proofs.YtgbmenfmaphciaaGreat
