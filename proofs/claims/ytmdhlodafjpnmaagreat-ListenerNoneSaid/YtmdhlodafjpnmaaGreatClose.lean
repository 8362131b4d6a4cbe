/- Hang of a connection's end 1 over a net in memory. -/
import Derived.Test.YtmdhlodafjpnmaaGreatAccept
import Derived.Test.YtmdhlodafjpnmaaGreatHang2
namespace Go.Proofs.YtmdhlodafjpnmaaGreat
open Go.RowKit
open Go.Maps (Keyed)
set_option linter.unusedVariables false
set_option maxRecDepth 100000
set_option maxHeartbeats 4000000

/-- What hanging the end 1 makes of a list of connections, at one place. -/
def hangAt (C1 C2 : List CB) (y : CB) : List CB := if y.a0 then C1 ++ C2 else C1 ++ { y with a1 := true } :: C2
theorem cmap_one {C1 C2 : List CB} {y : CB} (h : ((C1 ++ y :: C2).map (·.ref)).Nodup) : (∀ z ∈ C1, z.ref ≠ y.ref) ∧ (∀ z ∈ C2, z.ref ≠ y.ref) := by
  simp only [List.map_append, List.map_cons, List.nodup_append, List.nodup_cons] at h
  obtain ⟨_, ⟨h2, _⟩, h3⟩ := h
  refine ⟨fun z hz he => ?_, fun z hz he => h2 (by rw [← he]; exact List.mem_map.2 ⟨z, hz, rfl⟩)⟩
  exact h3 _ (List.mem_map.2 ⟨z, hz, rfl⟩) _ List.mem_cons_self he
theorem hang_plain {C1 C2 : List CB} {y : CB} (h : ((C1 ++ y :: C2).map (·.ref)).Nodup) (ho : ∀ z ∈ C1 ++ y :: C2, (z.a0 && z.a1) = false) :
    PN.hang ((C1 ++ y :: C2).map CB.pc) y.ref true = (hangAt C1 C2 y).map CB.pc := by
  obtain ⟨h1, h2⟩ := cmap_one h
  have same : ∀ D : List CB, (∀ z ∈ D, z.ref ≠ y.ref) → (∀ z ∈ D, (z.a0 && z.a1) = false) → (((D.map CB.pc).map fun z => if (z.ref : Int) = y.ref then PN.shutC z true else z).filter fun z => !(z.a0 && z.a1)) = D.map CB.pc := fun D hd hod => by
    rw [show ((D.map CB.pc).map fun z => if (z.ref : Int) = y.ref then PN.shutC z true else z) = D.map CB.pc by
      rw [List.map_map]
      refine List.map_congr_left fun z hz => ?_
      have := hd z hz
      show (if ((z.pc).ref : Int) = y.ref then PN.shutC z.pc true else z.pc) = z.pc
      exact if_neg (fun he => this (by have e : z.pc.ref = z.ref := rfl; omega))]
    refine List.filter_eq_self.2 fun z hz => ?_
    obtain ⟨z', hz', rfl⟩ := List.mem_map.1 hz
    simp [CB.pc, hod z' hz']
  unfold PN.hang hangAt
  rw [List.map_append, List.map_append, List.filter_append, same C1 h1 (fun z hz => ho z (by simp [hz]))]
  rw [List.map_cons, List.map_cons, List.filter_cons, same C2 h2 (fun z hz => ho z (by simp [hz]))]
  cases hy : y.a0 <;> simp [CB.pc, PN.shutC, hy]

theorem qs_ne {L : List LB} {C1 C2 : List CB} {y : CB} {k : Int} (hk : ∃ z ∈ C1 ++ y :: C2, (z.ref : Int) = k ∧ z.a1 = false) (hne : k ≠ y.ref) : ∃ z ∈ hangAt C1 C2 y, (z.ref : Int) = k ∧ z.a1 = false := by
  obtain ⟨z, hz, h1, h2⟩ := hk
  refine ⟨z, ?_, h1, h2⟩
  simp only [List.mem_append, List.mem_cons] at hz
  unfold hangAt
  split
  · rcases hz with hz | rfl | hz
    · simp [hz]
    · exact absurd h1.symm hne
    · simp [hz]
  · rcases hz with hz | rfl | hz
    · simp [hz]
    · exact absurd h1.symm hne
    · simp [hz]

theorem hang_w {own : Nat → Nat} {B : NB} {L : List LB} {C1 C2 : List CB} {y : CB} {G : Nat} (w : World) (h : NetW w own B L (C1 ++ y :: C2) G) (hy : y.a1 = false) (hq : (y.ref : Int) ∉ qs L) :
    Calls Tryz.prog 57 #[.pointer (some ⟨B.n, 0, none⟩), .int .i64 y.ref, .int .i64 1] w fun e w' => e = .returned (.int .i64 0) ∧ NetW w' (ownNew w own (4 * y.ref + 1)) B L (hangAt C1 C2 y) G ∧ FrO own (fun c => c = 0 ∨ c = 4 * y.ref + 1) w w' := by
  have hc := h.cs y (by simp)
  obtain ⟨o1, o2, o3, o4, o5⟩ := h.on
  have hm := h.net.cs
  rw [List.map_append, List.map_cons] at hm
  have hd := hc.dup
  rw [hy] at hd
  refine (hang_open1 w h.net.c2 hm hd (by simp only [o1]; omega) (by simp only [o5]; omega)).mono ?_
  rintro e w' ⟨rfl, m', d', S, hf, hS⟩
  have hE := Ext.new w own (4 * y.ref + 1)
  have hSo : ∀ z ∈ S, own z = 0 ∨ own z = 4 * y.ref + 1 := fun z hz => (hS z hz).elim .inr (fun hz => .inl (by rw [hz]; exact o5))
  obtain ⟨g1, g2⟩ := cmap_one h.crefs
  have hN : NetIs w B.n B.r B.m B.lm B.cm (L.map LB.nm) (L.map LB.ent) ((C1 ++ y :: C2).map CB.ent) := h.net
  have nS : ∀ x, own x = 0 → x ≠ B.cm → x ∉ S := fun x hx hne hm => (hS x hm).elim (fun h => by rw [h] at hx; omega) (fun h => hne h)
  obtain ⟨e1, e2, e3, e4, e5, e6, e7, e8, e9⟩ := hN.ne
  have keepC : ∀ z, z ∈ C1 ∨ z ∈ C2 → ConnW w' (ownNew w own (4 * y.ref + 1)) z := fun z hz => by
    have hne : z.ref ≠ y.ref := by rcases hz with hz | hz; exact g1 z hz; exact g2 z hz
    refine ((h.cs z (by rcases hz with hz | hz <;> simp [hz])).ext hE).keep hf (fun x hx he => ?_)
    by_cases hlx : x < w.heap.size
    · rw [hE x hlx] at he
      rcases hSo x hx with h0 | h0 <;> omega
    · rw [ownNew_ge (by omega)] at he
      omega
  refine ⟨rfl, ?_, FrO.of hf hSo⟩
  have hsub : List.Sublist ((hangAt C1 C2 y).map (·.ref)) ((C1 ++ y :: C2).map (·.ref)) := by
    unfold hangAt
    split
    · simp only [List.map_append, List.map_cons]
      exact List.Sublist.append (List.Sublist.refl _) (List.sublist_cons_self _ _)
    · simp only [List.map_append, List.map_cons]
      exact List.Sublist.refl _
  refine ⟨?_, ⟨(hE _ (cell_lt h.net.c0)).trans o1, (hE _ (cell_lt h.net.reg.c0)).trans o2, (hE _ h.net.reg.map.lt).trans o3, (hE _ h.net.ls.lt).trans o4, (hE _ h.net.cs.lt).trans o5⟩, ?_, ?_, h.refs, h.crefs.sublist hsub, h.adrs, fun k hk => qs_ne (L := L) (h.queue k hk) (fun he => hq (he ▸ hk)), h.vals, h.nl, ?_⟩
  · refine ⟨hf.keep hN.c0 (nS _ o1 (by omega)), hf.keep hN.c1 (nS _ o1 (by omega)), hf.keep hN.c2 (nS _ o1 (by omega)), hN.reg.keep hf (nS _ o2 (by omega)) (nS _ o3 (by omega)), hN.ls.keep hf (nS _ o4 (by omega)), ?_, hN.ne⟩
    have : (hangAt C1 C2 y).map CB.ent = if (y.a0 && true) then C1.map CB.ent ++ C2.map CB.ent else C1.map CB.ent ++ (.int .i64 (y.ref : Int), .pointer (some ⟨y.d, 0, none⟩)) :: C2.map CB.ent := by
      unfold hangAt
      cases y.a0 <;> simp [CB.ent]
    rw [this]
    exact m'
  · intro x hx
    refine ((h.ls x hx).ext hE).keep hf (fun z hz he => ?_)
    by_cases hlz : z < w.heap.size
    · rw [hE z hlz] at he
      rcases hSo z hz with h0 | h0 <;> omega
    · rw [ownNew_ge (by omega)] at he
      omega
  · intro z hz
    unfold hangAt at hz
    cases ha : y.a0
    · rw [ha] at hz d'
      simp only [Bool.false_eq_true, if_false, List.mem_append, List.mem_cons] at hz
      rcases hz with hz | rfl | hz
      · exact keepC z (.inl hz)
      · have d2 := d' rfl
        refine ⟨?_, hc.cap, by simp⟩
        have : DupS w' (fun x => ownNew w own (4 * y.ref + 1) x = 4 * y.ref + 1) y.d y.cap false true := d2.wide (fun x hx => by
          rcases hx with hx | hx
          · by_cases hl : x < w.heap.size
            · exact (hE x hl).trans hx
            · exact ownNew_ge (by omega)
          · exact ownNew_ge hx)
        simpa [ha] using this
      · exact keepC z (.inr hz)
    · rw [ha] at hz
      simp only [if_true, List.mem_append] at hz
      exact keepC z hz
  · have := hsub.length_le
    have hnc := h.nc
    simp only [List.length_map] at this
    omega
end Go.Proofs.YtmdhlodafjpnmaaGreat
