/- The net in memory: a pair is opened. -/
import Derived.Test.YtmdhlodafjpnmaaGreatNetW
namespace Go.Proofs.YtmdhlodafjpnmaaGreat
open Go.RowKit
open Go.Maps (Keyed)
set_option linter.unusedVariables false
set_option maxRecDepth 100000
set_option maxHeartbeats 4000000

def PN.pair (N : PN.Net) (c : Nat) : PN.Net × Int × Int :=
  if 128 ≤ N.C.length then (N, 0, 7) else ({ N with C := N.C ++ [⟨PN.free (N.C.map (·.ref)), c, false, false⟩] }, PN.free (N.C.map (·.ref)), 0)

theorem netPair_w {own : Nat → Nat} {B : NB} {L : List LB} {C : List CB} {G : Nat} (c : Nat) (w : World) (h : NetW w own B L C G) (hc : c ≤ 4096) :
    Calls Tryz.prog 33 #[.pointer (some ⟨B.n, 0, none⟩), .int .i64 c] w fun e w' => ∃ own' C',
      e = .returned (.tuple #[.int .i64 (PN.pair (plainN L C) c).2.1, .int .i64 (PN.pair (plainN L C) c).2.2]) ∧ plainN L C' = (PN.pair (plainN L C) c).1 ∧ NetW w' own' B L C' G ∧ Ext w own own' ∧ FrO own netO w w' := by
  have hcr : (plainN L C).C.map (·.ref) = C.map (·.ref) := by simp [plainN, CB.pc]
  have hcl : (plainN L C).C.length = C.length := by simp [plainN]
  unfold PN.pair
  rw [hcr, hcl]
  by_cases hnc : 128 ≤ C.length
  · rw [if_pos hnc]
    refine (netPair_full B.n B.r B.m B.lm B.cm _ _ _ c w h.net hc (by simp; omega)).mono ?_
    rintro e w' ⟨rfl, hf⟩
    exact ⟨own, C, rfl, rfl, h.new hf, Ext.refl _ _, FrO.new hf⟩
  · rw [if_neg hnc]
    obtain ⟨k1, k2, k3⟩ := free_facts C
    obtain ⟨hf1, hf2, hf3⟩ := PN.free_spec (C.map (·.ref))
    obtain ⟨k, hk⟩ : ∃ k, PN.free (C.map (·.ref)) = k := ⟨_, rfl⟩
    rw [hk] at k1 k2 k3 hf1 ⊢
    obtain ⟨o1, o2, o3, o4, o5⟩ := h.on
    refine (netPair_ok B.n B.r B.m B.lm B.cm _ _ _ c k w h.net hc k1 k2 (by omega) (by simp; omega)).mono ?_
    rintro e w' ⟨d, rfl, n', d', hf⟩
    have hE := Ext.new w own (4 * k + 1)
    refine ⟨ownNew w own (4 * k + 1), C ++ [⟨k, c, false, false, d⟩], rfl, by simp [plainN, CB.pc], ⟨by simpa [CB.ent] using n', ⟨(hE _ (cell_lt h.net.c0)).trans o1, (hE _ (cell_lt h.net.reg.c0)).trans o2, (hE _ h.net.reg.map.lt).trans o3, (hE _ h.net.ls.lt).trans o4, (hE _ h.net.cs.lt).trans o5⟩, ?_, ?_, h.refs, ?_, h.adrs, ?_, h.vals, h.nl, by simp; omega⟩, hE, FrO.of hf (fun z hz => by simp at hz; subst hz; rw [o5]; exact .inl rfl)⟩
    · intro x hx
      refine ((h.ls x hx).ext hE).keep hf (fun z hz he => ?_)
      simp only [List.mem_singleton] at hz
      subst hz
      rw [hE _ h.net.cs.lt, o5] at he
      omega
    · intro y hy
      simp only [List.mem_append, List.mem_singleton] at hy
      rcases hy with hy | rfl
      · have hne : y.ref ≠ k := fun he => hf1 (List.mem_map.2 ⟨y, hy, he⟩)
        refine ((h.cs y hy).ext hE).keep hf (fun z hz he => ?_)
        simp only [List.mem_singleton] at hz
        subst hz
        rw [hE _ h.net.cs.lt, o5] at he
        omega
      · exact ⟨(DupS.of0 d').wide (fun z hz => ownNew_ge hz), hc, rfl⟩
    · rw [List.map_append, List.nodup_append]
      exact ⟨h.crefs, by simp, fun a ha b hb he => hf1 (by simp at hb; subst hb; subst he; exact ha)⟩
    · intro z hz
      obtain ⟨v, hv1, hv2⟩ := h.queue z hz
      exact ⟨v, List.mem_append_left _ hv1, hv2⟩
end Go.Proofs.YtmdhlodafjpnmaaGreat
