/- Try over a net in memory. -/
import Derived.Test.YtgbmenfmaphciaaNetW
import Derived.Test.YtgbmenfmaphciaaPD
import Derived.Test.YtgbmenfmaphciaaTry3
namespace Go.Proofs.Ytgbmenfmaphciaa
open Go.RowKit
open Go.Maps (Keyed)
set_option linter.unusedVariables false
set_option maxRecDepth 100000
set_option maxHeartbeats 4000000

theorem pass_eq (a b : Int) : PN.pass a b = passB a b := rfl
/-- The dialing number i in memory, in the blocks d and u. -/
structure DialW (w : World) (own : Nat → Nat) (i d u : Nat) (x : PN.PD) : Prop where
  cells : DialIs w d u x.s x.p x.c x.un x.st x.conn x.er x.tr
  own : own d = 4 * i + 3 ∧ own u = 4 * i + 3
  adr : addrB x.s.data.toList x.p = true
  sz : x.s.size ≤ 1000000
  cap : x.c ≤ 4096
  tr : 0 ≤ x.tr
theorem DialW.keep {S : List Nat} {w w' : World} {own : Nat → Nat} {i d u : Nat} {x : PN.PD} (h : DialW w own i d u x) (hf : Fr S w w') (hS : ∀ z ∈ S, own z ≠ 4 * i + 3) : DialW w' own i d u x :=
  ⟨h.cells.keep hf (fun hm => hS d hm h.own.1) (fun hm => hS u hm h.own.2), h.own, h.adr, h.sz, h.cap, h.tr⟩
theorem DialW.ext {w : World} {own own' : Nat → Nat} {i d u : Nat} {x : PN.PD} (h : DialW w own i d u x) (he : Ext w own own') : DialW w own' i d u x :=
  ⟨h.cells, ⟨(he _ (cell_lt h.cells.c0)).trans h.own.1, (he _ (cell_lt h.cells.cu)).trans h.own.2⟩, h.adr, h.sz, h.cap, h.tr⟩
/-- The owners whose blocks a try may turn. -/
def tryO (i c : Nat) : Prop := netO c ∨ c = 4 * i + 3

instance (c : Nat) : Decidable (netO c) := by unfold netO; infer_instance

theorem dialTry_w {own : Nat → Nat} {B : NB} {L : List LB} {C : List CB} {G i d u : Nat} {x : PN.PD} (now : Int) (w : World) (h : NetW w own B L C G) (hd : DialW w own i d u x) (hG : G < 4611686018427387904) (htr : x.tr ≤ 1000000000) :
    Calls Try.prog 26 #[.pointer (some ⟨d, 0, none⟩), .pointer (some ⟨B.n, 0, none⟩), .int .u64 now] w fun e w' => ∃ own' L' C',
      e = .returned (.tuple #[.int .i64 (PN.tryD now x (plainN L C)).2.2.1, .int .i64 (PN.tryD now x (plainN L C)).2.2.2]) ∧ plainN L' C' = (PN.tryD now x (plainN L C)).2.1 ∧ NetW w' own' B L' C' (G + 1) ∧ DialW w' own' i d u (PN.tryD now x (plainN L C)).1 ∧ Ext w own own' ∧ FrO own (tryO i) w w' := by
  have hcl := hd.cells
  obtain ⟨od, ou⟩ := hd.own
  by_cases hst : x.st = 0
  · by_cases hp : PN.pass x.un now = true
    · have ht : PN.tryD now x (plainN L C) = ({ x with st := 2, er := 12 }, plainN L C, 0, 12) := by
        unfold PN.tryD
        rw [if_neg (by omega), if_pos hp]
      rw [ht]
      rw [hst] at hcl
      refine (dialTry_over d u x.s x.p x.un x.conn x.er x.tr x.c now w hcl h.net (by rw [← pass_eq]; exact hp)).mono ?_
      rintro e w' ⟨rfl, hc, hf⟩
      refine ⟨own, L, C, rfl, rfl, (h.keep hf (fun z hz hn => ?_)).mono (by omega), ⟨hc, hd.own, hd.adr, hd.sz, hd.cap, hd.tr⟩, Ext.refl _ _, FrO.of hf (fun z hz => ?_)⟩
      · simp only [List.mem_singleton] at hz
        subst hz
        rw [od] at hn
        unfold netO at hn
        omega
      · simp only [List.mem_singleton] at hz
        subst hz
        exact .inr od
    · obtain ⟨cn, hcn⟩ : ∃ cn, PN.connect (plainN L C) x.s x.p x.c = cn := ⟨_, rfl⟩
      have ht : PN.tryD now x (plainN L C) = ({ x with st := if cn.2.2 = 0 then 1 else if cn.2.2 = 16 then 0 else 2, conn := if cn.2.2 = 0 then cn.2.1 else x.conn, er := if cn.2.2 = 0 ∨ cn.2.2 = 16 then x.er else cn.2.2, tr := x.tr + 1 }, cn.1, if cn.2.2 = 0 ∨ cn.2.2 = 16 then cn.2.1 else 0, cn.2.2) := by
        unfold PN.tryD
        rw [if_neg (by omega), if_neg hp, hcn]
      rw [ht]
      rw [hst] at hcl
      obtain ⟨o1, o2, o3, o4, o5⟩ := h.on
      have dz := cell_lt hcl.c0
      have key := dialTry_go d u x.s x.p x.un x.conn x.er x.tr x.c now cn.2.1 cn.2.2 ((List.range w.heap.size).filter fun z => decide (netO (own z))) (fun w' => ∃ own' L' C', plainN L' C' = cn.1 ∧ NetW w' own' B L' C' (G + 1) ∧ Ext w own own') ?_ w hcl h.net (by rw [← pass_eq]; simpa using hp) hd.tr htr ?_ ?_ ?_ ?_
      · refine key.mono ?_
        rintro e w' ⟨rfl, hc, ⟨own', L', C', h1, h2, h3⟩, hf⟩
        refine ⟨own', L', C', rfl, h1, h2, ⟨hc, ⟨(h3 _ dz).trans od, (h3 _ (cell_lt hcl.cu)).trans ou⟩, hd.adr, hd.sz, hd.cap, by have := hd.tr; simp only; omega⟩, h3, FrO.of hf (fun z hz => ?_)⟩
        rcases List.mem_cons.1 hz with rfl | hz
        · exact .inr od
        · exact .inl (by simpa using (List.mem_filter.1 hz).2)
      · rintro a b ⟨own', L', C', h1, h2, h3⟩ hf
        refine ⟨own', L', C', h1, h2.keep hf (fun z hz hn => ?_), h3⟩
        simp only [List.mem_singleton] at hz
        subst hz
        rw [h3 _ dz, od] at hn
        unfold netO at hn
        omega
      · intro hm
        simp only [List.mem_cons, List.not_mem_nil, or_false] at hm
        have : own d = 0 := by rcases hm with rfl | rfl | rfl | rfl | rfl <;> assumption
        omega
      · intro hm
        have := of_decide_eq_true (List.mem_filter.1 hm).2
        rw [od] at this
        unfold netO at this
        omega
      · intro hm
        have := of_decide_eq_true (List.mem_filter.1 hm).2
        rw [ou] at this
        unfold netO at this
        omega
      · intro W hW
        have hE := Ext.new w own 4
        have hn0 : ∀ z ∈ [d], ¬ netO (ownNew w own 4 z) := fun z hz hn => by
          simp only [List.mem_singleton] at hz
          subst hz
          rw [hE _ dz, od] at hn
          unfold netO at hn
          omega
        refine (netConnect_w x.s x.p x.c W ((h.ext hE).keep hW hn0) hd.sz hd.adr hd.cap hG).mono ?_
        rintro e w' ⟨own', L', C', he, h1, h2, h3, h4⟩
        rw [hcn] at he h1
        refine ⟨he, ⟨own', L', C', h1, h2, hE.step h3 hW.size⟩, ?_⟩
        obtain ⟨S, f1, f2⟩ := h4.list
        refine f1.mono (fun z hz _ => ?_)
        obtain ⟨h5, h6⟩ := f2 z hz
        have hzl : z < w.heap.size := by
          rcases Nat.lt_or_ge z w.heap.size with h | h
          · exact h
          · rw [ownNew_ge h] at h6
            unfold netO at h6
            omega
        rw [hE z hzl] at h6
        exact List.mem_filter.2 ⟨List.mem_range.2 hzl, by simpa using h6⟩
  · rw [PN.tryD_done hst]
    refine (dialTry_state d u x.s x.p x.un x.st x.conn x.er x.tr x.c now w hcl h.net hst).mono ?_
    rintro e w' ⟨rfl, hf⟩
    exact ⟨own, L, C, rfl, rfl, (h.new hf).mono (by omega), ⟨hcl.new hf, hd.own, hd.adr, hd.sz, hd.cap, hd.tr⟩, Ext.refl _ _, FrO.new hf⟩
end Go.Proofs.Ytgbmenfmaphciaa
