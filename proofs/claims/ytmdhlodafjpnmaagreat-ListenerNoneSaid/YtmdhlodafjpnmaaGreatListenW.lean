/- Listen over a net in memory. -/
import Derived.Test.YtmdhlodafjpnmaaGreatListen2
import Derived.Test.YtmdhlodafjpnmaaGreatListen3
import Derived.Test.YtmdhlodafjpnmaaGreatNetW
namespace Go.Proofs.YtmdhlodafjpnmaaGreat
open Go.RowKit
open Go.Maps (Keyed)
set_option linter.unusedVariables false
set_option maxRecDepth 100000
set_option maxHeartbeats 4000000

theorem mem_ports {L : List LB} {s : ByteArray} {j : Nat} : j ∈ PN.ports (L.map LB.pl) s ↔ ∃ x ∈ L, x.s = s ∧ x.p = 49152 + (j : Int) := by
  unfold PN.ports
  simp only [List.mem_map, List.mem_filter, decide_eq_true_eq]
  constructor
  · rintro ⟨y, ⟨⟨x, hx, rfl⟩, h1, h2⟩, h3⟩
    simp only [LB.pl] at h1 h2 h3
    exact ⟨x, hx, h1, by omega⟩
  · rintro ⟨x, hx, h1, h2⟩
    exact ⟨x.pl, ⟨⟨x, hx, rfl⟩, h1, by simp only [LB.pl]; omega⟩, by simp only [LB.pl]; omega⟩

theorem listFree (L : List LB) : (∀ j : Nat, j < PN.free (L.map (·.ref)) → ∃ b' s' p', (.int .i64 j, qV b' s' p') ∈ L.map LB.ent) ∧ (∀ x ∈ L.map LB.ent, x.1 ≠ .int .i64 (PN.free (L.map (·.ref)) : Nat)) ∧ PN.free (L.map (·.ref)) ≤ L.length := by
  obtain ⟨h1, h2, h3⟩ := PN.free_spec (L.map (·.ref))
  refine ⟨fun j hj => ?_, fun x hx he => ?_, by simpa using h3⟩
  · obtain ⟨y, hy, rfl⟩ := List.mem_map.1 (h2 j hj)
    exact ⟨y.b, y.s, y.p, List.mem_map.2 ⟨y, hy, rfl⟩⟩
  · obtain ⟨y, hy, rfl⟩ := List.mem_map.1 hx
    exact h1 (List.mem_map.2 ⟨y, hy, i64_inj he⟩)

theorem NetW.add {w w' : World} {own : Nat → Nat} {B : NB} {L : List LB} {C : List CB} {G k : Nat} {s : ByteArray} {pp most : Int} {b q mm t : Nat} (h : NetW w own B L C G) (hk : PN.free (L.map (·.ref)) = k) (hs : s.size ≤ 1000000) (hv : addrB s.data.toList pp = true) (hp : (pp == 0) = false) (hm : 1 ≤ most ∧ most ≤ 128) (hxn : ∀ x ∈ L.map LB.nm, x.1 ≠ addrV s pp) (hln : L.length < 128)
    (hn : NetIs w' B.n B.r B.m B.lm B.cm (L.map LB.nm ++ [(addrV s pp, .int .i64 k)]) (L.map LB.ent ++ [(.int .i64 k, qV b s pp)]) (C.map CB.ent)) (hb : BackIs w' b q mm t most false [] 0) (hf : Fr [B.m, B.lm] w w') (l1 : w.heap.size ≤ b) (l2 : w.heap.size ≤ q) (l3 : w.heap.size ≤ mm) (l4 : w.heap.size ≤ t) :
    NetW w' (ownNew w own (4 * k + 2)) B (L ++ [⟨k, s, pp, most, [], 0, b, q, mm, t⟩]) C G := by
  obtain ⟨o1, o2, o3, o4, o5⟩ := h.on
  have hE := Ext.new w own (4 * k + 2)
  obtain ⟨f1, f2, f3⟩ := PN.free_spec (L.map (·.ref))
  rw [hk] at f1 f2 f3
  have hS : ∀ z ∈ [B.m, B.lm], z < w.heap.size ∧ own z = 0 := fun z hz => by
    simp only [List.mem_cons, List.not_mem_nil, or_false] at hz
    rcases hz with rfl | rfl
    · exact ⟨h.net.reg.map.lt, o3⟩
    · exact ⟨h.net.ls.lt, o4⟩
  have keepS : ∀ c, c ≠ 0 → ∀ z ∈ [B.m, B.lm], ownNew w own (4 * k + 2) z ≠ c := fun c hc z hz he => by
    obtain ⟨h1, h2⟩ := hS z hz
    rw [hE z h1, h2] at he
    exact hc he.symm
  refine ⟨?_, ⟨(hE _ (cell_lt h.net.c0)).trans o1, (hE _ (cell_lt h.net.reg.c0)).trans o2, (hE _ h.net.reg.map.lt).trans o3, (hE _ h.net.ls.lt).trans o4, (hE _ h.net.cs.lt).trans o5⟩, ?_, ?_, ?_, h.crefs, ?_, ?_, ?_, by simp; omega, h.nc⟩
  · simpa [LB.nm, LB.ent] using hn
  · intro y hy
    rcases List.mem_append.1 hy with hy | hy
    · exact ((h.ls y hy).ext hE).keep hf (fun z hz => keepS _ (by omega) z hz)
    · simp only [List.mem_singleton] at hy
      subst hy
      exact ⟨hb, ⟨ownNew_ge l1, ownNew_ge l2, ownNew_ge l3, ownNew_ge l4⟩, hv, hs, hp, hm, by simp; omega, Nat.zero_le _⟩
  · intro y hy
    exact ((h.cs y hy).ext hE).keep hf (fun z hz => keepS _ (by omega) z hz)
  · rw [List.map_append, List.nodup_append]
    exact ⟨h.refs, by simp, fun a ha b' hb' he => f1 (by simp at hb'; subst hb'; subst he; exact ha)⟩
  · rw [List.pairwise_append]
    refine ⟨h.adrs, by simp, fun a ha b' hb' he => ?_⟩
    simp only [List.mem_singleton] at hb'
    subst hb'
    simp only at he
    exact hxn _ (List.mem_map.2 ⟨a, ha, rfl⟩) (by rw [LB.nm, he.1, he.2])
  · intro z hz
    refine h.queue z ?_
    simpa [qs] using hz
  · have := h.vals
    simpa [qs] using this

theorem addrB_ports {s : ByteArray} {p : Int} (h : addrB s.data.toList p = true) (q : Int) (h0 : 0 ≤ q) (h1 : q ≤ 65535) : addrB s.data.toList q = true := by
  unfold addrB at h ⊢
  simp only [Bool.and_eq_true, decide_eq_true_eq] at h ⊢
  exact ⟨⟨h.1.1, h0⟩, h1⟩

theorem netListen_w {own : Nat → Nat} {B : NB} {L : List LB} {C : List CB} {G : Nat} (s : ByteArray) (p most : Int) (w : World) (h : NetW w own B L C G) (hs : s.size ≤ 1000000) :
    Calls Tryz.prog 30 #[.pointer (some ⟨B.n, 0, none⟩), .agg #[.string s, .int .i64 p], .int .i64 most] w fun e w' => ∃ own' L',
      e = .returned (.tuple #[.int .i64 (PN.listen (plainN L C) s p most (addrB s.data.toList p)).2.1, .agg #[.string (PN.listen (plainN L C) s p most (addrB s.data.toList p)).2.2.1.1, .int .i64 (PN.listen (plainN L C) s p most (addrB s.data.toList p)).2.2.1.2], .int .i64 (PN.listen (plainN L C) s p most (addrB s.data.toList p)).2.2.2]) ∧ plainN L' C = (PN.listen (plainN L C) s p most (addrB s.data.toList p)).1 ∧ NetW w' own' B L' C G ∧ Ext w own own' ∧ FrO own netO w w' := by
  have hrefs : (plainN L C).L.map (·.ref) = L.map (·.ref) := by simp [plainN, LB.pl]
  have hlen : (plainN L C).L.length = L.length := by simp [plainN]
  unfold PN.listen
  by_cases hb : most < 1 ∨ 128 < most ∨ addrB s.data.toList p = false
  · rw [if_pos hb]
    refine (netListen_bad B.n B.r B.m B.lm B.cm _ _ _ s p most w h.net hs hb).mono ?_
    rintro e w' ⟨rfl, hf⟩
    exact ⟨own, L, rfl, rfl, h.new hf, Ext.refl _ _, FrO.new hf⟩
  · rw [if_neg hb, hrefs, hlen]
    have hv : addrB s.data.toList p = true := by
      cases hh : addrB s.data.toList p
      · exact absurd (.inr (.inr hh)) hb
      · rfl
    have hm : 1 ≤ most ∧ most ≤ 128 := by omega
    obtain ⟨pb1, pb2⟩ := addrB_port hv
    have hnl := h.nl
    -- the port
    obtain ⟨pp, hpp⟩ : ∃ pp, PN.portOf (plainN L C).L s p = pp := ⟨_, rfl⟩
    rw [hpp]
    have key : (0 ≤ pp ∧ pp ≤ 65535) ∧ (pp == 0) = false ∧ ((∀ x ∈ L.map LB.nm, x.1 ≠ addrV s pp) → ¬ 128 ≤ ((L.map LB.nm).length : Int) → ∀ W, RegIs W B.r B.m (L.map LB.nm) → Calls Tryz.prog 75 #[.pointer (some ⟨B.r, 0, none⟩), .agg #[.string s, .int .i64 p], .int .i64 0] W fun e w' => e = .returned (.tuple #[.agg #[.string s, .int .i64 pp], .int .i64 0]) ∧ RegIs w' B.r B.m (L.map LB.nm ++ [(addrV s pp, .int .i64 0)]) ∧ Fr [B.m] W w') ∧
        ((∀ x ∈ L.map LB.nm, x.1 ≠ addrV s pp) → 128 ≤ ((L.map LB.nm).length : Int) → ∀ W, RegIs W B.r B.m (L.map LB.nm) → Calls Tryz.prog 75 #[.pointer (some ⟨B.r, 0, none⟩), .agg #[.string s, .int .i64 p], .int .i64 0] W fun e w' => e = .returned (.tuple #[.agg #[.string ⟨#[]⟩, .int .i64 0], .int .i64 7]) ∧ Fr [] W w') ∧
        (∀ u, (addrV s pp, .int .i64 u) ∈ L.map LB.nm → ∀ W, RegIs W B.r B.m (L.map LB.nm) → Calls Tryz.prog 75 #[.pointer (some ⟨B.r, 0, none⟩), .agg #[.string s, .int .i64 p], .int .i64 0] W fun e w' => e = .returned (.tuple #[.agg #[.string ⟨#[]⟩, .int .i64 0], .int .i64 11]) ∧ Fr [] W w') := by
      unfold PN.portOf at hpp
      by_cases hp0 : p = 0
      · subst hp0
        rw [if_pos rfl] at hpp
        obtain ⟨f1, f2, f3⟩ := PN.free_spec (PN.ports (L.map LB.pl) s)
        have hpl : (PN.ports (L.map LB.pl) s).length ≤ L.length := by
          unfold PN.ports
          have := List.length_filter_le (fun x : PN.PL => decide (x.s = s ∧ 49152 ≤ x.p)) (L.map LB.pl)
          simpa using this
        obtain ⟨k, hk⟩ : ∃ k, PN.free (PN.ports (L.map LB.pl) s) = k := ⟨_, rfl⟩
        rw [show (plainN L C).L = L.map LB.pl from rfl, hk] at hpp
        rw [hk] at f1 f2 f3
        subst hpp
        have hlow : ∀ j, j < k → ∃ v, (addrV s (49152 + (j : Int)), .int .i64 v) ∈ L.map LB.nm := fun j hj => by
          obtain ⟨x, hx, h1, h2⟩ := mem_ports.1 (f2 j hj)
          exact ⟨x.ref, List.mem_map.2 ⟨x, hx, by rw [LB.nm, h1, h2]⟩⟩
        have hat : ∀ x ∈ L.map LB.nm, x.1 ≠ addrV s (49152 + (k : Int)) := fun x hx he => by
          obtain ⟨y, hy, rfl⟩ := List.mem_map.1 hx
          obtain ⟨h1, h2⟩ := addrV_inj he
          exact f1 (mem_ports.2 ⟨y, hy, h1, h2⟩)
        have hfr : ∀ W, RegIs W B.r B.m (L.map LB.nm) → Calls Tryz.prog 122 #[.pointer (some ⟨B.r, 0, none⟩), .string s] W fun e w' => e = .returned (.int .i64 (49152 + (k : Int))) ∧ W = w' := fun W hW => regFree_any B.r B.m k _ s W hW hs (by omega) hlow hat
        refine ⟨⟨by omega, by omega⟩, by rw [beq_eq_false_iff_ne]; omega, fun hx hn W hW => ?_, fun hx hn W hW => ?_, fun u hu => absurd rfl (hat _ hu)⟩
        · exact regBind0_ok B.r B.m _ s _ 0 W hW hs hv ⟨by omega, by omega⟩ (by omega) hfr hat hn
        · exact regBind0_full B.r B.m _ s _ 0 W hW hs hv ⟨by omega, by omega⟩ (by omega) hfr hat hn
      · rw [if_neg hp0] at hpp
        subst hpp
        have hpb : (p == 0) = false := by rw [beq_eq_false_iff_ne]; exact hp0
        exact ⟨⟨pb1, pb2⟩, hpb, fun hx hn W hW => regBind_ok B.r B.m _ s p 0 W hW hs hv hpb (by omega) hx hn, fun hx hn W hW => regBind_full B.r B.m _ s p 0 W hW hs hv hpb (by omega) hx hn, fun u hu W hW => regBind_busy B.r B.m _ s p 0 W hW hs hv hpb (by omega) u hu⟩
    obtain ⟨⟨q1, q2⟩, q3, kOk, kFull, kBusy⟩ := key
    rcases hat : PN.at? (plainN L C).L s pp with _ | z
    · rw [if_neg (by simp)]
      have hxn := at_none hat
      by_cases hl : 128 ≤ L.length
      · rw [if_pos hl]
        refine (netListen_err B.n B.r B.m B.lm B.cm _ _ _ s p most 7 w h.net hs hv rfl (kFull hxn (by simp; omega)) (by omega) (by omega)).mono ?_
        rintro e w' ⟨rfl, hf⟩
        exact ⟨own, L, rfl, rfl, h.new hf, Ext.refl _ _, FrO.new hf⟩
      · rw [if_neg hl]
        obtain ⟨a1, a2, a3⟩ := listFree L
        obtain ⟨k, hk⟩ : ∃ k, PN.free (L.map (·.ref)) = k := ⟨_, rfl⟩
        rw [hk] at a1 a2 a3 ⊢
        refine (netListen_gen B.n B.r B.m B.lm B.cm _ _ _ s p pp most k w h.net hs hv (addrB_ports hv pp q1 q2) q3 (kOk hxn (by simp; omega)) (by omega) (by omega) hxn (by simp; omega) a1 a2 (by omega)).mono ?_
        rintro e w' ⟨b, q, mm, t, rfl, hn, hb', hf, l1, l2, l3, l4⟩
        obtain ⟨o1, o2, o3, o4, o5⟩ := h.on
        refine ⟨ownNew w own (4 * k + 2), L ++ [⟨k, s, pp, most, [], 0, b, q, mm, t⟩], rfl, by simp [plainN, LB.pl], h.add hk hs (addrB_ports hv pp q1 q2) q3 hm hxn (by omega) hn hb' hf l1 l2 l3 l4, Ext.new _ _ _, FrO.of hf (fun z hz => ?_)⟩
        simp only [List.mem_cons, List.not_mem_nil, or_false] at hz
        rcases hz with rfl | rfl
        · exact .inl o3
        · exact .inl o4
    · rw [if_pos (by simp)]
      obtain ⟨L1, x, L2, hL, rfl, hxs, hxp⟩ := at_some hat
      have hu : (addrV s pp, .int .i64 (x.ref : Int)) ∈ L.map LB.nm := List.mem_map.2 ⟨x, by rw [hL]; simp, by rw [LB.nm, hxs, hxp]⟩
      refine (netListen_err B.n B.r B.m B.lm B.cm _ _ _ s p most 11 w h.net hs hv rfl (kBusy _ hu) (by omega) (by omega)).mono ?_
      rintro e w' ⟨rfl, hf⟩
      exact ⟨own, L, rfl, rfl, h.new hf, Ext.refl _ _, FrO.new hf⟩
end Go.Proofs.YtmdhlodafjpnmaaGreat
