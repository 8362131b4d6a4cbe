/- The net with bytes, built anew: a connection more, a listener more, waits where not all is done. -/
/- The net with bytes: Restore, what holds between its rounds over the connections. -/
import Derived.Test.YtmdhlodafjpnmaaGreatNQ
import Derived.WideKeyEntry
import Derived.Test.YtmdhlodafjpnmaaGreatN8
namespace Go.Proofs.YtmdhlodafjpnmaaGreat
open Go.RowKit
open Go.Maps (Keyed)
set_option linter.unusedVariables false
set_option maxRecDepth 100000
set_option maxHeartbeats 8000000

section
variable {P : Program} {kt : TypeId} {w : World} {b : Nat} {f : List (Value × Value)}
/-- 'm[k], .. = v, ..' where k is not there: the entry, then its value. -/
theorem MapIs.entry {t e : TypeId} (h : MapIs P kt w b f) (K : Keyed P kt) (ht : P.underlying t = some (.map kt e)) {x : Value} {lx : Lit} (hlx : keyOf P kt x = some lx) (hx : ∀ p ∈ f, p.1 ≠ x) {z : Value} (hz : (zeroValue e).run P w = .ok z w) :
    ∃ (st : Nat) (w1 : World), (Instr.mapEntry t (.map (some b)) x).run P w = .ok (.tuple #[z, .int .i64 st]) w1 ∧ Fr [b] w w1 ∧ w1.heap.size = w.heap.size ∧ ∀ v, ∃ w2, (Instr.entryStore t (.map (some b)) (.int .i64 st) v).run P w1 = .ok () w2 ∧ MapIs P kt w2 b (f ++ [(x, v)]) ∧ Fr [b] w1 w2 := by
  obtain ⟨es, clock, hb, hs, hk, rfl⟩ := h
  have hs0 := hs
  obtain ⟨s1, s2, _⟩ := hs
  rcases K.find w hlx es.toList hk with ⟨hrun, hno⟩ | ⟨j, e1, hrun, hj, heq⟩
  · refine ⟨clock, { w with heap := w.heap.setIfInBounds b (.map (es.push ⟨x, z, clock⟩) (clock + 1)) }, ?_, fr_setBlock w b _, by simp, fun v => ?_⟩
    · simp [Instr.mapEntry, run_underlying ht, run_getObj_map hb, K.check w _ hlx, hrun, run_setObj_map hb, hz, goInt]
    · have hb1 := setBlock_at (o' := .map (es.push ⟨x, z, clock⟩) (clock + 1)) hb
      refine ⟨_, ?_, ⟨es.push ⟨x, v, clock⟩, clock + 1, setBlock_at hb1, MapKept.stamped_push hs0 hno, ?_, by simp⟩, fr_setBlock _ b _⟩
      · have hidx : (es.push ⟨x, z, clock⟩).findIdx? (fun e => ((e.born : Nat) : Int) == ((clock : Nat) : Int)) = some es.size := by
          rw [Go.WideElems.findIdx_arr]
          have := Go.WideElems.findIdx_born (l := (es.push ⟨x, z, clock⟩).toList) (j := es.size) (e0 := ⟨x, z, clock⟩) (by
            simp only [Array.toList_push, List.map_append, List.map_cons, List.map_nil]
            refine List.nodup_append.2 ⟨s2, by simp, fun a ha c hc e1 => ?_⟩
            simp only [List.mem_singleton] at hc
            obtain ⟨y, hy, rfl⟩ := List.mem_map.1 ha
            have := s1 y hy
            omega) (by simp)
          exact this
        have hmod : (es.push ⟨x, z, clock⟩).modify es.size (fun e => { e with val := v }) = es.push ⟨x, v, clock⟩ := by
          apply Array.ext'
          rw [Array.toList_modify, Array.toList_push, Array.toList_push, ← Array.length_toList, Go.WideElems.modify_last]
        simp [Instr.entryStore, run_getObj_map hb1, asInt, asIntOf, hidx, hmod, run_setObj_map hb1]
      · intro e he
        simp only [Array.toList_push, List.mem_append, List.mem_singleton] at he
        rcases he with he | rfl
        · exact hk e he
        · exact ⟨lx, hlx⟩
  · exact absurd heq (hx (e1.key, e1.val) (List.mem_map.2 ⟨e1, List.mem_of_getElem? hj, rfl⟩))
end
theorem netWaitsP {own : Nat → Nat} {B : NB} {L : List LB} {G : Nat} (k : Int) (w : World) (c1 : w.cell? ⟨B.n, 1, none⟩ = some (.map (some B.lm))) (hM : MapIs Tryz.prog 3 w B.lm (L.map LB.ent)) (hls : ∀ x ∈ L, ListW w own G x) (hrf : (L.map (·.ref)).Nodup) (hG : G < 4611686018427387904) :
    Calls Tryz.prog 56 #[.pointer (some ⟨B.n, 0, none⟩), .int .i64 k] w fun e w' => e = .returned (.bool (decide (k ∈ qs L))) ∧ Fr [] w w' := by
  have HLS := Lib.hid hls
  have HRF := Lib.hid hrf
  clear hls hrf
  obtain ⟨f, hf⟩ : ∃ f, L.map LB.ent = f := ⟨_, rfl⟩
  rw [hf] at hM
  have HF := Lib.hid hf
  clear hf
  go_enter Tryz.func56, Tryz.ntmps56
  go_wp2_with (first
    | (at_range; refine wpList_range_l _ rfl _ 49 rfl 120 Tryz.underlying49 rfl hM ?_; intro w0 hrg0 hg0 hs0)
    | go_in)
  go_frame
  have HRG0 := Lib.hid hrg0
  clear hrg0 hM
  go_loopw [6] (fun _ wr => ∃ done, RangeL Tryz.prog 3 wr B.lm w.heap.size f done ∧ NoK L done k ∧ Fr [] w wr) (fun _ wr => wr.rangeLeft B.lm w.heap.size)
  case atStart => exact ⟨[], HRG0.out, (fun x _ hx => absurd hx List.not_mem_nil), hg0⟩
  case round =>
    obtain ⟨done, hrg, hno, fr⟩ := hrel
    have HNO := Lib.hid hno
    have FR := Lib.hid fr
    clear hno fr
    go_wp2_with (first
      | (at_next; refine wpList_next_l _ rfl _ rfl rfl hrg ?_ ?_)
      | go_in)
    · intro hall
      have HA := Lib.hid hall
      clear hall
      go_wp2
      go_ret
      refine ⟨?_, FR.out⟩
      have : k ∉ qs L := fun hk => by
        obtain ⟨x, hx, hkx⟩ := List.mem_flatMap.1 hk
        exact HNO.out x hx (HA.out _ _ (by rw [← HF.out]; exact List.mem_map.2 ⟨x, hx, rfl⟩)) hkx
      simp [this]
    · intro kk vv w1 hin hnd hrg1 hf1 hs1 hlt hen
      rw [← HF.out] at hin
      obtain ⟨x, hx, he⟩ := List.mem_map.1 hin
      have he' := he
      simp only [LB.ent, Prod.mk.injEq] at he
      obtain ⟨rfl, rfl⟩ := he
      have F1 : Fr [] w w1 := FR.out.trans hf1 (fun z hz hl => by simp at hz; omega)
      have hq := (HLS.out x hx).back.keep (F1.alloc (.cells #[.pointer (some ⟨x.b, 0, none⟩), .string x.s, .int .i64 x.p] 120)) (by simp) (by simp) (by simp) (by simp)
      have HQ := Lib.hid hq
      have HEN := Lib.hid (And.intro hin (And.intro hnd (And.intro hx he')))
      have HL := Lib.hid (HLS.out x hx)
      have xg := (HLS.out x hx).g
      have xl : x.l.length ≤ 128 := by have := (HLS.out x hx).len; have := (HLS.out x hx).most; omega
      clear hq hin hnd hx he'
      unfold qV at hrg1 hen ⊢
      go_wp2_with (first
        | (go_at_call 60; refine (waiting_any x.b x.q x.m x.t x.most false x.l x.g (by omega) _ HQ.out (by omega)).mono ?_; rintro e w2 ⟨v, rfl, hv, f2⟩)
        | (go_at_call 101; refine (sliceContains_any k v _ _ (IntRow.of hv (by unfold maxLen; omega))).mono ?_; rintro e w' ⟨rfl, rfl⟩)
        | go_in)
      · go_ret
        obtain ⟨_, _, hx, he'⟩ := HEN.out
        refine ⟨?_, (F1.alloc _).step f2⟩
        have hk : k ∈ x.l.map (·.2) := by first | assumption | exact of_decide_eq_true (by assumption) | simpa using ‹∃ _, _›
        have : k ∈ qs L := List.mem_flatMap.2 ⟨x, hx, hk⟩
        simp [this]
      · obtain ⟨_, _, hx, he'⟩ := HEN.out
        have hk : k ∉ x.l.map (·.2) := by first | assumption | exact of_decide_eq_false (by assumption)
        have hno' : NoK L (x.ent :: done) k := fun y hy hm => by
          rcases List.mem_cons.1 hm with hm | hm
          · rw [ent_inj HRF.out hy hx hm]
            exact hk
          · exact HNO.out y hy hm
        have F2 : Fr [] w w2 := (F1.alloc _).step f2
        have hg2 : Fr [] w1 w2 := ((Fr.refl [] w1).alloc _).step f2
        have hrg2 := hrg1.keep hg2 (by simp) (by simp)
        have hle : w2.rangeLeft B.lm w.heap.size < wr.rangeLeft B.lm w.heap.size := by
          have e : w2.rangeLeft B.lm w.heap.size = w1.rangeLeft B.lm w.heap.size := by
            unfold World.rangeLeft
            rw [hg2.block _ hrg1.map.lt (by simp), hg2.block _ hrg1.lt (by simp)]
          omega
        go_roundw
        case rel => exact ⟨_, hrg2, hno', F2⟩
        case measure => exact hle
theorem NetG.addC {w w' : World} {own own' : Nat → Nat} {B : NB} {L : List LB} {C : List CG} {G : Nat} {y : CG} {S : List Nat} (h : NetG w own B L C G) (hE : Ext w own own') (hf : Fr S w w') (hS : ∀ z ∈ S, z = B.cm)
    (hm : MapIs Tryz.prog 3 w' B.cm ((C ++ [y]).map CG.ent)) (hy : ConnG w' own' y) (hk : y.ref ∉ C.map (·.ref)) (hnc : C.length < 128) : NetG w' own' B L (C ++ [y]) G := by
  obtain ⟨o1, o2, o3, o4, o5⟩ := h.on
  have hS' : ∀ z ∈ S, z < w.heap.size ∧ own z = 0 := fun z hz => by rw [hS z hz]; exact ⟨h.net.cs.lt, o5⟩
  have nS : ∀ z, z ≠ B.cm → z ∉ S := fun z hz hm => hz (hS z hm)
  obtain ⟨e1, e2, e3, e4, e5, e6, e7, e8, e9⟩ := h.net.ne
  have keepS : ∀ c, c ≠ 0 → ∀ z ∈ S, own' z ≠ c := fun c hc z hz he => by
    obtain ⟨h1, h2⟩ := hS' z hz
    rw [hE z h1, h2] at he
    exact hc he.symm
  refine ⟨⟨hf.keep h.net.c0 (nS _ (by omega)), hf.keep h.net.c1 (nS _ (by omega)), hf.keep h.net.c2 (nS _ (by omega)), h.net.reg.keep hf (nS _ (by omega)) (nS _ (by omega)), h.net.ls.keep hf (nS _ (by omega)), hm, h.net.ne⟩, ⟨(hE _ (cell_lt h.net.c0)).trans o1, (hE _ (cell_lt h.net.reg.c0)).trans o2, (hE _ h.net.reg.map.lt).trans o3, (hE _ h.net.ls.lt).trans o4, (hE _ h.net.cs.lt).trans o5⟩, ?_, ?_, h.refs, ?_, h.adrs, ?_, h.vals, h.nl, by simp; omega⟩
  · intro x hx
    exact ((h.ls x hx).ext hE).keep hf (fun z hz => keepS _ (by omega) z hz)
  · intro z hz
    simp only [List.mem_append, List.mem_singleton] at hz
    rcases hz with hz | rfl
    · exact ((h.cs z hz).ext hE).keep hf (fun u hu _ => ⟨keepS (16 * z.ref + 1) (by omega) u hu, keepS (16 * z.ref + 5) (by omega) u hu, keepS (16 * z.ref + 9) (by omega) u hu, keepS 3 (by omega) u hu⟩)
    · exact hy
  · rw [List.map_append, List.nodup_append]
    exact ⟨h.crefs, by simp, fun a ha b hb he => hk (by simp at hb; subst hb; subst he; exact ha)⟩
  · intro z hz
    obtain ⟨v, hv1, hv2⟩ := h.queue z hz
    exact ⟨v, List.mem_append_left _ hv1, hv2⟩
theorem NetG.addL {w w' : World} {own : Nat → Nat} {B : NB} {L : List LB} {C : List CG} {G k g : Nat} {s : ByteArray} {pp most : Int} {l : List (Nat × Int)} {b q mm t : Nat} (h : NetG w own B L C G) (hk : k ∉ L.map (·.ref)) (hs : s.size ≤ 1000000) (hv : addrB s.data.toList pp = true) (hp : (pp == 0) = false) (hm : 1 ≤ most ∧ most ≤ 128) (hxn : ∀ x ∈ L.map LB.nm, x.1 ≠ addrV s pp) (hln : L.length < 128) (hll : (l.length : Int) ≤ most) (hg : g ≤ G)
    (hq : ∀ v ∈ l.map (·.2), ∃ y ∈ C, (y.ref : Int) = v ∧ y.x.a1 = false) (hnd : (qs L ++ l.map (·.2)).Nodup)
    (hn : NetIs w' B.n B.r B.m B.lm B.cm (L.map LB.nm ++ [(addrV s pp, .int .i64 k)]) (L.map LB.ent ++ [(.int .i64 k, qV b s pp)]) (C.map CG.ent)) (hb : BackIs w' b q mm t most false l g) (hf : Fr [B.m, B.lm] w w') (l1 : w.heap.size ≤ b) (l2 : w.heap.size ≤ q) (l3 : w.heap.size ≤ mm) (l4 : w.heap.size ≤ t) :
    NetG w' (ownNew w own (4 * k + 2)) B (L ++ [⟨k, s, pp, most, l, g, b, q, mm, t⟩]) C G := by
  obtain ⟨o1, o2, o3, o4, o5⟩ := h.on
  have hE := Ext.new w own (4 * k + 2)
  have hS : ∀ z ∈ [B.m, B.lm], z < w.heap.size ∧ own z = 0 := fun z hz => by
    simp only [List.mem_cons, List.not_mem_nil, or_false] at hz
    rcases hz with rfl | rfl
    · exact ⟨h.net.reg.map.lt, o3⟩
    · exact ⟨h.net.ls.lt, o4⟩
  have keepS : ∀ c, c ≠ 0 → ∀ z ∈ [B.m, B.lm], ownNew w own (4 * k + 2) z ≠ c := fun c hc z hz he => by
    obtain ⟨h1, h2⟩ := hS z hz
    rw [hE z h1, h2] at he
    exact hc he.symm
  have hqs : qs (L ++ [⟨k, s, pp, most, l, g, b, q, mm, t⟩]) = qs L ++ l.map (·.2) := by simp [qs]
  refine ⟨?_, ⟨(hE _ (cell_lt h.net.c0)).trans o1, (hE _ (cell_lt h.net.reg.c0)).trans o2, (hE _ h.net.reg.map.lt).trans o3, (hE _ h.net.ls.lt).trans o4, (hE _ h.net.cs.lt).trans o5⟩, ?_, ?_, ?_, h.crefs, ?_, ?_, ?_, by simp; omega, h.nc⟩
  · simpa [LB.nm, LB.ent] using hn
  · intro y hy
    rcases List.mem_append.1 hy with hy | hy
    · exact ((h.ls y hy).ext hE).keep hf (fun z hz => keepS _ (by omega) z hz)
    · simp only [List.mem_singleton] at hy
      subst hy
      exact ⟨hb, ⟨ownNew_ge l1, ownNew_ge l2, ownNew_ge l3, ownNew_ge l4⟩, hv, hs, hp, hm, hll, hg⟩
  · intro y hy
    exact ((h.cs y hy).ext hE).keep hf (fun z hz _ => ⟨keepS (16 * y.ref + 1) (by omega) z hz, keepS (16 * y.ref + 5) (by omega) z hz, keepS (16 * y.ref + 9) (by omega) z hz, keepS 3 (by omega) z hz⟩)
  · rw [List.map_append, List.nodup_append]
    exact ⟨h.refs, by simp, fun a ha b' hb' he => hk (by simp at hb'; subst hb'; subst he; exact ha)⟩
  · rw [List.pairwise_append]
    refine ⟨h.adrs, by simp, fun a ha b' hb' he => ?_⟩
    simp only [List.mem_singleton] at hb'
    subst hb'
    simp only at he
    exact hxn _ (List.mem_map.2 ⟨a, ha, rfl⟩) (by rw [LB.nm, he.1, he.2])
  · intro z hz
    rw [hqs] at hz
    rcases List.mem_append.1 hz with hz | hz
    · exact h.queue z hz
    · exact hq z hz
  · rw [hqs]
    exact hnd
end Go.Proofs.YtmdhlodafjpnmaaGreat
namespace Go.Proofs.YtmdhlodafjpnmaaGreat
open Go.RowKit
open Go.Maps (Keyed)
set_option linter.unusedVariables false
set_option linter.unusedSimpArgs false
set_option maxRecDepth 100000
set_option maxHeartbeats 8000000

/-- After q connections. -/
structure RsC (w0 w : World) (own : Nat → Nat) (B : NB) (C : List PG) (C' : List CG) (q : Nat) : Prop where
  net : NetG w own B [] C' 0
  pl : C'.map CG.pg = C.take q
  old : ∀ z, z < w0.heap.size → own z = 4
  fr : Fr [] w0 w
theorem RsC.new {w0 w w' : World} {own : Nat → Nat} {B : NB} {C : List PG} {C' : List CG} {q : Nat} (h : RsC w0 w own B C C' q) (f : Fr [] w w') : RsC w0 w' own B C C' q := ⟨h.net.new f, h.pl, h.old, h.fr.step f⟩
theorem rsNew (C : List PG) (w : World) :
    Calls Tryz.prog 9 #[] w fun e w' => ∃ (B : NB) (own : Nat → Nat), e = .returned (.pointer (some ⟨B.n, 0, none⟩)) ∧ RsC w w' own B C [] 0 := by
  refine (netNew_any _).mono ?_
  rintro e w1 ⟨n, r, m, lm, cm, rfl, hn, f1, l1, l2, l3, l4, l5⟩
  have hN0 : NetG w1 (ownNew w (fun _ => 4) 0) ⟨n, r, m, lm, cm⟩ [] [] 0 :=
    ⟨hn, ⟨ownNew_ge l1, ownNew_ge l2, ownNew_ge l3, ownNew_ge l4, ownNew_ge l5⟩, (by intro x hx; cases hx), (by intro x hx; cases hx), by simp, by simp, by simp, (by intro k hk; simp [qs] at hk), by simp [qs], by simp, by simp⟩
  exact ⟨⟨n, r, m, lm, cm⟩, _, rfl, hN0, rfl, fun z hz => Ext.new w (fun _ => 4) 0 z hz, f1⟩
theorem RsC.keys {w0 w : World} {own : Nat → Nat} {B : NB} {C : List PG} {C' : List CG} {q : Nat} (h : RsC w0 w own B C C' q) : C'.map (·.ref) = (C.take q).map (·.ref) := by
  rw [← h.pl, List.map_map]
  rfl
theorem take_lt {C : List PG} {q : Nat} {y : PG} (hs : C.Pairwise fun a b => a.ref < b.ref) (hy : C[q]? = some y) : ∀ z ∈ C.take q, z.ref < y.ref := by
  intro z hz
  obtain ⟨j, hj⟩ := List.getElem?_of_mem hz
  have hq := (List.getElem?_eq_some_iff.1 hy).1
  have hjq : j < q := by have := (List.getElem?_eq_some_iff.1 hj).1; rw [List.length_take] at this; omega
  rw [List.getElem?_take_of_lt hjq] at hj
  obtain ⟨h1, rfl⟩ := List.getElem?_eq_some_iff.1 hj
  obtain ⟨h2, rfl⟩ := List.getElem?_eq_some_iff.1 hy
  exact List.pairwise_iff_getElem.1 hs j q h1 h2 hjq
theorem RsC.fresh {w0 w : World} {own : Nat → Nat} {B : NB} {C : List PG} {C' : List CG} {q : Nat} {y : PG} (h : RsC w0 w own B C C' q) (hs : C.Pairwise fun a b => a.ref < b.ref) (hy : C[q]? = some y) : (∀ p ∈ C'.map CG.ent, p.1 ≠ .int .i64 (y.ref : Int)) ∧ y.ref ∉ C'.map (·.ref) := by
  have hl := take_lt hs hy
  have h2 : y.ref ∉ C'.map (·.ref) := by
    rw [h.keys]
    intro hm
    obtain ⟨z, hz, he⟩ := List.mem_map.1 hm
    have := hl z hz
    omega
  refine ⟨fun p hp he => ?_, h2⟩
  obtain ⟨z, hz, rfl⟩ := List.mem_map.1 hp
  exact h2 (List.mem_map.2 ⟨z, hz, i64_inj he⟩)
theorem RsC.step {w0 wr wA wB w2 : World} {own own1 : Nat → Nat} {B : NB} {C : List PG} {C' : List CG} {q d : Nat} {y : PG} (h : RsC w0 wr own B C C' q) (hs : C.Pairwise fun a b => a.ref < b.ref) (hl : C.length ≤ 128) (hy : C[q]? = some y) (ok : CcOk y.c) (op : (y.c.a0 && y.c.a1) = false)
    (f1 : Fr [] wr wA) (hx : Ext wA own own1) (hd : DupB wB own1 (16 * y.ref + 1) d y.c) (f2 : Fr [] wA wB) (f3 : Fr [B.cm] wB w2) (hm : MapIs Tryz.prog 3 w2 B.cm (C'.map CG.ent ++ [(.int .i64 y.ref, .pointer (some ⟨d, 0, none⟩))])) :
    RsC w0 w2 own1 B C (C' ++ [⟨y.ref, y.c, d⟩]) (q + 1) := by
  obtain ⟨o1, o2, o3, o4, o5⟩ := h.net.on
  have hE : Ext wr own own1 := fun z hz => hx z (Nat.lt_of_lt_of_le hz f1.size)
  have hcl := h.net.net.cs.lt
  have hq := (List.getElem?_eq_some_iff.1 hy).1
  have hlen : C'.length = q := by
    have := congrArg List.length h.pl
    simp only [List.length_map, List.length_take] at this
    omega
  have o5' : own1 B.cm = 0 := (hE _ hcl).trans o5
  have hf : Fr [B.cm] wr w2 := ((f1.step f2).mono (fun x hx => by cases hx)).trans f3 (fun x hx _ => hx)
  refine ⟨h.net.addC hE hf (fun z hz => by simpa using hz) ?_ ⟨hd.keep f3 (fun z hz _ => ?_), ok, op⟩ (h.fresh hs hy).2 (by omega), ?_, fun z hz => (hE z (Nat.lt_of_lt_of_le hz h.fr.size)).trans (h.old z hz), h.fr.trans hf (fun x hx hl => ?_)⟩
  · simpa [CG.ent] using hm
  · simp only [List.mem_singleton] at hz
    subst hz
    rw [o5']
    omega
  · rw [List.map_append, h.pl, take_getG hy]
    rfl
  · simp only [List.mem_singleton] at hx
    subst hx
    have := h.old _ hl
    omega
theorem size96r : ∀ w, (sizeOf 96).run Tryz.prog w = .ok 17 w := fun w => by kernel_rfl

/-- After q listeners. -/
structure RsL (w0 w : World) (own : Nat → Nat) (B : NB) (D : List PN.PL) (C : List PG) (L' : List LB) (C' : List CG) (q : Nat) : Prop where
  net : NetG w own B L' C' 200
  pl : L'.map LB.pl = D.take q
  pc : C'.map CG.pg = C
  old : ∀ z, z < w0.heap.size → own z = 4
  fr : Fr [] w0 w
theorem RsC.fin {w0 w : World} {own : Nat → Nat} {B : NB} {C : List PG} {C' : List CG} {q : Nat} {D : List PN.PL} (h : RsC w0 w own B C C' q) (hq : C.length ≤ q) : RsL w0 w own B D C [] C' 0 :=
  ⟨h.net.mono (by omega), rfl, h.pl.trans (List.take_of_length_le hq), h.old, h.fr⟩
theorem take_ltL {D : List PN.PL} {q : Nat} {x : PN.PL} (hs : D.Pairwise fun a b => a.ref < b.ref) (hx : D[q]? = some x) : ∀ z ∈ D.take q, z.ref < x.ref := by
  intro z hz
  obtain ⟨j, hj⟩ := List.getElem?_of_mem hz
  have hq := (List.getElem?_eq_some_iff.1 hx).1
  have hjq : j < q := by have := (List.getElem?_eq_some_iff.1 hj).1; rw [List.length_take] at this; omega
  rw [List.getElem?_take_of_lt hjq] at hj
  obtain ⟨h1, rfl⟩ := List.getElem?_eq_some_iff.1 hj
  obtain ⟨h2, rfl⟩ := List.getElem?_eq_some_iff.1 hx
  exact List.pairwise_iff_getElem.1 hs j q h1 h2 hjq
theorem take_neA {D : List PN.PL} {q : Nat} {x : PN.PL} (hs : D.Pairwise fun a b => ¬ (a.s = b.s ∧ a.p = b.p)) (hx : D[q]? = some x) : ∀ z ∈ D.take q, ¬ (z.s = x.s ∧ z.p = x.p) := by
  intro z hz
  obtain ⟨j, hj⟩ := List.getElem?_of_mem hz
  have hq := (List.getElem?_eq_some_iff.1 hx).1
  have hjq : j < q := by have := (List.getElem?_eq_some_iff.1 hj).1; rw [List.length_take] at this; omega
  rw [List.getElem?_take_of_lt hjq] at hj
  obtain ⟨h1, rfl⟩ := List.getElem?_eq_some_iff.1 hj
  obtain ⟨h2, rfl⟩ := List.getElem?_eq_some_iff.1 hx
  exact List.pairwise_iff_getElem.1 hs j q h1 h2 hjq
theorem waits_cut {D : List PN.PL} {q : Nat} {x : PN.PL} (hx : D[q]? = some x) : PN.waitsOf D = PN.waitsOf (D.take q) ++ (x.l ++ PN.waitsOf (D.drop (q + 1))) := by
  have h : D = D.take q ++ x :: D.drop (q + 1) := PN.self_cut hx
  have h2 := congrArg PN.waitsOf h
  rw [h2]
  unfold PN.waitsOf
  rw [List.flatMap_append, List.flatMap_cons]
section
variable {w0 w : World} {own : Nat → Nat} {B : NB} {D : List PN.PL} {C : List PG} {L' : List LB} {C' : List CG} {q : Nat} {x : PN.PL}
theorem RsL.new {w' : World} (h : RsL w0 w own B D C L' C' q) (f : Fr [] w w') : RsL w0 w' own B D C L' C' q := ⟨h.net.new f, h.pl, h.pc, h.old, h.fr.step f⟩
theorem RsL.mem (h : RsL w0 w own B D C L' C' q) {z : LB} (hz : z ∈ L') : z.pl ∈ D.take q := by rw [← h.pl]; exact List.mem_map.2 ⟨z, hz, rfl⟩
theorem RsL.len (h : RsL w0 w own B D C L' C' q) (hx : D[q]? = some x) : L'.length = q := by
  have hq := (List.getElem?_eq_some_iff.1 hx).1
  have := congrArg List.length h.pl
  simp only [List.length_map, List.length_take] at this
  omega
theorem RsL.fresh (h : RsL w0 w own B D C L' C' q) (hs : D.Pairwise fun a b => a.ref < b.ref) (ha : D.Pairwise fun a b => ¬ (a.s = b.s ∧ a.p = b.p)) (hx : D[q]? = some x) :
    (∀ p ∈ L'.map LB.nm, p.1 ≠ addrV x.s x.p) ∧ x.ref ∉ L'.map (·.ref) ∧ (∀ p ∈ L'.map LB.ent, p.1 ≠ .int .i64 (x.ref : Int)) := by
  have h1 := take_ltL hs hx
  have h2 := take_neA ha hx
  refine ⟨fun p hp he => ?_, fun hm => ?_, fun p hp he => ?_⟩
  · obtain ⟨z, hz, rfl⟩ := List.mem_map.1 hp
    have e2 : addrV z.s z.p = addrV x.s x.p := he
    unfold addrV at e2
    refine h2 z.pl (h.mem hz) ?_
    simp only [Value.agg.injEq, Array.mk.injEq, List.cons.injEq, Value.string.injEq, Value.int.injEq, true_and, and_true] at e2
    exact e2
  · obtain ⟨z, hz, he⟩ := List.mem_map.1 hm
    have := h1 z.pl (h.mem hz)
    have e : z.pl.ref = z.ref := rfl
    omega
  · obtain ⟨z, hz, rfl⟩ := List.mem_map.1 hp
    have := h1 z.pl (h.mem hz)
    have e : z.pl.ref = z.ref := rfl
    have := i64_inj he
    omega
theorem RsL.qs (h : RsL w0 w own B D C L' C' q) : qs L' = PN.waitsOf (D.take q) := by rw [← h.pl, waitsOf_qs]
/-- Those who wait for the listener at hand. -/
theorem RsL.wait (h : RsL w0 w own B D C L' C' q) (hg : GoodG ⟨D, C⟩) (hx : D[q]? = some x) : (∀ k ∈ x.l, (∃ y ∈ C', (y.ref : Int) = k ∧ y.x.a1 = false) ∧ k ∉ Go.Proofs.YtmdhlodafjpnmaaGreat.qs L') ∧ x.l.Nodup ∧ (Go.Proofs.YtmdhlodafjpnmaaGreat.qs L' ++ x.l).Nodup := by
  have hw := waits_cut hx
  have hv : (PN.waitsOf D).Nodup := hg.va
  rw [hw] at hv
  have hv2 : (PN.waitsOf (D.take q) ++ x.l).Nodup := by
    rw [← List.append_assoc] at hv
    exact (List.nodup_append.1 hv).1
  have hn : (Go.Proofs.YtmdhlodafjpnmaaGreat.qs L' ++ x.l).Nodup := by rw [h.qs]; exact hv2
  refine ⟨fun k hk => ⟨?_, fun hm => ?_⟩, (List.nodup_append.1 hv2).2.1, hn⟩
  · obtain ⟨y, hy, h1, h2⟩ := hg.qu k (by show k ∈ PN.waitsOf D; rw [hw]; simp [hk])
    have hy : y ∈ C := hy
    rw [← h.pc] at hy
    obtain ⟨z, hz, rfl⟩ := List.mem_map.1 hy
    exact ⟨z, hz, h1, h2⟩
  · exact (List.nodup_append.1 hn).2.2 k hm k hk rfl
theorem RsL.step {w2 : World} {b m mm t g : Nat} {l : List (Nat × Int)} (h : RsL w0 w own B D C L' C' q) (hg : GoodG ⟨D, C⟩) (hs : D.Pairwise fun a b => a.ref < b.ref) (hx : D[q]? = some x) (hl : l.map (·.2) = x.l) (hgg : g ≤ 200)
    (hn : NetIs w2 B.n B.r B.m B.lm B.cm (L'.map LB.nm ++ [(addrV x.s x.p, .int .i64 x.ref)]) (L'.map LB.ent ++ [(.int .i64 x.ref, qV b x.s x.p)]) (C'.map CG.ent)) (hb : BackIs w2 b m mm t x.most false l g) (hf : Fr [B.m, B.lm] w w2) (l1 : w.heap.size ≤ b) (l2 : w.heap.size ≤ m) (l3 : w.heap.size ≤ mm) (l4 : w.heap.size ≤ t) :
    RsL w0 w2 (ownNew w own (4 * x.ref + 2)) B D C (L' ++ [⟨x.ref, x.s, x.p, x.most, l, g, b, m, mm, t⟩]) C' (q + 1) := by
  obtain ⟨o1, o2, o3, o4, o5⟩ := h.net.on
  obtain ⟨f1, f2, f3⟩ := h.fresh hs hg.ad hx
  obtain ⟨a1, a2, a3, a4, a5⟩ := hg.ls x (List.mem_of_getElem? hx)
  obtain ⟨q1, q2, q3⟩ := h.wait hg hx
  have hlen := h.len hx
  have hq := (List.getElem?_eq_some_iff.1 hx).1
  have hnl : D.length ≤ 128 := hg.nl
  have hE := Ext.new w own (4 * x.ref + 2)
  have hll : (l.length : Int) ≤ x.most := by
    have := congrArg List.length hl
    rw [List.length_map] at this
    omega
  refine ⟨h.net.addL f2 a2 a1 a3 a4 f1 (by omega) hll hgg (fun v hv => (q1 v (by rw [← hl]; exact hv)).1) (by rw [hl]; exact q3) hn hb hf l1 l2 l3 l4, ?_, h.pc, fun z hz => (hE z (Nat.lt_of_lt_of_le hz h.fr.size)).trans (h.old z hz), h.fr.trans hf (fun z hz hl => ?_)⟩
  · rw [List.map_append, h.pl, take_getG hx, List.map_cons, List.map_nil]
    simp only [LB.pl, hl]
  · simp only [List.mem_cons, List.not_mem_nil, or_false] at hz
    have := h.old z hl
    rcases hz with rfl | rfl <;> omega
end
/-- After j of those who wait for a listener. -/
structure RsI (w1 w : World) (B : NB) (L' : List LB) (x : PN.PL) (b m mm t : Nat) (l : List (Nat × Int)) (g j : Nat) : Prop where
  back : BackIs w b m mm t x.most false l g
  pl : l.map (·.2) = x.l.take j
  g : g ≤ j
  reg : RegIs w B.r B.m (L'.map LB.nm ++ [(addrV x.s x.p, .int .i64 x.ref)])
  fr : Fr [B.m] w1 w
end Go.Proofs.YtmdhlodafjpnmaaGreat
