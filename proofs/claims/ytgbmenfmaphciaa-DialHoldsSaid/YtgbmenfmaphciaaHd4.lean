/- DialHolds: the calls of a round, over what holds between two calls. -/
import Derived.Test.YtgbmenfmaphciaaHd3c
namespace Go.Proofs.Ytgbmenfmaphciaa
open Go.RowKit
open Go.Maps (Keyed)
set_option linter.unusedVariables false
set_option maxRecDepth 100000
set_option maxHeartbeats 4000000

theorem trying_take (D : List PN.PD) (m : Nat) (h : m < D.length) : PN.trying (D.take (m + 1)) = PN.trying (D.take m) + if (D[m]).st = 0 then 1 else 0 := by
  unfold PN.trying
  rw [List.take_succ_eq_append_getElem h, List.filter_append, List.length_append]
  by_cases h0 : (D[m]).st = 0 <;> simp [h0]
theorem owns_at {w : World} {lo n : Nat} {e : TypeId} {v : Value} {xs : List Value} (h : w.ownsRow lo e 1 v n xs) (hn : 0 < n) :
    ∃ g cap, v = .slice (some ⟨g, 0, none⟩) n cap ∧ lo ≤ g ∧ (∀ j u, xs[j]? = some u → w.cell? ⟨g, j, none⟩ = some u) := by
  obtain ⟨hl, h0 | ⟨g, cap, cur, hv, hb, hh, h1, h2, h3, h4⟩⟩ := h
  · omega
  · refine ⟨g, cap, hv, hb, fun j u hj => ?_⟩
    have := World.ownsRow.cells (w := w) (base := lo) (e := e) (size := 1) (v := v) (n := n) (xs := xs) ⟨hl, .inr ⟨g, cap, cur, hv, hb, hh, h1, h2, h3, h4⟩⟩ (g := g) (by rw [hv]; rfl) j u hj
    simpa [Addr.add_lit] using this
theorem sts_at {D E : List PN.PD} (h : PN.sts E = PN.sts D) (k : Nat) (h1 : k < E.length) (h2 : k < D.length) : (E[k]).st = (D[k]).st := by
  have := congrArg (fun l => l[k]?) h
  simpa [PN.sts, h1, h2] using this
section
variable {w0 w : World} {B : NB} {ids : Nat → Nat × Nat} {O : List St} {g6 g7 : Nat} {own : Nat → Nat} {L : List LB} {C : List CB} {G T : Nat} {D : List PN.PD}
/-- A call of the net has been made: what holds goes on holding, what lay in blocks of nobody lies as it lay. -/
def HeldBy (w0 : World) (B : NB) (ids : Nat → Nat × Nat) (O : List St) (g6 g7 : Nat) (G T : Nat) (D : List PN.PD) (own : Nat → Nat) (w w' : World) : Prop :=
  ∃ own' L' C', HoldR w0 B ids O g6 g7 w' own' L' C' G T D ∧ FrO own allO w w'
theorem listen_h (s : ByteArray) (p most : Int) (h : HoldR w0 B ids O g6 g7 w own L C G T D) (hs : s.size ≤ 1000000) :
    Calls Try.prog 21 #[.pointer (some ⟨B.n, 0, none⟩), .agg #[.string s, .int .i64 p], .int .i64 most] w fun e w' => ∃ r1 s1 p1 r2, e = .returned (.tuple #[.int .i64 r1, .agg #[.string s1, .int .i64 p1], .int .i64 r2]) ∧ HeldBy w0 B ids O g6 g7 G T D own w w' := by
  refine (netListen_w s p most w h.net hs).mono ?_
  rintro e w' ⟨own', L', he, hp, hn, hx, hf⟩
  exact ⟨_, _, _, _, he, own', L', C, h.netCall hn hx hf, hf.mono (fun c hc => .inl hc)⟩
theorem accept_h (ref : Int) (h : HoldR w0 B ids O g6 g7 w own L C G T D) (hr : -9223372036854775808 ≤ ref) (hr' : ref ≤ 9223372036854775807) (hG : G ≤ 1000000) :
    Calls Try.prog 22 #[.pointer (some ⟨B.n, 0, none⟩), .int .i64 ref] w fun e w' => ∃ r1 r2, e = .returned (.tuple #[.int .i64 r1, .int .i64 r2]) ∧ HeldBy w0 B ids O g6 g7 G T D own w w' := by
  refine (netAccept_w ref w h.net hr hr' (by omega)).mono ?_
  rintro e w' ⟨L', he, hp, hn, hf⟩
  exact ⟨_, _, he, own, L', C, h.netCall hn (Ext.refl _ _) hf, hf.mono (fun c hc => .inl hc)⟩
theorem close_h (ref : Int) (h : HoldR w0 B ids O g6 g7 w own L C G T D) (hr : -9223372036854775808 ≤ ref) (hr' : ref ≤ 9223372036854775807) (hG : G ≤ 1000000) :
    Calls Try.prog 23 #[.pointer (some ⟨B.n, 0, none⟩), .int .i64 ref] w fun e w' => ∃ v r2, e = .returned (.tuple #[v, .int .i64 r2]) ∧ HeldBy w0 B ids O g6 g7 G T D own w w' := by
  refine (netClose_w ref w h.net hr hr' (by omega)).mono ?_
  rintro e w' ⟨v, own', L', C', he, hv, hp, hn, hx, hf⟩
  exact ⟨_, _, he, own', L', C', h.netCall hn hx hf, hf.mono (fun c hc => .inl hc)⟩
theorem find_h (s : ByteArray) (p : Int) (h : HoldR w0 B ids O g6 g7 w own L C G T D) (hs : s.size ≤ 1000000) (hv : addrB s.data.toList p = true) :
    Calls Try.prog 24 #[.pointer (some ⟨B.n, 0, none⟩), .agg #[.string s, .int .i64 p]] w fun e w' => ∃ v c, e = .returned (.tuple #[.int .i64 v, .int .i64 c]) ∧ (c = 0 → ∃ x, PN.at? (plainN L C).L s p = some x) ∧ Fr [] w w' := by
  rcases hat : PN.at? (plainN L C).L s p with _ | z
  · refine (netFind_miss s p w h.net.net hs hv (at_none hat)).mono ?_
    rintro e w' ⟨rfl, hf⟩
    exact ⟨0, 9, rfl, fun h => by omega, hf⟩
  · obtain ⟨L1, x, L2, hL, rfl, rfl, rfl⟩ := at_some hat
    refine (netFind_hit x.s x.p x.ref w h.net.net hs hv (List.mem_map.2 ⟨x, by rw [hL]; simp, rfl⟩)).mono ?_
    rintro e w' ⟨rfl, hf⟩
    exact ⟨x.ref, 0, rfl, fun _ => ⟨_, rfl⟩, hf⟩
theorem state_h (k : Nat) (h : HoldR w0 B ids O g6 g7 w own L C G T D) (hk : k < D.length) :
    Calls Try.prog 25 #[.pointer (some ⟨(ids k).1, 0, none⟩)] w fun e w' => e = .returned (.tuple #[.int .i64 (D[k]).st, .int .i64 (D[k]).conn, .int .i64 (D[k]).er]) ∧ Fr [] w w' :=
  dialState_any _ _ _ _ _ _ _ _ _ _ w (h.dials k _ (List.getElem?_eq_getElem hk)).cells
theorem connect_ends (N : PN.Net) (s : ByteArray) (p : Int) (c : Nat) : ((PN.connect N s p c).2.2 = 15 ∧ PN.at? N.L s p = none) ∨ (PN.connect N s p c).2.2 = 16 ∨ (PN.connect N s p c).2.2 = 7 ∨ (PN.connect N s p c).2.2 = 0 := by
  unfold PN.connect
  split
  · rename_i h
    exact .inl ⟨rfl, h⟩
  · split
    · exact .inr (.inl rfl)
    · split
      · exact .inr (.inr (.inl rfl))
      · exact .inr (.inr (.inr rfl))
theorem state_set (k : Nat) (x' : PN.PD) (h : HoldR w0 B ids O g6 g7 w own L C G T (D.set k x')) (hk : k < D.length) :
    Calls Try.prog 25 #[.pointer (some ⟨(ids k).1, 0, none⟩)] w fun e w' => e = .returned (.tuple #[.int .i64 x'.st, .int .i64 x'.conn, .int .i64 x'.er]) ∧ Fr [] w w' := by
  have := state_h k h (by simpa using hk)
  simpa using this
/-- What a try's end is, as the law asks of it. -/
def TryOk (at? : Prop) (now un st conn er k f st' conn' er' : Int) : Prop :=
  (st ≠ 0 → st' = st ∧ conn' = conn ∧ er' = er ∧ f = 8) ∧
  (st = 0 → (f = 12 ∧ PN.pass un now = true ∨ f = 15 ∧ ¬ at? ∨ f = 7 ∨ f = 0 ∧ st' = 1 ∧ conn' = k ∨ f = 16 ∧ st' = 0))
theorem tryOk (now : Int) (d : PN.PD) (N : PN.Net) : TryOk (∃ x, PN.at? N.L d.s d.p = some x) now d.un d.st d.conn d.er (PN.tryD now d N).2.2.1 (PN.tryD now d N).2.2.2 (PN.tryD now d N).1.st (PN.tryD now d N).1.conn (PN.tryD now d N).1.er := by
  constructor
  · intro h
    rw [PN.tryD_done h]
    exact ⟨rfl, rfl, rfl, rfl⟩
  · intro h
    by_cases hp : PN.pass d.un now = true
    · refine .inl ⟨?_, hp⟩
      unfold PN.tryD
      rw [if_neg (by omega), if_pos hp]
    · have hc := connect_ends N d.s d.p d.c
      unfold PN.tryD
      rw [if_neg (by omega), if_neg hp]
      obtain ⟨cn, hcn⟩ : ∃ cn, PN.connect N d.s d.p d.c = cn := ⟨_, rfl⟩
      rw [hcn] at hc ⊢
      obtain ⟨c1, c2, c3⟩ := cn
      simp only at hc ⊢
      rcases hc with ⟨rfl, h1⟩ | rfl | rfl | rfl
      · exact .inr (.inl ⟨rfl, by rw [h1]; simp⟩)
      · exact .inr (.inr (.inr (.inr ⟨rfl, by simp⟩)))
      · exact .inr (.inr (.inl rfl))
      · exact .inr (.inr (.inr (.inl ⟨rfl, by simp, by simp⟩)))
theorem try_h (k : Nat) (now : Int) (h : HoldR w0 B ids O g6 g7 w own L C G T D) (hk : k < D.length) (hG : G ≤ 1000000) (hT : T ≤ 1000000) :
    Calls Try.prog 26 #[.pointer (some ⟨(ids k).1, 0, none⟩), .pointer (some ⟨B.n, 0, none⟩), .int .u64 now] w fun e w' => ∃ c f x',
      e = .returned (.tuple #[.int .i64 c, .int .i64 f]) ∧ TryOk (∃ x, PN.at? (plainN L C).L (D[k]).s (D[k]).p = some x) now (D[k]).un (D[k]).st (D[k]).conn (D[k]).er c f x'.st x'.conn x'.er ∧ HeldBy w0 B ids O g6 g7 (G + 1) (T + 1) (D.set k x') own w w' := by
  have hd := h.dials k _ (List.getElem?_eq_getElem hk)
  have ht := h.trs _ (List.getElem_mem hk)
  refine (dialTry_w now w h.net hd (by omega) (by omega)).mono ?_
  rintro e w' ⟨own', L', C', he, hp, hn, hd', hx, hf⟩
  exact ⟨_, _, _, he, tryOk now D[k] (plainN L C), own', L', C', h.tried hk hn hd' hx hf, hf.mono (fun c hc => tryO_all hc)⟩
end
end Go.Proofs.Ytgbmenfmaphciaa
