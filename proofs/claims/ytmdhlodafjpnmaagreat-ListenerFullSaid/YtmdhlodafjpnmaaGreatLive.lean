/- A net under way: its plain form, the blocks of others that it keeps as they are, and each of its calls over that. -/
import Derived.Test.YtmdhlodafjpnmaaGreatHang3
import Derived.Test.YtmdhlodafjpnmaaGreatAccept
import Derived.Test.YtmdhlodafjpnmaaGreatListenW
import Derived.Test.YtmdhlodafjpnmaaGreatClose3
import Derived.Test.YtmdhlodafjpnmaaGreatPair2
namespace Go.Proofs.YtmdhlodafjpnmaaGreat
open Go.RowKit
open Go.Maps (Keyed)
set_option linter.unusedVariables false
set_option maxRecDepth 100000
set_option maxHeartbeats 4000000

/-- Of the blocks that were there, none of K has turned. -/
def FrK (K : Nat → Prop) (w w' : World) : Prop := ∃ S, Fr S w w' ∧ ∀ x ∈ S, x < w.heap.size → ¬ K x
section
variable {K : Nat → Prop} {a b c : World}
theorem FrK.new (h : Fr [] a b) : FrK K a b := ⟨[], h, fun x hx => by cases hx⟩
theorem FrK.refl : FrK K a a := FrK.new (Fr.refl _ _)
theorem FrK.size (h : FrK K a b) : a.heap.size ≤ b.heap.size := by
  obtain ⟨S, h1, _⟩ := h
  exact h1.size
theorem FrK.trans (h : FrK K a b) (k : FrK K b c) : FrK K a c := by
  obtain ⟨S, h1, h2⟩ := h
  obtain ⟨T, k1, k2⟩ := k
  refine ⟨S ++ T, (h1.mono (T := S ++ T) (fun x hx _ => List.mem_append_left _ hx)).trans k1 (fun x hx _ => List.mem_append_right _ hx), fun x hx hl => ?_⟩
  rcases List.mem_append.1 hx with hx | hx
  · exact h2 x hx hl
  · exact k2 x hx (Nat.lt_of_lt_of_le hl h1.size)
theorem FrK.step (h : FrK K a b) (k : Fr [] b c) : FrK K a c := h.trans (.new k)
theorem FrK.mono {K' : Nat → Prop} (h : FrK K a b) (hk : ∀ x, x < a.heap.size → K' x → K x) : FrK K' a b := by
  obtain ⟨S, h1, h2⟩ := h
  exact ⟨S, h1, fun x hx hl hk' => h2 x hx hl (hk x hl hk')⟩
/-- .. so that the blocks of K are kept by a list of others. -/
theorem FrK.list (h : FrK K a b) : ∃ S, Fr S a b ∧ ∀ x, K x → x ∉ S := by
  obtain ⟨S, h1, h2⟩ := h
  refine ⟨S.filter (fun x => decide (x < a.heap.size)), h1.mono (fun x hx hl => List.mem_filter.2 ⟨hx, by simpa using hl⟩), fun x hk hx => ?_⟩
  obtain ⟨hx1, hx2⟩ := List.mem_filter.1 hx
  exact h2 x hx1 (of_decide_eq_true hx2) hk
theorem FrK.cell {p o : Nat} {v : Value} (h : FrK K a b) (hc : a.cell? ⟨p, o, none⟩ = some v) (hp : K p) : b.cell? ⟨p, o, none⟩ = some v := by
  obtain ⟨S, h1, h2⟩ := h.list
  exact h1.keep hc (h2 p hp)
/-- All that was there is kept. -/
theorem FrK.old {w0 : World} (h : Fr [] w0 a) (k : FrK K a b) (hK : ∀ z, z < w0.heap.size → K z) : Fr [] w0 b := by
  obtain ⟨S, h1, h2⟩ := k.list
  exact h.trans h1 (fun x hx hl => absurd hx (h2 x (hK x hl)))
end

def Live (K : Nat → Prop) (B : NB) (N : PN.Net) (G : Nat) (w : World) : Prop :=
  ∃ own L C, NetW w own B L C G ∧ plainN L C = N ∧ (∀ z, K z → z < w.heap.size ∧ own z = 4)

section
variable {K : Nat → Prop} {B : NB} {N : PN.Net} {G : Nat} {w w' : World}
theorem Live.new (h : Live K B N G w) (hf : Fr [] w w') : Live K B N G w' := by
  obtain ⟨own, L, C, h1, h2, h3⟩ := h
  exact ⟨own, L, C, h1.new hf, h2, fun z hz => ⟨Nat.lt_of_lt_of_le (h3 z hz).1 hf.size, (h3 z hz).2⟩⟩
theorem Live.keep {S : List Nat} (h : Live K B N G w) (hf : Fr S w w') (hS : ∀ x ∈ S, K x) : Live K B N G w' := by
  obtain ⟨own, L, C, h1, h2, h3⟩ := h
  exact ⟨own, L, C, h1.keep hf (fun z hz => by rw [(h3 z (hS z hz)).2]; unfold netO; omega), h2, fun z hz => ⟨Nat.lt_of_lt_of_le (h3 z hz).1 hf.size, (h3 z hz).2⟩⟩
theorem Live.less {K' : Nat → Prop} (h : Live K B N G w) (hk : ∀ z, K' z → K z) : Live K' B N G w := by
  obtain ⟨own, L, C, h1, h2, h3⟩ := h
  exact ⟨own, L, C, h1, h2, fun z hz => h3 z (hk z hz)⟩
theorem Live.mono {G' : Nat} (h : Live K B N G w) (hg : G ≤ G') : Live K B N G' w := by
  obtain ⟨own, L, C, h1, h2, h3⟩ := h
  exact ⟨own, L, C, h1.mono hg, h2, h3⟩
/-- What is new since w is kept, too. -/
theorem Live.more (h : Live K B N G w) (hf : Fr [] w w') : Live (fun z => K z ∨ w.heap.size ≤ z ∧ z < w'.heap.size) B N G w' := by
  obtain ⟨own, L, C, h1, h2, h3⟩ := h
  refine ⟨ownNew w own 4, L, C, (h1.ext (Ext.new w own 4)).new hf, h2, fun z hz => ?_⟩
  rcases hz with hz | ⟨hz, hz'⟩
  · obtain ⟨k1, k2⟩ := h3 z hz
    exact ⟨Nat.lt_of_lt_of_le k1 hf.size, (Ext.new w own 4 z k1).trans k2⟩
  · exact ⟨hz', ownNew_ge hz⟩
theorem live_call {own own' : Nat → Nat} {L' : List LB} {C' : List CB} {N' : PN.Net} {G' : Nat} (hK : ∀ z, K z → z < w.heap.size ∧ own z = 4) (hn : NetW w' own' B L' C' G') (hp : plainN L' C' = N') (he : Ext w own own') (hf : FrO own netO w w') : Live K B N' G' w' ∧ FrK K w w' := by
  refine ⟨⟨own', L', C', hn, hp, fun z hz => ?_⟩, ?_⟩
  · obtain ⟨k1, k2⟩ := hK z hz
    exact ⟨Nat.lt_of_lt_of_le k1 hf.size, (he z k1).trans k2⟩
  · obtain ⟨S, h1, h2⟩ := hf
    refine ⟨S, h1, fun x hx hl hk => ?_⟩
    have := h2 x hx hl
    rw [(hK x hk).2] at this
    unfold netO at this
    omega

theorem new_l (w : World) :
    Calls Tryz.prog 9 #[] w fun e w' => ∃ B : NB, e = .returned (.pointer (some ⟨B.n, 0, none⟩)) ∧ Live (fun z => z < w.heap.size) B ⟨[], []⟩ 0 w' ∧ Fr [] w w' := by
  refine (netNew_any _).mono ?_
  rintro e w1 ⟨n, r, m, lm, cm, rfl, hn, f1, l1, l2, l3, l4, l5⟩
  have hN0 : NetW w1 (ownNew w (fun _ => 4) 0) ⟨n, r, m, lm, cm⟩ [] [] 0 :=
    ⟨hn, ⟨ownNew_ge l1, ownNew_ge l2, ownNew_ge l3, ownNew_ge l4, ownNew_ge l5⟩, (by intro x hx; cases hx), (by intro x hx; cases hx), by simp, by simp, by simp, (by intro k hk; simp [qs] at hk), by simp [qs], by simp, by simp⟩
  exact ⟨⟨n, r, m, lm, cm⟩, rfl, ⟨_, [], [], hN0, rfl, fun z hz => ⟨Nat.lt_of_lt_of_le hz f1.size, (Ext.new w (fun _ => 4) 0 z hz)⟩⟩, f1⟩

theorem listen_l (s : ByteArray) (p most : Int) (h : Live K B N G w) (hs : s.size ≤ 1000000) :
    Calls Tryz.prog 30 #[.pointer (some ⟨B.n, 0, none⟩), .agg #[.string s, .int .i64 p], .int .i64 most] w fun e w' =>
      e = .returned (.tuple #[.int .i64 (PN.listen N s p most (addrB s.data.toList p)).2.1, .agg #[.string (PN.listen N s p most (addrB s.data.toList p)).2.2.1.1, .int .i64 (PN.listen N s p most (addrB s.data.toList p)).2.2.1.2], .int .i64 (PN.listen N s p most (addrB s.data.toList p)).2.2.2]) ∧ Live K B (PN.listen N s p most (addrB s.data.toList p)).1 G w' ∧ FrK K w w' := by
  obtain ⟨own, L, C, h1, rfl, h3⟩ := h
  refine (netListen_w s p most w h1 hs).mono ?_
  rintro e w' ⟨own', L', he, hp, hn, hx, hf⟩
  exact ⟨he, live_call h3 hn hp hx hf⟩
theorem connect_l (s : ByteArray) (p : Int) (c : Nat) (h : Live K B N G w) (hs : s.size ≤ 1000000) (hv : addrB s.data.toList p = true) (hc : c ≤ 4096) (hG : G ≤ 1000000) :
    Calls Tryz.prog 31 #[.pointer (some ⟨B.n, 0, none⟩), .agg #[.string s, .int .i64 p], .int .i64 c] w fun e w' =>
      e = .returned (.tuple #[.int .i64 (PN.connect N s p c).2.1, .int .i64 (PN.connect N s p c).2.2]) ∧ Live K B (PN.connect N s p c).1 (G + 1) w' ∧ FrK K w w' := by
  obtain ⟨own, L, C, h1, rfl, h3⟩ := h
  refine (netConnect_w s p c w h1 hs hv hc (by omega)).mono ?_
  rintro e w' ⟨own', L', C', he, hp, hn, hx, hf⟩
  exact ⟨he, live_call h3 hn hp hx hf⟩
theorem pair_l (c : Nat) (h : Live K B N G w) (hc : c ≤ 4096) :
    Calls Tryz.prog 33 #[.pointer (some ⟨B.n, 0, none⟩), .int .i64 c] w fun e w' =>
      e = .returned (.tuple #[.int .i64 (PN.pair N c).2.1, .int .i64 (PN.pair N c).2.2]) ∧ Live K B (PN.pair N c).1 G w' ∧ FrK K w w' := by
  obtain ⟨own, L, C, h1, rfl, h3⟩ := h
  refine (netPair_w c w h1 hc).mono ?_
  rintro e w' ⟨own', C', he, hp, hn, hx, hf⟩
  exact ⟨he, live_call h3 hn hp hx hf⟩
theorem accept_l (ref : Int) (h : Live K B N G w) (hr : -9223372036854775808 ≤ ref) (hr' : ref ≤ 9223372036854775807) (hG : G ≤ 1000000) :
    Calls Tryz.prog 34 #[.pointer (some ⟨B.n, 0, none⟩), .int .i64 ref] w fun e w' =>
      e = .returned (.tuple #[.int .i64 (PN.accept N ref).2.1, .int .i64 (PN.accept N ref).2.2]) ∧ Live K B (PN.accept N ref).1 G w' ∧ FrK K w w' := by
  obtain ⟨own, L, C, h1, rfl, h3⟩ := h
  refine (netAccept_w ref w h1 hr hr' (by omega)).mono ?_
  rintro e w' ⟨L', he, hp, hn, hf⟩
  exact ⟨he, live_call h3 hn hp (Ext.refl _ _) hf⟩
theorem close_l (ref : Int) (h : Live K B N G w) (hr : -9223372036854775808 ≤ ref) (hr' : ref ≤ 9223372036854775807) (hG : G ≤ 1000000) :
    Calls Tryz.prog 35 #[.pointer (some ⟨B.n, 0, none⟩), .int .i64 ref] w fun e w' => ∃ v,
      e = .returned (.tuple #[v, .int .i64 (PN.close N ref).2.2]) ∧ RowOf w' w.heap.size v ((PN.close N ref).2.1.map (Value.int .i64)) ∧ Live K B (PN.close N ref).1 G w' ∧ FrK K w w' := by
  obtain ⟨own, L, C, h1, rfl, h3⟩ := h
  refine (netClose_w ref w h1 hr hr' (by omega)).mono ?_
  rintro e w' ⟨v, own', L', C', he, hv, hp, hn, hx, hf⟩
  exact ⟨v, he, hv, live_call h3 hn hp hx hf⟩
/-- Find at an address that is valid: the number and the error. -/
def PN.findN (N : PN.Net) (s : ByteArray) (p : Int) : Int × Int :=
  match PN.at? N.L s p with
  | none => (0, 9)
  | some x => (x.ref, 0)
theorem find_l (s : ByteArray) (p : Int) (h : Live K B N G w) (hs : s.size ≤ 1000000) (hv : addrB s.data.toList p = true) :
    Calls Tryz.prog 32 #[.pointer (some ⟨B.n, 0, none⟩), .agg #[.string s, .int .i64 p]] w fun e w' => e = .returned (.tuple #[.int .i64 (PN.findN N s p).1, .int .i64 (PN.findN N s p).2]) ∧ Fr [] w w' := by
  obtain ⟨own, L, C, h1, rfl, h3⟩ := h
  unfold PN.findN
  rcases hat : PN.at? (plainN L C).L s p with _ | z
  · exact netFind_miss s p w h1.net hs hv (at_none hat)
  · obtain ⟨L1, x, L2, rfl, rfl, rfl, rfl⟩ := at_some hat
    exact netFind_hit x.s x.p x.ref w h1.net hs hv (List.mem_map.2 ⟨x, by simp, rfl⟩)
end
end Go.Proofs.YtmdhlodafjpnmaaGreat
