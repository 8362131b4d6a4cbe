/- The law's examples, step by step: what holds between two calls, and each of the law's own calls over it. -/
import Derived.Test.YtmdhlodafjpnmaaGreatConn0
import Derived.Test.YtmdhlodafjpnmaaGreatLn1
namespace Go.Proofs.YtmdhlodafjpnmaaGreat
open Go.RowKit
open Go.Maps (Keyed)
set_option linter.unusedVariables false
set_option maxRecDepth 100000
set_option maxHeartbeats 4000000

def webB : ByteArray := ⟨#[119, 101, 98]⟩
def dbB : ByteArray := ⟨#[100, 98]⟩
def aB : ByteArray := ⟨#[97]⟩

structure KnS (w : World) (B : NB) (N : PN.Net) (G b2 b3 : Nat) (wk : World) : Prop where
  live : Live (fun z => z < w.heap.size ∨ z = b2 ∨ z = b3) B N G wk
  a0 : wk.cell? ⟨b2, 0, none⟩ = some (.string webB)
  a1 : wk.cell? ⟨b2, 1, none⟩ = some (.int .i64 80)
  n0 : wk.cell? ⟨b3, 0, none⟩ = some (.string ⟨#[]⟩)
  n1 : wk.cell? ⟨b3, 1, none⟩ = some (.int .i64 0)
  fr : Fr [] w wk
section
variable {w wk W w' : World} {B : NB} {N N' : PN.Net} {G G' b2 b3 : Nat}
theorem KnS.new (h : KnS w B N G b2 b3 wk) (hf : Fr [] wk w') : KnS w B N G b2 b3 w' :=
  ⟨h.live.new hf, hf.keep h.a0 (by simp), hf.keep h.a1 (by simp), hf.keep h.n0 (by simp), hf.keep h.n1 (by simp), h.fr.step hf⟩
theorem KnS.after (h : KnS w B N G b2 b3 wk) (hf : Fr [] wk W) (l : Live (fun z => (z < w.heap.size ∨ z = b2 ∨ z = b3) ∨ wk.heap.size ≤ z ∧ z < W.heap.size) B N' G' w') (k : FrK (fun z => (z < w.heap.size ∨ z = b2 ∨ z = b3) ∨ wk.heap.size ≤ z ∧ z < W.heap.size) W w') : KnS w B N' G' b2 b3 w' := by
  have h' := h.new hf
  exact ⟨l.less (fun z hz => .inl hz), k.cell h'.a0 (.inl (.inr (.inl rfl))), k.cell h'.a1 (.inl (.inr (.inl rfl))), k.cell h'.n0 (.inl (.inr (.inr rfl))), k.cell h'.n1 (.inl (.inr (.inr rfl))), FrK.old h'.fr k (fun z hz => .inl (.inl hz))⟩
theorem KnS.start {w1 W : World} (h : Live (fun z => z < w.heap.size) B N G w1) (f1 : Fr [] w w1) (hf : Fr [] w1 W) (ha : w1.heap.size ≤ b2) (hb : w1.heap.size ≤ b3)
    (a0 : W.cell? ⟨b2, 0, none⟩ = some (.string webB)) (a1 : W.cell? ⟨b2, 1, none⟩ = some (.int .i64 80)) (n0 : W.cell? ⟨b3, 0, none⟩ = some (.string ⟨#[]⟩)) (n1 : W.cell? ⟨b3, 1, none⟩ = some (.int .i64 0)) : KnS w B N G b2 b3 W :=
  ⟨(h.more hf).less (fun z hz => by
    rcases hz with hz | rfl | rfl
    · exact .inl hz
    · exact .inr ⟨ha, cell_lt a0⟩
    · exact .inr ⟨hb, cell_lt n0⟩), a0, a1, n0, n1, f1.step hf⟩

theorem kn_listens (s : ByteArray) (p most r : Int) (s1 : ByteArray) (p1 e0 : Int) (h : KnS w B N G b2 b3 wk) (hs : s.size ≤ 1000000) (hN : PN.listen N s p most (addrB s.data.toList p) = (N', r, (s1, p1), e0)) :
    Calls Tryz.prog 10 #[.pointer (some ⟨B.n, 0, none⟩), .agg #[.string s, .int .i64 p], .int .i64 most, .int .i64 r, .agg #[.string s1, .int .i64 p1], .int .i64 e0] wk fun e w' => e = .returned (.bool true) ∧ KnS w B N' G b2 b3 w' :=
  listens_t (KnS w B N' G b2 b3) wk s p most r s1 p1 e0 (fun W hf => by
    have h1 := listen_l s p most (h.live.more hf) hs
    rw [hN] at h1
    refine h1.mono ?_
    rintro e w' ⟨rfl, l1, k1⟩
    exact ⟨rfl, h.after hf l1 k1, k1.mono (fun z _ hz => .inr hz)⟩) (fun W W' hq hf => hq.new hf)
theorem kn_connects (s : ByteArray) (p r e0 : Int) (c : Nat) (h : KnS w B N G b2 b3 wk) (hs : s.size ≤ 1000000) (hv : addrB s.data.toList p = true) (hc : c ≤ 4096) (hG : G ≤ 1000000) (hN : PN.connect N s p c = (N', r, e0)) :
    Calls Tryz.prog 16 #[.pointer (some ⟨B.n, 0, none⟩), .agg #[.string s, .int .i64 p], .int .i64 c, .int .i64 r, .int .i64 e0] wk fun e w' => e = .returned (.bool true) ∧ KnS w B N' (G + 1) b2 b3 w' :=
  connects_t (KnS w B N' (G + 1) b2 b3) wk s p c r e0 (fun W hf => by
    have h1 := connect_l s p c (h.live.more hf) hs hv hc hG
    rw [hN] at h1
    refine h1.mono ?_
    rintro e w' ⟨rfl, l1, k1⟩
    exact ⟨rfl, h.after hf l1 k1⟩)
theorem kn_connects_bad (s : ByteArray) (p c : Int) (h : KnS w B N G b2 b3 wk) (hs : s.size ≤ 1000000) (hb : (c < 0 ∨ 4096 < c) ∨ addrB s.data.toList p = false) :
    Calls Tryz.prog 16 #[.pointer (some ⟨B.n, 0, none⟩), .agg #[.string s, .int .i64 p], .int .i64 c, .int .i64 0, .int .i64 2] wk fun e w' => e = .returned (.bool true) ∧ KnS w B N G b2 b3 w' :=
  connects_t (KnS w B N G b2 b3) wk s p c 0 2 (fun W hf => by
    refine (connect_arg s p c (h.live.more hf) hs hb).mono ?_
    rintro e w' ⟨rfl, l1, k1⟩
    exact ⟨rfl, h.after hf l1 k1⟩)
theorem kn_pairs (c : Nat) (r e0 : Int) (h : KnS w B N G b2 b3 wk) (hc : c ≤ 4096) (hN : PN.pair N c = (N', r, e0)) :
    Calls Tryz.prog 14 #[.pointer (some ⟨B.n, 0, none⟩), .int .i64 c, .int .i64 r, .int .i64 e0] wk fun e w' => e = .returned (.bool true) ∧ KnS w B N' G b2 b3 w' :=
  pairs_t (KnS w B N' G b2 b3) wk c r e0 (by
    have h1 := pair_l c (h.live.more (Fr.refl _ _)) hc
    rw [hN] at h1
    refine h1.mono ?_
    rintro e w' ⟨rfl, l1, k1⟩
    exact ⟨rfl, h.after (Fr.refl _ _) l1 k1⟩)
theorem kn_accepts (c r e0 : Int) (h : KnS w B N G b2 b3 wk) (hr : -9223372036854775808 ≤ c) (hr' : c ≤ 9223372036854775807) (hG : G ≤ 1000000) (hN : PN.accept N c = (N', r, e0)) :
    Calls Tryz.prog 21 #[.pointer (some ⟨B.n, 0, none⟩), .int .i64 c, .int .i64 r, .int .i64 e0] wk fun e w' => e = .returned (.bool true) ∧ KnS w B N' G b2 b3 w' :=
  accepts_t (KnS w B N' G b2 b3) wk c r e0 (by
    have h1 := accept_l c (h.live.more (Fr.refl _ _)) hr hr' hG
    rw [hN] at h1
    refine h1.mono ?_
    rintro e w' ⟨rfl, l1, k1⟩
    exact ⟨rfl, h.after (Fr.refl _ _) l1 k1⟩)
theorem kn_finds (s : ByteArray) (p r e0 : Int) (h : KnS w B N G b2 b3 wk) (hs : s.size ≤ 1000000) (hv : addrB s.data.toList p = true) (hN : PN.findN N s p = (r, e0)) :
    Calls Tryz.prog 23 #[.pointer (some ⟨B.n, 0, none⟩), .agg #[.string s, .int .i64 p], .int .i64 r, .int .i64 e0] wk fun e w' => e = .returned (.bool true) ∧ KnS w B N G b2 b3 w' :=
  finds_t (KnS w B N G b2 b3) wk s p r e0 (fun W hf => by
    have h1 := find_l s p (h.live.new hf) hs hv
    rw [hN] at h1
    refine h1.mono ?_
    rintro e w' ⟨rfl, f1⟩
    exact ⟨rfl, h.new (hf.step f1)⟩)
theorem kn_hang (c en e0 : Int) (h : KnS w B N G b2 b3 wk) (hr : -9223372036854775808 ≤ c) (hr' : c ≤ 9223372036854775807) (hG : G ≤ 1000000) (hN : PN.hangN N c en = (N', e0)) :
    Calls Tryz.prog 18 #[.pointer (some ⟨B.n, 0, none⟩), .int .i64 c, .int .i64 en] wk fun e w' => e = .returned (.int .i64 e0) ∧ KnS w B N' G b2 b3 w' := by
  have h1 := hang_l c en (h.live.more (Fr.refl _ _)) hG hr hr'
  rw [hN] at h1
  refine h1.mono ?_
  rintro e w' ⟨rfl, l1, k1⟩
  exact ⟨rfl, h.after (Fr.refl _ _) l1 k1⟩
theorem IntRow.ofRow {lo : Nat} {v : Value} {xs : List Int} (h : RowOf w lo v (xs.map (Value.int .i64))) (hl : xs.length ≤ maxLen) : IntRow w v xs := by
  rcases h with ⟨h1, rfl⟩ | ⟨g, cap, rfl, h2, h3, h4⟩
  · exact .inl ⟨by simpa using h1, _, _, rfl⟩
  · refine .inr ⟨g, 0, cap, by simp, by simpa using hl, fun i x hx => ?_⟩
    rw [Nat.zero_add]
    exact h4 i _ (by rw [List.getElem?_map, hx]; rfl)
theorem kn_closes (c e0 : Int) (want : Value) (xs : List Int) (h : KnS w B N G b2 b3 wk) (hf : Fr [] wk W) (hw : ∀ w', FrK (fun z => wk.heap.size ≤ z ∧ z < W.heap.size) W w' → IntRow w' want xs) (hl : xs.length ≤ maxLen) (hr : -9223372036854775808 ≤ c) (hr' : c ≤ 9223372036854775807) (hG : G ≤ 1000000) (hN : PN.close N c = (N', xs, e0)) :
    Calls Tryz.prog 22 #[.pointer (some ⟨B.n, 0, none⟩), .int .i64 c, want, .int .i64 e0] W fun e w' => e = .returned (.bool true) ∧ KnS w B N' G b2 b3 w' :=
  closes_t (KnS w B N' G b2 b3) W c e0 want xs (by
    have h1 := close_l c (h.live.more hf) hr hr' hG
    rw [hN] at h1
    refine h1.mono ?_
    rintro e w' ⟨v, rfl, hv, l1, k1⟩
    exact ⟨v, rfl, IntRow.ofRow hv hl, hw w' (k1.mono (fun z _ hz => .inr hz)), h.after hf l1 k1⟩) (fun W W' hq hf => hq.new hf)
end
end Go.Proofs.YtmdhlodafjpnmaaGreat
