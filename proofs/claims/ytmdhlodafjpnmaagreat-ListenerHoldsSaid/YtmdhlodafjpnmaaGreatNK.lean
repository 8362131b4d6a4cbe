/- The law's examples over a net with bytes: 'known' returns true in every world. -/
import Derived.Test.YtmdhlodafjpnmaaGreatNQ
import Derived.Test.YtmdhlodafjpnmaaGreatLn1
import Derived.Deep.RegionWith
import Derived.Deep.RegionHeld3
namespace Go.Proofs.YtmdhlodafjpnmaaGreat
open Go.RowKit
open Go.Maps (Keyed)
set_option linter.unusedVariables false
set_option maxRecDepth 100000
set_option maxHeartbeats 16000000

section
variable {K : Nat → Prop} {B : NB} {N : NG} {G : Nat} {w : World}
theorem connect_lk (s : ByteArray) (p : Int) (c : Nat) (h : LiveG K B N G w) (hs : s.size ≤ 1000000) (hv : addrB s.data.toList p = true) (hc : c ≤ 4096) (hG : G ≤ 1000000) :
    Calls Tryz.prog 31 #[.pointer (some ⟨B.n, 0, none⟩), .agg #[.string s, .int .i64 p], .int .i64 c] w fun e w' =>
      e = .returned (.tuple #[.int .i64 (N.connect s p c).2.1, .int .i64 (N.connect s p c).2.2]) ∧ LiveG K B (N.connect s p c).1 (G + 1) w' ∧ FrK K w w' := by
  obtain ⟨own, L, C, h1, rfl, h3⟩ := h
  refine (netConnect_g s p c w h1 hs hv hc (by omega)).mono ?_
  rintro e w' ⟨own', L', C', he, hp, hn, hx, hf⟩
  exact ⟨he, liveG_call h3 hn hp hx hf⟩
theorem pair_lk (c : Nat) (h : LiveG K B N G w) (hc : c ≤ 4096) :
    Calls Tryz.prog 33 #[.pointer (some ⟨B.n, 0, none⟩), .int .i64 c] w fun e w' =>
      e = .returned (.tuple #[.int .i64 (N.pair c).2.1, .int .i64 (N.pair c).2.2]) ∧ LiveG K B (N.pair c).1 G w' ∧ FrK K w w' := by
  obtain ⟨own, L, C, h1, rfl, h3⟩ := h
  refine (netPair_g c w h1 hc).mono ?_
  rintro e w' ⟨own', C', he, hp, hn, hx, hf⟩
  exact ⟨he, liveG_call h3 hn hp hx hf⟩
theorem close_lk (ref : Int) (h : LiveG K B N G w) (hr : -9223372036854775808 ≤ ref) (hr' : ref ≤ 9223372036854775807) (hG : G ≤ 1000000) :
    Calls Tryz.prog 35 #[.pointer (some ⟨B.n, 0, none⟩), .int .i64 ref] w fun e w' => ∃ v,
      e = .returned (.tuple #[v, .int .i64 (N.close ref).2.2]) ∧ RowOf w' w.heap.size v ((N.close ref).2.1.map (Value.int .i64)) ∧ LiveG K B (N.close ref).1 G w' ∧ FrK K w w' := by
  refine (close_lg ref h hr hr' hG).mono ?_
  rintro e w' ⟨v, he, hv, hl, hk⟩
  exact ⟨v, he, hv, hl.less (fun z hz => .inl hz), hk⟩
theorem connect_argk (s : ByteArray) (p c : Int) (h : LiveG K B N G w) (hs : s.size ≤ 1000000) (hb : (c < 0 ∨ 4096 < c) ∨ addrB s.data.toList p = false) :
    Calls Tryz.prog 31 #[.pointer (some ⟨B.n, 0, none⟩), .agg #[.string s, .int .i64 p], .int .i64 c] w fun e w' => e = .returned (.tuple #[.int .i64 0, .int .i64 2]) ∧ LiveG K B N G w' ∧ FrK K w w' := by
  have h' := h
  obtain ⟨own, L, C, h1, rfl, h3⟩ := h
  refine (netConnectG_arg w s p c h1 hs hb).mono ?_
  rintro e w' ⟨rfl, hf⟩
  exact ⟨rfl, h'.new hf, FrK.new hf⟩
end
def webB : ByteArray := ⟨#[119, 101, 98]⟩
def dbB : ByteArray := ⟨#[100, 98]⟩
def aB : ByteArray := ⟨#[97]⟩

structure KnS (w : World) (B : NB) (N : NG) (G b2 b3 : Nat) (wk : World) : Prop where
  live : LiveG (fun z => z < w.heap.size ∨ z = b2 ∨ z = b3) B N G wk
  a0 : wk.cell? ⟨b2, 0, none⟩ = some (.string webB)
  a1 : wk.cell? ⟨b2, 1, none⟩ = some (.int .i64 80)
  n0 : wk.cell? ⟨b3, 0, none⟩ = some (.string ⟨#[]⟩)
  n1 : wk.cell? ⟨b3, 1, none⟩ = some (.int .i64 0)
  fr : Fr [] w wk
section
variable {w wk W w' : World} {B : NB} {N N' : NG} {G G' b2 b3 : Nat}
theorem KnS.new (h : KnS w B N G b2 b3 wk) (hf : Fr [] wk w') : KnS w B N G b2 b3 w' :=
  ⟨h.live.new hf, hf.keep h.a0 (by simp), hf.keep h.a1 (by simp), hf.keep h.n0 (by simp), hf.keep h.n1 (by simp), h.fr.step hf⟩
theorem KnS.after (h : KnS w B N G b2 b3 wk) (hf : Fr [] wk W) (l : LiveG (fun z => (z < w.heap.size ∨ z = b2 ∨ z = b3) ∨ wk.heap.size ≤ z ∧ z < W.heap.size) B N' G' w') (k : FrK (fun z => (z < w.heap.size ∨ z = b2 ∨ z = b3) ∨ wk.heap.size ≤ z ∧ z < W.heap.size) W w') : KnS w B N' G' b2 b3 w' := by
  have h' := h.new hf
  exact ⟨l.less (fun z hz => .inl hz), k.cell h'.a0 (.inl (.inr (.inl rfl))), k.cell h'.a1 (.inl (.inr (.inl rfl))), k.cell h'.n0 (.inl (.inr (.inr rfl))), k.cell h'.n1 (.inl (.inr (.inr rfl))), FrK.old h'.fr k (fun z hz => .inl (.inl hz))⟩
theorem KnS.start {w1 W : World} (h : LiveG (fun z => z < w.heap.size) B N G w1) (f1 : Fr [] w w1) (hf : Fr [] w1 W) (ha : w1.heap.size ≤ b2) (hb : w1.heap.size ≤ b3)
    (a0 : W.cell? ⟨b2, 0, none⟩ = some (.string webB)) (a1 : W.cell? ⟨b2, 1, none⟩ = some (.int .i64 80)) (n0 : W.cell? ⟨b3, 0, none⟩ = some (.string ⟨#[]⟩)) (n1 : W.cell? ⟨b3, 1, none⟩ = some (.int .i64 0)) : KnS w B N G b2 b3 W :=
  ⟨(h.more hf).less (fun z hz => by
    rcases hz with hz | rfl | rfl
    · exact .inl hz
    · exact .inr ⟨ha, cell_lt a0⟩
    · exact .inr ⟨hb, cell_lt n0⟩), a0, a1, n0, n1, f1.step hf⟩

theorem kn_listens (s : ByteArray) (p most r : Int) (s1 : ByteArray) (p1 e0 : Int) (h : KnS w B N G b2 b3 wk) (hs : s.size ≤ 1000000) (hN : NG.listen N s p most (addrB s.data.toList p) = (N', r, (s1, p1), e0)) :
    Calls Tryz.prog 10 #[.pointer (some ⟨B.n, 0, none⟩), .agg #[.string s, .int .i64 p], .int .i64 most, .int .i64 r, .agg #[.string s1, .int .i64 p1], .int .i64 e0] wk fun e w' => e = .returned (.bool true) ∧ KnS w B N' G b2 b3 w' :=
  listens_t (KnS w B N' G b2 b3) wk s p most r s1 p1 e0 (fun W hf => by
    have h1 := listen_lg s p most (h.live.more hf) hs
    rw [hN] at h1
    refine h1.mono ?_
    rintro e w' ⟨rfl, l1, k1⟩
    exact ⟨rfl, h.after hf l1 k1, k1.mono (fun z _ hz => .inr hz)⟩) (fun W W' hq hf => hq.new hf)
theorem kn_connects (s : ByteArray) (p r e0 : Int) (c : Nat) (h : KnS w B N G b2 b3 wk) (hs : s.size ≤ 1000000) (hv : addrB s.data.toList p = true) (hc : c ≤ 4096) (hG : G ≤ 1000000) (hN : NG.connect N s p c = (N', r, e0)) :
    Calls Tryz.prog 16 #[.pointer (some ⟨B.n, 0, none⟩), .agg #[.string s, .int .i64 p], .int .i64 c, .int .i64 r, .int .i64 e0] wk fun e w' => e = .returned (.bool true) ∧ KnS w B N' (G + 1) b2 b3 w' :=
  connects_t (KnS w B N' (G + 1) b2 b3) wk s p c r e0 (fun W hf => by
    have h1 := connect_lk s p c (h.live.more hf) hs hv hc hG
    rw [hN] at h1
    refine h1.mono ?_
    rintro e w' ⟨rfl, l1, k1⟩
    exact ⟨rfl, h.after hf l1 k1⟩)
theorem kn_connects_bad (s : ByteArray) (p c : Int) (h : KnS w B N G b2 b3 wk) (hs : s.size ≤ 1000000) (hb : (c < 0 ∨ 4096 < c) ∨ addrB s.data.toList p = false) :
    Calls Tryz.prog 16 #[.pointer (some ⟨B.n, 0, none⟩), .agg #[.string s, .int .i64 p], .int .i64 c, .int .i64 0, .int .i64 2] wk fun e w' => e = .returned (.bool true) ∧ KnS w B N G b2 b3 w' :=
  connects_t (KnS w B N G b2 b3) wk s p c 0 2 (fun W hf => by
    refine (connect_argk s p c (h.live.more hf) hs hb).mono ?_
    rintro e w' ⟨rfl, l1, k1⟩
    exact ⟨rfl, h.after hf l1 k1⟩)
theorem kn_pairs (c : Nat) (r e0 : Int) (h : KnS w B N G b2 b3 wk) (hc : c ≤ 4096) (hN : NG.pair N c = (N', r, e0)) :
    Calls Tryz.prog 14 #[.pointer (some ⟨B.n, 0, none⟩), .int .i64 c, .int .i64 r, .int .i64 e0] wk fun e w' => e = .returned (.bool true) ∧ KnS w B N' G b2 b3 w' :=
  pairs_t (KnS w B N' G b2 b3) wk c r e0 (by
    have h1 := pair_lk c (h.live.more (Fr.refl _ _)) hc
    rw [hN] at h1
    refine h1.mono ?_
    rintro e w' ⟨rfl, l1, k1⟩
    exact ⟨rfl, h.after (Fr.refl _ _) l1 k1⟩)
theorem kn_accepts (c r e0 : Int) (h : KnS w B N G b2 b3 wk) (hr : -9223372036854775808 ≤ c) (hr' : c ≤ 9223372036854775807) (hG : G ≤ 1000000) (hN : NG.accept N c = (N', r, e0)) :
    Calls Tryz.prog 21 #[.pointer (some ⟨B.n, 0, none⟩), .int .i64 c, .int .i64 r, .int .i64 e0] wk fun e w' => e = .returned (.bool true) ∧ KnS w B N' G b2 b3 w' :=
  accepts_t (KnS w B N' G b2 b3) wk c r e0 (by
    have h1 := accept_lg c (h.live.more (Fr.refl _ _)) hr hr' hG
    rw [hN] at h1
    refine h1.mono ?_
    rintro e w' ⟨rfl, l1, k1⟩
    exact ⟨rfl, h.after (Fr.refl _ _) l1 k1⟩)
theorem kn_finds (s : ByteArray) (p r e0 : Int) (h : KnS w B N G b2 b3 wk) (hs : s.size ≤ 1000000) (hv : addrB s.data.toList p = true) (hN : NG.find N s p = (r, e0)) :
    Calls Tryz.prog 23 #[.pointer (some ⟨B.n, 0, none⟩), .agg #[.string s, .int .i64 p], .int .i64 r, .int .i64 e0] wk fun e w' => e = .returned (.bool true) ∧ KnS w B N G b2 b3 w' :=
  finds_t (KnS w B N G b2 b3) wk s p r e0 (fun W hf => by
    have h1 := find_lg s p (h.live.new hf) hs hv
    rw [hN] at h1
    refine h1.mono ?_
    rintro e w' ⟨rfl, f1⟩
    exact ⟨rfl, h.new (hf.step f1)⟩)
theorem kn_hang (c en e0 : Int) (h : KnS w B N G b2 b3 wk) (hr : -9223372036854775808 ≤ c) (hr' : c ≤ 9223372036854775807) (hG : G ≤ 1000000) (hN : NG.hang N c en = (N', e0)) :
    Calls Tryz.prog 18 #[.pointer (some ⟨B.n, 0, none⟩), .int .i64 c, .int .i64 en] wk fun e w' => e = .returned (.int .i64 e0) ∧ KnS w B N' G b2 b3 w' := by
  have h1 := hang_lg c en (h.live.more (Fr.refl _ _)) hG hr hr'
  rw [hN] at h1
  refine h1.mono ?_
  rintro e w' ⟨rfl, l1, k1⟩
  exact ⟨rfl, h.after (Fr.refl _ _) l1 k1⟩
theorem IntRow.ofRow {lo : Nat} {v : Value} {xs : List Int} (h : RowOf w lo v (xs.map (Value.int .i64))) (hl : xs.length ≤ maxLen) : IntRow w v xs := by
  rcases h with ⟨h1, rfl⟩ | ⟨g, cap, rfl, h2, h3, h4⟩
  · exact .inl ⟨by simpa using h1, _, _, rfl⟩
  · refine .inr ⟨g, 0, cap, by simp, by simpa using hl, fun i x hx => ?_⟩
    rw [Nat.zero_add]
    exact h4 i _ (by rw [List.getElem?_map, hx]; rfl)
theorem kn_closes (c e0 : Int) (want : Value) (xs : List Int) (h : KnS w B N G b2 b3 wk) (hf : Fr [] wk W) (hw : ∀ w', FrK (fun z => wk.heap.size ≤ z ∧ z < W.heap.size) W w' → IntRow w' want xs) (hl : xs.length ≤ maxLen) (hr : -9223372036854775808 ≤ c) (hr' : c ≤ 9223372036854775807) (hG : G ≤ 1000000) (hN : NG.close N c = (N', xs, e0)) :
    Calls Tryz.prog 22 #[.pointer (some ⟨B.n, 0, none⟩), .int .i64 c, want, .int .i64 e0] W fun e w' => e = .returned (.bool true) ∧ KnS w B N' G b2 b3 w' :=
  closes_t (KnS w B N' G b2 b3) W c e0 want xs (by
    have h1 := close_lk c (h.live.more hf) hr hr' hG
    rw [hN] at h1
    refine h1.mono ?_
    rintro e w' ⟨v, rfl, hv, l1, k1⟩
    exact ⟨v, rfl, IntRow.ofRow hv hl, hw w' (k1.mono (fun z _ hz => .inr hz)), h.after hf l1 k1⟩) (fun W W' hq hf => hq.new hf)
end
def kN0 : NG := ⟨[], []⟩
def kN1 : NG := ⟨[⟨0, webB, 80, 1, []⟩], []⟩
def kN2 : NG := ⟨[⟨0, webB, 80, 1, []⟩, ⟨1, webB, 49152, 2, []⟩], []⟩
def kN3 : NG := ⟨[⟨0, webB, 80, 1, [0]⟩, ⟨1, webB, 49152, 2, []⟩], [⟨0, cc0 4⟩]⟩
def kN4 : NG := ⟨[⟨0, webB, 80, 1, [0]⟩, ⟨1, webB, 49152, 2, []⟩], [⟨0, cc0 4⟩, ⟨1, cc0 0⟩]⟩
def kN5 : NG := ⟨[⟨0, webB, 80, 1, []⟩, ⟨1, webB, 49152, 2, []⟩], [⟨0, cc0 4⟩, ⟨1, cc0 0⟩]⟩
def kN6 : NG := ⟨[⟨0, webB, 80, 1, [2]⟩, ⟨1, webB, 49152, 2, []⟩], [⟨0, cc0 4⟩, ⟨1, cc0 0⟩, ⟨2, cc0 4⟩]⟩
def kN7 : NG := ⟨[⟨0, webB, 80, 1, [2]⟩, ⟨1, webB, 49152, 2, []⟩], [⟨0, cc0 4⟩, ⟨1, ((cc0 0).close false).1⟩, ⟨2, cc0 4⟩]⟩
def kN8 : NG := ⟨[⟨0, webB, 80, 1, [2]⟩, ⟨1, webB, 49152, 2, []⟩], [⟨0, cc0 4⟩, ⟨2, cc0 4⟩]⟩
def kN9 : NG := ⟨[⟨1, webB, 49152, 2, []⟩], [⟨0, cc0 4⟩, ⟨2, ((cc0 4).close true).1⟩]⟩
def kN10 : NG := ⟨[⟨1, webB, 49152, 2, []⟩], [⟨0, cc0 4⟩, ⟨2, ((cc0 4).close true).1⟩, ⟨1, cc0 3⟩]⟩
theorem kn_s1 : NG.listen kN0 webB 80 1 (addrB webB.data.toList 80) = (kN1, 0, (webB, 80), 0) := by kernel_rfl
theorem kn_s2 : NG.listen kN1 webB 80 1 (addrB webB.data.toList 80) = (kN1, 0, (⟨#[]⟩, 0), 11) := by kernel_rfl
theorem kn_s3 : NG.listen kN1 webB 0 2 (addrB webB.data.toList 0) = (kN2, 1, (webB, 49152), 0) := by kernel_rfl
theorem kn_s4 : NG.connect kN2 webB 80 4 = (kN3, 0, 0) := by kernel_rfl
theorem kn_s5 : NG.connect kN3 webB 80 4 = (kN3, 0, 16) := by kernel_rfl
theorem kn_s6 : NG.connect kN3 dbB 1 4 = (kN3, 0, 15) := by kernel_rfl
theorem kn_s7 : NG.pair kN3 0 = (kN4, 1, 0) := by kernel_rfl
theorem kn_s8 : NG.accept kN4 0 = (kN5, 0, 0) := by kernel_rfl
theorem kn_s9 : NG.accept kN5 0 = (kN5, 0, 16) := by kernel_rfl
theorem kn_s10 : NG.accept kN5 7 = (kN5, 0, 9) := by kernel_rfl
theorem kn_s11 : NG.connect kN5 webB 80 4 = (kN6, 2, 0) := by kernel_rfl
theorem kn_s12 : NG.find kN6 webB 49152 = (1, 0) := by kernel_rfl
theorem kn_s13 : NG.hang kN6 1 0 = (kN7, 0) := by kernel_rfl
theorem kn_s14 : NG.hang kN7 1 0 = (kN7, 14) := by kernel_rfl
theorem kn_s15 : NG.hang kN7 1 1 = (kN8, 0) := by kernel_rfl
theorem kn_s16 : NG.hang kN8 1 1 = (kN8, 9) := by kernel_rfl
theorem kn_s17 : NG.close kN8 0 = (kN9, [2], 0) := by kernel_rfl
theorem kn_s18 : NG.close kN9 0 = (kN9, [], 9) := by kernel_rfl
theorem kn_s19 : NG.pair kN9 3 = (kN10, 1, 0) := by kernel_rfl
theorem kn_s20 : NG.connect kN10 webB 80 4 = (kN10, 0, 15) := by kernel_rfl
theorem kn_s21 : NG.listen kN10 aB 1 0 (addrB aB.data.toList 1) = (kN10, 0, (⟨#[]⟩, 0), 2) := by kernel_rfl
theorem kn_s22 : NG.hang kN10 0 2 = (kN10, 2) := by kernel_rfl
theorem web80 : addrB webB.data.toList 80 = true := by decide
theorem web49152 : addrB webB.data.toList 49152 = true := by decide
theorem db1 : addrB dbB.data.toList 1 = true := by decide

theorem known_true (w : World) :
    Calls Tryz.prog 8 #[] w fun e w' => e = .returned (.bool true) ∧ Fr [] w w' := by
  go_enter Tryz.func8, Tryz.ntmps8
  go_wp2_with fail
  refine (new_lg _).mono ?_
  rintro e w1 ⟨B, rfl, l1, f1⟩
  go_wp2_with fail
  refine (to_any _ _ _).mono ?_
  rintro e w2 ⟨rfl, f2⟩
  go_wp2_with fail
  have S0 : KnS w B kN0 0 w2.heap.size (w2.heap.size + 1) ((w2.alloc (.cells #[.string webB, .int .i64 80] 28)).alloc (.cells #[.string ⟨#[]⟩, .int .i64 0] 28)) :=
    KnS.start l1 f1 ((f2.alloc _).alloc _) f2.size (by have := f2.size; omega) (by simp) (by simp) (by simp) (by simp)
  clear l1 f1 f2
  have a0 := S0.a0
  have a1 := S0.a1
  have n0 := S0.n0
  have n1 := S0.n1
  go_wp2_with fail
  clear a0 a1 n0 n1
  refine (kn_listens webB 80 1 0 webB 80 0 S0 (by decide) kn_s1).mono ?_
  rintro e v1 ⟨rfl, S1⟩
  clear S0
  have a0 := S1.a0
  have a1 := S1.a1
  have n0 := S1.n0
  have n1 := S1.n1
  go_wp2_with fail
  clear a0 a1 n0 n1
  refine (kn_listens webB 80 1 0 ⟨#[]⟩ 0 11 S1 (by decide) kn_s2).mono ?_
  rintro e v2 ⟨rfl, S2⟩
  clear S1
  go_wp2_with fail
  refine (to_any _ _ _).mono ?_
  rintro e v3 ⟨rfl, f3⟩
  have S3 := S2.new f3
  clear S2 f3
  go_wp2_with fail
  refine (to_any _ _ _).mono ?_
  rintro e v4 ⟨rfl, f4⟩
  have S4 := S3.new f4
  clear S3 f4
  have a0 := S4.a0
  have a1 := S4.a1
  have n0 := S4.n0
  have n1 := S4.n1
  go_wp2_with fail
  clear a0 a1 n0 n1
  refine (kn_listens webB 0 2 1 webB 49152 0 S4 (by decide) kn_s3).mono ?_
  rintro e v5 ⟨rfl, S5⟩
  clear S4
  have a0 := S5.a0
  have a1 := S5.a1
  have n0 := S5.n0
  have n1 := S5.n1
  go_wp2_with fail
  clear a0 a1 n0 n1
  refine (kn_connects webB 80 0 0 4 S5 (by decide) web80 (by omega) (by omega) kn_s4).mono ?_
  rintro e v6 ⟨rfl, S6⟩
  clear S5
  have a0 := S6.a0
  have a1 := S6.a1
  have n0 := S6.n0
  have n1 := S6.n1
  go_wp2_with fail
  clear a0 a1 n0 n1
  refine (kn_connects webB 80 0 16 4 S6 (by decide) web80 (by omega) (by omega) kn_s5).mono ?_
  rintro e v7 ⟨rfl, S7⟩
  clear S6
  go_wp2_with fail
  refine (to_any _ _ _).mono ?_
  rintro e v8 ⟨rfl, f8⟩
  have S8 := S7.new f8
  clear S7 f8
  have a0 := S8.a0
  have a1 := S8.a1
  have n0 := S8.n0
  have n1 := S8.n1
  go_wp2_with fail
  clear a0 a1 n0 n1
  refine (kn_connects dbB 1 0 15 4 S8 (by decide) db1 (by omega) (by omega) kn_s6).mono ?_
  rintro e v9 ⟨rfl, S9⟩
  clear S8
  have a0 := S9.a0
  have a1 := S9.a1
  have n0 := S9.n0
  have n1 := S9.n1
  go_wp2_with fail
  clear a0 a1 n0 n1
  refine (kn_pairs 0 1 0 S9 (by omega) kn_s7).mono ?_
  rintro e v10 ⟨rfl, S10⟩
  clear S9
  have a0 := S10.a0
  have a1 := S10.a1
  have n0 := S10.n0
  have n1 := S10.n1
  go_wp2_with fail
  clear a0 a1 n0 n1
  refine (kn_accepts 0 0 0 S10 (by omega) (by omega) (by omega) kn_s8).mono ?_
  rintro e v11 ⟨rfl, S11⟩
  clear S10
  have a0 := S11.a0
  have a1 := S11.a1
  have n0 := S11.n0
  have n1 := S11.n1
  go_wp2_with fail
  clear a0 a1 n0 n1
  refine (kn_accepts 0 0 16 S11 (by omega) (by omega) (by omega) kn_s9).mono ?_
  rintro e v12 ⟨rfl, S12⟩
  clear S11
  have a0 := S12.a0
  have a1 := S12.a1
  have n0 := S12.n0
  have n1 := S12.n1
  go_wp2_with fail
  clear a0 a1 n0 n1
  refine (kn_accepts 7 0 9 S12 (by omega) (by omega) (by omega) kn_s10).mono ?_
  rintro e v13 ⟨rfl, S13⟩
  clear S12
  have a0 := S13.a0
  have a1 := S13.a1
  have n0 := S13.n0
  have n1 := S13.n1
  go_wp2_with fail
  clear a0 a1 n0 n1
  refine (kn_connects webB 80 2 0 4 S13 (by decide) web80 (by omega) (by omega) kn_s11).mono ?_
  rintro e v14 ⟨rfl, S14⟩
  clear S13
  go_wp2_with fail
  refine (to_any _ _ _).mono ?_
  rintro e v15 ⟨rfl, f15⟩
  have S15 := S14.new f15
  clear S14 f15
  have a0 := S15.a0
  have a1 := S15.a1
  have n0 := S15.n0
  have n1 := S15.n1
  go_wp2_with fail
  clear a0 a1 n0 n1
  refine (kn_finds webB 49152 1 0 S15 (by decide) web49152 kn_s12).mono ?_
  rintro e v16 ⟨rfl, S16⟩
  clear S15
  have a0 := S16.a0
  have a1 := S16.a1
  have n0 := S16.n0
  have n1 := S16.n1
  go_wp2_with fail
  clear a0 a1 n0 n1
  refine (kn_hang 1 0 0 S16 (by omega) (by omega) (by omega) kn_s13).mono ?_
  rintro e v17 ⟨rfl, S17⟩
  clear S16
  have a0 := S17.a0
  have a1 := S17.a1
  have n0 := S17.n0
  have n1 := S17.n1
  go_wp2_with fail
  clear a0 a1 n0 n1
  refine (kn_hang 1 0 14 S17 (by omega) (by omega) (by omega) kn_s14).mono ?_
  rintro e v18 ⟨rfl, S18⟩
  clear S17
  have a0 := S18.a0
  have a1 := S18.a1
  have n0 := S18.n0
  have n1 := S18.n1
  go_wp2_with fail
  clear a0 a1 n0 n1
  refine (kn_hang 1 1 0 S18 (by omega) (by omega) (by omega) kn_s15).mono ?_
  rintro e v19 ⟨rfl, S19⟩
  clear S18
  have a0 := S19.a0
  have a1 := S19.a1
  have n0 := S19.n0
  have n1 := S19.n1
  go_wp2_with fail
  clear a0 a1 n0 n1
  refine (kn_hang 1 1 9 S19 (by omega) (by omega) (by omega) kn_s16).mono ?_
  rintro e v20 ⟨rfl, S20⟩
  clear S19
  have a0 := S20.a0
  have a1 := S20.a1
  have n0 := S20.n0
  have n1 := S20.n1
  go_wp2_with fail
  clear a0 a1 n0 n1
  refine (kn_closes 0 0 _ [2] S20 ((Fr.refl [] _).alloc _) (fun w' k => .inr ⟨v20.heap.size, 0, 1, rfl, by decide, fun i x hx => by
    match i, hx with
    | 0, hx => cases hx; exact k.cell (by simp) ⟨by omega, by simp⟩⟩) (by decide) (by omega) (by omega) (by omega) kn_s17).mono ?_
  rintro e v21 ⟨rfl, S21⟩
  clear S20
  have a0 := S21.a0
  have a1 := S21.a1
  have n0 := S21.n0
  have n1 := S21.n1
  go_wp2_with fail
  clear a0 a1 n0 n1
  refine (kn_closes 0 9 _ [] S21 (Fr.refl [] _) (fun w' k => .inl ⟨rfl, _, _, rfl⟩) (by decide) (by omega) (by omega) (by omega) kn_s18).mono ?_
  rintro e v22 ⟨rfl, S22⟩
  clear S21
  have a0 := S22.a0
  have a1 := S22.a1
  have n0 := S22.n0
  have n1 := S22.n1
  go_wp2_with fail
  clear a0 a1 n0 n1
  refine (kn_pairs 3 1 0 S22 (by omega) kn_s19).mono ?_
  rintro e v23 ⟨rfl, S23⟩
  clear S22
  have a0 := S23.a0
  have a1 := S23.a1
  have n0 := S23.n0
  have n1 := S23.n1
  go_wp2_with fail
  go_region_held3 (fun w' => w'.cell? ⟨w2.heap.size, 0, none⟩ = some (.string webB) ∧ w'.cell? ⟨w2.heap.size, 1, none⟩ = some (.int .i64 80) ∧ w'.cell? ⟨w2.heap.size + 1, 0, none⟩ = some (.string ⟨#[]⟩) ∧ w'.cell? ⟨w2.heap.size + 1, 1, none⟩ = some (.int .i64 0))
    (first
      | exact ⟨a0, a1, n0, n1⟩
      | exact ⟨S24.a0, S24.a1, S24.n0, S24.n1⟩
      | exact ⟨S25.a0, S25.a1, S25.n0, S25.n1⟩
      | exact ⟨S26.a0, S26.a1, S26.n0, S26.n1⟩
      | exact ⟨S27.a0, S27.a1, S27.n0, S27.n1⟩
      | exact ⟨S28.a0, S28.a1, S28.n0, S28.n1⟩
      | exact ⟨S29.a0, S29.a1, S29.n0, S29.n1⟩)
    (first
      | (go_at_call 18; have hg := S28; refine (kn_hang 0 2 2 S28 (by omega) (by omega) (by omega) kn_s22).mono ?_; rintro e v29 ⟨rfl, S29⟩)
      | (go_at_call 16; have hg := S27; refine (kn_connects_bad webB 49152 4097 S27 (by decide) (.inl (.inr (by omega)))).mono ?_; rintro e v28 ⟨rfl, S28⟩)
      | (go_at_call 11; have hg := S26; refine (to_any webB 49152 _).mono ?_; rintro e v27 ⟨rfl, f27⟩; have S27 := S26.new f27)
      | (go_at_call 10; have hg := S25; refine (kn_listens aB 1 0 0 ⟨#[]⟩ 0 2 S25 (by decide) kn_s21).mono ?_; rintro e v26 ⟨rfl, S26⟩)
      | (go_at_call 11; have hg := S24; refine (to_any aB 1 _).mono ?_; rintro e v25 ⟨rfl, f25⟩; have S25 := S24.new f25)
      | (go_at_call 16; refine (kn_connects webB 80 0 15 4 (S23.new (Fr.refl [] _).drew) (by decide) web80 (by omega) (by omega) kn_s20).mono ?_; rintro e v24 ⟨rfl, S24⟩))
  go_wp2
  go_ret
  exact ⟨rfl, S29.fr⟩
end Go.Proofs.YtmdhlodafjpnmaaGreat
