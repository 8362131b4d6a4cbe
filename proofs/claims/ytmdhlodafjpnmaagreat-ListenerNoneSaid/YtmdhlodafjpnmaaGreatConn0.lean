/- The net in memory: Connect with an address or a capacity that is not valid; a net under way, the same; Pair with a capacity that is not valid. -/
import Derived.Test.YtmdhlodafjpnmaaGreatHang4
namespace Go.Proofs.YtmdhlodafjpnmaaGreat
open Go.RowKit
open Go.Maps (Keyed)
set_option linter.unusedVariables false
set_option maxRecDepth 100000
set_option maxHeartbeats 4000000

section
variable {own : Nat → Nat} {B : NB} {L : List LB} {C : List CB} {G : Nat} (w : World)
theorem netFind_some (s : ByteArray) (p : Int) (h : NetW w own B L C G) (hs : s.size ≤ 1000000) :
    Calls Tryz.prog 32 #[.pointer (some ⟨B.n, 0, none⟩), .agg #[.string s, .int .i64 p]] w fun e w' => ∃ v c : Int, e = .returned (.tuple #[.int .i64 v, .int .i64 c]) ∧ (c == 1) = false ∧ (addrB s.data.toList p = false → (c == 2) = true) ∧ Fr [] w w' := by
  cases hv : addrB s.data.toList p with
  | false =>
    refine (netFind_bad s p w h.net hs hv).mono ?_
    rintro e w' ⟨rfl, hf⟩
    exact ⟨0, 2, rfl, by decide, fun _ => by decide, hf⟩
  | true =>
    rcases hat : PN.at? (plainN L C).L s p with _ | z
    · refine (netFind_miss s p w h.net hs hv (at_none hat)).mono ?_
      rintro e w' ⟨rfl, hf⟩
      exact ⟨0, 9, rfl, by decide, (fun h => by cases h), hf⟩
    · obtain ⟨L1, x, L2, rfl, rfl, rfl, rfl⟩ := at_some hat
      refine (netFind_hit x.s x.p x.ref w h.net hs hv (List.mem_map.2 ⟨x, by simp, rfl⟩)).mono ?_
      rintro e w' ⟨rfl, hf⟩
      exact ⟨x.ref, 0, rfl, by decide, (fun h => by cases h), hf⟩
theorem netConnect_arg (s : ByteArray) (p c : Int) (h : NetW w own B L C G) (hs : s.size ≤ 1000000) (hb : (c < 0 ∨ 4096 < c) ∨ addrB s.data.toList p = false) :
    Calls Tryz.prog 31 #[.pointer (some ⟨B.n, 0, none⟩), .agg #[.string s, .int .i64 p], .int .i64 c] w fun e w' => e = .returned (.tuple #[.int .i64 0, .int .i64 2]) ∧ Fr [] w w' := by
  have f0 : Fr [] w (w.alloc (.cells #[.string s, .int .i64 p] 28)) := (Fr.refl [] w).alloc _
  have HF := Lib.hid (netFind_some _ s p (h.new f0) hs)
  clear h
  by_cases hc : c < 0 ∨ 4096 < c
  · have HC := Lib.hid hc
    clear hc hb
    go_enter Tryz.func31, Tryz.ntmps31
    go_wp2_with (first
      | (go_at_call 32; refine HF.out.mono ?_; rintro e w1 ⟨v, c1, rfl, hc1, _, f1⟩)
      | (go_at_call 80; refine (dupNew_bad c HC.out _).mono ?_; rintro e w2 ⟨rfl, f2⟩))
    all_goals
      go_ret2
      exact ⟨rfl, (f0.step f1).step f2⟩
  · obtain ⟨c, rfl⟩ := Int.eq_ofNat_of_zero_le (show 0 ≤ c by omega)
    have hcc : c ≤ 4096 := by omega
    have hv : addrB s.data.toList p = false := hb.resolve_left hc
    have HV := Lib.hid hv
    clear hb hc hv
    go_enter Tryz.func31, Tryz.ntmps31
    go_wp2_with (first
      | (go_at_call 32; refine HF.out.mono ?_; rintro e w1 ⟨v, c1, rfl, hc1, hc2, f1⟩; have hc3 := hc2 HV.out; clear hc2)
      | (go_at_call 80; refine (dupNew_ok c (by omega) _).mono ?_; rintro e w2 ⟨d, rfl, hd, f2⟩))
    all_goals
      go_ret2
      exact ⟨rfl, (f0.step f1).step f2⟩
theorem netPair_arg (c : Int) (h : NetW w own B L C G) (hb : c < 0 ∨ 4096 < c) :
    Calls Tryz.prog 33 #[.pointer (some ⟨B.n, 0, none⟩), .int .i64 c] w fun e w' => e = .returned (.tuple #[.int .i64 0, .int .i64 2]) ∧ Fr [] w w' := by
  have HN := Lib.hid (netNone_any _ h.net)
  have HC := Lib.hid hb
  clear h hb
  go_enter Tryz.func33, Tryz.ntmps33
  go_wp2_with (first
    | (go_at_call 55; refine HN.out.mono ?_; rintro e w' ⟨rfl, rfl⟩)
    | (go_at_call 80; refine (dupNew_bad c HC.out _).mono ?_; rintro e w2 ⟨rfl, f2⟩))
  go_ret2
  exact ⟨rfl, f2⟩
end
section
variable {K : Nat → Prop} {B : NB} {N : PN.Net} {G : Nat} {w : World}
theorem connect_arg (s : ByteArray) (p c : Int) (h : Live K B N G w) (hs : s.size ≤ 1000000) (hb : (c < 0 ∨ 4096 < c) ∨ addrB s.data.toList p = false) :
    Calls Tryz.prog 31 #[.pointer (some ⟨B.n, 0, none⟩), .agg #[.string s, .int .i64 p], .int .i64 c] w fun e w' => e = .returned (.tuple #[.int .i64 0, .int .i64 2]) ∧ Live K B N G w' ∧ FrK K w w' := by
  have h' := h
  obtain ⟨own, L, C, h1, rfl, h3⟩ := h
  refine (netConnect_arg w s p c h1 hs hb).mono ?_
  rintro e w' ⟨rfl, hf⟩
  exact ⟨rfl, h'.new hf, FrK.new hf⟩
theorem pair_arg (c : Int) (h : Live K B N G w) (hb : c < 0 ∨ 4096 < c) :
    Calls Tryz.prog 33 #[.pointer (some ⟨B.n, 0, none⟩), .int .i64 c] w fun e w' => e = .returned (.tuple #[.int .i64 0, .int .i64 2]) ∧ Live K B N G w' ∧ FrK K w w' := by
  have h' := h
  obtain ⟨own, L, C, h1, rfl, h3⟩ := h
  refine (netPair_arg w c h1 hb).mono ?_
  rintro e w' ⟨rfl, hf⟩
  exact ⟨rfl, h'.new hf, FrK.new hf⟩
end
end Go.Proofs.YtmdhlodafjpnmaaGreat
