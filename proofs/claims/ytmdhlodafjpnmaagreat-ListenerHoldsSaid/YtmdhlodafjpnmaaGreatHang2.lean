/- Contracts of listener's Listen, Find's three ends, Pair and Connect. -/
/- Contracts of listener's Pair and Connect. -/
/- Contracts of listener's Pair where there is no room, and of Connect in general. -/
/- Contracts of listener's Listen in general. -/
/- Contracts of listener's Listen where it refuses. -/
/- Contract of listener's hang at the end 1: it is closed, and the connection is forgotten if both ends are. -/
import Derived.Test.YtmdhlodafjpnmaaGreatHang
import Derived.Test.YtmdhlodafjpnmaaGreatBind0
import Derived.Deep.RegionWith
import Derived.Deep.CutRange
import Derived.Test.YtmdhlodafjpnmaaGreatBacklog2
import Derived.Recover
namespace Go.Proofs.YtmdhlodafjpnmaaGreat
open Go.RowKit
open Go.Maps (Keyed)
set_option linter.unusedVariables false

section
variable {n r m lm cm : Nat} {names ls cs : List (Value × Value)}
theorem netFind_hit (s : ByteArray) (p v : Int) (w : World) (h : NetIs w n r m lm cm names ls cs) (hs : s.size ≤ 1000000) (hv : addrB s.data.toList p = true) (hx : (addrV s p, .int .i64 v) ∈ names) :
    Calls Tryz.prog 32 #[.pointer (some ⟨n, 0, none⟩), .agg #[.string s, .int .i64 p]] w fun e w' => e = .returned (.tuple #[.int .i64 v, .int .i64 0]) ∧ Fr [] w w' :=
  netFind_core s p v 0 w h (fun W hW => regLookup_hit r m names s p W hW hs hv v hx)
theorem netFind_miss (s : ByteArray) (p : Int) (w : World) (h : NetIs w n r m lm cm names ls cs) (hs : s.size ≤ 1000000) (hv : addrB s.data.toList p = true) (hx : ∀ x ∈ names, x.1 ≠ addrV s p) :
    Calls Tryz.prog 32 #[.pointer (some ⟨n, 0, none⟩), .agg #[.string s, .int .i64 p]] w fun e w' => e = .returned (.tuple #[.int .i64 0, .int .i64 9]) ∧ Fr [] w w' :=
  netFind_core s p 0 9 w h (fun W hW => regLookup_miss r m names s p W hW hs hv hx)
theorem netFind_bad (s : ByteArray) (p : Int) (w : World) (h : NetIs w n r m lm cm names ls cs) (hs : s.size ≤ 1000000) (hv : addrB s.data.toList p = false) :
    Calls Tryz.prog 32 #[.pointer (some ⟨n, 0, none⟩), .agg #[.string s, .int .i64 p]] w fun e w' => e = .returned (.tuple #[.int .i64 0, .int .i64 2]) ∧ Fr [] w w' :=
  netFind_core s p 0 2 w h (fun W hW => regLookup_bad r m names s p W hW hs hv)
end

theorem Fr.behind {S : List Nat} {a b : World} {n : Nat} (h : Fr S (a.drewN n) b) : Fr S a b := ⟨h.os, h.tape, h.output, h.size, h.block⟩

end Go.Proofs.YtmdhlodafjpnmaaGreat
namespace Go.Proofs.YtmdhlodafjpnmaaGreat
open Go.RowKit
open Go.Maps (Keyed)
set_option linter.unusedVariables false

section
variable (n r m lm cm : Nat) (names ls cs : List (Value × Value)) (s : ByteArray) (p : Int) (c : Nat) (w : World)

set_option maxRecDepth 100000 in
set_option maxHeartbeats 4000000 in
theorem netConnect_refused (h : NetIs w n r m lm cm names ls cs) (hs : s.size ≤ 1000000) (hv : addrB s.data.toList p = true) (hx : ∀ x ∈ names, x.1 ≠ addrV s p) (hc : c ≤ 4096) :
    Calls Tryz.prog 31 #[.pointer (some ⟨n, 0, none⟩), .agg #[.string s, .int .i64 p], .int .i64 c] w fun e w' => e = .returned (.tuple #[.int .i64 0, .int .i64 15]) ∧ Fr [] w w' := by
  have f0 : Fr [] w (w.alloc (.cells #[.string s, .int .i64 p] 28)) := (Fr.refl [] w).alloc _
  have h0 := h.new f0
  have HX := Lib.hid hx
  have HV := Lib.hid hv
  clear hx hv
  go_enter Tryz.func31, Tryz.ntmps31
  go_wp2_with (first
    | (go_at_call 32; refine (netFind_miss s p _ h0 hs HV.out HX.out).mono ?_; rintro e w1 ⟨rfl, f1⟩)
    | (go_at_call 80; refine (dupNew_ok c hc _).mono ?_; rintro e w2 ⟨d, rfl, hd, f2⟩))
  go_ret2
  exact ⟨rfl, (f0.step f1).step f2⟩

set_option maxRecDepth 100000 in
set_option maxHeartbeats 4000000 in
theorem netConnect_block (h : NetIs w n r m lm cm names ls cs) (hs : s.size ≤ 1000000) (hv : addrB s.data.toList p = true) (hc : c ≤ 4096) (v : Int) (b q mm t : Nat) (most : Int) (l : List (Nat × Int)) (g : Nat) (s' : ByteArray) (p' : Int)
    (hx : (addrV s p, .int .i64 v) ∈ names) (hl : (.int .i64 v, qV b s' p') ∈ ls) (hb : BackIs w b q mm t most false l g) (hm : 1 ≤ most) (hm' : most ≤ 128) (hfull : most = l.length) :
    Calls Tryz.prog 31 #[.pointer (some ⟨n, 0, none⟩), .agg #[.string s, .int .i64 p], .int .i64 c] w fun e w' => e = .returned (.tuple #[.int .i64 0, .int .i64 16]) ∧ Fr [] w w' := by
  have f0 : Fr [] w (w.alloc (.cells #[.string s, .int .i64 p] 28)) := (Fr.refl [] w).alloc _
  have h0 := h.new f0
  have HX := Lib.hid hx
  have HV := Lib.hid hv
  have HL := Lib.hid hl
  have HF := Lib.hid hfull
  have HB := Lib.hid hb
  clear hx hv hl hfull hb
  have hfd : ∀ W : World, (Instr.field 120 (.agg #[.pointer (some ⟨b, 0, none⟩), .string s', .int .i64 p']) 0).run Tryz.prog W = .ok (.pointer (some ⟨b, 0, none⟩)) W := fun W => by kernel_rfl
  go_enter Tryz.func31, Tryz.ntmps31
  go_wp2_with (first
    | (go_at_call 32; refine (netFind_hit s p v _ h0 hs HV.out HX.out).mono ?_; rintro e w1 ⟨rfl, f1⟩)
    | (go_at_call 80; refine (dupNew_ok c hc _).mono ?_; rintro e w2 ⟨d, rfl, hd, f2⟩; have j1 : w2.cell? ⟨n, 1, none⟩ = some (.map (some lm)) := ((h0.new f1).new f2).c1; have hlk : (Instr.lookup 49 (.map (some lm)) (.int .i64 v) false).run Tryz.prog w2 = .ok (.agg #[.pointer (some ⟨b, 0, none⟩), .string s', .int .i64 p']) w2 := ((h0.new f1).new f2).ls.hit keyInt (t := 49) (e := 120) Tryz.underlying49 HL.out false)
    | (go_at_call 81; refine (backRoom_any b q mm t most l g _ (((HB.out.keep f0 (by simp) (by simp) (by simp) (by simp)).keep f1 (by simp) (by simp) (by simp) (by simp)).keep f2 (by simp) (by simp) (by simp) (by simp)) (by omega) hm' (by have := HF.out; omega)).mono ?_; rintro e w3 ⟨rfl, nn, rfl⟩; rw [show most - (l.length : Int) = 0 by have := HF.out; omega]))
  go_ret2
  exact ⟨rfl, ((f0.step f1).step f2).drewN _⟩

end
end Go.Proofs.YtmdhlodafjpnmaaGreat
namespace Go.Proofs.YtmdhlodafjpnmaaGreat
open Go.RowKit
open Go.Maps (Keyed)
set_option linter.unusedVariables false

set_option maxRecDepth 100000 in
set_option maxHeartbeats 4000000 in
theorem netPair_full (n r m lm cm : Nat) (names ls cs : List (Value × Value)) (c : Nat) (w : World) (h : NetIs w n r m lm cm names ls cs) (hc : c ≤ 4096) (hn : 128 ≤ (cs.length : Int)) :
    Calls Tryz.prog 33 #[.pointer (some ⟨n, 0, none⟩), .int .i64 c] w fun e w' => e = .returned (.tuple #[.int .i64 0, .int .i64 7]) ∧ Fr [] w w' := by
  have c2 := h.c2
  go_enter Tryz.func33, Tryz.ntmps33
  go_wp2_with (first
    | (go_at_call 55; refine (netNone_any _ h).mono ?_; rintro e w' ⟨rfl, rfl⟩)
    | (go_at_call 80; refine (dupNew_ok c hc _).mono ?_; rintro e w1 ⟨d, rfl, hd, f1⟩; have j2 := f1.keep c2 (by simp); have hlen := (h.cs.keep f1 (by simp)).len (t := 51) (e := 55) Tryz.underlying51))
  go_ret2
  exact ⟨rfl, f1⟩

section
variable (n r m lm cm : Nat) (names ls cs : List (Value × Value)) (s : ByteArray) (p : Int) (c : Nat) (w : World)

set_option maxRecDepth 100000 in
set_option maxHeartbeats 4000000 in
theorem netConnect_full (h : NetIs w n r m lm cm names ls cs) (hs : s.size ≤ 1000000) (hv : addrB s.data.toList p = true) (hc : c ≤ 4096) (v : Int) (b q mm t : Nat) (most : Int) (l : List (Nat × Int)) (g : Nat) (s' : ByteArray) (p' : Int)
    (hx : (addrV s p, .int .i64 v) ∈ names) (hl : (.int .i64 v, qV b s' p') ∈ ls) (hb : BackIs w b q mm t most false l g) (hlen : (l.length : Int) < most) (hm' : most ≤ 128) (hg : g < 4611686018427387904)
    (hn : 128 ≤ (cs.length : Int)) :
    Calls Tryz.prog 31 #[.pointer (some ⟨n, 0, none⟩), .agg #[.string s, .int .i64 p], .int .i64 c] w fun e w' => e = .returned (.tuple #[.int .i64 0, .int .i64 7]) ∧ Fr [] w w' := by
  have f0 : Fr [] w (w.alloc (.cells #[.string s, .int .i64 p] 28)) := (Fr.refl [] w).alloc _
  have h0 := h.new f0
  have HX := Lib.hid hx
  have HV := Lib.hid hv
  have HL := Lib.hid hl
  have HB := Lib.hid hb
  clear hx hv hl hb
  have hr0 : (most - (l.length : Int) == 0) = false := by rw [beq_eq_false_iff_ne]; omega
  have hfd : ∀ W : World, (Instr.field 120 (.agg #[.pointer (some ⟨b, 0, none⟩), .string s', .int .i64 p']) 0).run Tryz.prog W = .ok (.pointer (some ⟨b, 0, none⟩)) W := fun W => by kernel_rfl
  go_enter Tryz.func31, Tryz.ntmps31
  go_wp2_with (first
    | (go_at_call 32; refine (netFind_hit s p v _ h0 hs HV.out HX.out).mono ?_; rintro e w1 ⟨rfl, f1⟩)
    | (go_at_call 80; refine (dupNew_ok c hc _).mono ?_; rintro e w2 ⟨d, rfl, hd, f2⟩; have j1 : w2.cell? ⟨n, 1, none⟩ = some (.map (some lm)) := ((h0.new f1).new f2).c1; have hlk : (Instr.lookup 49 (.map (some lm)) (.int .i64 v) false).run Tryz.prog w2 = .ok (.agg #[.pointer (some ⟨b, 0, none⟩), .string s', .int .i64 p']) w2 := ((h0.new f1).new f2).ls.hit keyInt (t := 49) (e := 120) Tryz.underlying49 HL.out false)
    | (go_at_call 81; refine (backRoom_any b q mm t most l g _ (((HB.out.keep f0 (by simp) (by simp) (by simp) (by simp)).keep f1 (by simp) (by simp) (by simp) (by simp)).keep f2 (by simp) (by simp) (by simp) (by simp)) (by omega) hm' (by omega)).mono ?_; rintro e w3 ⟨rfl, nn, rfl⟩)
    | (go_at_call 33; refine (netPair_full n r m lm cm names ls cs c _ (((h0.new f1).new f2).new ((Fr.refl [] w2).drewN nn)) hc hn).mono ?_; rintro e w4 ⟨rfl, f4⟩))
  go_ret2
  exact ⟨rfl, (((f0.step f1).step f2).drewN nn).step f4⟩
end
end Go.Proofs.YtmdhlodafjpnmaaGreat
namespace Go.Proofs.YtmdhlodafjpnmaaGreat
open Go.RowKit
open Go.Maps (Keyed)
set_option linter.unusedVariables false
set_option maxRecDepth 100000
set_option maxHeartbeats 8000000

set_option maxRecDepth 100000 in
set_option maxHeartbeats 4000000 in
theorem netListen_gen (n r m lm cm : Nat) (names ls cs : List (Value × Value)) (s : ByteArray) (p pp most : Int) (k : Nat) (w : World) (h : NetIs w n r m lm cm names ls cs) (hs : s.size ≤ 1000000) (hv0 : addrB s.data.toList p = true) (hv : addrB s.data.toList pp = true) (hp : (pp == 0) = false)
    (hB : ∀ W, RegIs W r m names → Calls Tryz.prog 75 #[.pointer (some ⟨r, 0, none⟩), .agg #[.string s, .int .i64 p], .int .i64 0] W fun e w' => e = .returned (.tuple #[.agg #[.string s, .int .i64 pp], .int .i64 0]) ∧ RegIs w' r m (names ++ [(addrV s pp, .int .i64 0)]) ∧ Fr [m] W w')
    (h1 : ¬ most < 1) (h2 : ¬ 128 < most) (hxn : ∀ x ∈ names, x.1 ≠ addrV s pp) (hln : ¬ (128 ≤ (names.length : Int))) (hk : ∀ j : Nat, j < k → ∃ b' s' p', (.int .i64 j, qV b' s' p') ∈ ls) (hxl : ∀ x ∈ ls, x.1 ≠ .int .i64 k) (hk' : k ≤ 100000) :
    Calls Tryz.prog 30 #[.pointer (some ⟨n, 0, none⟩), .agg #[.string s, .int .i64 p], .int .i64 most] w fun e w' => ∃ b q mm t, e = .returned (.tuple #[.int .i64 k, .agg #[.string s, .int .i64 pp], .int .i64 0]) ∧ NetIs w' n r m lm cm (names ++ [(addrV s pp, .int .i64 k)]) (ls ++ [(.int .i64 k, qV b s pp)]) cs ∧ BackIs w' b q mm t most false [] 0 ∧ Fr [m, lm] w w' ∧ w.heap.size ≤ b ∧ w.heap.size ≤ q ∧ w.heap.size ≤ mm ∧ w.heap.size ≤ t := by
  have f0 : Fr [] w ((w.alloc (.cells #[.string s, .int .i64 p] 28)).alloc (.cells #[.string ⟨#[]⟩, .int .i64 0] 28)) := ((Fr.refl [] w).alloc _).alloc _
  have h0 := h.new f0
  have HV := Lib.hid hv
  have HV0 := Lib.hid hv0
  have HB := Lib.hid hB
  have HXN := Lib.hid hxn
  have HXL := Lib.hid hxl
  have HK := Lib.hid hk
  have hne := h.ne
  have hnlt := cell_lt h.c0
  have hrlt := cell_lt h.reg.c0
  have hmlt := h.reg.map.lt
  have hllt := h.ls.lt
  have hclt := h.cs.lt
  clear hv hv0 hB hxn hxl hk
  go_enter Tryz.func30, Tryz.ntmps30
  go_wp2_with (first
    | (go_at_call 55; refine (netNone_any _ h0).mono ?_; rintro e w' ⟨rfl, rfl⟩)
    | (go_at_call 74; refine (backNew_ok most _ (by omega) (by omega)).mono ?_; rintro e w1 ⟨b, q, mm, t, rfl, hb1, f1, l1, l2, l3, l4⟩; simp only [World.size_alloc] at l1 l2 l3 l4; have k0 : w1.cell? ⟨w.heap.size, 0, none⟩ = some (.string s) := f1.keep (by simp) (by simp); have k1 : w1.cell? ⟨w.heap.size, 1, none⟩ = some (.int .i64 p) := f1.keep (by simp) (by simp))
    | (go_at_call 77; refine (valid_any s p hs _).mono ?_; rintro e w2 ⟨rfl, f2⟩; rw [HV0.out]; have k0 := f2.keep k0 (by simp); have k1 := f2.keep k1 (by simp); have j0 : w2.cell? ⟨n, 0, none⟩ = some (.pointer (some ⟨r, 0, none⟩)) := ((h0.new f1).new f2).c0))
  have n2 := (h0.new f1).new f2
  have b2 := hb1.keep f2 (by simp) (by simp) (by simp) (by simp)
  clear k0 k1
  have k0 : w2.cell? ⟨w.heap.size, 0, none⟩ = some (.string s) := (f1.step f2).keep (by simp) (by simp)
  have k1 : w2.cell? ⟨w.heap.size, 1, none⟩ = some (.int .i64 p) := (f1.step f2).keep (by simp) (by simp)
  have n3 := n2.new ((Fr.refl [] w2).alloc (.cells #[.string ⟨#[]⟩, .int .i64 0] 28))
  have c3 := n3.c0
  have k3 : (w2.alloc (.cells #[.string ⟨#[]⟩, .int .i64 0] 28)).cell? ⟨w.heap.size, 0, none⟩ = some (.string s) := ((Fr.refl [] w2).alloc _).keep k0 (by simp)
  have k4 : (w2.alloc (.cells #[.string ⟨#[]⟩, .int .i64 0] 28)).cell? ⟨w.heap.size, 1, none⟩ = some (.int .i64 p) := ((Fr.refl [] w2).alloc _).keep k1 (by simp)
  have z2 : w.heap.size + 2 ≤ w2.heap.size := by simpa using (f1.step f2).size
  go_cut [10, 11] from 29 to 37 (fun s10 s11 wc => ∃ c, s10 = .int .i64 0 ∧ s11 = .pointer (some ⟨c, 0, none⟩) ∧ wc.cell? ⟨c, 0, none⟩ = some (.string s) ∧ wc.cell? ⟨c, 1, none⟩ = some (.int .i64 pp) ∧ RegIs wc r m (names ++ [(addrV s pp, .int .i64 0)]) ∧ Fr [m] w2 wc ∧ w2.heap.size ≤ c)
  case first =>
    go_region_with (go_at_call 75; first
      | (refine (HB.out _ (n2.reg.drewN 1)).mono ?_; rintro e w3 ⟨rfl, rg3, f3⟩; have g3 : Fr [m] w2 w3 := (((Fr.refl [] w2).drewN _).mono (fun x hx => by cases hx)).trans f3 (fun x hx _ => hx); clear f3)
      | (refine (HB.out _ (n3.reg.drewN 1)).mono ?_; rintro e w3 ⟨rfl, rg3, f3⟩; have g3 : Fr [m] w2 w3 := ((((Fr.refl [] w2).alloc _).drewN _).mono (fun x hx => by cases hx)).trans f3 (fun x hx _ => hx); have i0 : w3.cell? ⟨w2.heap.size, 0, none⟩ = some (.string ⟨#[]⟩) := f3.keep (by simp) (by simp; omega); have i1 : w3.cell? ⟨w2.heap.size, 1, none⟩ = some (.int .i64 0) := f3.keep (by simp) (by simp; omega); have ifz : ∀ o, w3.frozen? ⟨w2.heap.size, o, none⟩ = false := (fun o => by rw [f3.frozen (by simp) (by simp; omega)]; simp); clear f3))
    all_goals go_wp2
    all_goals go_meet
    case' rel => skip
    all_goals first
      | exact ⟨_, rfl, rfl, by simp, by simp, rg3.keep ((Fr.refl [] w3).alloc _) (by simp) (by simp), g3.alloc _, g3.size⟩
      | exact ⟨_, rfl, rfl, (World.cell?_setCell_other _ _ _ _ (by simp)).trans (World.cell?_setCell_same _ _ _ i0), World.cell?_setCell_same _ _ _ ((World.cell?_setCell_other _ _ _ _ (by simp)).trans i1), rg3.keep (S := [w2.heap.size]) (((Fr.refl _ _).setCell (fun _ => by simp) _).setCell (fun _ => by simp) _) (by simp; omega) (by simp; omega), (g3.setCell (by simp) _).setCell (by simp) _, Nat.le_refl _⟩
  case rest =>
    obtain ⟨c, rfl, rfl, q0, q1, rg3, g3, hc⟩ := hcut
    have x0 := g3.keep n2.c0 (by simp; omega)
    have x1 := g3.keep n2.c1 (by simp; omega)
    have b3 := b2.keep g3 (by simp; omega) (by simp; omega) (by simp; omega) (by simp; omega)
    have ml3 := n2.ls.keep g3 (by simp; omega)
    go_wp2
    go_cut [12] from 42 to 49 (fun s12 wd => s12 = .int .i64 k ∧ MapIs Tryz.prog 3 wd lm (ls ++ [(.int .i64 k, qV b s pp)]) ∧ Fr [lm] wc wd)
    case first =>
      go_region_with (go_at_call 78; refine (addQ lm ls k b s pp _ (ml3.drewN 1) HK.out HXL.out hk').mono ?_; rintro e w4 ⟨rfl, ml4, f4⟩)
      all_goals go_wp2
      all_goals go_meet
      case' rel => skip
      all_goals exact ⟨rfl, ml4, f4.behind⟩
    case rest =>
      obtain ⟨rfl, ml4, g4⟩ := hcut
      have y0 := g4.keep x0 (by simp; omega)
      have p0 := g4.keep q0 (by simp; omega)
      have p1 := g4.keep q1 (by simp; omega)
      have rg4 := rg3.keep g4 (by simp; omega) (by simp; omega)
      have b4 := b3.keep g4 (by simp; omega) (by simp; omega) (by simp; omega) (by simp; omega)
      clear q0 q1 x0
      go_wp2
      go_cut [] from 50 to 55 (fun wd => RegIs wd r m (names ++ []) ∧ Fr [m] wc wd)
      case first =>
        go_region_with (go_at_call 79; refine (regRelease_hit r m names [] s pp 0 _ (rg4.drewN 1) hs HV.out).mono ?_; rintro e w5 ⟨rfl, rg5, f5⟩)
        all_goals go_wp2
        all_goals go_meet
        case' rel => skip
        all_goals exact ⟨rg5, f5.behind⟩
      case rest =>
        obtain ⟨rg5, g5⟩ := hcut
        rw [List.append_nil] at rg5
        have v0 := g5.keep y0 (by simp; omega)
        have r0 := g5.keep p0 (by simp; omega)
        have r1 := g5.keep p1 (by simp; omega)
        have ml5 := ml4.keep g5 (by simp; omega)
        have b5 := b4.keep g5 (by simp; omega) (by simp; omega) (by simp; omega) (by simp; omega)
        clear y0 p0 p1
        go_wp2
        go_cut [] from 56 to 62 (fun wd => RegIs wd r m (names ++ [(addrV s pp, .int .i64 k)]) ∧ Fr [m] wc wd)
        case first =>
          go_region_with (go_at_call 75; refine (regBind_ok r m names s pp k _ (rg5.drewN 1) hs HV.out hp (by omega) HXN.out (by omega)).mono ?_; rintro e w6 ⟨rfl, rg6, f6⟩)
          all_goals go_wp2
          all_goals go_meet
          case' rel => skip
          all_goals exact ⟨rg6, f6.behind⟩
        case rest =>
          obtain ⟨rg6, g6⟩ := hcut
          have s0 := g6.keep r0 (by simp; omega)
          have s1 := g6.keep r1 (by simp; omega)
          have ml6 := ml5.keep g6 (by simp; omega)
          have b6 := b5.keep g6 (by simp; omega) (by simp; omega) (by simp; omega) (by simp; omega)
          have fB := ((((f1.step f2).mono (T := [m, lm]) (fun x hx => by cases hx)).trans g3 (fun x hx _ => by simp at hx; simp [hx])).trans g4 (fun x hx _ => by simp at hx; simp [hx])).trans (g5.trans g6 (fun x hx _ => hx)) (fun x hx _ => by simp at hx; simp [hx])
          have fA : Fr [m, lm] w wc := (f0.mono (T := [m, lm]) (fun x hx => by cases hx)).trans fB (fun x hx _ => hx)
          have t0 : wc.cell? ⟨w.heap.size + 1, 0, none⟩ = some (.string ⟨#[]⟩) := fB.keep (by simp) (by simp; omega)
          have t1 : wc.cell? ⟨w.heap.size + 1, 1, none⟩ = some (.int .i64 0) := fB.keep (by simp) (by simp; omega)
          have tf : ∀ o, wc.frozen? ⟨w.heap.size + 1, o, none⟩ = false := fun o => by rw [fB.frozen (by simp) (by simp; omega)]; simp
          have n6 : NetIs wc n r m lm cm (names ++ [(addrV s pp, .int .i64 k)]) (ls ++ [(.int .i64 k, qV b s pp)]) cs :=
            ⟨fA.keep h.c0 (by simp; omega), fA.keep h.c1 (by simp; omega), fA.keep h.c2 (by simp; omega), rg6, ml6, h.cs.keep fA (by simp; omega), hne⟩
          clear fB
          go_wp2
          go_region
          go_wp2
          have fE : Fr [w.heap.size + 1] wc ((wc.setCell ⟨w.heap.size + 1, 0, none⟩ (.string s)).setCell ⟨w.heap.size + 1, 1, none⟩ (.int .i64 pp)).drew := (((Fr.refl _ wc).setCell (fun _ => by simp) _).setCell (fun _ => by simp) _).drew
          refine bodyPost_ret (v := .tuple #[.int .i64 k, .agg #[.string s, .int .i64 pp], .int .i64 0]) (by simp [results, Tryz.results30, go_sem, t0, t1]) rfl ⟨b, q, mm, t, rfl, ?_, ?_, ?_, by omega, by omega, by omega, by omega⟩
          · exact n6.keep fE (by simp; omega) (by simp; omega) (by simp; omega) (by simp; omega) (by simp; omega)
          · exact b6.keep fE (by simp; omega) (by simp; omega) (by simp; omega) (by simp; omega)
          · exact fA.trans fE (fun x hx hl => by simp at hx; omega)
end Go.Proofs.YtmdhlodafjpnmaaGreat
namespace Go.Proofs.YtmdhlodafjpnmaaGreat
open Go.RowKit
open Go.Maps (Keyed)
set_option linter.unusedVariables false
set_option maxRecDepth 100000
set_option maxHeartbeats 8000000


theorem netListen_bad (n r m lm cm : Nat) (names ls cs : List (Value × Value)) (s : ByteArray) (p most : Int) (w : World) (h : NetIs w n r m lm cm names ls cs) (hs : s.size ≤ 1000000) (hb : most < 1 ∨ 128 < most ∨ addrB s.data.toList p = false) :
    Calls Tryz.prog 30 #[.pointer (some ⟨n, 0, none⟩), .agg #[.string s, .int .i64 p], .int .i64 most] w fun e w' => e = .returned (.tuple #[.int .i64 0, .agg #[.string ⟨#[]⟩, .int .i64 0], .int .i64 2]) ∧ Fr [] w w' := by
  have f0 : Fr [] w ((w.alloc (.cells #[.string s, .int .i64 p] 28)).alloc (.cells #[.string ⟨#[]⟩, .int .i64 0] 28)) := ((Fr.refl [] w).alloc _).alloc _
  have h0 := h.new f0
  have key : ∀ (c : Int) (v : Value), (c = 2 ∨ addrB s.data.toList p = false) → (∀ W, Calls Tryz.prog 74 #[.int .i64 most] W fun e w' => (∃ v, e = .returned (.tuple #[v, .int .i64 c])) ∧ Fr [] W w') →
      Calls Tryz.prog 30 #[.pointer (some ⟨n, 0, none⟩), .agg #[.string s, .int .i64 p], .int .i64 most] w fun e w' => e = .returned (.tuple #[.int .i64 0, .agg #[.string ⟨#[]⟩, .int .i64 0], .int .i64 2]) ∧ Fr [] w w' := by
    intro c v hc hN
    have HNB := Lib.hid hN
    have HNN := Lib.hid (netNone_any _ h0)
    clear hN hb
    obtain ⟨ab, hab⟩ : ∃ ab, addrB s.data.toList p = ab := ⟨_, rfl⟩
    have HV := Lib.hid hab
    rw [hab] at hc
    clear hab
    have fin : ∀ W, Fr [] w W → Fr [] w ((W.setCell ⟨w.heap.size + 1, 0, none⟩ (.string ⟨#[]⟩)).setCell ⟨w.heap.size + 1, 1, none⟩ (.int .i64 0)) := fun W hW => (hW.setCell (p := ⟨w.heap.size + 1, 0, none⟩) (fun h => by simp only at h; omega) _).setCell (p := ⟨w.heap.size + 1, 1, none⟩) (fun h => by simp only at h; omega) _
    have FIN := Lib.hid fin
    clear fin
    cases ab
    · go_enter Tryz.func30, Tryz.ntmps30
      go_wp2_with (first
        | (go_at_call 55; refine HNN.out.mono ?_; rintro e w' ⟨rfl, rfl⟩)
        | (go_at_call 74; refine (HNB.out _).mono ?_; rintro e w1 ⟨⟨v1, rfl⟩, f1⟩; have k0 : w1.cell? ⟨w.heap.size, 0, none⟩ = some (.string s) := f1.keep (by simp) (by simp); have k1 : w1.cell? ⟨w.heap.size, 1, none⟩ = some (.int .i64 p) := f1.keep (by simp) (by simp))
        | (go_at_call 77; refine (valid_any s p hs _).mono ?_; rintro e w2 ⟨rfl, f2⟩; rw [HV.out]; have j0 : w2.cell? ⟨w.heap.size + 1, 0, none⟩ = some (.string ⟨#[]⟩) := (f1.step f2).keep (by simp) (by simp); have j1 : w2.cell? ⟨w.heap.size + 1, 1, none⟩ = some (.int .i64 0) := (f1.step f2).keep (by simp) (by simp); have jf : ∀ o, w2.frozen? ⟨w.heap.size + 1, o, none⟩ = false := (fun o => by rw [(f1.step f2).frozen (by simp) (by simp)]; simp)))
      refine bodyPost_ret (v := .tuple #[.int .i64 0, .agg #[.string ⟨#[]⟩, .int .i64 0], .int .i64 2]) (by simp [results, Tryz.results30, go_sem, j0, j1]) rfl ⟨rfl, FIN.out _ ((f0.step f1).step f2)⟩
    · obtain rfl : c = 2 := hc.elim id (fun h => by cases h)
      go_enter Tryz.func30, Tryz.ntmps30
      go_wp2_with (first
        | (go_at_call 55; refine HNN.out.mono ?_; rintro e w' ⟨rfl, rfl⟩)
        | (go_at_call 74; refine (HNB.out _).mono ?_; rintro e w1 ⟨⟨v1, rfl⟩, f1⟩; have k0 : w1.cell? ⟨w.heap.size, 0, none⟩ = some (.string s) := f1.keep (by simp) (by simp); have k1 : w1.cell? ⟨w.heap.size, 1, none⟩ = some (.int .i64 p) := f1.keep (by simp) (by simp))
        | (go_at_call 77; refine (valid_any s p hs _).mono ?_; rintro e w2 ⟨rfl, f2⟩; rw [HV.out]; have j0 : w2.cell? ⟨w.heap.size + 1, 0, none⟩ = some (.string ⟨#[]⟩) := (f1.step f2).keep (by simp) (by simp); have j1 : w2.cell? ⟨w.heap.size + 1, 1, none⟩ = some (.int .i64 0) := (f1.step f2).keep (by simp) (by simp); have jf : ∀ o, w2.frozen? ⟨w.heap.size + 1, o, none⟩ = false := (fun o => by rw [(f1.step f2).frozen (by simp) (by simp)]; simp)))
      refine bodyPost_ret (v := .tuple #[.int .i64 0, .agg #[.string ⟨#[]⟩, .int .i64 0], .int .i64 2]) (by simp [results, Tryz.results30, go_sem, j0, j1]) rfl ⟨rfl, FIN.out _ ((f0.step f1).step f2)⟩
  by_cases hm : most < 1 ∨ 128 < most
  · exact key 2 (.pointer none) (.inl rfl) (fun W => (backNew_bad most W hm).mono fun e w' ⟨he, hw⟩ => ⟨⟨_, he⟩, hw ▸ Fr.refl [] W⟩)
  · exact key 0 (.pointer none) (.inr (by rcases hb with h | h | h; exact absurd (.inl h) hm; exact absurd (.inr h) hm; exact h)) (fun W => (backNew_ok most W (by omega) (by omega)).mono fun e w' ⟨b, q, m, t, he, _, hf, _⟩ => ⟨⟨_, he⟩, hf⟩)
theorem netListen_err (n r m lm cm : Nat) (names ls cs : List (Value × Value)) (s : ByteArray) (p most ce : Int) (w : World) (h : NetIs w n r m lm cm names ls cs) (hs : s.size ≤ 1000000) (hv0 : addrB s.data.toList p = true) (hce : (ce != 0) = true)
    (hB : ∀ W, RegIs W r m names → Calls Tryz.prog 75 #[.pointer (some ⟨r, 0, none⟩), .agg #[.string s, .int .i64 p], .int .i64 0] W fun e w' => e = .returned (.tuple #[.agg #[.string ⟨#[]⟩, .int .i64 0], .int .i64 ce]) ∧ Fr [] W w')
    (h1 : ¬ most < 1) (h2 : ¬ 128 < most) :
    Calls Tryz.prog 30 #[.pointer (some ⟨n, 0, none⟩), .agg #[.string s, .int .i64 p], .int .i64 most] w fun e w' => e = .returned (.tuple #[.int .i64 0, .agg #[.string ⟨#[]⟩, .int .i64 0], .int .i64 ce]) ∧ Fr [] w w' := by
  have f0 : Fr [] w ((w.alloc (.cells #[.string s, .int .i64 p] 28)).alloc (.cells #[.string ⟨#[]⟩, .int .i64 0] 28)) := ((Fr.refl [] w).alloc _).alloc _
  have h0 := h.new f0
  have HV0 := Lib.hid hv0
  have HB := Lib.hid hB
  have hne := h.ne
  have hnlt := cell_lt h.c0
  have hrlt := cell_lt h.reg.c0
  have hmlt := h.reg.map.lt
  have hllt := h.ls.lt
  have hclt := h.cs.lt
  clear hv0 hB
  go_enter Tryz.func30, Tryz.ntmps30
  go_wp2_with (first
    | (go_at_call 55; refine (netNone_any _ h0).mono ?_; rintro e w' ⟨rfl, rfl⟩)
    | (go_at_call 74; refine (backNew_ok most _ (by omega) (by omega)).mono ?_; rintro e w1 ⟨b, q, mm, t, rfl, hb1, f1, l1, l2, l3, l4⟩; simp only [World.size_alloc] at l1 l2 l3 l4; have k0 : w1.cell? ⟨w.heap.size, 0, none⟩ = some (.string s) := f1.keep (by simp) (by simp); have k1 : w1.cell? ⟨w.heap.size, 1, none⟩ = some (.int .i64 p) := f1.keep (by simp) (by simp))
    | (go_at_call 77; refine (valid_any s p hs _).mono ?_; rintro e w2 ⟨rfl, f2⟩; rw [HV0.out]; have k0 := f2.keep k0 (by simp); have k1 := f2.keep k1 (by simp); have j0 : w2.cell? ⟨n, 0, none⟩ = some (.pointer (some ⟨r, 0, none⟩)) := ((h0.new f1).new f2).c0))
  have n2 := (h0.new f1).new f2
  have b2 := hb1.keep f2 (by simp) (by simp) (by simp) (by simp)
  clear k0 k1
  have k0 : w2.cell? ⟨w.heap.size, 0, none⟩ = some (.string s) := (f1.step f2).keep (by simp) (by simp)
  have k1 : w2.cell? ⟨w.heap.size, 1, none⟩ = some (.int .i64 p) := (f1.step f2).keep (by simp) (by simp)
  have n3 := n2.new ((Fr.refl [] w2).alloc (.cells #[.string ⟨#[]⟩, .int .i64 0] 28))
  have c3 := n3.c0
  have k3 : (w2.alloc (.cells #[.string ⟨#[]⟩, .int .i64 0] 28)).cell? ⟨w.heap.size, 0, none⟩ = some (.string s) := ((Fr.refl [] w2).alloc _).keep k0 (by simp)
  have k4 : (w2.alloc (.cells #[.string ⟨#[]⟩, .int .i64 0] 28)).cell? ⟨w.heap.size, 1, none⟩ = some (.int .i64 p) := ((Fr.refl [] w2).alloc _).keep k1 (by simp)
  have z2 : w.heap.size + 2 ≤ w2.heap.size := by simpa using (f1.step f2).size
  go_cut [10, 11] from 29 to 37 (fun s10 s11 wc => ∃ c, s10 = .int .i64 ce ∧ s11 = .pointer (some ⟨c, 0, none⟩) ∧ Fr [] w2 wc)
  case first =>
    go_region_with (go_at_call 75; first
      | (refine (HB.out _ (n2.reg.drewN 1)).mono ?_; rintro e w3 ⟨rfl, f3⟩; have g3 : Fr [] w2 w3 := f3.behind; clear f3)
      | (refine (HB.out _ (n3.reg.drewN 1)).mono ?_; rintro e w3 ⟨rfl, f3⟩; have g3 : Fr [] w2 w3 := ((Fr.refl [] w2).alloc _).step f3.behind; have i0 : w3.cell? ⟨w2.heap.size, 0, none⟩ = some (.string ⟨#[]⟩) := f3.keep (by simp) (by simp); have i1 : w3.cell? ⟨w2.heap.size, 1, none⟩ = some (.int .i64 0) := f3.keep (by simp) (by simp); have ifz : ∀ o, w3.frozen? ⟨w2.heap.size, o, none⟩ = false := (fun o => by rw [f3.frozen (by simp) (by simp)]; simp); clear f3))
    all_goals go_wp2
    all_goals go_meet
    case' rel => skip
    all_goals first
      | exact ⟨_, rfl, rfl, g3.alloc _⟩
      | exact ⟨_, rfl, rfl, (g3.setCell (fun h => by simp only at h; omega) _).setCell (fun h => by simp only at h; omega) _⟩
  case rest =>
    obtain ⟨c, rfl, rfl, g3⟩ := hcut
    have fA : Fr [] w wc := (f0.step (f1.step f2)).step g3
    have fB := (f1.step f2).step g3
    have t0 : wc.cell? ⟨w.heap.size + 1, 0, none⟩ = some (.string ⟨#[]⟩) := fB.keep (by simp) (by simp)
    have t1 : wc.cell? ⟨w.heap.size + 1, 1, none⟩ = some (.int .i64 0) := fB.keep (by simp) (by simp)
    have tf : ∀ o, wc.frozen? ⟨w.heap.size + 1, o, none⟩ = false := fun o => by rw [fB.frozen (by simp) (by simp)]; simp
    clear k0 k1
    go_wp2
    refine bodyPost_ret (v := .tuple #[.int .i64 0, .agg #[.string ⟨#[]⟩, .int .i64 0], .int .i64 ce]) (by simp [results, Tryz.results30, go_sem, t0, t1]) rfl ⟨rfl, ?_⟩
    exact (fA.setCell (p := ⟨w.heap.size + 1, 0, none⟩) (fun h => by simp only at h; omega) _).setCell (p := ⟨w.heap.size + 1, 1, none⟩) (fun h => by simp only at h; omega) _

end Go.Proofs.YtmdhlodafjpnmaaGreat
namespace Go.Proofs.YtmdhlodafjpnmaaGreat
open Go.RowKit
open Go.Maps (Keyed)
set_option linter.unusedVariables false
set_option maxRecDepth 100000
set_option maxHeartbeats 4000000

/-- What hang leaves: the ends that are closed; the connection is forgotten if both are. -/
def HangPost (P : Nat → Prop) (cm d c : Nat) (conn : Int) (f1 f2 : List (Value × Value)) (b0 b1 : Bool) (w : World) (e : Ending) (w' : World) : Prop :=
  e = .returned (.int .i64 0) ∧ MapIs Tryz.prog 3 w' cm (if b0 && b1 then f1 ++ f2 else f1 ++ (.int .i64 conn, .pointer (some ⟨d, 0, none⟩)) :: f2) ∧ ((b0 && b1) = false → DupS w' (fun x => P x ∨ w.heap.size ≤ x) d c b0 b1) ∧ ∃ S, Fr S w w' ∧ ∀ x ∈ S, P x ∨ x = cm

section
variable {P : Nat → Prop} {n cm d c : Nat} {conn : Int} {f1 f2 : List (Value × Value)} (w : World)

end
end Go.Proofs.YtmdhlodafjpnmaaGreat
