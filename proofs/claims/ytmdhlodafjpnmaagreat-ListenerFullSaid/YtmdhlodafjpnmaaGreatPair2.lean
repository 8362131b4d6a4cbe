/- Contracts of listener's Listen, Find's three ends, Pair and Connect. -/
/- Contracts of listener's Pair and Connect. -/
/- Contracts of listener's Pair where there is no room, and of Connect in general. -/
import Derived.Test.YtmdhlodafjpnmaaGreatDup2
import Derived.Test.YtmdhlodafjpnmaaGreatNet
import Derived.Deep.RegionWith
import Derived.Deep.CutRange
import Derived.Test.YtmdhlodafjpnmaaGreatBacklog2
namespace Go.Proofs.YtmdhlodafjpnmaaGreat
open Go.RowKit
open Go.Maps (Keyed)
set_option linter.unusedVariables false

section
variable {n r m lm cm : Nat} {names ls cs : List (Value × Value)}
theorem netFind_hit (s : ByteArray) (p v : Int) (w : World) (h : NetIs w n r m lm cm names ls cs) (hs : s.size ≤ 1000000) (hv : addrB s.data.toList p = true) (hx : (addrV s p, .int .i64 v) ∈ names) :
    Calls Tryz.prog 32 #[.pointer (some ⟨n, 0, none⟩), .agg #[.string s, .int .i64 p]] w fun e w' => e = .returned (.tuple #[.int .i64 v, .int .i64 0]) ∧ Fr [] w w' :=
  netFind_core s p v 0 w h (fun W hW => regLookup_hit r m names s p W hW hs hv v hx)
theorem netFind_miss (s : ByteArray) (p : Int) (w : World) (h : NetIs w n r m lm cm names ls cs) (hs : s.size ≤ 1000000) (hv : addrB s.data.toList p = true) (hx : ∀ x ∈ names, x.1 ≠ addrV s p) :
    Calls Tryz.prog 32 #[.pointer (some ⟨n, 0, none⟩), .agg #[.string s, .int .i64 p]] w fun e w' => e = .returned (.tuple #[.int .i64 0, .int .i64 9]) ∧ Fr [] w w' :=
  netFind_core s p 0 9 w h (fun W hW => regLookup_miss r m names s p W hW hs hv hx)
theorem netFind_bad (s : ByteArray) (p : Int) (w : World) (h : NetIs w n r m lm cm names ls cs) (hs : s.size ≤ 1000000) (hv : addrB s.data.toList p = false) :
    Calls Tryz.prog 32 #[.pointer (some ⟨n, 0, none⟩), .agg #[.string s, .int .i64 p]] w fun e w' => e = .returned (.tuple #[.int .i64 0, .int .i64 2]) ∧ Fr [] w w' :=
  netFind_core s p 0 2 w h (fun W hW => regLookup_bad r m names s p W hW hs hv)
end

theorem Fr.behind {S : List Nat} {a b : World} {n : Nat} (h : Fr S (a.drewN n) b) : Fr S a b := ⟨h.os, h.tape, h.output, h.size, h.block⟩

set_option maxRecDepth 100000 in
set_option maxHeartbeats 4000000 in
theorem netListen_ok (n r m lm cm : Nat) (names ls cs : List (Value × Value)) (s : ByteArray) (p most : Int) (k : Nat) (w : World) (h : NetIs w n r m lm cm names ls cs) (hs : s.size ≤ 1000000) (hv : addrB s.data.toList p = true) (hp : (p == 0) = false)
    (h1 : ¬ most < 1) (h2 : ¬ 128 < most) (hxn : ∀ x ∈ names, x.1 ≠ addrV s p) (hln : ¬ (128 ≤ (names.length : Int))) (hk : ∀ j : Nat, j < k → ∃ b' s' p', (.int .i64 j, qV b' s' p') ∈ ls) (hxl : ∀ x ∈ ls, x.1 ≠ .int .i64 k) (hk' : k ≤ 100000) :
    Calls Tryz.prog 30 #[.pointer (some ⟨n, 0, none⟩), .agg #[.string s, .int .i64 p], .int .i64 most] w fun e w' => ∃ b q mm t, e = .returned (.tuple #[.int .i64 k, .agg #[.string s, .int .i64 p], .int .i64 0]) ∧ NetIs w' n r m lm cm (names ++ [(addrV s p, .int .i64 k)]) (ls ++ [(.int .i64 k, qV b s p)]) cs ∧ BackIs w' b q mm t most false [] 0 ∧ Fr [m, lm] w w' ∧ w.heap.size ≤ b ∧ w.heap.size ≤ q ∧ w.heap.size ≤ mm ∧ w.heap.size ≤ t := by
  have f0 : Fr [] w ((w.alloc (.cells #[.string s, .int .i64 p] 28)).alloc (.cells #[.string ⟨#[]⟩, .int .i64 0] 28)) := ((Fr.refl [] w).alloc _).alloc _
  have h0 := h.new f0
  have HV := Lib.hid hv
  have HXN := Lib.hid hxn
  have HXL := Lib.hid hxl
  have HK := Lib.hid hk
  have hne := h.ne
  have hnlt := cell_lt h.c0
  have hrlt := cell_lt h.reg.c0
  have hmlt := h.reg.map.lt
  have hllt := h.ls.lt
  have hclt := h.cs.lt
  clear hv hxn hxl hk
  go_enter Tryz.func30, Tryz.ntmps30
  go_wp2_with (first
    | (go_at_call 55; refine (netNone_any _ h0).mono ?_; rintro e w' ⟨rfl, rfl⟩)
    | (go_at_call 74; refine (backNew_ok most _ (by omega) (by omega)).mono ?_; rintro e w1 ⟨b, q, mm, t, rfl, hb1, f1, l1, l2, l3, l4⟩; simp only [World.size_alloc] at l1 l2 l3 l4; have k0 : w1.cell? ⟨w.heap.size, 0, none⟩ = some (.string s) := f1.keep (by simp) (by simp); have k1 : w1.cell? ⟨w.heap.size, 1, none⟩ = some (.int .i64 p) := f1.keep (by simp) (by simp))
    | (go_at_call 77; refine (valid_any s p hs _).mono ?_; rintro e w2 ⟨rfl, f2⟩; rw [HV.out]; have k0 := f2.keep k0 (by simp); have k1 := f2.keep k1 (by simp); have j0 : w2.cell? ⟨n, 0, none⟩ = some (.pointer (some ⟨r, 0, none⟩)) := ((h0.new f1).new f2).c0))
  have n2 := (h0.new f1).new f2
  have b2 := hb1.keep f2 (by simp) (by simp) (by simp) (by simp)
  clear k0 k1
  have k0 : w2.cell? ⟨w.heap.size, 0, none⟩ = some (.string s) := (f1.step f2).keep (by simp) (by simp)
  have k1 : w2.cell? ⟨w.heap.size, 1, none⟩ = some (.int .i64 p) := (f1.step f2).keep (by simp) (by simp)
  have n3 := n2.new ((Fr.refl [] w2).alloc (.cells #[.string ⟨#[]⟩, .int .i64 0] 28))
  have c3 := n3.c0
  have k3 : (w2.alloc (.cells #[.string ⟨#[]⟩, .int .i64 0] 28)).cell? ⟨w.heap.size, 0, none⟩ = some (.string s) := ((Fr.refl [] w2).alloc _).keep k0 (by simp)
  have k4 : (w2.alloc (.cells #[.string ⟨#[]⟩, .int .i64 0] 28)).cell? ⟨w.heap.size, 1, none⟩ = some (.int .i64 p) := ((Fr.refl [] w2).alloc _).keep k1 (by simp)
  have z2 : w.heap.size + 2 ≤ w2.heap.size := by simpa using (f1.step f2).size
  go_cut [10, 11] from 29 to 37 (fun s10 s11 wc => ∃ c, s10 = .int .i64 0 ∧ s11 = .pointer (some ⟨c, 0, none⟩) ∧ wc.cell? ⟨c, 0, none⟩ = some (.string s) ∧ wc.cell? ⟨c, 1, none⟩ = some (.int .i64 p) ∧ RegIs wc r m (names ++ [(addrV s p, .int .i64 0)]) ∧ Fr [m] w2 wc ∧ w2.heap.size ≤ c)
  case first => --D
    go_region_with (go_at_call 75; first
      | (refine (regBind_ok r m names s p 0 _ (n2.reg.drewN 1) hs HV.out hp (by omega) HXN.out (by omega)).mono ?_; rintro e w3 ⟨rfl, rg3, f3⟩; have g3 : Fr [m] w2 w3 := (((Fr.refl [] w2).drewN _).mono (fun x hx => by cases hx)).trans f3 (fun x hx _ => hx); clear f3)
      | (refine (regBind_ok r m names s p 0 _ (n3.reg.drewN 1) hs HV.out hp (by omega) HXN.out (by omega)).mono ?_; rintro e w3 ⟨rfl, rg3, f3⟩; have g3 : Fr [m] w2 w3 := ((((Fr.refl [] w2).alloc _).drewN _).mono (fun x hx => by cases hx)).trans f3 (fun x hx _ => hx); have i0 : w3.cell? ⟨w2.heap.size, 0, none⟩ = some (.string ⟨#[]⟩) := f3.keep (by simp) (by simp; omega); have i1 : w3.cell? ⟨w2.heap.size, 1, none⟩ = some (.int .i64 0) := f3.keep (by simp) (by simp; omega); have ifz : ∀ o, w3.frozen? ⟨w2.heap.size, o, none⟩ = false := (fun o => by rw [f3.frozen (by simp) (by simp; omega)]; simp); clear f3))
    all_goals go_wp2
    all_goals go_meet
    case' rel => skip
    all_goals first
      | exact ⟨_, rfl, rfl, by simp, by simp, rg3.keep ((Fr.refl [] w3).alloc _) (by simp) (by simp), g3.alloc _, g3.size⟩
      | exact ⟨_, rfl, rfl, (World.cell?_setCell_other _ _ _ _ (by simp)).trans (World.cell?_setCell_same _ _ _ i0), World.cell?_setCell_same _ _ _ ((World.cell?_setCell_other _ _ _ _ (by simp)).trans i1), rg3.keep (S := [w2.heap.size]) (((Fr.refl _ _).setCell (fun _ => by simp) _).setCell (fun _ => by simp) _) (by simp; omega) (by simp; omega), (g3.setCell (by simp) _).setCell (by simp) _, Nat.le_refl _⟩
  case rest =>
    obtain ⟨c, rfl, rfl, q0, q1, rg3, g3, hc⟩ := hcut
    have x0 := g3.keep n2.c0 (by simp; omega)
    have x1 := g3.keep n2.c1 (by simp; omega)
    have b3 := b2.keep g3 (by simp; omega) (by simp; omega) (by simp; omega) (by simp; omega)
    have ml3 := n2.ls.keep g3 (by simp; omega)
    go_wp2
    go_cut [12] from 42 to 49 (fun s12 wd => s12 = .int .i64 k ∧ MapIs Tryz.prog 3 wd lm (ls ++ [(.int .i64 k, qV b s p)]) ∧ Fr [lm] wc wd)
    case first => --D
      go_region_with (go_at_call 78; refine (addQ lm ls k b s p _ (ml3.drewN 1) HK.out HXL.out hk').mono ?_; rintro e w4 ⟨rfl, ml4, f4⟩)
      all_goals go_wp2
      all_goals go_meet
      case' rel => skip
      all_goals exact ⟨rfl, ml4, f4.behind⟩
    case rest =>
      obtain ⟨rfl, ml4, g4⟩ := hcut
      have y0 := g4.keep x0 (by simp; omega)
      have p0 := g4.keep q0 (by simp; omega)
      have p1 := g4.keep q1 (by simp; omega)
      have rg4 := rg3.keep g4 (by simp; omega) (by simp; omega)
      have b4 := b3.keep g4 (by simp; omega) (by simp; omega) (by simp; omega) (by simp; omega)
      clear q0 q1 x0
      go_wp2
      go_cut [] from 50 to 55 (fun wd => RegIs wd r m (names ++ []) ∧ Fr [m] wc wd)
      case first => --D
        go_region_with (go_at_call 79; refine (regRelease_hit r m names [] s p 0 _ (rg4.drewN 1) hs HV.out).mono ?_; rintro e w5 ⟨rfl, rg5, f5⟩)
        all_goals go_wp2
        all_goals go_meet
        case' rel => skip
        all_goals exact ⟨rg5, f5.behind⟩
      case rest =>
        obtain ⟨rg5, g5⟩ := hcut
        rw [List.append_nil] at rg5
        have v0 := g5.keep y0 (by simp; omega)
        have r0 := g5.keep p0 (by simp; omega)
        have r1 := g5.keep p1 (by simp; omega)
        have ml5 := ml4.keep g5 (by simp; omega)
        have b5 := b4.keep g5 (by simp; omega) (by simp; omega) (by simp; omega) (by simp; omega)
        clear y0 p0 p1
        go_wp2
        go_cut [] from 56 to 62 (fun wd => RegIs wd r m (names ++ [(addrV s p, .int .i64 k)]) ∧ Fr [m] wc wd)
        case first => --D
          go_region_with (go_at_call 75; refine (regBind_ok r m names s p k _ (rg5.drewN 1) hs HV.out hp (by omega) HXN.out (by omega)).mono ?_; rintro e w6 ⟨rfl, rg6, f6⟩)
          all_goals go_wp2
          all_goals go_meet
          case' rel => skip
          all_goals exact ⟨rg6, f6.behind⟩
        case rest =>
          obtain ⟨rg6, g6⟩ := hcut
          have s0 := g6.keep r0 (by simp; omega)
          have s1 := g6.keep r1 (by simp; omega)
          have ml6 := ml5.keep g6 (by simp; omega)
          have b6 := b5.keep g6 (by simp; omega) (by simp; omega) (by simp; omega) (by simp; omega)
          have fB := ((((f1.step f2).mono (T := [m, lm]) (fun x hx => by cases hx)).trans g3 (fun x hx _ => by simp at hx; simp [hx])).trans g4 (fun x hx _ => by simp at hx; simp [hx])).trans (g5.trans g6 (fun x hx _ => hx)) (fun x hx _ => by simp at hx; simp [hx])
          have fA : Fr [m, lm] w wc := (f0.mono (T := [m, lm]) (fun x hx => by cases hx)).trans fB (fun x hx _ => hx)
          have t0 : wc.cell? ⟨w.heap.size + 1, 0, none⟩ = some (.string ⟨#[]⟩) := fB.keep (by simp) (by simp; omega)
          have t1 : wc.cell? ⟨w.heap.size + 1, 1, none⟩ = some (.int .i64 0) := fB.keep (by simp) (by simp; omega)
          have tf : ∀ o, wc.frozen? ⟨w.heap.size + 1, o, none⟩ = false := fun o => by rw [fB.frozen (by simp) (by simp; omega)]; simp
          have n6 : NetIs wc n r m lm cm (names ++ [(addrV s p, .int .i64 k)]) (ls ++ [(.int .i64 k, qV b s p)]) cs :=
            ⟨fA.keep h.c0 (by simp; omega), fA.keep h.c1 (by simp; omega), fA.keep h.c2 (by simp; omega), rg6, ml6, h.cs.keep fA (by simp; omega), hne⟩
          clear fB
          go_wp2
          go_region
          go_wp2
          have fE : Fr [w.heap.size + 1] wc ((wc.setCell ⟨w.heap.size + 1, 0, none⟩ (.string s)).setCell ⟨w.heap.size + 1, 1, none⟩ (.int .i64 p)).drew := (((Fr.refl _ wc).setCell (fun _ => by simp) _).setCell (fun _ => by simp) _).drew
          refine bodyPost_ret (v := .tuple #[.int .i64 k, .agg #[.string s, .int .i64 p], .int .i64 0]) (by simp [results, Tryz.results30, go_sem, t0, t1]) rfl ⟨b, q, mm, t, rfl, ?_, ?_, ?_, by omega, by omega, by omega, by omega⟩
          · exact n6.keep fE (by simp; omega) (by simp; omega) (by simp; omega) (by simp; omega) (by simp; omega)
          · exact b6.keep fE (by simp; omega) (by simp; omega) (by simp; omega) (by simp; omega)
          · exact fA.trans fE (fun x hx hl => by simp at hx; omega)
end Go.Proofs.YtmdhlodafjpnmaaGreat
namespace Go.Proofs.YtmdhlodafjpnmaaGreat
open Go.RowKit
open Go.Maps (Keyed)
set_option linter.unusedVariables false

set_option maxRecDepth 100000 in
set_option maxHeartbeats 4000000 in
theorem netPair_ok (n r m lm cm : Nat) (names ls cs : List (Value × Value)) (c k : Nat) (w : World) (h : NetIs w n r m lm cm names ls cs) (hc : c ≤ 4096) (hk : ∀ j : Nat, j < k → ∃ d', (.int .i64 j, .pointer (some ⟨d', 0, none⟩)) ∈ cs) (hx : ∀ x ∈ cs, x.1 ≠ .int .i64 k) (hk' : k ≤ 100000) (hn : ¬ (128 ≤ (cs.length : Int))) :
    Calls Tryz.prog 33 #[.pointer (some ⟨n, 0, none⟩), .int .i64 c] w fun e w' => ∃ d, e = .returned (.tuple #[.int .i64 k, .int .i64 0]) ∧ NetIs w' n r m lm cm names ls (cs ++ [(.int .i64 k, .pointer (some ⟨d, 0, none⟩))]) ∧ Dup0 w' w.heap.size d c ∧ Fr [cm] w w' := by
  have c2 := h.c2
  have HK := Lib.hid hk
  have HX := Lib.hid hx
  have hne := h.ne
  have hclt := h.cs.lt
  clear hk hx
  go_enter Tryz.func33, Tryz.ntmps33
  go_wp2_with (first
    | (go_at_call 55; refine (netNone_any _ h).mono ?_; rintro e w' ⟨rfl, rfl⟩)
    | (go_at_call 80; refine (dupNew_ok c hc _).mono ?_; rintro e w1 ⟨d, rfl, hd, f1⟩; have j2 := f1.keep c2 (by simp); have hlen := (h.cs.keep f1 (by simp)).len (t := 51) (e := 55) Tryz.underlying51)
    | (go_at_call 83; refine (addD cm cs k d _ (h.cs.keep f1 (by simp)) HK.out HX.out hk').mono ?_; rintro e w2 ⟨rfl, hm2, f2⟩))
  go_ret2
  have g2 : Fr [cm] w w2 := (f1.mono (fun x hx => by cases hx)).trans f2 (fun x hx _ => hx)
  exact ⟨d, rfl, ⟨g2.keep h.c0 (by simp; omega), g2.keep h.c1 (by simp; omega), g2.keep h.c2 (by simp; omega), h.reg.keep g2 (by simp; omega) (by simp; omega), h.ls.keep g2 (by simp; omega), hm2, hne⟩, hd.keep f2 (fun x hx => by simp at hx; omega), g2⟩

section
variable (n r m lm cm : Nat) (names ls cs : List (Value × Value)) (s : ByteArray) (p : Int) (c : Nat) (w : World)

set_option maxRecDepth 100000 in
set_option maxHeartbeats 4000000 in
theorem netConnect_refused (h : NetIs w n r m lm cm names ls cs) (hs : s.size ≤ 1000000) (hv : addrB s.data.toList p = true) (hx : ∀ x ∈ names, x.1 ≠ addrV s p) (hc : c ≤ 4096) :
    Calls Tryz.prog 31 #[.pointer (some ⟨n, 0, none⟩), .agg #[.string s, .int .i64 p], .int .i64 c] w fun e w' => e = .returned (.tuple #[.int .i64 0, .int .i64 15]) ∧ Fr [] w w' := by
  have f0 : Fr [] w (w.alloc (.cells #[.string s, .int .i64 p] 28)) := (Fr.refl [] w).alloc _
  have h0 := h.new f0
  have HX := Lib.hid hx
  have HV := Lib.hid hv
  clear hx hv
  go_enter Tryz.func31, Tryz.ntmps31
  go_wp2_with (first
    | (go_at_call 32; refine (netFind_miss s p _ h0 hs HV.out HX.out).mono ?_; rintro e w1 ⟨rfl, f1⟩)
    | (go_at_call 80; refine (dupNew_ok c hc _).mono ?_; rintro e w2 ⟨d, rfl, hd, f2⟩))
  go_ret2
  exact ⟨rfl, (f0.step f1).step f2⟩

set_option maxRecDepth 100000 in
set_option maxHeartbeats 4000000 in
theorem netConnect_block (h : NetIs w n r m lm cm names ls cs) (hs : s.size ≤ 1000000) (hv : addrB s.data.toList p = true) (hc : c ≤ 4096) (v : Int) (b q mm t : Nat) (most : Int) (l : List (Nat × Int)) (g : Nat) (s' : ByteArray) (p' : Int)
    (hx : (addrV s p, .int .i64 v) ∈ names) (hl : (.int .i64 v, qV b s' p') ∈ ls) (hb : BackIs w b q mm t most false l g) (hm : 1 ≤ most) (hm' : most ≤ 128) (hfull : most = l.length) :
    Calls Tryz.prog 31 #[.pointer (some ⟨n, 0, none⟩), .agg #[.string s, .int .i64 p], .int .i64 c] w fun e w' => e = .returned (.tuple #[.int .i64 0, .int .i64 16]) ∧ Fr [] w w' := by
  have f0 : Fr [] w (w.alloc (.cells #[.string s, .int .i64 p] 28)) := (Fr.refl [] w).alloc _
  have h0 := h.new f0
  have HX := Lib.hid hx
  have HV := Lib.hid hv
  have HL := Lib.hid hl
  have HF := Lib.hid hfull
  have HB := Lib.hid hb
  clear hx hv hl hfull hb
  have hfd : ∀ W : World, (Instr.field 120 (.agg #[.pointer (some ⟨b, 0, none⟩), .string s', .int .i64 p']) 0).run Tryz.prog W = .ok (.pointer (some ⟨b, 0, none⟩)) W := fun W => by kernel_rfl
  go_enter Tryz.func31, Tryz.ntmps31
  go_wp2_with (first
    | (go_at_call 32; refine (netFind_hit s p v _ h0 hs HV.out HX.out).mono ?_; rintro e w1 ⟨rfl, f1⟩)
    | (go_at_call 80; refine (dupNew_ok c hc _).mono ?_; rintro e w2 ⟨d, rfl, hd, f2⟩; have j1 : w2.cell? ⟨n, 1, none⟩ = some (.map (some lm)) := ((h0.new f1).new f2).c1; have hlk : (Instr.lookup 49 (.map (some lm)) (.int .i64 v) false).run Tryz.prog w2 = .ok (.agg #[.pointer (some ⟨b, 0, none⟩), .string s', .int .i64 p']) w2 := ((h0.new f1).new f2).ls.hit keyInt (t := 49) (e := 120) Tryz.underlying49 HL.out false)
    | (go_at_call 81; refine (backRoom_any b q mm t most l g _ (((HB.out.keep f0 (by simp) (by simp) (by simp) (by simp)).keep f1 (by simp) (by simp) (by simp) (by simp)).keep f2 (by simp) (by simp) (by simp) (by simp)) (by omega) hm' (by have := HF.out; omega)).mono ?_; rintro e w3 ⟨rfl, nn, rfl⟩; rw [show most - (l.length : Int) = 0 by have := HF.out; omega]))
  go_ret2
  exact ⟨rfl, ((f0.step f1).step f2).drewN _⟩

set_option maxRecDepth 100000 in
set_option maxHeartbeats 4000000 in
theorem netConnect_first (h : NetIs w n r m lm cm names ls cs) (hs : s.size ≤ 1000000) (hv : addrB s.data.toList p = true) (hc : c ≤ 4096) (v : Int) (b q mm t : Nat) (most : Int) (g k : Nat) (s' : ByteArray) (p' : Int)
    (hx : (addrV s p, .int .i64 v) ∈ names) (hl : (.int .i64 v, qV b s' p') ∈ ls) (hb : BackIs w b q mm t most false [] g) (hm : 1 ≤ most) (hm' : most ≤ 128) (hg : g < 4611686018427387904)
    (hk : ∀ j : Nat, j < k → ∃ d', (.int .i64 j, .pointer (some ⟨d', 0, none⟩)) ∈ cs) (hxk : ∀ x ∈ cs, x.1 ≠ .int .i64 k) (hk' : k ≤ 100000) (hn : ¬ (128 ≤ (cs.length : Int)))
    (hsep : ∀ x ∈ [b, q, mm, t], x ∉ [n, r, m, lm, cm]) :
    Calls Tryz.prog 31 #[.pointer (some ⟨n, 0, none⟩), .agg #[.string s, .int .i64 p], .int .i64 c] w fun e w' => ∃ d, e = .returned (.tuple #[.int .i64 k, .int .i64 0]) ∧ NetIs w' n r m lm cm names ls (cs ++ [(.int .i64 k, .pointer (some ⟨d, 0, none⟩))]) ∧ BackIs w' b q mm t most false [(g + 1, (k : Int))] (g + 1) ∧ Dup0 w' w.heap.size d c ∧ Fr [cm, q, mm, t] w w' := by
  have f0 : Fr [] w (w.alloc (.cells #[.string s, .int .i64 p] 28)) := (Fr.refl [] w).alloc _
  have h0 := h.new f0
  simp only [List.mem_cons, List.not_mem_nil, or_false, forall_eq_or_imp, forall_eq, not_or] at hsep
  obtain ⟨⟨b1, b2, b3, b4, b5⟩, ⟨q1, q2, q3, q4, q5⟩, ⟨m1, m2, m3, m4, m5⟩, ⟨t1, t2, t3, t4, t5⟩⟩ := hsep
  have z1 := cell_lt hb.c0
  have z2 := cell_lt hb.queue.c0
  obtain ⟨f', hbm, _⟩ := hb.queue.nodes
  obtain ⟨ff, hmt, _⟩ := hb.tickets
  have z3 := hmt.lt
  have z4 := hbm.lt
  clear hmt hbm
  have HX := Lib.hid hx
  have HV := Lib.hid hv
  have HL := Lib.hid hl
  have HB := Lib.hid hb
  have HK := Lib.hid hk
  have HXK := Lib.hid hxk
  clear hx hv hl hb hk hxk
  have hr0 : (most == 0) = false := by rw [beq_eq_false_iff_ne]; omega
  have hfd : ∀ W : World, (Instr.field 120 (.agg #[.pointer (some ⟨b, 0, none⟩), .string s', .int .i64 p']) 0).run Tryz.prog W = .ok (.pointer (some ⟨b, 0, none⟩)) W := fun W => by kernel_rfl
  go_enter Tryz.func31, Tryz.ntmps31
  go_wp2_with (first
    | (go_at_call 32; refine (netFind_hit s p v _ h0 hs HV.out HX.out).mono ?_; rintro e w1 ⟨rfl, f1⟩)
    | (go_at_call 80; refine (dupNew_ok c hc _).mono ?_; rintro e w2 ⟨d, rfl, hd, f2⟩; have j1 : w2.cell? ⟨n, 1, none⟩ = some (.map (some lm)) := ((h0.new f1).new f2).c1; have hlk : (Instr.lookup 49 (.map (some lm)) (.int .i64 v) false).run Tryz.prog w2 = .ok (.agg #[.pointer (some ⟨b, 0, none⟩), .string s', .int .i64 p']) w2 := ((h0.new f1).new f2).ls.hit keyInt (t := 49) (e := 120) Tryz.underlying49 HL.out false)
    | (go_at_call 81; refine (backRoom_any b q mm t most [] g _ (((HB.out.keep f0 (by simp) (by simp) (by simp) (by simp)).keep f1 (by simp) (by simp) (by simp) (by simp)).keep f2 (by simp) (by simp) (by simp) (by simp)) (by omega) hm' (by simp)).mono ?_; rintro e w3 ⟨rfl, nn, rfl⟩; rw [show most - (([] : List (Nat × Int)).length : Int) = most by simp])
    | (go_at_call 33; refine (netPair_ok n r m lm cm names ls cs c k _ (((h0.new f1).new f2).new ((Fr.refl [] w2).drewN nn)) hc HK.out HXK.out hk' (by omega)).mono ?_; rintro e w4 ⟨d4, rfl, n4, hd4, f4⟩; have j4 : w4.cell? ⟨n, 1, none⟩ = some (.map (some lm)) := n4.c1; have hlk4 : (Instr.lookup 49 (.map (some lm)) (.int .i64 v) false).run Tryz.prog w4 = .ok (.agg #[.pointer (some ⟨b, 0, none⟩), .string s', .int .i64 p']) w4 := n4.ls.hit keyInt (t := 49) (e := 120) Tryz.underlying49 HL.out false)
    | (go_at_call 76; refine (backPush_empty b q mm t most g k _ ((((HB.out.keep f0 (by simp) (by simp) (by simp) (by simp)).keep f1 (by simp) (by simp) (by simp) (by simp)).keep f2 (by simp) (by simp) (by simp) (by simp)).drewN nn |>.keep f4 (by simp; omega) (by simp; omega) (by simp; omega) (by simp; omega)) hm hm' hg (by omega) (by omega)).mono ?_; rintro e w5 ⟨rfl, hb5, f5⟩))
  go_ret2
  have e1 := f0.size
  have e2 := f1.size
  have e3 := f2.size
  have gA : Fr [] w (w2.drewN nn) := ((f0.step f1).step f2).drewN nn
  have g4 : Fr [cm, q, mm, t] w w4 := (gA.mono (T := [cm, q, mm, t]) (fun x hx => by cases hx)).trans f4 (fun x hx _ => by simp at hx; simp [hx])
  have g5 := g4.trans f5 (fun x hx _ => by simp at hx; simp; omega)
  refine ⟨d4, rfl, n4.keep f5 (by simp; omega) (by simp; omega) (by simp; omega) (by simp; omega) (by simp; omega), hb5, (hd4.less ?_).keep f5 (fun x hx => by simp at hx; omega), g5⟩
  exact gA.size
end
end Go.Proofs.YtmdhlodafjpnmaaGreat
namespace Go.Proofs.YtmdhlodafjpnmaaGreat
open Go.RowKit
open Go.Maps (Keyed)
set_option linter.unusedVariables false

set_option maxRecDepth 100000 in
set_option maxHeartbeats 4000000 in
theorem netPair_full (n r m lm cm : Nat) (names ls cs : List (Value × Value)) (c : Nat) (w : World) (h : NetIs w n r m lm cm names ls cs) (hc : c ≤ 4096) (hn : 128 ≤ (cs.length : Int)) :
    Calls Tryz.prog 33 #[.pointer (some ⟨n, 0, none⟩), .int .i64 c] w fun e w' => e = .returned (.tuple #[.int .i64 0, .int .i64 7]) ∧ Fr [] w w' := by
  have c2 := h.c2
  go_enter Tryz.func33, Tryz.ntmps33
  go_wp2_with (first
    | (go_at_call 55; refine (netNone_any _ h).mono ?_; rintro e w' ⟨rfl, rfl⟩)
    | (go_at_call 80; refine (dupNew_ok c hc _).mono ?_; rintro e w1 ⟨d, rfl, hd, f1⟩; have j2 := f1.keep c2 (by simp); have hlen := (h.cs.keep f1 (by simp)).len (t := 51) (e := 55) Tryz.underlying51))
  go_ret2
  exact ⟨rfl, f1⟩

section
variable (n r m lm cm : Nat) (names ls cs : List (Value × Value)) (s : ByteArray) (p : Int) (c : Nat) (w : World)

set_option maxRecDepth 100000 in
set_option maxHeartbeats 4000000 in
theorem netConnect_push (h : NetIs w n r m lm cm names ls cs) (hs : s.size ≤ 1000000) (hv : addrB s.data.toList p = true) (hc : c ≤ 4096) (v : Int) (b q mm t : Nat) (most : Int) (l : List (Nat × Int)) (g k : Nat) (s' : ByteArray) (p' : Int)
    (hx : (addrV s p, .int .i64 v) ∈ names) (hl : (.int .i64 v, qV b s' p') ∈ ls) (hb : BackIs w b q mm t most false l g) (hlen : (l.length : Int) < most) (hnew : ∀ x ∈ l, x.2 ≠ (k : Int)) (hm' : most ≤ 128) (hg : g < 4611686018427387904)
    (hk : ∀ j : Nat, j < k → ∃ d', (.int .i64 j, .pointer (some ⟨d', 0, none⟩)) ∈ cs) (hxk : ∀ x ∈ cs, x.1 ≠ .int .i64 k) (hk' : k ≤ 100000) (hn : ¬ (128 ≤ (cs.length : Int)))
    (hsep : ∀ x ∈ [b, q, mm, t], x ∉ [n, r, m, lm, cm]) :
    Calls Tryz.prog 31 #[.pointer (some ⟨n, 0, none⟩), .agg #[.string s, .int .i64 p], .int .i64 c] w fun e w' => ∃ d, e = .returned (.tuple #[.int .i64 k, .int .i64 0]) ∧ NetIs w' n r m lm cm names ls (cs ++ [(.int .i64 k, .pointer (some ⟨d, 0, none⟩))]) ∧ BackIs w' b q mm t most false (l ++ [(g + 1, (k : Int))]) (g + 1) ∧ Dup0 w' w.heap.size d c ∧ Fr [cm, q, mm, t] w w' := by
  have f0 : Fr [] w (w.alloc (.cells #[.string s, .int .i64 p] 28)) := (Fr.refl [] w).alloc _
  have h0 := h.new f0
  simp only [List.mem_cons, List.not_mem_nil, or_false, forall_eq_or_imp, forall_eq, not_or] at hsep
  obtain ⟨⟨b1, b2, b3, b4, b5⟩, ⟨q1, q2, q3, q4, q5⟩, ⟨m1, m2, m3, m4, m5⟩, ⟨t1, t2, t3, t4, t5⟩⟩ := hsep
  have z1 := cell_lt hb.c0
  have z2 := cell_lt hb.queue.c0
  obtain ⟨f', hbm, _⟩ := hb.queue.nodes
  obtain ⟨ff, hmt, _⟩ := hb.tickets
  have z3 := hmt.lt
  have z4 := hbm.lt
  clear hmt hbm
  have HX := Lib.hid hx
  have HV := Lib.hid hv
  have HL := Lib.hid hl
  have HB := Lib.hid hb
  have HK := Lib.hid hk
  have HXK := Lib.hid hxk
  clear hx hv hl hb hk hxk
  have hr0 : (most - (l.length : Int) == 0) = false := by rw [beq_eq_false_iff_ne]; omega
  have HN := Lib.hid hnew
  clear hnew
  have hfd : ∀ W : World, (Instr.field 120 (.agg #[.pointer (some ⟨b, 0, none⟩), .string s', .int .i64 p']) 0).run Tryz.prog W = .ok (.pointer (some ⟨b, 0, none⟩)) W := fun W => by kernel_rfl
  go_enter Tryz.func31, Tryz.ntmps31
  go_wp2_with (first
    | (go_at_call 32; refine (netFind_hit s p v _ h0 hs HV.out HX.out).mono ?_; rintro e w1 ⟨rfl, f1⟩)
    | (go_at_call 80; refine (dupNew_ok c hc _).mono ?_; rintro e w2 ⟨d, rfl, hd, f2⟩; have j1 : w2.cell? ⟨n, 1, none⟩ = some (.map (some lm)) := ((h0.new f1).new f2).c1; have hlk : (Instr.lookup 49 (.map (some lm)) (.int .i64 v) false).run Tryz.prog w2 = .ok (.agg #[.pointer (some ⟨b, 0, none⟩), .string s', .int .i64 p']) w2 := ((h0.new f1).new f2).ls.hit keyInt (t := 49) (e := 120) Tryz.underlying49 HL.out false)
    | (go_at_call 81; refine (backRoom_any b q mm t most l g _ (((HB.out.keep f0 (by simp) (by simp) (by simp) (by simp)).keep f1 (by simp) (by simp) (by simp) (by simp)).keep f2 (by simp) (by simp) (by simp) (by simp)) (by omega) hm' (by omega)).mono ?_; rintro e w3 ⟨rfl, nn, rfl⟩)
    | (go_at_call 33; refine (netPair_ok n r m lm cm names ls cs c k _ (((h0.new f1).new f2).new ((Fr.refl [] w2).drewN nn)) hc HK.out HXK.out hk' (by omega)).mono ?_; rintro e w4 ⟨d4, rfl, n4, hd4, f4⟩; have j4 : w4.cell? ⟨n, 1, none⟩ = some (.map (some lm)) := n4.c1; have hlk4 : (Instr.lookup 49 (.map (some lm)) (.int .i64 v) false).run Tryz.prog w4 = .ok (.agg #[.pointer (some ⟨b, 0, none⟩), .string s', .int .i64 p']) w4 := n4.ls.hit keyInt (t := 49) (e := 120) Tryz.underlying49 HL.out false)
    | (go_at_call 76; refine (backPush_any b q mm t most l g k _ ((((HB.out.keep f0 (by simp) (by simp) (by simp) (by simp)).keep f1 (by simp) (by simp) (by simp) (by simp)).keep f2 (by simp) (by simp) (by simp) (by simp)).drewN nn |>.keep f4 (by simp; omega) (by simp; omega) (by simp; omega) (by simp; omega)) hlen hm' hg (by omega) (by omega) HN.out).mono ?_; rintro e w5 ⟨rfl, hb5, f5⟩))
  go_ret2
  have e1 := f0.size
  have e2 := f1.size
  have e3 := f2.size
  have gA : Fr [] w (w2.drewN nn) := ((f0.step f1).step f2).drewN nn
  have g4 : Fr [cm, q, mm, t] w w4 := (gA.mono (T := [cm, q, mm, t]) (fun x hx => by cases hx)).trans f4 (fun x hx _ => by simp at hx; simp [hx])
  have g5 := g4.trans f5 (fun x hx _ => by simp at hx; simp; omega)
  refine ⟨d4, rfl, n4.keep f5 (by simp; omega) (by simp; omega) (by simp; omega) (by simp; omega) (by simp; omega), hb5, (hd4.less ?_).keep f5 (fun x hx => by simp at hx; omega), g5⟩
  exact gA.size
set_option maxRecDepth 100000 in
set_option maxHeartbeats 4000000 in
theorem netConnect_full (h : NetIs w n r m lm cm names ls cs) (hs : s.size ≤ 1000000) (hv : addrB s.data.toList p = true) (hc : c ≤ 4096) (v : Int) (b q mm t : Nat) (most : Int) (l : List (Nat × Int)) (g : Nat) (s' : ByteArray) (p' : Int)
    (hx : (addrV s p, .int .i64 v) ∈ names) (hl : (.int .i64 v, qV b s' p') ∈ ls) (hb : BackIs w b q mm t most false l g) (hlen : (l.length : Int) < most) (hm' : most ≤ 128) (hg : g < 4611686018427387904)
    (hn : 128 ≤ (cs.length : Int)) :
    Calls Tryz.prog 31 #[.pointer (some ⟨n, 0, none⟩), .agg #[.string s, .int .i64 p], .int .i64 c] w fun e w' => e = .returned (.tuple #[.int .i64 0, .int .i64 7]) ∧ Fr [] w w' := by
  have f0 : Fr [] w (w.alloc (.cells #[.string s, .int .i64 p] 28)) := (Fr.refl [] w).alloc _
  have h0 := h.new f0
  have HX := Lib.hid hx
  have HV := Lib.hid hv
  have HL := Lib.hid hl
  have HB := Lib.hid hb
  clear hx hv hl hb
  have hr0 : (most - (l.length : Int) == 0) = false := by rw [beq_eq_false_iff_ne]; omega
  have hfd : ∀ W : World, (Instr.field 120 (.agg #[.pointer (some ⟨b, 0, none⟩), .string s', .int .i64 p']) 0).run Tryz.prog W = .ok (.pointer (some ⟨b, 0, none⟩)) W := fun W => by kernel_rfl
  go_enter Tryz.func31, Tryz.ntmps31
  go_wp2_with (first
    | (go_at_call 32; refine (netFind_hit s p v _ h0 hs HV.out HX.out).mono ?_; rintro e w1 ⟨rfl, f1⟩)
    | (go_at_call 80; refine (dupNew_ok c hc _).mono ?_; rintro e w2 ⟨d, rfl, hd, f2⟩; have j1 : w2.cell? ⟨n, 1, none⟩ = some (.map (some lm)) := ((h0.new f1).new f2).c1; have hlk : (Instr.lookup 49 (.map (some lm)) (.int .i64 v) false).run Tryz.prog w2 = .ok (.agg #[.pointer (some ⟨b, 0, none⟩), .string s', .int .i64 p']) w2 := ((h0.new f1).new f2).ls.hit keyInt (t := 49) (e := 120) Tryz.underlying49 HL.out false)
    | (go_at_call 81; refine (backRoom_any b q mm t most l g _ (((HB.out.keep f0 (by simp) (by simp) (by simp) (by simp)).keep f1 (by simp) (by simp) (by simp) (by simp)).keep f2 (by simp) (by simp) (by simp) (by simp)) (by omega) hm' (by omega)).mono ?_; rintro e w3 ⟨rfl, nn, rfl⟩)
    | (go_at_call 33; refine (netPair_full n r m lm cm names ls cs c _ (((h0.new f1).new f2).new ((Fr.refl [] w2).drewN nn)) hc hn).mono ?_; rintro e w4 ⟨rfl, f4⟩))
  go_ret2
  exact ⟨rfl, (((f0.step f1).step f2).drewN nn).step f4⟩
end
end Go.Proofs.YtmdhlodafjpnmaaGreat
