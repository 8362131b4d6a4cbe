/- Contracts of listener's Pair and Connect. -/
import Derived.Test.YtmdhlodafjpnmaaGreatListen
namespace Go.Proofs.YtmdhlodafjpnmaaGreat
open Go.RowKit
open Go.Maps (Keyed)
set_option linter.unusedVariables false

set_option maxRecDepth 100000 in
set_option maxHeartbeats 4000000 in
theorem netPair_ok (n r m lm cm : Nat) (names ls cs : List (Value × Value)) (c k : Nat) (w : World) (h : NetIs w n r m lm cm names ls cs) (hc : c ≤ 4096) (hk : ∀ j : Nat, j < k → ∃ d', (.int .i64 j, .pointer (some ⟨d', 0, none⟩)) ∈ cs) (hx : ∀ x ∈ cs, x.1 ≠ .int .i64 k) (hk' : k ≤ 100000) (hn : ¬ (128 ≤ (cs.length : Int))) :
    Calls Tryz.prog 33 #[.pointer (some ⟨n, 0, none⟩), .int .i64 c] w fun e w' => ∃ d, e = .returned (.tuple #[.int .i64 k, .int .i64 0]) ∧ NetIs w' n r m lm cm names ls (cs ++ [(.int .i64 k, .pointer (some ⟨d, 0, none⟩))]) ∧ Dup0 w' w.heap.size d c ∧ Fr [cm] w w' := by
  have c2 := h.c2
  have HK := Lib.hid hk
  have HX := Lib.hid hx
  have hne := h.ne
  have hclt := h.cs.lt
  clear hk hx
  go_enter Tryz.func33, Tryz.ntmps33
  go_wp2_with (first
    | (go_at_call 55; refine (netNone_any _ h).mono ?_; rintro e w' ⟨rfl, rfl⟩)
    | (go_at_call 80; refine (dupNew_ok c hc _).mono ?_; rintro e w1 ⟨d, rfl, hd, f1⟩; have j2 := f1.keep c2 (by simp); have hlen := (h.cs.keep f1 (by simp)).len (t := 51) (e := 55) Tryz.underlying51)
    | (go_at_call 83; refine (addD cm cs k d _ (h.cs.keep f1 (by simp)) HK.out HX.out hk').mono ?_; rintro e w2 ⟨rfl, hm2, f2⟩))
  go_ret2
  have g2 : Fr [cm] w w2 := (f1.mono (fun x hx => by cases hx)).trans f2 (fun x hx _ => hx)
  exact ⟨d, rfl, ⟨g2.keep h.c0 (by simp; omega), g2.keep h.c1 (by simp; omega), g2.keep h.c2 (by simp; omega), h.reg.keep g2 (by simp; omega) (by simp; omega), h.ls.keep g2 (by simp; omega), hm2, hne⟩, hd.keep f2 (fun x hx => by simp at hx; omega), g2⟩

section
variable (n r m lm cm : Nat) (names ls cs : List (Value × Value)) (s : ByteArray) (p : Int) (c : Nat) (w : World)

set_option maxRecDepth 100000 in
set_option maxHeartbeats 4000000 in
theorem netConnect_refused (h : NetIs w n r m lm cm names ls cs) (hs : s.size ≤ 1000000) (hv : addrB s.data.toList p = true) (hx : ∀ x ∈ names, x.1 ≠ addrV s p) (hc : c ≤ 4096) :
    Calls Tryz.prog 31 #[.pointer (some ⟨n, 0, none⟩), .agg #[.string s, .int .i64 p], .int .i64 c] w fun e w' => e = .returned (.tuple #[.int .i64 0, .int .i64 15]) ∧ Fr [] w w' := by
  have f0 : Fr [] w (w.alloc (.cells #[.string s, .int .i64 p] 28)) := (Fr.refl [] w).alloc _
  have h0 := h.new f0
  have HX := Lib.hid hx
  have HV := Lib.hid hv
  clear hx hv
  go_enter Tryz.func31, Tryz.ntmps31
  go_wp2_with (first
    | (go_at_call 32; refine (netFind_miss s p _ h0 hs HV.out HX.out).mono ?_; rintro e w1 ⟨rfl, f1⟩)
    | (go_at_call 80; refine (dupNew_ok c hc _).mono ?_; rintro e w2 ⟨d, rfl, hd, f2⟩))
  go_ret2
  exact ⟨rfl, (f0.step f1).step f2⟩

set_option maxRecDepth 100000 in
set_option maxHeartbeats 4000000 in
theorem netConnect_block (h : NetIs w n r m lm cm names ls cs) (hs : s.size ≤ 1000000) (hv : addrB s.data.toList p = true) (hc : c ≤ 4096) (v : Int) (b q mm t : Nat) (most : Int) (l : List (Nat × Int)) (g : Nat) (s' : ByteArray) (p' : Int)
    (hx : (addrV s p, .int .i64 v) ∈ names) (hl : (.int .i64 v, qV b s' p') ∈ ls) (hb : BackIs w b q mm t most false l g) (hm : 1 ≤ most) (hm' : most ≤ 128) (hfull : most = l.length) :
    Calls Tryz.prog 31 #[.pointer (some ⟨n, 0, none⟩), .agg #[.string s, .int .i64 p], .int .i64 c] w fun e w' => e = .returned (.tuple #[.int .i64 0, .int .i64 16]) ∧ Fr [] w w' := by
  have f0 : Fr [] w (w.alloc (.cells #[.string s, .int .i64 p] 28)) := (Fr.refl [] w).alloc _
  have h0 := h.new f0
  have HX := Lib.hid hx
  have HV := Lib.hid hv
  have HL := Lib.hid hl
  have HF := Lib.hid hfull
  have HB := Lib.hid hb
  clear hx hv hl hfull hb
  have hfd : ∀ W : World, (Instr.field 120 (.agg #[.pointer (some ⟨b, 0, none⟩), .string s', .int .i64 p']) 0).run Tryz.prog W = .ok (.pointer (some ⟨b, 0, none⟩)) W := fun W => by kernel_rfl
  go_enter Tryz.func31, Tryz.ntmps31
  go_wp2_with (first
    | (go_at_call 32; refine (netFind_hit s p v _ h0 hs HV.out HX.out).mono ?_; rintro e w1 ⟨rfl, f1⟩)
    | (go_at_call 80; refine (dupNew_ok c hc _).mono ?_; rintro e w2 ⟨d, rfl, hd, f2⟩; have j1 : w2.cell? ⟨n, 1, none⟩ = some (.map (some lm)) := ((h0.new f1).new f2).c1; have hlk : (Instr.lookup 49 (.map (some lm)) (.int .i64 v) false).run Tryz.prog w2 = .ok (.agg #[.pointer (some ⟨b, 0, none⟩), .string s', .int .i64 p']) w2 := ((h0.new f1).new f2).ls.hit keyInt (t := 49) (e := 120) Tryz.underlying49 HL.out false)
    | (go_at_call 81; refine (backRoom_any b q mm t most l g _ (((HB.out.keep f0 (by simp) (by simp) (by simp) (by simp)).keep f1 (by simp) (by simp) (by simp) (by simp)).keep f2 (by simp) (by simp) (by simp) (by simp)) (by omega) hm' (by have := HF.out; omega)).mono ?_; rintro e w3 ⟨rfl, nn, rfl⟩; rw [show most - (l.length : Int) = 0 by have := HF.out; omega]))
  go_ret2
  exact ⟨rfl, ((f0.step f1).step f2).drewN _⟩

set_option maxRecDepth 100000 in
set_option maxHeartbeats 4000000 in
theorem netConnect_first (h : NetIs w n r m lm cm names ls cs) (hs : s.size ≤ 1000000) (hv : addrB s.data.toList p = true) (hc : c ≤ 4096) (v : Int) (b q mm t : Nat) (most : Int) (g k : Nat) (s' : ByteArray) (p' : Int)
    (hx : (addrV s p, .int .i64 v) ∈ names) (hl : (.int .i64 v, qV b s' p') ∈ ls) (hb : BackIs w b q mm t most false [] g) (hm : 1 ≤ most) (hm' : most ≤ 128) (hg : g < 4611686018427387904)
    (hk : ∀ j : Nat, j < k → ∃ d', (.int .i64 j, .pointer (some ⟨d', 0, none⟩)) ∈ cs) (hxk : ∀ x ∈ cs, x.1 ≠ .int .i64 k) (hk' : k ≤ 100000) (hn : ¬ (128 ≤ (cs.length : Int)))
    (hsep : ∀ x ∈ [b, q, mm, t], x ∉ [n, r, m, lm, cm]) :
    Calls Tryz.prog 31 #[.pointer (some ⟨n, 0, none⟩), .agg #[.string s, .int .i64 p], .int .i64 c] w fun e w' => ∃ d, e = .returned (.tuple #[.int .i64 k, .int .i64 0]) ∧ NetIs w' n r m lm cm names ls (cs ++ [(.int .i64 k, .pointer (some ⟨d, 0, none⟩))]) ∧ BackIs w' b q mm t most false [(g + 1, (k : Int))] (g + 1) ∧ Dup0 w' w.heap.size d c ∧ Fr [cm, q, mm, t] w w' := by
  have f0 : Fr [] w (w.alloc (.cells #[.string s, .int .i64 p] 28)) := (Fr.refl [] w).alloc _
  have h0 := h.new f0
  simp only [List.mem_cons, List.not_mem_nil, or_false, forall_eq_or_imp, forall_eq, not_or] at hsep
  obtain ⟨⟨b1, b2, b3, b4, b5⟩, ⟨q1, q2, q3, q4, q5⟩, ⟨m1, m2, m3, m4, m5⟩, ⟨t1, t2, t3, t4, t5⟩⟩ := hsep
  have z1 := cell_lt hb.c0
  have z2 := cell_lt hb.queue.c0
  obtain ⟨f', hbm, _⟩ := hb.queue.nodes
  obtain ⟨ff, hmt, _⟩ := hb.tickets
  have z3 := hmt.lt
  have z4 := hbm.lt
  clear hmt hbm
  have HX := Lib.hid hx
  have HV := Lib.hid hv
  have HL := Lib.hid hl
  have HB := Lib.hid hb
  have HK := Lib.hid hk
  have HXK := Lib.hid hxk
  clear hx hv hl hb hk hxk
  have hr0 : (most == 0) = false := by rw [beq_eq_false_iff_ne]; omega
  have hfd : ∀ W : World, (Instr.field 120 (.agg #[.pointer (some ⟨b, 0, none⟩), .string s', .int .i64 p']) 0).run Tryz.prog W = .ok (.pointer (some ⟨b, 0, none⟩)) W := fun W => by kernel_rfl
  go_enter Tryz.func31, Tryz.ntmps31
  go_wp2_with (first
    | (go_at_call 32; refine (netFind_hit s p v _ h0 hs HV.out HX.out).mono ?_; rintro e w1 ⟨rfl, f1⟩)
    | (go_at_call 80; refine (dupNew_ok c hc _).mono ?_; rintro e w2 ⟨d, rfl, hd, f2⟩; have j1 : w2.cell? ⟨n, 1, none⟩ = some (.map (some lm)) := ((h0.new f1).new f2).c1; have hlk : (Instr.lookup 49 (.map (some lm)) (.int .i64 v) false).run Tryz.prog w2 = .ok (.agg #[.pointer (some ⟨b, 0, none⟩), .string s', .int .i64 p']) w2 := ((h0.new f1).new f2).ls.hit keyInt (t := 49) (e := 120) Tryz.underlying49 HL.out false)
    | (go_at_call 81; refine (backRoom_any b q mm t most [] g _ (((HB.out.keep f0 (by simp) (by simp) (by simp) (by simp)).keep f1 (by simp) (by simp) (by simp) (by simp)).keep f2 (by simp) (by simp) (by simp) (by simp)) (by omega) hm' (by simp)).mono ?_; rintro e w3 ⟨rfl, nn, rfl⟩; rw [show most - (([] : List (Nat × Int)).length : Int) = most by simp])
    | (go_at_call 33; refine (netPair_ok n r m lm cm names ls cs c k _ (((h0.new f1).new f2).new ((Fr.refl [] w2).drewN nn)) hc HK.out HXK.out hk' (by omega)).mono ?_; rintro e w4 ⟨d4, rfl, n4, hd4, f4⟩; have j4 : w4.cell? ⟨n, 1, none⟩ = some (.map (some lm)) := n4.c1; have hlk4 : (Instr.lookup 49 (.map (some lm)) (.int .i64 v) false).run Tryz.prog w4 = .ok (.agg #[.pointer (some ⟨b, 0, none⟩), .string s', .int .i64 p']) w4 := n4.ls.hit keyInt (t := 49) (e := 120) Tryz.underlying49 HL.out false)
    | (go_at_call 76; refine (backPush_empty b q mm t most g k _ ((((HB.out.keep f0 (by simp) (by simp) (by simp) (by simp)).keep f1 (by simp) (by simp) (by simp) (by simp)).keep f2 (by simp) (by simp) (by simp) (by simp)).drewN nn |>.keep f4 (by simp; omega) (by simp; omega) (by simp; omega) (by simp; omega)) hm hm' hg (by omega) (by omega)).mono ?_; rintro e w5 ⟨rfl, hb5, f5⟩))
  go_ret2
  have e1 := f0.size
  have e2 := f1.size
  have e3 := f2.size
  have gA : Fr [] w (w2.drewN nn) := ((f0.step f1).step f2).drewN nn
  have g4 : Fr [cm, q, mm, t] w w4 := (gA.mono (T := [cm, q, mm, t]) (fun x hx => by cases hx)).trans f4 (fun x hx _ => by simp at hx; simp [hx])
  have g5 := g4.trans f5 (fun x hx _ => by simp at hx; simp; omega)
  refine ⟨d4, rfl, n4.keep f5 (by simp; omega) (by simp; omega) (by simp; omega) (by simp; omega) (by simp; omega), hb5, (hd4.less ?_).keep f5 (fun x hx => by simp at hx; omega), g5⟩
  exact gA.size
end
end Go.Proofs.YtmdhlodafjpnmaaGreat
