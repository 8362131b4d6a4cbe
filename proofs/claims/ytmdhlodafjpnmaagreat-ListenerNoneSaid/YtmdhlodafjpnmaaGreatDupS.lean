/- Connections whose streams hold nothing, with the codes of their ends; check, Closed, CloseWrite and CloseRead. -/
import Derived.Test.YtmdhlodafjpnmaaGreatStr2
import Derived.Deep.RegionWith
namespace Go.Proofs.YtmdhlodafjpnmaaGreat
open Go.RowKit
open Go.Maps (Keyed)
set_option linter.unusedVariables false
set_option maxRecDepth 100000
set_option maxHeartbeats 4000000

def wrOf (a : Bool) : Int := if a then 13 else 0
def rdOf (a : Bool) : Int := if a then 14 else 0
/-- A connection in block d: its capacity, the codes of its streams' ends, which ends are closed; P: its blocks. -/
structure DupT (w : World) (P : Nat → Prop) (d c : Nat) (wr0 rd0 wr1 rd1 : Int) (a0 a1 : Bool) : Prop where
  hd : P d
  st : ∃ s0 s1, w.cell? ⟨d, 0, none⟩ = some (.pointer (some ⟨s0, 0, none⟩)) ∧ w.cell? ⟨d, 1, none⟩ = some (.pointer (some ⟨s1, 0, none⟩)) ∧
    StrS w (fun x => P x ∧ x ≠ d ∧ x ≠ s1) s0 c wr0 rd0 ∧ StrS w (fun x => P x ∧ x ≠ d ∧ x ≠ s0) s1 c wr1 rd1
  cl0 : w.cell? ⟨d, 2, none⟩ = some (.bool a0)
  cl1 : w.cell? ⟨d, 3, none⟩ = some (.bool a1)
  fz : ∀ o, w.frozen? ⟨d, o, none⟩ = false
abbrev DupS (w : World) (P : Nat → Prop) (d c : Nat) (a0 a1 : Bool) : Prop := DupT w P d c (wrOf a0) (rdOf a1) (wrOf a1) (rdOf a0) a0 a1
section
variable {w w' : World} {P Q : Nat → Prop} {d c : Nat} {wr0 rd0 wr1 rd1 : Int} {a0 a1 : Bool}
theorem DupT.keep {S : List Nat} (h : DupT w P d c wr0 rd0 wr1 rd1 a0 a1) (hf : Fr S w w') (hS : ∀ x ∈ S, ¬ P x) : DupT w' P d c wr0 rd0 wr1 rd1 a0 a1 := by
  obtain ⟨s0, s1, h1, h2, h3, h4⟩ := h.st
  have nd : d ∉ S := fun hm => hS d hm h.hd
  exact ⟨h.hd, ⟨s0, s1, hf.keep h1 nd, hf.keep h2 nd, h3.keep hf (fun x hx hp => hS x hx hp.1), h4.keep hf (fun x hx hp => hS x hx hp.1)⟩, hf.keep h.cl0 nd, hf.keep h.cl1 nd, fun o => by rw [hf.frozen (cell_lt h1) nd]; exact h.fz o⟩
theorem DupT.new (h : DupT w P d c wr0 rd0 wr1 rd1 a0 a1) (hf : Fr [] w w') : DupT w' P d c wr0 rd0 wr1 rd1 a0 a1 := h.keep hf (fun x hx => by cases hx)
theorem DupT.ext (h : DupT w P d c wr0 rd0 wr1 rd1 a0 a1) (hq : ∀ x, x < w.heap.size → P x → Q x) : DupT w Q d c wr0 rd0 wr1 rd1 a0 a1 := by
  obtain ⟨s0, s1, h1, h2, h3, h4⟩ := h.st
  exact ⟨hq _ (cell_lt h1) h.hd, ⟨s0, s1, h1, h2, h3.ext (fun x hx hp => ⟨hq x hx hp.1, hp.2⟩), h4.ext (fun x hx hp => ⟨hq x hx hp.1, hp.2⟩)⟩, h.cl0, h.cl1, h.fz⟩
theorem DupT.wide (h : DupT w P d c wr0 rd0 wr1 rd1 a0 a1) (hq : ∀ x, P x → Q x) : DupT w Q d c wr0 rd0 wr1 rd1 a0 a1 := h.ext (fun x _ hp => hq x hp)
end
theorem DupS.of0 {w : World} {lo d c : Nat} (h : Dup0 w lo d c) : DupS w (fun x => lo ≤ x) d c false false := by
  obtain ⟨⟨s0, s1, h1, h2, h3, h4, h5, h6⟩, h7, h8, h9⟩ := h
  have := h5.le
  have := h4.le
  exact ⟨h1, ⟨s0, s1, h2, h3, (StrS.of0 h4).wide (fun x hx => ⟨hx.1, by omega, by omega⟩), (StrS.of0 h5).wide (fun x hx => ⟨by omega, by omega, by omega⟩)⟩, h7, h8, h9⟩

theorem Fr.undrew {S : List Nat} {a b : World} {n : Nat} (h : Fr S (a.drewN n) b) : Fr S a b := ⟨h.os, h.tape, h.output, h.size, h.block⟩
theorem out_any (e : Int) (w : World) : Calls Tryz.prog 115 #[.int .i64 e] w fun r w' => r = .returned (.int .i64 e) ∧ ∃ n, w' = w.drewN n := by
  go_enter Tryz.func115, Tryz.ntmps115
  go_wp2
  go_ret
  exact ⟨rfl, 0, rfl⟩
theorem in_any (e : Int) (he : 0 ≤ e) (he' : e ≤ 1) (w : World) : Calls Tryz.prog 88 #[.int .i64 e] w fun r w' => r = .returned (.int .i64 (1 - e)) ∧ ∃ n, w' = w.drewN n := by
  go_enter Tryz.func88, Tryz.ntmps88
  go_wp2
  go_ret
  exact ⟨rfl, 0, rfl⟩

section
variable {P : Nat → Prop} {d c : Nat} {wr0 rd0 wr1 rd1 : Int} {a0 a1 : Bool} (w : World)

theorem dupCheck_any (e : Int) (he : e = 0 ∨ e = 1) (h : DupT w P d c wr0 rd0 wr1 rd1 a0 a1) :
    Calls Tryz.prog 86 #[.pointer (some ⟨d, 0, none⟩), .int .i64 e] w fun e w' => e = .returned (.int .i64 0) ∧ w = w' := by
  obtain ⟨s0, s1, h1, h2, _, _⟩ := h.st
  have hne : ∀ W : World, (binOp .eql 150 (.agg #[.pointer (some ⟨s0, 0, none⟩), .pointer (some ⟨s1, 0, none⟩)]) (.agg #[.pointer none, .pointer none])).run Tryz.prog W = .ok (.bool false) W := fun W => by kernel_rfl
  clear h
  rcases he with rfl | rfl
  · go_enter Tryz.func86, Tryz.ntmps86
    go_wp2
    go_ret
    exact ⟨rfl, rfl⟩
  · go_enter Tryz.func86, Tryz.ntmps86
    go_wp2
    go_ret
    exact ⟨rfl, rfl⟩
theorem dupClosed_0 (h : DupT w P d c wr0 rd0 wr1 rd1 a0 a1) :
    Calls Tryz.prog 73 #[.pointer (some ⟨d, 0, none⟩), .int .i64 0] w fun e w' => e = .returned (.bool a0) ∧ w = w' := by
  have HC := Lib.hid (dupCheck_any w 0 (.inl rfl) h)
  have c2 := h.cl0
  clear h
  go_enter Tryz.func73, Tryz.ntmps73
  go_wp2_with (go_at_call 86; refine HC.out.mono ?_; rintro e w' ⟨rfl, rfl⟩)
  go_ret
  exact ⟨rfl, rfl⟩
theorem dupClosed_1 (h : DupT w P d c wr0 rd0 wr1 rd1 a0 a1) :
    Calls Tryz.prog 73 #[.pointer (some ⟨d, 0, none⟩), .int .i64 1] w fun e w' => e = .returned (.bool a1) ∧ w = w' := by
  have HC := Lib.hid (dupCheck_any w 1 (.inr rfl) h)
  have c2 := h.cl1
  clear h
  go_enter Tryz.func73, Tryz.ntmps73
  go_wp2_with (go_at_call 86; refine HC.out.mono ?_; rintro e w' ⟨rfl, rfl⟩)
  go_ret
  exact ⟨rfl, rfl⟩

theorem dupCloseWrite_0 (h : DupT w P d c 0 rd0 wr1 rd1 a0 a1) :
    Calls Tryz.prog 141 #[.pointer (some ⟨d, 0, none⟩), .int .i64 0] w fun e w' => e = .returned (.int .i64 0) ∧ DupT w' P d c 13 rd0 wr1 rd1 a0 a1 ∧ ∃ S, Fr S w w' ∧ ∀ x ∈ S, P x ∧ x ≠ d := by
  have HC := Lib.hid (dupCheck_any w 0 (.inl rfl) h)
  obtain ⟨s0, s1, h1, h2, h3, h4⟩ := h.st
  have k2 := h.cl0
  have k3 := h.cl1
  have kf := h.fz
  have kd := h.hd
  have H3 := Lib.hid (fun n => streamCloseWrite_open (w.drewN n) (h3.new ((Fr.refl [] w).drewN n)))
  have HS3 := Lib.hid h3
  have HS4 := Lib.hid h4
  clear h h3 h4
  go_enter Tryz.func141, Tryz.ntmps141
  go_wp2_with (go_at_call 86; refine HC.out.mono ?_; rintro e w' ⟨rfl, rfl⟩)
  go_region_with (first
    | (go_at_call 115; refine (out_any 0 _).mono ?_; rintro e w' ⟨rfl, nn, rfl⟩)
    | (go_at_call 160; refine (H3.out _).mono ?_; rintro e w1 ⟨rfl, g3, f1⟩))
  all_goals go_wp2
  all_goals go_ret
  all_goals (
    have g := f1.undrew
    have hp : P s0 ∧ s0 ≠ d ∧ s0 ≠ s1 := HS3.out.hs
    have hd0 : d ∉ [s0] := by simpa using Ne.symm hp.2.1
    refine ⟨rfl, ⟨kd, ⟨s0, s1, g.keep h1 hd0, g.keep h2 hd0, g3, HS4.out.keep g (fun x hx hq => by simp at hx; exact hq.2.2 hx)⟩, g.keep k2 hd0, g.keep k3 hd0, fun o => by rw [g.frozen (cell_lt h1) hd0]; exact kf o⟩, [s0], g, fun x hx => by simp at hx; subst hx; exact ⟨hp.1, hp.2.1⟩⟩)

theorem dupCloseWrite_1 (h : DupT w P d c wr0 rd0 0 rd1 a0 a1) :
    Calls Tryz.prog 141 #[.pointer (some ⟨d, 0, none⟩), .int .i64 1] w fun e w' => e = .returned (.int .i64 0) ∧ DupT w' P d c wr0 rd0 13 rd1 a0 a1 ∧ ∃ S, Fr S w w' ∧ ∀ x ∈ S, P x ∧ x ≠ d := by
  have HC := Lib.hid (dupCheck_any w 1 (.inr rfl) h)
  obtain ⟨s0, s1, h1, h2, h3, h4⟩ := h.st
  have k2 := h.cl0
  have k3 := h.cl1
  have kf := h.fz
  have kd := h.hd
  have H3 := Lib.hid (fun n => streamCloseWrite_open (w.drewN n) (h4.new ((Fr.refl [] w).drewN n)))
  have HS3 := Lib.hid h3
  have HS4 := Lib.hid h4
  clear h h3 h4
  go_enter Tryz.func141, Tryz.ntmps141
  go_wp2_with (go_at_call 86; refine HC.out.mono ?_; rintro e w' ⟨rfl, rfl⟩)
  go_region_with (first
    | (go_at_call 115; refine (out_any 1 _).mono ?_; rintro e w' ⟨rfl, nn, rfl⟩)
    | (go_at_call 160; refine (H3.out _).mono ?_; rintro e w1 ⟨rfl, g3, f1⟩))
  all_goals go_wp2
  all_goals go_ret
  all_goals (
    have g := f1.undrew
    have hp : P s1 ∧ s1 ≠ d ∧ s1 ≠ s0 := HS4.out.hs
    have hd0 : d ∉ [s1] := by simpa using Ne.symm hp.2.1
    refine ⟨rfl, ⟨kd, ⟨s0, s1, g.keep h1 hd0, g.keep h2 hd0, HS3.out.keep g (fun x hx hq => by simp at hx; exact hq.2.2 hx), g3⟩, g.keep k2 hd0, g.keep k3 hd0, fun o => by rw [g.frozen (cell_lt h1) hd0]; exact kf o⟩, [s1], g, fun x hx => by simp at hx; subst hx; exact ⟨hp.1, hp.2.1⟩⟩)

theorem dupCloseRead_0 (h : DupT w P d c wr0 rd0 wr1 0 a0 a1) :
    Calls Tryz.prog 142 #[.pointer (some ⟨d, 0, none⟩), .int .i64 0] w fun e w' => e = .returned (.int .i64 0) ∧ DupT w' (fun x => P x ∨ w.heap.size ≤ x) d c wr0 rd0 wr1 14 a0 a1 ∧ ∃ S, Fr S w w' ∧ ∀ x ∈ S, P x ∧ x ≠ d := by
  have HC := Lib.hid (dupCheck_any w 0 (.inl rfl) h)
  obtain ⟨s0, s1, h1, h2, h3, h4⟩ := h.st
  have k2 := h.cl0
  have k3 := h.cl1
  have kf := h.fz
  have kd := h.hd
  have H3 := Lib.hid (fun n => streamCloseRead_open (w.drewN n) (h4.new ((Fr.refl [] w).drewN n)))
  have HS3 := Lib.hid h3
  have HS4 := Lib.hid h4
  clear h h3 h4
  go_enter Tryz.func142, Tryz.ntmps142
  go_wp2_with (go_at_call 86; refine HC.out.mono ?_; rintro e w' ⟨rfl, rfl⟩)
  go_region_with (first
    | (go_at_call 88; refine (in_any 0 (by omega) (by omega) _).mono ?_; rintro e w' ⟨rfl, nn, rfl⟩)
    | (go_at_call 161; refine (H3.out _).mono ?_; rintro e w1 ⟨rfl, g3, f1⟩))
  all_goals go_wp2
  all_goals go_ret
  all_goals (
    have g := f1.undrew
    have hp : P s1 ∧ s1 ≠ d ∧ s1 ≠ s0 := HS4.out.hs
    have hd0 : d ∉ [s1] := by simpa using Ne.symm hp.2.1
    refine ⟨rfl, ⟨.inl kd, ⟨s0, s1, g.keep h1 hd0, g.keep h2 hd0, (HS3.out.keep g (fun x hx hq => by simp at hx; exact hq.2.2 hx)).wide (fun x hx => ⟨.inl hx.1, hx.2⟩), g3.wide (fun x hx => by
      rcases hx with hx | hx
      · exact ⟨.inl hx.1, hx.2⟩
      · exact ⟨.inr (by simpa using hx), (fun he => by have := cell_lt h1; simp at hx; omega), (fun he => by have := cell_lt HS3.out.busy; simp at hx; omega)⟩)⟩, g.keep k2 hd0, g.keep k3 hd0, fun o => by rw [g.frozen (cell_lt h1) hd0]; exact kf o⟩, [s1], g, fun x hx => by simp at hx; subst hx; exact ⟨hp.1, hp.2.1⟩⟩)

theorem dupCloseRead_1 (h : DupT w P d c wr0 0 wr1 rd1 a0 a1) :
    Calls Tryz.prog 142 #[.pointer (some ⟨d, 0, none⟩), .int .i64 1] w fun e w' => e = .returned (.int .i64 0) ∧ DupT w' (fun x => P x ∨ w.heap.size ≤ x) d c wr0 14 wr1 rd1 a0 a1 ∧ ∃ S, Fr S w w' ∧ ∀ x ∈ S, P x ∧ x ≠ d := by
  have HC := Lib.hid (dupCheck_any w 1 (.inr rfl) h)
  obtain ⟨s0, s1, h1, h2, h3, h4⟩ := h.st
  have k2 := h.cl0
  have k3 := h.cl1
  have kf := h.fz
  have kd := h.hd
  have H3 := Lib.hid (fun n => streamCloseRead_open (w.drewN n) (h3.new ((Fr.refl [] w).drewN n)))
  have HS3 := Lib.hid h3
  have HS4 := Lib.hid h4
  clear h h3 h4
  go_enter Tryz.func142, Tryz.ntmps142
  go_wp2_with (go_at_call 86; refine HC.out.mono ?_; rintro e w' ⟨rfl, rfl⟩)
  go_region_with (first
    | (go_at_call 88; refine (in_any 1 (by omega) (by omega) _).mono ?_; rintro e w' ⟨rfl, nn, rfl⟩)
    | (go_at_call 161; refine (H3.out _).mono ?_; rintro e w1 ⟨rfl, g3, f1⟩))
  all_goals go_wp2
  all_goals go_ret
  all_goals (
    have g := f1.undrew
    have hp : P s0 ∧ s0 ≠ d ∧ s0 ≠ s1 := HS3.out.hs
    have hd0 : d ∉ [s0] := by simpa using Ne.symm hp.2.1
    refine ⟨rfl, ⟨.inl kd, ⟨s0, s1, g.keep h1 hd0, g.keep h2 hd0, g3.wide (fun x hx => by
      rcases hx with hx | hx
      · exact ⟨.inl hx.1, hx.2⟩
      · exact ⟨.inr (by simpa using hx), (fun he => by have := cell_lt h1; simp at hx; omega), (fun he => by have := cell_lt HS4.out.busy; simp at hx; omega)⟩), (HS4.out.keep g (fun x hx hq => by simp at hx; exact hq.2.2 hx)).wide (fun x hx => ⟨.inl hx.1, hx.2⟩)⟩, g.keep k2 hd0, g.keep k3 hd0, fun o => by rw [g.frozen (cell_lt h1) hd0]; exact kf o⟩, [s0], g, fun x hx => by simp at hx; subst hx; exact ⟨hp.1, hp.2.1⟩⟩)

end
end Go.Proofs.YtmdhlodafjpnmaaGreat
