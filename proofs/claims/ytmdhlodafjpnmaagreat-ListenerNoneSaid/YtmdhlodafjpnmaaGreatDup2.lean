/- Contract of duplex's Close over a connection whose streams hold nothing. -/
import Derived.Test.YtmdhlodafjpnmaaGreatDupS
namespace Go.Proofs.YtmdhlodafjpnmaaGreat
open Go.RowKit
open Go.Maps (Keyed)
set_option linter.unusedVariables false
set_option maxRecDepth 100000
set_option maxHeartbeats 4000000

theorem setOneD {a : Nat} {o o1 : Nat} {v v1 : Value} {w : World} (h : w.cell? ⟨a, o, none⟩ = some v) (h1 : o1 ≠ o := by decide) : (w.setCell ⟨a, o1, none⟩ v1).cell? ⟨a, o, none⟩ = some v :=
  (World.cell?_setCell_other _ _ _ _ (fun e => h1 (by injection e))).trans h

section
variable {P : Nat → Prop} {d c : Nat} {a0 a1 : Bool} (w : World)

theorem dupClose_0 (h : DupS w P d c false a1) :
    Calls Tryz.prog 103 #[.pointer (some ⟨d, 0, none⟩), .int .i64 0] w fun e w' => e = .returned (.int .i64 0) ∧ DupS w' (fun x => P x ∨ w.heap.size ≤ x) d c true a1 ∧ ∃ S, Fr S w w' ∧ ∀ x ∈ S, P x := by
  have HC := Lib.hid (dupCheck_any w 0 (.inl rfl) h)
  have c2 := h.cl0
  have z2 := h.fz 2
  obtain ⟨s0, s1, h1, h2, h3, h4⟩ := h.st
  have hd := h.hd
  have fs : Fr [d] w (w.setCell ⟨d, 2, none⟩ (.bool true)) := (Fr.refl _ _).setCell (fun _ => by simp) _
  have hT : DupT (w.setCell ⟨d, 2, none⟩ (.bool true)) P d c 0 (rdOf a1) (wrOf a1) 0 true a1 :=
    ⟨h.hd, ⟨s0, s1, setOneD h1, setOneD h2, h3.keep fs (fun x hx hp => by simp at hx; exact hp.2.1 hx), h4.keep fs (fun x hx hp => by simp at hx; exact hp.2.1 hx)⟩, World.cell?_setCell_same _ _ _ c2, setOneD h.cl1, fun o => by simp [h.fz o]⟩
  have HT := Lib.hid hT
  have ix0 : ∀ W : World, (Instr.index 221 (.agg #[.func (.func 141) #[.pointer (some ⟨d, 0, none⟩)] #[], .func (.func 142) #[.pointer (some ⟨d, 0, none⟩)] #[]]) (.int .i64 0)).run Tryz.prog W = .ok (.func (.func 141) #[.pointer (some ⟨d, 0, none⟩)] #[]) W := fun W => by kernel_rfl
  have ix1 : ∀ W : World, (Instr.index 221 (.agg #[.func (.func 141) #[.pointer (some ⟨d, 0, none⟩)] #[], .func (.func 142) #[.pointer (some ⟨d, 0, none⟩)] #[]]) (.int .i64 1)).run Tryz.prog W = .ok (.func (.func 142) #[.pointer (some ⟨d, 0, none⟩)] #[]) W := fun W => by kernel_rfl
  have hsz : (w.setCell ⟨d, 2, none⟩ (.bool true)).heap.size = w.heap.size := by simp
  clear h hT h3 h4
  go_enter Tryz.func103, Tryz.ntmps103
  go_wp2_with (go_at_call 86; refine HC.out.mono ?_; rintro e w' ⟨rfl, rfl⟩)
  obtain ⟨w0, hw0⟩ : ∃ w0, w.setCell ⟨d, 2, none⟩ (.bool true) = w0 := ⟨_, rfl⟩
  rw [hw0] at fs HT hsz ⊢
  clear hw0
  go_loopw [32] (fun i wr => ∃ k : Int, i = .int .i64 k ∧ (k = 0 ∧ wr = w0 ∨ k = 1 ∧ DupT wr P d c 13 (rdOf a1) (wrOf a1) 0 true a1 ∧ (∃ S, Fr S w0 wr ∧ ∀ x ∈ S, P x) ∨ k = 2 ∧ DupT wr (fun x => P x ∨ w.heap.size ≤ x) d c 13 (rdOf a1) (wrOf a1) 14 true a1 ∧ (∃ S, Fr S w0 wr ∧ ∀ x ∈ S, P x))) (fun i _ => 2 - (intOf i).toNat)
  case atStart => exact ⟨0, rfl, .inl ⟨rfl, rfl⟩⟩
  case round =>
    obtain ⟨k, rfl, ⟨rfl, rfl⟩ | ⟨rfl, t1, S1, f1, p1⟩ | ⟨rfl, t2, S2, f2, p2⟩⟩ := hrel
    · have HW := Lib.hid (dupCloseWrite_0 wr HT.out)
      go_wp2_with (go_at_call 141; refine HW.out.mono ?_; rintro e w1 ⟨rfl, t1, S, f1, p1⟩)
      go_roundw
      case rel => exact ⟨1, rfl, .inr (.inl ⟨rfl, t1, S, f1, fun x hx => (p1 x hx).1⟩)⟩
      case measure => simp [intOf]
    · have HR := Lib.hid (dupCloseRead_0 wr t1)
      have hsz1 := f1.size
      clear t1
      go_wp2_with (go_at_call 142; refine HR.out.mono ?_; rintro e w1 ⟨rfl, t2, S, f2, p2⟩)
      go_roundw
      case rel => exact ⟨2, rfl, .inr (.inr ⟨rfl, t2.wide (fun x hx => hx.imp id (fun h => by omega)), S1 ++ S, (f1.mono (fun x hx _ => List.mem_append_left _ hx)).trans f2 (fun x hx _ => List.mem_append_right _ hx), fun x hx => (List.mem_append.1 hx).elim (p1 x) (fun h => (p2 x h).1)⟩)⟩
      case measure => simp [intOf]
    · have H2 := Lib.hid t2
      clear t2
      go_wp2
      go_ret
      exact ⟨rfl, H2.out, d :: S2, (fs.mono (fun x hx _ => by simp at hx; simp [hx])).trans f2 (fun x hx _ => List.mem_cons_of_mem _ hx), fun x hx => by
        rcases List.mem_cons.1 hx with rfl | hx
        · exact hd
        · exact p2 x hx⟩

theorem dupClose_shut0 (h : DupS w P d c true a1) :
    Calls Tryz.prog 103 #[.pointer (some ⟨d, 0, none⟩), .int .i64 0] w fun e w' => e = .returned (.int .i64 14) ∧ w = w' := by
  have HC := Lib.hid (dupCheck_any w 0 (.inl rfl) h)
  have c2 := h.cl0
  clear h
  go_enter Tryz.func103, Tryz.ntmps103
  go_wp2_with (go_at_call 86; refine HC.out.mono ?_; rintro e w' ⟨rfl, rfl⟩)
  go_ret
  exact ⟨rfl, rfl⟩
theorem dupClose_1 (h : DupS w P d c a0 false) :
    Calls Tryz.prog 103 #[.pointer (some ⟨d, 0, none⟩), .int .i64 1] w fun e w' => e = .returned (.int .i64 0) ∧ DupS w' (fun x => P x ∨ w.heap.size ≤ x) d c a0 true ∧ ∃ S, Fr S w w' ∧ ∀ x ∈ S, P x := by
  have HC := Lib.hid (dupCheck_any w 1 (.inr rfl) h)
  have c2 := h.cl1
  have z2 := h.fz 3
  obtain ⟨s0, s1, h1, h2, h3, h4⟩ := h.st
  have hd := h.hd
  have fs : Fr [d] w (w.setCell ⟨d, 3, none⟩ (.bool true)) := (Fr.refl _ _).setCell (fun _ => by simp) _
  have hT : DupT (w.setCell ⟨d, 3, none⟩ (.bool true)) P d c (wrOf a0) 0 0 (rdOf a0) a0 true :=
    ⟨h.hd, ⟨s0, s1, setOneD h1, setOneD h2, h3.keep fs (fun x hx hp => by simp at hx; exact hp.2.1 hx), h4.keep fs (fun x hx hp => by simp at hx; exact hp.2.1 hx)⟩, setOneD h.cl0, World.cell?_setCell_same _ _ _ c2, fun o => by simp [h.fz o]⟩
  have HT := Lib.hid hT
  have ix0 : ∀ W : World, (Instr.index 221 (.agg #[.func (.func 141) #[.pointer (some ⟨d, 0, none⟩)] #[], .func (.func 142) #[.pointer (some ⟨d, 0, none⟩)] #[]]) (.int .i64 0)).run Tryz.prog W = .ok (.func (.func 141) #[.pointer (some ⟨d, 0, none⟩)] #[]) W := fun W => by kernel_rfl
  have ix1 : ∀ W : World, (Instr.index 221 (.agg #[.func (.func 141) #[.pointer (some ⟨d, 0, none⟩)] #[], .func (.func 142) #[.pointer (some ⟨d, 0, none⟩)] #[]]) (.int .i64 1)).run Tryz.prog W = .ok (.func (.func 142) #[.pointer (some ⟨d, 0, none⟩)] #[]) W := fun W => by kernel_rfl
  have hsz : (w.setCell ⟨d, 3, none⟩ (.bool true)).heap.size = w.heap.size := by simp
  clear h hT h3 h4
  go_enter Tryz.func103, Tryz.ntmps103
  go_wp2_with (go_at_call 86; refine HC.out.mono ?_; rintro e w' ⟨rfl, rfl⟩)
  obtain ⟨w0, hw0⟩ : ∃ w0, w.setCell ⟨d, 3, none⟩ (.bool true) = w0 := ⟨_, rfl⟩
  rw [hw0] at fs HT hsz ⊢
  clear hw0
  go_loopw [32] (fun i wr => ∃ k : Int, i = .int .i64 k ∧ (k = 0 ∧ wr = w0 ∨ k = 1 ∧ DupT wr P d c (wrOf a0) 0 13 (rdOf a0) a0 true ∧ (∃ S, Fr S w0 wr ∧ ∀ x ∈ S, P x) ∨ k = 2 ∧ DupT wr (fun x => P x ∨ w.heap.size ≤ x) d c (wrOf a0) 14 13 (rdOf a0) a0 true ∧ (∃ S, Fr S w0 wr ∧ ∀ x ∈ S, P x))) (fun i _ => 2 - (intOf i).toNat)
  case atStart => exact ⟨0, rfl, .inl ⟨rfl, rfl⟩⟩
  case round =>
    obtain ⟨k, rfl, ⟨rfl, rfl⟩ | ⟨rfl, t1, S1, f1, p1⟩ | ⟨rfl, t2, S2, f2, p2⟩⟩ := hrel
    · have HW := Lib.hid (dupCloseWrite_1 wr HT.out)
      go_wp2_with (go_at_call 141; refine HW.out.mono ?_; rintro e w1 ⟨rfl, t1, S, f1, p1⟩)
      go_roundw
      case rel => exact ⟨1, rfl, .inr (.inl ⟨rfl, t1, S, f1, fun x hx => (p1 x hx).1⟩)⟩
      case measure => simp [intOf]
    · have HR := Lib.hid (dupCloseRead_1 wr t1)
      have hsz1 := f1.size
      clear t1
      go_wp2_with (go_at_call 142; refine HR.out.mono ?_; rintro e w1 ⟨rfl, t2, S, f2, p2⟩)
      go_roundw
      case rel => exact ⟨2, rfl, .inr (.inr ⟨rfl, t2.wide (fun x hx => hx.imp id (fun h => by omega)), S1 ++ S, (f1.mono (fun x hx _ => List.mem_append_left _ hx)).trans f2 (fun x hx _ => List.mem_append_right _ hx), fun x hx => (List.mem_append.1 hx).elim (p1 x) (fun h => (p2 x h).1)⟩)⟩
      case measure => simp [intOf]
    · have H2 := Lib.hid t2
      clear t2
      go_wp2
      go_ret
      exact ⟨rfl, H2.out, d :: S2, (fs.mono (fun x hx _ => by simp at hx; simp [hx])).trans f2 (fun x hx _ => List.mem_cons_of_mem _ hx), fun x hx => by
        rcases List.mem_cons.1 hx with rfl | hx
        · exact hd
        · exact p2 x hx⟩

theorem dupClose_shut1 (h : DupS w P d c a0 true) :
    Calls Tryz.prog 103 #[.pointer (some ⟨d, 0, none⟩), .int .i64 1] w fun e w' => e = .returned (.int .i64 14) ∧ w = w' := by
  have HC := Lib.hid (dupCheck_any w 1 (.inr rfl) h)
  have c2 := h.cl1
  clear h
  go_enter Tryz.func103, Tryz.ntmps103
  go_wp2_with (go_at_call 86; refine HC.out.mono ?_; rintro e w' ⟨rfl, rfl⟩)
  go_ret
  exact ⟨rfl, rfl⟩
end
end Go.Proofs.YtmdhlodafjpnmaaGreat
