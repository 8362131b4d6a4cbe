/- Contracts of stream's shut at the reading end, CloseWrite and CloseRead, over a stream that holds nothing. -/
import Derived.Test.YtmdhlodafjpnmaaGreatStr
namespace Go.Proofs.YtmdhlodafjpnmaaGreat
open Go.RowKit
open Go.Maps (Keyed)
set_option linter.unusedVariables false
set_option maxRecDepth 100000
set_option maxHeartbeats 4000000

theorem shut_read {P : Nat → Prop} {s c : Nat} {wr : Int} (w : World) (h : StrS w P s c wr 0) :
    Calls Tryz.prog 169 #[.pointer (some ⟨s, 0, none⟩), .int .i64 1, .int .i64 14] w fun e w' => e = .returned (.int .i64 0) ∧ StrS w' (fun x => P x ∨ w.heap.size ≤ x) s c wr 14 ∧ Fr [s] w w' := by
  have hmm := @run_makeMap Tryz.prog
  have c6 := h.cl1
  have z6 := h.fz 6
  have HN := Lib.hid (streamNone_any w h)
  have zs := cell_lt c6
  have fs : Fr [s] w (w.setCell ⟨s, 6, none⟩ (.int .i64 14)) := (Fr.refl _ _).setCell (fun _ => by simp) _
  have hsz : (w.setCell ⟨s, 6, none⟩ (.int .i64 14)).heap.size = w.heap.size := by simp
  obtain ⟨w2, hrun, hm2, f2⟩ := (MapIs.made Tryz.prog 211 (w.setCell ⟨s, 6, none⟩ (.int .i64 14))).put keyEnd (t := 268) (e := 1) Tryz.underlying268 (x := .int .i64 1) (keyEnd_of 1 (by omega) (by omega)) (by simp) (.func (.func 182) #[.pointer (some ⟨s, 0, none⟩)] #[])
  have hlk := hm2.hit keyEnd (t := 268) (e := 1) Tryz.underlying268 (x := .int .i64 1) (v := .func (.func 182) #[.pointer (some ⟨s, 0, none⟩)] #[]) (by simp) false
  simp only [Bool.false_eq_true, if_false] at hlk
  rw [hsz] at hrun hlk f2
  have fm : Fr [] (w.setCell ⟨s, 6, none⟩ (.int .i64 14)) w2 := Fr.trans (S := []) (T := [w.heap.size]) ((Fr.refl [] _).alloc _) f2 (fun x hx hlt => by simp at hx hlt; omega)
  have hnf : ∀ W : World, (binOp .neq 1 (.func (.func 182) #[.pointer (some ⟨s, 0, none⟩)] #[]) .nilFunc).run Tryz.prog W = .ok (.bool true) W := fun W => by kernel_rfl
  have o0 : ∀ (b o : Nat) (v : Value), w.cell? ⟨b, o, none⟩ = some v → (b ≠ s ∨ o ≠ 6) → w2.cell? ⟨b, o, none⟩ = some v := fun b o v hv hne => fm.keep (by rw [World.cell?_setCell_other _ _ _ _ (by simp; omega)]; exact hv) (by simp)
  have h2 : StrS w2 P s c wr 14 := by
    refine ⟨h.hs, ?_, o0 _ _ _ h.busy (.inr (by decide)), o0 _ _ _ h.rest0 (.inr (by decide)), o0 _ _ _ h.rest1 (.inr (by decide)), o0 _ _ _ h.acc (.inr (by decide)), o0 _ _ _ h.cl0 (.inr (by decide)), fm.keep (World.cell?_setCell_same _ _ _ c6) (by simp), fun o => by rw [fm.frozen (by simpa using zs) (by simp)]; simp [h.fz o]⟩
    rcases h.store with ⟨h0, h1⟩ | ⟨r, b, l1, l2, h1, h2, h3, h4, h5, h6, h7, h8, h9⟩
    · exact .inl ⟨h0, o0 _ _ _ h1 (.inr (by decide))⟩
    · exact .inr ⟨r, b, l1, ⟨l2.1, Nat.lt_of_lt_of_le l2.2 (fs.step fm).size⟩, h1, h2, h3, h4, h5, o0 _ _ _ h6 (.inr (by decide)), o0 _ _ _ h7 (.inl h3), o0 _ _ _ h8 (.inl h3), o0 _ _ _ h9 (.inl h3)⟩
  have HD := Lib.hid (drop_any w2 h2)
  have f3 : Fr [s] w w2 := fs.step fm
  clear h hm2 h2 o0
  go_enter Tryz.func169, Tryz.ntmps169
  go_wp2_with (first
    | (go_at_call 130; refine HN.out.mono ?_; rintro e w' ⟨rfl, rfl⟩)
    | (go_at_call 182; refine HD.out.mono ?_; rintro e w3 ⟨rfl, h3, f4⟩))
  go_ret
  exact ⟨rfl, h3.wide (fun x hx => hx.imp id (fun h => Nat.le_trans f3.size h)), f3.trans f4 (fun x hx _ => hx)⟩

theorem streamCloseWrite_open {P : Nat → Prop} {s c : Nat} {rd : Int} (w : World) (h : StrS w P s c 0 rd) :
    Calls Tryz.prog 160 #[.pointer (some ⟨s, 0, none⟩), .int .i64 13] w fun e w' => e = .returned (.int .i64 0) ∧ StrS w' P s c 13 rd ∧ Fr [s] w w' := by
  have H := Lib.hid (shut_write w h)
  clear h
  go_enter Tryz.func160, Tryz.ntmps160
  go_wp2_with (go_at_call 169; refine H.out.mono ?_; rintro e w1 ⟨rfl, h1, f1⟩)
  go_ret
  exact ⟨rfl, h1, f1⟩
theorem streamCloseRead_open {P : Nat → Prop} {s c : Nat} {wr : Int} (w : World) (h : StrS w P s c wr 0) :
    Calls Tryz.prog 161 #[.pointer (some ⟨s, 0, none⟩), .int .i64 14] w fun e w' => e = .returned (.int .i64 0) ∧ StrS w' (fun x => P x ∨ w.heap.size ≤ x) s c wr 14 ∧ Fr [s] w w' := by
  have H := Lib.hid (shut_read w h)
  clear h
  go_enter Tryz.func161, Tryz.ntmps161
  go_wp2_with (go_at_call 169; refine H.out.mono ?_; rintro e w1 ⟨rfl, h1, f1⟩)
  go_ret
  exact ⟨rfl, h1, f1⟩
end Go.Proofs.YtmdhlodafjpnmaaGreat
