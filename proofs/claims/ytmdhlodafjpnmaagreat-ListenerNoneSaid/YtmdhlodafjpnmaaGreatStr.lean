/- Streams that hold nothing, with the codes of their ends: what closing an end makes of them. -/
import Derived.Test.YtmdhlodafjpnmaaGreatDup
namespace Go.Proofs.YtmdhlodafjpnmaaGreat
open Go.RowKit
open Go.Maps (Keyed)
set_option linter.unusedVariables false
set_option maxRecDepth 100000
set_option maxHeartbeats 4000000

/-- A stream in block s that holds nothing, its capacity and the codes of its ends; P: its blocks. -/
structure StrS (w : World) (P : Nat → Prop) (s c : Nat) (wr rd : Int) : Prop where
  hs : P s
  store : (c = 0 ∧ w.cell? ⟨s, 0, none⟩ = some (.iface 246 (.agg #[]))) ∨
    ∃ r b, P r ∧ (P b ∧ b < w.heap.size) ∧ 1 ≤ c ∧ c ≤ 4096 ∧ r ≠ s ∧ b ≠ s ∧ b ≠ r ∧ w.cell? ⟨s, 0, none⟩ = some (.iface 251 (.agg #[.pointer (some ⟨r, 0, none⟩)])) ∧
      w.cell? ⟨r, 0, none⟩ = some (.slice (some ⟨b, 0, none⟩) c c) ∧ w.cell? ⟨r, 1, none⟩ = some (.int .i64 0) ∧ w.cell? ⟨r, 2, none⟩ = some (.int .i64 0)
  busy : w.cell? ⟨s, 1, none⟩ = some (.bool false)
  rest0 : w.cell? ⟨s, 2, none⟩ = some (.slice none 0 0)
  rest1 : w.cell? ⟨s, 3, none⟩ = some (.int .i64 0)
  acc : w.cell? ⟨s, 4, none⟩ = some (.int .i64 0)
  cl0 : w.cell? ⟨s, 5, none⟩ = some (.int .i64 wr)
  cl1 : w.cell? ⟨s, 6, none⟩ = some (.int .i64 rd)
  fz : ∀ o, w.frozen? ⟨s, o, none⟩ = false
theorem StrS.keep {S : List Nat} {w w' : World} {P : Nat → Prop} {s c : Nat} {wr rd : Int} (h : StrS w P s c wr rd) (hf : Fr S w w') (hS : ∀ x ∈ S, ¬ P x) : StrS w' P s c wr rd :=
  have n : ∀ x, P x → x ∉ S := fun x hx hm => hS x hm hx
  have ns := n s h.hs
  ⟨h.hs, by
    rcases h.store with ⟨h0, h1⟩ | ⟨r, b, l1, l2, h1, h2, h3, h4, h5, h6, h7, h8, h9⟩
    · exact .inl ⟨h0, hf.keep h1 ns⟩
    · exact .inr ⟨r, b, l1, ⟨l2.1, Nat.lt_of_lt_of_le l2.2 hf.size⟩, h1, h2, h3, h4, h5, hf.keep h6 ns, hf.keep h7 (n r l1), hf.keep h8 (n r l1), hf.keep h9 (n r l1)⟩,
   hf.keep h.busy ns, hf.keep h.rest0 ns, hf.keep h.rest1 ns, hf.keep h.acc ns, hf.keep h.cl0 ns, hf.keep h.cl1 ns, fun o => by rw [hf.frozen (cell_lt h.busy) ns]; exact h.fz o⟩
theorem StrS.new {w w' : World} {P : Nat → Prop} {s c : Nat} {wr rd : Int} (h : StrS w P s c wr rd) (hf : Fr [] w w') : StrS w' P s c wr rd := h.keep hf (by simp)
/-- .. where the blocks that were there are the same ones. -/
theorem StrS.ext {w : World} {P Q : Nat → Prop} {s c : Nat} {wr rd : Int} (h : StrS w P s c wr rd) (hq : ∀ x, x < w.heap.size → P x → Q x) : StrS w Q s c wr rd :=
  ⟨hq _ (cell_lt h.busy) h.hs, by
    rcases h.store with h0 | ⟨r, b, l1, l2, h1, h2, h3, h4, h5, h6, h7, h8⟩
    · exact .inl h0
    · exact .inr ⟨r, b, hq _ (cell_lt h7) l1, ⟨hq _ l2.2 l2.1, l2.2⟩, h1, h2, h3, h4, h5, h6, h7, h8⟩, h.busy, h.rest0, h.rest1, h.acc, h.cl0, h.cl1, h.fz⟩
theorem StrS.wide {w : World} {P Q : Nat → Prop} {s c : Nat} {wr rd : Int} (h : StrS w P s c wr rd) (hq : ∀ x, P x → Q x) : StrS w Q s c wr rd :=
  ⟨hq _ h.hs, by
    rcases h.store with h0 | ⟨r, b, l1, l2, h1⟩
    · exact .inl h0
    · exact .inr ⟨r, b, hq _ l1, ⟨hq _ l2.1, l2.2⟩, h1⟩, h.busy, h.rest0, h.rest1, h.acc, h.cl0, h.cl1, h.fz⟩
theorem StrS.of0 {w : World} {lo s c : Nat} (h : Str0 w lo s c) : StrS w (fun x => lo ≤ x ∧ x ≤ s) s c 0 0 :=
  ⟨⟨h.le, Nat.le_refl _⟩, by
    rcases h.store with h0 | ⟨r, b, l1, l2, h1, h2, h3, h4, h5, h6⟩
    · exact .inl h0
    · exact .inr ⟨r, b, ⟨l1, Nat.le_of_lt h3⟩, ⟨⟨l2, Nat.le_of_lt h4⟩, Nat.lt_trans h4 (cell_lt h.busy)⟩, h1, h2, Nat.ne_of_lt h3, Nat.ne_of_lt h4, h5, h6⟩, h.busy, h.rest0, h.rest1, h.acc, h.cl0, h.cl1, h.fz⟩

theorem streamNone_any {P : Nat → Prop} {s c : Nat} {wr rd : Int} (w : World) (h : StrS w P s c wr rd) :
    Calls Tryz.prog 130 #[.pointer (some ⟨s, 0, none⟩)] w fun e w' => e = .returned (.bool false) ∧ w = w' := by
  rcases h.store with ⟨_, h1⟩ | ⟨r, b, _, _, _, _, _, _, _, h1, _⟩
  · go_enter Tryz.func130, Tryz.ntmps130
    go_wp2
    go_ret
    exact ⟨rfl, rfl⟩
  · go_enter Tryz.func130, Tryz.ntmps130
    go_wp2
    go_ret
    exact ⟨rfl, rfl⟩

theorem keyEnd : Keyed Tryz.prog 211 := Maps.int_keyed Tryz.underlying211
theorem keyEnd_of (x : Int) (h0 : 0 ≤ x) (h1 : x ≤ 9) : keyOf Tryz.prog 211 (.int .i64 x) = some (.int .i64 x) :=
  Maps.keyOf_int_mk Tryz.underlying211 (by simp [Lit.wf, IntKind.min, IntKind.max, IntKind.signed, IntKind.bits]; omega)
theorem zeroFn (w : World) : (zeroValue 1).run Tryz.prog w = .ok .nilFunc w := by kernel_rfl

theorem shut_write {P : Nat → Prop} {s c : Nat} {rd : Int} (w : World) (h : StrS w P s c 0 rd) :
    Calls Tryz.prog 169 #[.pointer (some ⟨s, 0, none⟩), .int .i64 0, .int .i64 13] w fun e w' => e = .returned (.int .i64 0) ∧ StrS w' P s c 13 rd ∧ Fr [s] w w' := by
  have hmm := @run_makeMap Tryz.prog
  have c5 := h.cl0
  have z5 := h.fz 5
  have HN := Lib.hid (streamNone_any w h)
  have zs := cell_lt c5
  have fs : Fr [s] w (w.setCell ⟨s, 5, none⟩ (.int .i64 13)) := (Fr.refl _ _).setCell (fun _ => by simp) _
  have hsz : (w.setCell ⟨s, 5, none⟩ (.int .i64 13)).heap.size = w.heap.size := by simp
  obtain ⟨w2, hrun, hm2, f2⟩ := (MapIs.made Tryz.prog 211 (w.setCell ⟨s, 5, none⟩ (.int .i64 13))).put keyEnd (t := 268) (e := 1) Tryz.underlying268 (x := .int .i64 1) (keyEnd_of 1 (by omega) (by omega)) (by simp) (.func (.func 182) #[.pointer (some ⟨s, 0, none⟩)] #[])
  have hlk := hm2.miss keyEnd (t := 268) (e := 1) Tryz.underlying268 (x := .int .i64 0) (keyEnd_of 0 (by omega) (by omega)) (by simp) (zeroFn w2) false
  simp only [Bool.false_eq_true, if_false] at hlk
  rw [hsz] at hrun hlk f2
  have fm : Fr [] (w.setCell ⟨s, 5, none⟩ (.int .i64 13)) w2 := Fr.trans (S := []) (T := [w.heap.size]) ((Fr.refl [] _).alloc _) f2 (fun x hx hlt => by simp at hx hlt; omega)
  have HB := Lib.hid h
  have hnf : ∀ W : World, (binOp .neq 1 .nilFunc .nilFunc).run Tryz.prog W = .ok (.bool false) W := fun W => by kernel_rfl
  clear h hm2
  go_enter Tryz.func169, Tryz.ntmps169
  go_wp2_with (go_at_call 130; refine HN.out.mono ?_; rintro e w' ⟨rfl, rfl⟩)
  go_ret
  have h := HB.out
  have o0 : ∀ (b o : Nat) (v : Value), w.cell? ⟨b, o, none⟩ = some v → (b ≠ s ∨ o ≠ 5) → w2.cell? ⟨b, o, none⟩ = some v := fun b o v hv hne => fm.keep (by rw [World.cell?_setCell_other _ _ _ _ (by simp; omega)]; exact hv) (by simp)
  refine ⟨rfl, ⟨h.hs, ?_, o0 _ _ _ h.busy (.inr (by decide)), o0 _ _ _ h.rest0 (.inr (by decide)), o0 _ _ _ h.rest1 (.inr (by decide)), o0 _ _ _ h.acc (.inr (by decide)), fm.keep (World.cell?_setCell_same _ _ _ c5) (by simp), o0 _ _ _ h.cl1 (.inr (by decide)), fun o => by rw [fm.frozen (by simpa using zs) (by simp)]; simp [h.fz o]⟩, fs.step fm⟩
  rcases h.store with ⟨h0, h1⟩ | ⟨r, b, l1, l2, h1, h2, h3, h4, h5, h6, h7, h8, h9⟩
  · exact .inl ⟨h0, o0 _ _ _ h1 (.inr (by decide))⟩
  · exact .inr ⟨r, b, l1, ⟨l2.1, Nat.lt_of_lt_of_le l2.2 (fs.step fm).size⟩, h1, h2, h3, h4, h5, o0 _ _ _ h6 (.inr (by decide)), o0 _ _ _ h7 (.inl h3), o0 _ _ _ h8 (.inl h3), o0 _ _ _ h9 (.inl h3)⟩

theorem neB (W : World) (b c : Nat) : (binOp .eql 22 (.slice (some ⟨b, 0, none⟩) c c) (.slice none 0 0)).run Tryz.prog W = .ok (.bool false) W :=
  Lib.run_eql_slice_nil W _ _ (some ⟨b, 0, none⟩) c c 0 0 Tryz.underlying22
theorem ringCap_any (r b c : Nat) (w : World) (h : w.cell? ⟨r, 0, none⟩ = some (.slice (some ⟨b, 0, none⟩) c c)) :
    Calls Tryz.prog 215 #[.pointer (some ⟨r, 0, none⟩)] w fun e w' => e = .returned (.int .i64 c) ∧ w = w' := by
  have hnb := fun W => neB W b c
  go_enter Tryz.func215, Tryz.ntmps215
  go_wp2
  go_ret
  exact ⟨rfl, rfl⟩

theorem room_direct (n : Nat) (W : World) : (method (n + 1) 246 (.agg #[]) "aqueduct/stream.room").run Tryz.prog W = .ok (210, .agg #[]) W := by kernel_rfl
theorem room_buffered (n r : Nat) (W : World) : (method (n + 1) 251 (.agg #[.pointer (some ⟨r, 0, none⟩)]) "aqueduct/stream.room").run Tryz.prog W = .ok (219, .agg #[.pointer (some ⟨r, 0, none⟩)]) W := by kernel_rfl
theorem room_zero (w : World) :
    Calls Tryz.prog 210 #[.agg #[]] w fun e w' => e = .returned (.int .i64 0) ∧ Fr [] w w' := by
  go_enter Tryz.func210, Tryz.ntmps210
  go_wp2
  go_ret
  exact ⟨rfl, (Fr.refl [] w).alloc _⟩
theorem room_ring (r b c : Nat) (w : World) (h : w.cell? ⟨r, 0, none⟩ = some (.slice (some ⟨b, 0, none⟩) c c)) :
    Calls Tryz.prog 219 #[.agg #[.pointer (some ⟨r, 0, none⟩)]] w fun e w' => e = .returned (.int .i64 c) ∧ Fr [] w w' := by
  have hrl := cell_lt h
  have h1 : (w.alloc (.cells #[.pointer (some ⟨r, 0, none⟩)] 251)).cell? ⟨r, 0, none⟩ = some (.slice (some ⟨b, 0, none⟩) c c) := ((Fr.refl [] w).alloc _).keep h (by simp)
  have HH := Lib.hid (ringCap_any r b c _ h1)
  clear h h1
  go_enter Tryz.func219, Tryz.ntmps219
  go_wp2_with (go_at_call 215; refine HH.out.mono ?_; rintro e w' ⟨rfl, rfl⟩)
  go_ret
  exact ⟨rfl, (Fr.refl [] w).alloc _⟩

theorem drop_any {P : Nat → Prop} {s c : Nat} {wr rd : Int} (w : World) (h : StrS w P s c wr rd) :
    Calls Tryz.prog 182 #[.pointer (some ⟨s, 0, none⟩)] w fun e w' => e = .returned (.tuple #[]) ∧ StrS w' (fun x => P x ∨ w.heap.size ≤ x) s c wr rd ∧ Fr [s] w w' := by
  have z0 := h.fz 0
  have HB := Lib.hid h
  have zs := cell_lt h.busy
  rcases h.store with ⟨rfl, h1⟩ | ⟨r, b, l1, l2, hc1, hc2, h3, h4, h5, h6, h7, _⟩
  · clear h
    have hm := room_direct
    go_enter Tryz.func182, Tryz.ntmps182
    go_wp2_with (first
      | (go_at_call 210; refine (room_zero w).mono ?_; rintro e w1 ⟨rfl, f1⟩)
      | (go_at_call 156; refine (streamOf_direct _).mono ?_; rintro e w2 ⟨rfl, rfl⟩; have k0 := f1.keep h1 (by simp); have y0 : w2.frozen? ⟨s, 0, none⟩ = false := (by rw [f1.frozen zs (by simp)]; exact z0)))
    go_end0
    have h := HB.out.new f1
    have o : ∀ (x o : Nat) (v : Value), w2.cell? ⟨x, o, none⟩ = some v → (x ≠ s ∨ o ≠ 0) → (w2.setCell ⟨s, 0, none⟩ (.iface 246 (.agg #[]))).cell? ⟨x, o, none⟩ = some v := fun x o v hv hne => (World.cell?_setCell_other _ _ _ _ (by simp; omega)).trans hv
    refine ⟨rfl, ⟨.inl h.hs, .inl ⟨rfl, World.cell?_setCell_same _ _ _ k0⟩, o _ _ _ h.busy (.inr (by decide)), o _ _ _ h.rest0 (.inr (by decide)), o _ _ _ h.rest1 (.inr (by decide)), o _ _ _ h.acc (.inr (by decide)), o _ _ _ h.cl0 (.inr (by decide)), o _ _ _ h.cl1 (.inr (by decide)), fun o => by simp [h.fz o]⟩, (f1.mono (fun x hx => by cases hx)).trans ((Fr.refl [s] w2).setCell (fun _ => by simp) _) (fun x hx _ => hx)⟩
  · clear h
    have hm := fun n W => room_buffered n r W
    have HR := Lib.hid (room_ring r b c w h7)
    clear h7
    go_enter Tryz.func182, Tryz.ntmps182
    go_wp2_with (go_at_call 219; refine HR.out.mono ?_; rintro e w1 ⟨rfl, f1⟩)
    refine (streamOf_ring c (by omega) (by omega) _).mono ?_
    rintro e w' ⟨rfl, rfl⟩
    have g1 : Fr [] w (ringW w1 c) := (f1.alloc _).alloc _
    have k0 := g1.keep h6 (by simp)
    have y0 : (ringW w1 c).frozen? ⟨s, 0, none⟩ = false := by rw [g1.frozen zs (by simp)]; exact z0
    go_wp2
    go_end0
    have h := HB.out
    have fs : Fr [s] (ringW w1 c) ((ringW w1 c).setCell ⟨s, 0, none⟩ (.iface 251 (.agg #[.pointer (some ⟨w1.heap.size + 1, 0, none⟩)]))) := (Fr.refl _ _).setCell (fun _ => by simp) _
    have o : ∀ (x o : Nat) (v : Value), (ringW w1 c).cell? ⟨x, o, none⟩ = some v → (x ≠ s ∨ o ≠ 0) → ((ringW w1 c).setCell ⟨s, 0, none⟩ (.iface 251 (.agg #[.pointer (some ⟨w1.heap.size + 1, 0, none⟩)]))).cell? ⟨x, o, none⟩ = some v := fun x o v hv hne => (World.cell?_setCell_other _ _ _ _ (by simp; omega)).trans hv
    have o1 : ∀ (x o : Nat) (v : Value), w.cell? ⟨x, o, none⟩ = some v → (x ≠ s ∨ o ≠ 0) → _ := fun x o' v hv hne => o x o' v (g1.keep hv (by simp)) hne
    have hr : ∀ o v, (#[Value.slice (some ⟨w1.heap.size, 0, none⟩) c c, .int .i64 0, .int .i64 0] : Array Value)[o]? = some v → (ringW w1 c).cell? ⟨w1.heap.size + 1, o, none⟩ = some v := fun o v hv => netCell _ _ _ o rfl (by simp) hv
    have z1 := f1.size
    have z2 : (ringW w1 c).heap.size = w1.heap.size + 2 := by simp [ringW]
    refine ⟨rfl, ⟨.inl h.hs, .inr ⟨w1.heap.size + 1, w1.heap.size, .inr (by omega), ⟨.inr (by omega), by have := fs.size; omega⟩, hc1, hc2, by omega, by omega, by omega, World.cell?_setCell_same _ _ _ k0, o _ _ _ (hr 0 _ rfl) (.inl (by omega)), o _ _ _ (hr 1 _ rfl) (.inl (by omega)), o _ _ _ (hr 2 _ rfl) (.inl (by omega))⟩, o1 _ _ _ h.busy (.inr (by decide)), o1 _ _ _ h.rest0 (.inr (by decide)), o1 _ _ _ h.rest1 (.inr (by decide)), o1 _ _ _ h.acc (.inr (by decide)), o1 _ _ _ h.cl0 (.inr (by decide)), o1 _ _ _ h.cl1 (.inr (by decide)), fun o => by rw [World.frozen?_setCell, g1.frozen zs (by simp)]; exact h.fz o⟩, (g1.mono (fun x hx => by cases hx)).trans fs (fun x hx _ => hx)⟩
end Go.Proofs.YtmdhlodafjpnmaaGreat
