/- Connections with bytes: check, Closed, Read, CloseRead, CloseWrite. -/
/- Connections with bytes: State. -/
/- Connections with bytes: Copy. -/
/- Connections with bytes: New. -/
/- Connections with bytes: New. -/
import Derived.Test.YtmdhlodafjpnmaaGreatM14
import Derived.Test.YtmdhlodafjpnmaaGreatM18
import Derived.Test.YtmdhlodafjpnmaaGreatG6
import Derived.Test.YtmdhlodafjpnmaaGreatM15
namespace Go.Proofs.YtmdhlodafjpnmaaGreat
open List renaming getElem_toArray → qj1, getElem_cons_succ → qj2, getElem_cons_zero → qj3, setIfInBounds_toArray → qj4, set_cons_zero → qj5, set_cons_succ → qj6
open Go.RowKit
set_option linter.unusedVariables false
set_option linter.unusedSimpArgs false
set_option maxRecDepth 100000
set_option maxHeartbeats 4000000

/-- A connection in block d that belongs to c; its streams to c + 4 and c + 8. -/
structure DupB (w : World) (own : Nat → Nat) (c d : Nat) (x : CC) : Prop where
  od : own d = c
  at_ : ∃ b0 b1, Blk w d 152 [.pointer (some ⟨b0, 0, none⟩), .pointer (some ⟨b1, 0, none⟩), .bool x.a0, .bool x.a1] ∧ StrB w own (c + 4) b0 x.s0 ∧ StrB w own (c + 8) b1 x.s1
section
variable {S : List Nat} {w w' : World} {own own' : Nat → Nat} {c d : Nat} {x : CC}
theorem DupB.keep (h : DupB w own c d x) (f : Fr S w w') (hS : ∀ z ∈ S, z < w.heap.size → own z ≠ c ∧ own z ≠ c + 4 ∧ own z ≠ c + 8 ∧ own z ≠ 3) : DupB w' own c d x := by
  obtain ⟨b0, b1, h1, h2, h3⟩ := h.at_
  exact ⟨h.od, b0, b1, h1.keep f (fun hm => (hS d hm h1.lt).1 h.od), h2.keep f (fun z hz hl => ⟨(hS z hz hl).2.1, (hS z hz hl).2.2.2⟩), h3.keep f (fun z hz hl => ⟨(hS z hz hl).2.2.1, (hS z hz hl).2.2.2⟩)⟩
theorem DupB.new (h : DupB w own c d x) (f : Fr [] w w') : DupB w' own c d x := h.keep f (fun z hz => by cases hz)
theorem DupB.ext (h : DupB w own c d x) (he : Ext w own own') : DupB w own' c d x := by
  obtain ⟨b0, b1, h1, h2, h3⟩ := h.at_
  exact ⟨(he _ h1.lt).trans h.od, b0, b1, h1, h2.ext he, h3.ext he⟩
theorem DupB.lt (h : DupB w own c d x) : d < w.heap.size := by
  obtain ⟨b0, b1, h1, _⟩ := h.at_
  exact h1.lt
end
/-- What a call makes of a connection. -/
def DupOut (own : Nat → Nat) (c d : Nat) (x : CC) (w w' : World) : Prop := ∃ own', Ext w own own' ∧ DupB w' own' c d x ∧ FrO own (fun z => z = c ∨ z = c + 4 ∨ z = c + 8) w w'
theorem DupOut.new {own : Nat → Nat} {c d : Nat} {x : CC} {w w' : World} (h : DupB w own c d x) (f : Fr [] w w') : DupOut own c d x w w' := ⟨own, Ext.refl _ _, h.new f, FrO.new f⟩
/-- One of its streams has been turned. -/
theorem DupB.put0 {w w' : World} {own : Nat → Nat} {c d : Nat} {x : CC} {y : SS} (h : DupB w own c d x) (hc : c % 4 = 1) {b0 b1 : Nat} (hb : Blk w d 152 [.pointer (some ⟨b0, 0, none⟩), .pointer (some ⟨b1, 0, none⟩), .bool x.a0, .bool x.a1]) (h1 : StrB w own (c + 8) b1 x.s1) (ho : StrOut own (c + 4) b0 y w w') (hy : StOk y) : DupOut own c d { x with s0 := y } w w' := by
  obtain ⟨own', hx, ha, S, k1, k2⟩ := ho
  have hn : ∀ z ∈ S, z < w.heap.size → own z = c + 4 := k2
  refine ⟨own', hx, ⟨(hx d hb.lt).trans h.od, b0, b1, hb.keep k1 (fun hm => by have := hn d hm hb.lt; rw [h.od] at this; omega), ⟨ha, hy⟩, (h1.ext hx).keep k1 (fun z hz hl => by rw [hx z hl]; have := hn z hz hl; omega)⟩, S, k1, fun z hz hl => .inr (.inl (hn z hz hl))⟩
theorem DupB.put1 {w w' : World} {own : Nat → Nat} {c d : Nat} {x : CC} {y : SS} (h : DupB w own c d x) (hc : c % 4 = 1) {b0 b1 : Nat} (hb : Blk w d 152 [.pointer (some ⟨b0, 0, none⟩), .pointer (some ⟨b1, 0, none⟩), .bool x.a0, .bool x.a1]) (h1 : StrB w own (c + 4) b0 x.s0) (ho : StrOut own (c + 8) b1 y w w') (hy : StOk y) : DupOut own c d { x with s1 := y } w w' := by
  obtain ⟨own', hx, ha, S, k1, k2⟩ := ho
  have hn : ∀ z ∈ S, z < w.heap.size → own z = c + 8 := k2
  refine ⟨own', hx, ⟨(hx d hb.lt).trans h.od, b0, b1, hb.keep k1 (fun hm => by have := hn d hm hb.lt; rw [h.od] at this; omega), (h1.ext hx).keep k1 (fun z hz hl => by rw [hx z hl]; have := hn z hz hl; omega), ⟨ha, hy⟩⟩, S, k1, fun z hz hl => .inr (.inr (hn z hz hl))⟩
section
variable {w : World} {own : Nat → Nat} {c d : Nat} {x : CC}
theorem dupCheckB (e : Int) (he : e = 0 ∨ e = 1) (h : DupB w own c d x) :
    Calls Tryz.prog 86 #[.pointer (some ⟨d, 0, none⟩), .int .i64 e] w fun e w' => e = .returned (.int .i64 0) ∧ w = w' := by
  obtain ⟨s0, s1, hb, _, _⟩ := h.at_
  have h1 : w.cell? ⟨d, 0, none⟩ = some (.pointer (some ⟨s0, 0, none⟩)) := hb.at 0 _ rfl
  have h2 : w.cell? ⟨d, 1, none⟩ = some (.pointer (some ⟨s1, 0, none⟩)) := hb.at 1 _ rfl
  have hne : ∀ W : World, (binOp .eql 150 (.agg #[.pointer (some ⟨s0, 0, none⟩), .pointer (some ⟨s1, 0, none⟩)]) (.agg #[.pointer none, .pointer none])).run Tryz.prog W = .ok (.bool false) W := fun W => by kernel_rfl
  clear h hb
  rcases he with rfl | rfl
  · go_enter Tryz.func86, Tryz.ntmps86
    go_wp2
    go_ret
    exact ⟨rfl, rfl⟩
  · go_enter Tryz.func86, Tryz.ntmps86
    go_wp2
    go_ret
    exact ⟨rfl, rfl⟩
theorem dupClosedB_0 (h : DupB w own c d x) :
    Calls Tryz.prog 73 #[.pointer (some ⟨d, 0, none⟩), .int .i64 0] w fun e w' => e = .returned (.bool x.a0) ∧ w = w' := by
  have HC := Lib.hid (dupCheckB 0 (.inl rfl) h)
  obtain ⟨s0, s1, hb, _, _⟩ := h.at_
  have c2 : w.cell? ⟨d, 2, none⟩ = some (.bool x.a0) := hb.at 2 _ rfl
  clear h hb
  go_enter Tryz.func73, Tryz.ntmps73
  go_wp2_with (go_at_call 86; refine HC.out.mono ?_; rintro e w' ⟨rfl, rfl⟩)
  go_ret
  exact ⟨rfl, rfl⟩
theorem dupClosedB_1 (h : DupB w own c d x) :
    Calls Tryz.prog 73 #[.pointer (some ⟨d, 0, none⟩), .int .i64 1] w fun e w' => e = .returned (.bool x.a1) ∧ w = w' := by
  have HC := Lib.hid (dupCheckB 1 (.inr rfl) h)
  obtain ⟨s0, s1, hb, _, _⟩ := h.at_
  have c2 : w.cell? ⟨d, 3, none⟩ = some (.bool x.a1) := hb.at 3 _ rfl
  clear h hb
  go_enter Tryz.func73, Tryz.ntmps73
  go_wp2_with (go_at_call 86; refine HC.out.mono ?_; rintro e w' ⟨rfl, rfl⟩)
  go_ret
  exact ⟨rfl, rfl⟩
def CC.readN (x : CC) (e : Bool) (m : Int) : CC × List UInt8 × Int := if e then ({ x with s0 := (x.s0.read m).1 }, (x.s0.read m).2) else ({ x with s1 := (x.s1.read m).1 }, (x.s1.read m).2)
def DupRead (own : Nat → Nat) (c d : Nat) (y : CC) (bs : List UInt8) (er : Int) (w : World) (e : Ending) (w' : World) : Prop := ∃ v : Sli, e = .returned (.tuple #[slv v, .int .i64 er]) ∧ BsO w' w.heap.size v bs ∧ DupOut own c d y w w'
theorem dupRead_0 (h : DupB w own c d x) (hc : c % 4 = 1) (m : Int) :
    Calls Tryz.prog 38 #[.pointer (some ⟨d, 0, none⟩), .int .i64 0, .int .i64 m] w (DupRead own c d (x.readN false m).1 (x.readN false m).2.1 (x.readN false m).2.2 w) := by
  obtain ⟨s0, s1, hb, hs0, hs1⟩ := h.at_
  have HH := Lib.hid h
  have HC := Lib.hid (dupCheckB 0 (.inl rfl) h)
  have HB := Lib.hid hb
  have H0 := Lib.hid hs0
  have H1 := Lib.hid hs1
  obtain ⟨wd, hwd⟩ : ∃ z, w.drew = z := ⟨_, rfl⟩
  have fd : Fr [] w wd := by rw [← hwd]; exact (Fr.refl [] w).drew
  have HFD := Lib.hid fd
  have HWD := Lib.hid hwd
  clear h hb hs0 hs1 fd hwd
  go_enter Tryz.func38, Tryz.ntmps38
  go_wp2_with fail
  refine HC.out.mono ?_
  rintro e w' ⟨rfl, rfl⟩
  go_upto_region 4 with fail
  refine wp_region_held_drew (S := fun W => W.cell? ⟨d, 1, none⟩ = some (.pointer (some ⟨s1, 0, none⟩))) (by kernel_rfl) (by rw [HWD.out]; exact HFD.out.keep (HB.out.at 1 _ rfl) (by simp)) (fun hHeld => ?_)
  rw [HWD.out] at hHeld ⊢
  refine wpAnyH_take (i := 0) (oi := _) (v := ?_) rfl (by kernel_rfl) (by kernel_rfl) (by kernel_rfl) (fun _ _ _ h => h) (Or.inl ⟨by rfl, ?_⟩) (by first | assumption | trivial) ?_
  rotate_left
  · intro w hSw; (try dsimp only at hSw); go_simp; try with_reducible rfl
  try simp only [Act.put, qj1, qj2, qj3, qj4, qj5, qj6]
  refine wpAnyH_take (i := 1) (oi := _) (v := ?_) rfl (by kernel_rfl) (by kernel_rfl) (by kernel_rfl) (fun _ _ _ h => h) (Or.inl ⟨by rfl, ?_⟩) (by first | assumption | trivial) ?_
  rotate_left
  · intro w hSw; (try dsimp only at hSw); go_simp; try with_reducible rfl
  try simp only [Act.put, qj1, qj2, qj3, qj4, qj5, qj6]
  refine wpAnyH_take (i := 3) (oi := _) (v := ?_) rfl (by kernel_rfl) (by kernel_rfl) (by kernel_rfl) (fun _ _ _ h => h) (Or.inl ⟨by rfl, ?_⟩) (by first | assumption | trivial) ?_
  rotate_left
  · intro w hSw; (try dsimp only at hSw); go_simp; try with_reducible rfl
  try simp only [Act.put, qj1, qj2, qj3, qj4, qj5, qj6]
  refine wpAnyH_take (i := 4) (oi := _) (v := ?_) rfl (by kernel_rfl) (by kernel_rfl) (by kernel_rfl) (fun _ _ _ h => h) (Or.inl ⟨by rfl, ?_⟩) (by first | assumption | trivial) ?_
  rotate_left
  · intro w hSw; (try dsimp only at hSw); go_simp; try with_reducible rfl
  try simp only [Act.put, qj1, qj2, qj3, qj4, qj5, qj6]
  refine wpAnyH_take (i := 7) (oi := _) (v := ?_) rfl (by kernel_rfl) (by kernel_rfl) (by kernel_rfl) (fun _ _ _ h => h) (Or.inl ⟨by rfl, ?_⟩) (by first | assumption | trivial) ?_
  rotate_left
  · intro w hSw; (try dsimp only at hSw); go_simp; try with_reducible rfl
  try simp only [Act.put, qj1, qj2, qj3, qj4, qj5, qj6]
  refine wpAnyH_ready (rs := [2]) (by kernel_rfl) (by simp) ?_
  refine AllReadyH.cons (o := _) rfl (fun K hK => ?_) AllReadyH.nil
  go_simp
  refine (in_any 0 (by omega) (by omega) wd).mono ?_
  rintro e wi ⟨rfl, ni, rfl⟩
  obtain ⟨wi, hwi⟩ : ∃ z, wd.drewN ni = z := ⟨_, rfl⟩
  rw [hwi]
  have HFI := Lib.hid (show Fr [] w wi from by rw [← hwi]; exact HFD.out.drewN ni)
  clear hwi
  refine hK.out _ _ (HFI.out.keep (HB.out.at 1 _ rfl) (by simp)) (fun hHeld => ?_)
  clear hK K
  try simp only [Act.put, qj1, qj2, qj3, qj4, qj5, qj6]
  refine wpAnyH_take (i := 5) (oi := _) (v := ?_) rfl (by kernel_rfl) (by kernel_rfl) (by kernel_rfl) (fun _ _ _ h => h) (Or.inl ⟨by rfl, ?_⟩) (by first | assumption | trivial) ?_
  rotate_left
  · intro w hSw; (try dsimp only at hSw); go_simp; try with_reducible rfl
  try simp only [Act.put, qj1, qj2, qj3, qj4, qj5, qj6]
  refine wpAnyH_take (i := 6) (oi := _) (v := ?_) rfl (by kernel_rfl) (by kernel_rfl) (by kernel_rfl) (fun _ _ _ h => h) (Or.inl ⟨by rfl, ?_⟩) (by first | assumption | trivial) ?_
  rotate_left
  · intro w hSw; (try dsimp only at hSw); go_simp; try with_reducible rfl
  try simp only [Act.put, qj1, qj2, qj3, qj4, qj5, qj6]
  refine wpAnyH_ready (rs := [8]) (by kernel_rfl) (by simp) ?_
  refine AllReadyH.cons (o := _) rfl (fun K hK => ?_) AllReadyH.nil
  go_simp
  refine (strRead (H1.out.new HFI.out) m (by omega)).mono ?_
  rintro e w2 ⟨v, rfl, hv, ho⟩
  have HV := Lib.hid hv
  clear hv
  obtain ⟨va, vn, vc⟩ := v
  simp only [slv]
  have HO := Lib.hid ((HH.out.new HFI.out).put1 hc (HB.out.keep HFI.out (by simp)) (H0.out.new HFI.out) ho (H1.out.ok.read m))
  have hkeep : w2.cell? ⟨d, 1, none⟩ = some (.pointer (some ⟨s1, 0, none⟩)) := by
    obtain ⟨o2, _, _, T, k1, k2⟩ := ho
    exact k1.keep (HFI.out.keep (HB.out.at 1 _ rfl) (by simp)) (fun hm => by
      have h5 := k2 d hm (Nat.lt_of_lt_of_le HB.out.lt HFI.out.size)
      have h6 := HH.out.od
      omega)
  clear ho
  refine hK.out _ _ (hkeep) (fun hHeld => ?_)
  clear hK K
  try simp only [Act.put, qj1, qj2, qj3, qj4, qj5, qj6]
  refine wpAnyH_take (i := 9) (oi := _) (v := ?_) rfl (by kernel_rfl) (by kernel_rfl) (by kernel_rfl) (fun _ _ _ h => h) (Or.inl ⟨by rfl, ?_⟩) (by first | assumption | trivial) ?_
  rotate_left
  · intro w hSw; (try dsimp only at hSw); go_simp; try with_reducible rfl
  try simp only [Act.put, qj1, qj2, qj3, qj4, qj5, qj6]
  refine wpAnyH_take (i := 10) (oi := _) (v := ?_) rfl (by kernel_rfl) (by kernel_rfl) (by kernel_rfl) (fun _ _ _ h => h) (Or.inl ⟨by rfl, ?_⟩) (by first | assumption | trivial) ?_
  rotate_left
  · intro w hSw; (try dsimp only at hSw); go_simp; try with_reducible rfl
  try simp only [Act.put, qj1, qj2, qj3, qj4, qj5, qj6]
  refine wpAnyH_take (i := 11) (oi := _) (v := ?_) rfl (by kernel_rfl) (by kernel_rfl) (by kernel_rfl) (fun _ _ _ h => h) (Or.inl ⟨by rfl, ?_⟩) (by first | assumption | trivial) ?_
  rotate_left
  · intro w hSw; (try dsimp only at hSw); go_simp; try with_reducible rfl
  try simp only [Act.put, qj1, qj2, qj3, qj4, qj5, qj6]
  refine wpAnyH_take (i := 12) (oi := _) (v := ?_) rfl (by kernel_rfl) (by kernel_rfl) (by kernel_rfl) (fun _ _ _ h => h) (Or.inl ⟨by rfl, ?_⟩) (by first | assumption | trivial) ?_
  rotate_left
  · intro w hSw; (try dsimp only at hSw); go_simp; try with_reducible rfl
  try simp only [Act.put, qj1, qj2, qj3, qj4, qj5, qj6]
  refine wpAnyH_done (by kernel_rfl) ?_ _
  have hout : DupOut own c d { x with s1 := (x.s1.read m).1 } w w2 := by
    obtain ⟨o2, k1, k2, k3⟩ := HO.out
    exact ⟨o2, fun z hz => k1 z (Nat.lt_of_lt_of_le hz HFI.out.size), k2, (FrO.new HFI.out).trans k3 (Ext.refl _ _)⟩
  clear hHeld
  go_wp2
  refine bodyPost_ret (v := .tuple #[.slice va vn vc, .int .i64 (x.s1.read m).2.2]) (by simp [results, Tryz.results38]) rfl ?_
  exact ⟨(va, vn, vc), rfl, HV.out.base HFI.out.size, hout⟩
theorem dupCW_0 (h : DupB w own c d x) (hc : c % 4 = 1) :
    Calls Tryz.prog 141 #[.pointer (some ⟨d, 0, none⟩), .int .i64 0] w fun e w' => e = .returned (.int .i64 (x.closeW false).2) ∧ DupOut own c d (x.closeW false).1 w w' := by
  obtain ⟨s0, s1, hb, hs0, hs1⟩ := h.at_
  have HH := Lib.hid h
  have HC := Lib.hid (dupCheckB 0 (.inl rfl) h)
  have HB := Lib.hid hb
  have H0 := Lib.hid hs0
  have H1 := Lib.hid hs1
  obtain ⟨wd, hwd⟩ : ∃ z, w.drew = z := ⟨_, rfl⟩
  have fd : Fr [] w wd := by rw [← hwd]; exact (Fr.refl [] w).drew
  have HFD := Lib.hid fd
  have HWD := Lib.hid hwd
  clear h hb hs0 hs1 fd hwd
  go_enter Tryz.func141, Tryz.ntmps141
  go_wp2_with fail
  refine HC.out.mono ?_
  rintro e w' ⟨rfl, rfl⟩
  go_upto_region 4 with fail
  refine wp_region_held_drew (S := fun W => W.cell? ⟨d, 0, none⟩ = some (.pointer (some ⟨s0, 0, none⟩))) (by kernel_rfl) (by rw [HWD.out]; exact HFD.out.keep (HB.out.at 0 _ rfl) (by simp)) (fun hHeld => ?_)
  rw [HWD.out] at hHeld ⊢
  refine wpAnyH_take (i := 0) (oi := _) (v := ?_) rfl (by kernel_rfl) (by kernel_rfl) (by kernel_rfl) (fun _ _ _ h => h) (Or.inl ⟨by rfl, ?_⟩) (by first | assumption | trivial) ?_
  rotate_left
  · intro w hSw; (try dsimp only at hSw); go_simp; try with_reducible rfl
  try simp only [Act.put, qj1, qj2, qj3, qj4, qj5, qj6]
  refine wpAnyH_take (i := 1) (oi := _) (v := ?_) rfl (by kernel_rfl) (by kernel_rfl) (by kernel_rfl) (fun _ _ _ h => h) (Or.inl ⟨by rfl, ?_⟩) (by first | assumption | trivial) ?_
  rotate_left
  · intro w hSw; (try dsimp only at hSw); go_simp; try with_reducible rfl
  try simp only [Act.put, qj1, qj2, qj3, qj4, qj5, qj6]
  refine wpAnyH_take (i := 3) (oi := _) (v := ?_) rfl (by kernel_rfl) (by kernel_rfl) (by kernel_rfl) (fun _ _ _ h => h) (Or.inl ⟨by rfl, ?_⟩) (by first | assumption | trivial) ?_
  rotate_left
  · intro w hSw; (try dsimp only at hSw); go_simp; try with_reducible rfl
  try simp only [Act.put, qj1, qj2, qj3, qj4, qj5, qj6]
  refine wpAnyH_take (i := 4) (oi := _) (v := ?_) rfl (by kernel_rfl) (by kernel_rfl) (by kernel_rfl) (fun _ _ _ h => h) (Or.inl ⟨by rfl, ?_⟩) (by first | assumption | trivial) ?_
  rotate_left
  · intro w hSw; (try dsimp only at hSw); go_simp; try with_reducible rfl
  try simp only [Act.put, qj1, qj2, qj3, qj4, qj5, qj6]
  refine wpAnyH_ready (rs := [2]) (by kernel_rfl) (by simp) ?_
  refine AllReadyH.cons (o := _) rfl (fun K hK => ?_) AllReadyH.nil
  go_simp
  refine (out_any 0 wd).mono ?_
  rintro e wi ⟨rfl, ni, rfl⟩
  obtain ⟨wi, hwi⟩ : ∃ z, wd.drewN ni = z := ⟨_, rfl⟩
  rw [hwi]
  have HFI := Lib.hid (show Fr [] w wi from by rw [← hwi]; exact HFD.out.drewN ni)
  clear hwi
  refine hK.out _ _ (HFI.out.keep (HB.out.at 0 _ rfl) (by simp)) (fun hHeld => ?_)
  clear hK K
  try simp only [Act.put, qj1, qj2, qj3, qj4, qj5, qj6]
  refine wpAnyH_take (i := 5) (oi := _) (v := ?_) rfl (by kernel_rfl) (by kernel_rfl) (by kernel_rfl) (fun _ _ _ h => h) (Or.inl ⟨by rfl, ?_⟩) (by first | assumption | trivial) ?_
  rotate_left
  · intro w hSw; (try dsimp only at hSw); go_simp; try with_reducible rfl
  try simp only [Act.put, qj1, qj2, qj3, qj4, qj5, qj6]
  refine wpAnyH_take (i := 6) (oi := _) (v := ?_) rfl (by kernel_rfl) (by kernel_rfl) (by kernel_rfl) (fun _ _ _ h => h) (Or.inl ⟨by rfl, ?_⟩) (by first | assumption | trivial) ?_
  rotate_left
  · intro w hSw; (try dsimp only at hSw); go_simp; try with_reducible rfl
  try simp only [Act.put, qj1, qj2, qj3, qj4, qj5, qj6]
  refine wpAnyH_ready (rs := [7]) (by kernel_rfl) (by simp) ?_
  refine AllReadyH.cons (o := _) rfl (fun K hK => ?_) AllReadyH.nil
  go_simp
  refine (strCloseW (H0.out.a.new HFI.out) (by omega)).mono ?_
  rintro e w2 ⟨rfl, ho⟩
  have HO := Lib.hid ((HH.out.new HFI.out).put0 hc (HB.out.keep HFI.out (by simp)) (H1.out.new HFI.out) ho H0.out.ok.closeW)
  have hkeep : w2.cell? ⟨d, 0, none⟩ = some (.pointer (some ⟨s0, 0, none⟩)) := by
    obtain ⟨o2, _, _, T, k1, k2⟩ := ho
    exact k1.keep (HFI.out.keep (HB.out.at 0 _ rfl) (by simp)) (fun hm => by
      have h5 := k2 d hm (Nat.lt_of_lt_of_le HB.out.lt HFI.out.size)
      have h6 := HH.out.od
      omega)
  clear ho
  refine hK.out _ _ (hkeep) (fun hHeld => ?_)
  clear hK K
  try simp only [Act.put, qj1, qj2, qj3, qj4, qj5, qj6]
  refine wpAnyH_take (i := 8) (oi := _) (v := ?_) rfl (by kernel_rfl) (by kernel_rfl) (by kernel_rfl) (fun _ _ _ h => h) (Or.inl ⟨by rfl, ?_⟩) (by first | assumption | trivial) ?_
  rotate_left
  · intro w hSw; (try dsimp only at hSw); go_simp; try with_reducible rfl
  try simp only [Act.put, qj1, qj2, qj3, qj4, qj5, qj6]
  refine wpAnyH_done (by kernel_rfl) ?_ _
  have hout : DupOut own c d { x with s0 := (x.s0.closeW 13).1 } w w2 := by
    obtain ⟨o2, k1, k2, k3⟩ := HO.out
    exact ⟨o2, fun z hz => k1 z (Nat.lt_of_lt_of_le hz HFI.out.size), k2, (FrO.new HFI.out).trans k3 (Ext.refl _ _)⟩
  clear hHeld
  go_wp2
  go_ret
  exact ⟨rfl, hout⟩
theorem dupCW_1 (h : DupB w own c d x) (hc : c % 4 = 1) :
    Calls Tryz.prog 141 #[.pointer (some ⟨d, 0, none⟩), .int .i64 1] w fun e w' => e = .returned (.int .i64 (x.closeW true).2) ∧ DupOut own c d (x.closeW true).1 w w' := by
  obtain ⟨s0, s1, hb, hs0, hs1⟩ := h.at_
  have HH := Lib.hid h
  have HC := Lib.hid (dupCheckB 1 (.inr rfl) h)
  have HB := Lib.hid hb
  have H0 := Lib.hid hs0
  have H1 := Lib.hid hs1
  obtain ⟨wd, hwd⟩ : ∃ z, w.drew = z := ⟨_, rfl⟩
  have fd : Fr [] w wd := by rw [← hwd]; exact (Fr.refl [] w).drew
  have HFD := Lib.hid fd
  have HWD := Lib.hid hwd
  clear h hb hs0 hs1 fd hwd
  go_enter Tryz.func141, Tryz.ntmps141
  go_wp2_with fail
  refine HC.out.mono ?_
  rintro e w' ⟨rfl, rfl⟩
  go_upto_region 4 with fail
  refine wp_region_held_drew (S := fun W => W.cell? ⟨d, 1, none⟩ = some (.pointer (some ⟨s1, 0, none⟩))) (by kernel_rfl) (by rw [HWD.out]; exact HFD.out.keep (HB.out.at 1 _ rfl) (by simp)) (fun hHeld => ?_)
  rw [HWD.out] at hHeld ⊢
  refine wpAnyH_take (i := 0) (oi := _) (v := ?_) rfl (by kernel_rfl) (by kernel_rfl) (by kernel_rfl) (fun _ _ _ h => h) (Or.inl ⟨by rfl, ?_⟩) (by first | assumption | trivial) ?_
  rotate_left
  · intro w hSw; (try dsimp only at hSw); go_simp; try with_reducible rfl
  try simp only [Act.put, qj1, qj2, qj3, qj4, qj5, qj6]
  refine wpAnyH_take (i := 1) (oi := _) (v := ?_) rfl (by kernel_rfl) (by kernel_rfl) (by kernel_rfl) (fun _ _ _ h => h) (Or.inl ⟨by rfl, ?_⟩) (by first | assumption | trivial) ?_
  rotate_left
  · intro w hSw; (try dsimp only at hSw); go_simp; try with_reducible rfl
  try simp only [Act.put, qj1, qj2, qj3, qj4, qj5, qj6]
  refine wpAnyH_take (i := 3) (oi := _) (v := ?_) rfl (by kernel_rfl) (by kernel_rfl) (by kernel_rfl) (fun _ _ _ h => h) (Or.inl ⟨by rfl, ?_⟩) (by first | assumption | trivial) ?_
  rotate_left
  · intro w hSw; (try dsimp only at hSw); go_simp; try with_reducible rfl
  try simp only [Act.put, qj1, qj2, qj3, qj4, qj5, qj6]
  refine wpAnyH_take (i := 4) (oi := _) (v := ?_) rfl (by kernel_rfl) (by kernel_rfl) (by kernel_rfl) (fun _ _ _ h => h) (Or.inl ⟨by rfl, ?_⟩) (by first | assumption | trivial) ?_
  rotate_left
  · intro w hSw; (try dsimp only at hSw); go_simp; try with_reducible rfl
  try simp only [Act.put, qj1, qj2, qj3, qj4, qj5, qj6]
  refine wpAnyH_ready (rs := [2]) (by kernel_rfl) (by simp) ?_
  refine AllReadyH.cons (o := _) rfl (fun K hK => ?_) AllReadyH.nil
  go_simp
  refine (out_any 1 wd).mono ?_
  rintro e wi ⟨rfl, ni, rfl⟩
  obtain ⟨wi, hwi⟩ : ∃ z, wd.drewN ni = z := ⟨_, rfl⟩
  rw [hwi]
  have HFI := Lib.hid (show Fr [] w wi from by rw [← hwi]; exact HFD.out.drewN ni)
  clear hwi
  refine hK.out _ _ (HFI.out.keep (HB.out.at 1 _ rfl) (by simp)) (fun hHeld => ?_)
  clear hK K
  try simp only [Act.put, qj1, qj2, qj3, qj4, qj5, qj6]
  refine wpAnyH_take (i := 5) (oi := _) (v := ?_) rfl (by kernel_rfl) (by kernel_rfl) (by kernel_rfl) (fun _ _ _ h => h) (Or.inl ⟨by rfl, ?_⟩) (by first | assumption | trivial) ?_
  rotate_left
  · intro w hSw; (try dsimp only at hSw); go_simp; try with_reducible rfl
  try simp only [Act.put, qj1, qj2, qj3, qj4, qj5, qj6]
  refine wpAnyH_take (i := 6) (oi := _) (v := ?_) rfl (by kernel_rfl) (by kernel_rfl) (by kernel_rfl) (fun _ _ _ h => h) (Or.inl ⟨by rfl, ?_⟩) (by first | assumption | trivial) ?_
  rotate_left
  · intro w hSw; (try dsimp only at hSw); go_simp; try with_reducible rfl
  try simp only [Act.put, qj1, qj2, qj3, qj4, qj5, qj6]
  refine wpAnyH_ready (rs := [7]) (by kernel_rfl) (by simp) ?_
  refine AllReadyH.cons (o := _) rfl (fun K hK => ?_) AllReadyH.nil
  go_simp
  refine (strCloseW (H1.out.a.new HFI.out) (by omega)).mono ?_
  rintro e w2 ⟨rfl, ho⟩
  have HO := Lib.hid ((HH.out.new HFI.out).put1 hc (HB.out.keep HFI.out (by simp)) (H0.out.new HFI.out) ho H1.out.ok.closeW)
  have hkeep : w2.cell? ⟨d, 1, none⟩ = some (.pointer (some ⟨s1, 0, none⟩)) := by
    obtain ⟨o2, _, _, T, k1, k2⟩ := ho
    exact k1.keep (HFI.out.keep (HB.out.at 1 _ rfl) (by simp)) (fun hm => by
      have h5 := k2 d hm (Nat.lt_of_lt_of_le HB.out.lt HFI.out.size)
      have h6 := HH.out.od
      omega)
  clear ho
  refine hK.out _ _ (hkeep) (fun hHeld => ?_)
  clear hK K
  try simp only [Act.put, qj1, qj2, qj3, qj4, qj5, qj6]
  refine wpAnyH_take (i := 8) (oi := _) (v := ?_) rfl (by kernel_rfl) (by kernel_rfl) (by kernel_rfl) (fun _ _ _ h => h) (Or.inl ⟨by rfl, ?_⟩) (by first | assumption | trivial) ?_
  rotate_left
  · intro w hSw; (try dsimp only at hSw); go_simp; try with_reducible rfl
  try simp only [Act.put, qj1, qj2, qj3, qj4, qj5, qj6]
  refine wpAnyH_done (by kernel_rfl) ?_ _
  have hout : DupOut own c d { x with s1 := (x.s1.closeW 13).1 } w w2 := by
    obtain ⟨o2, k1, k2, k3⟩ := HO.out
    exact ⟨o2, fun z hz => k1 z (Nat.lt_of_lt_of_le hz HFI.out.size), k2, (FrO.new HFI.out).trans k3 (Ext.refl _ _)⟩
  clear hHeld
  go_wp2
  go_ret
  exact ⟨rfl, hout⟩
theorem dupCR_0 (h : DupB w own c d x) (hc : c % 4 = 1) :
    Calls Tryz.prog 142 #[.pointer (some ⟨d, 0, none⟩), .int .i64 0] w fun e w' => e = .returned (.int .i64 (x.closeR false).2) ∧ DupOut own c d (x.closeR false).1 w w' := by
  obtain ⟨s0, s1, hb, hs0, hs1⟩ := h.at_
  have HH := Lib.hid h
  have HC := Lib.hid (dupCheckB 0 (.inl rfl) h)
  have HB := Lib.hid hb
  have H0 := Lib.hid hs0
  have H1 := Lib.hid hs1
  obtain ⟨wd, hwd⟩ : ∃ z, w.drew = z := ⟨_, rfl⟩
  have fd : Fr [] w wd := by rw [← hwd]; exact (Fr.refl [] w).drew
  have HFD := Lib.hid fd
  have HWD := Lib.hid hwd
  clear h hb hs0 hs1 fd hwd
  go_enter Tryz.func142, Tryz.ntmps142
  go_wp2_with fail
  refine HC.out.mono ?_
  rintro e w' ⟨rfl, rfl⟩
  go_upto_region 4 with fail
  refine wp_region_held_drew (S := fun W => W.cell? ⟨d, 1, none⟩ = some (.pointer (some ⟨s1, 0, none⟩))) (by kernel_rfl) (by rw [HWD.out]; exact HFD.out.keep (HB.out.at 1 _ rfl) (by simp)) (fun hHeld => ?_)
  rw [HWD.out] at hHeld ⊢
  refine wpAnyH_take (i := 0) (oi := _) (v := ?_) rfl (by kernel_rfl) (by kernel_rfl) (by kernel_rfl) (fun _ _ _ h => h) (Or.inl ⟨by rfl, ?_⟩) (by first | assumption | trivial) ?_
  rotate_left
  · intro w hSw; (try dsimp only at hSw); go_simp; try with_reducible rfl
  try simp only [Act.put, qj1, qj2, qj3, qj4, qj5, qj6]
  refine wpAnyH_take (i := 1) (oi := _) (v := ?_) rfl (by kernel_rfl) (by kernel_rfl) (by kernel_rfl) (fun _ _ _ h => h) (Or.inl ⟨by rfl, ?_⟩) (by first | assumption | trivial) ?_
  rotate_left
  · intro w hSw; (try dsimp only at hSw); go_simp; try with_reducible rfl
  try simp only [Act.put, qj1, qj2, qj3, qj4, qj5, qj6]
  refine wpAnyH_take (i := 3) (oi := _) (v := ?_) rfl (by kernel_rfl) (by kernel_rfl) (by kernel_rfl) (fun _ _ _ h => h) (Or.inl ⟨by rfl, ?_⟩) (by first | assumption | trivial) ?_
  rotate_left
  · intro w hSw; (try dsimp only at hSw); go_simp; try with_reducible rfl
  try simp only [Act.put, qj1, qj2, qj3, qj4, qj5, qj6]
  refine wpAnyH_take (i := 4) (oi := _) (v := ?_) rfl (by kernel_rfl) (by kernel_rfl) (by kernel_rfl) (fun _ _ _ h => h) (Or.inl ⟨by rfl, ?_⟩) (by first | assumption | trivial) ?_
  rotate_left
  · intro w hSw; (try dsimp only at hSw); go_simp; try with_reducible rfl
  try simp only [Act.put, qj1, qj2, qj3, qj4, qj5, qj6]
  refine wpAnyH_ready (rs := [2]) (by kernel_rfl) (by simp) ?_
  refine AllReadyH.cons (o := _) rfl (fun K hK => ?_) AllReadyH.nil
  go_simp
  refine (in_any 0 (by omega) (by omega) wd).mono ?_
  rintro e wi ⟨rfl, ni, rfl⟩
  obtain ⟨wi, hwi⟩ : ∃ z, wd.drewN ni = z := ⟨_, rfl⟩
  rw [hwi]
  have HFI := Lib.hid (show Fr [] w wi from by rw [← hwi]; exact HFD.out.drewN ni)
  clear hwi
  refine hK.out _ _ (HFI.out.keep (HB.out.at 1 _ rfl) (by simp)) (fun hHeld => ?_)
  clear hK K
  try simp only [Act.put, qj1, qj2, qj3, qj4, qj5, qj6]
  refine wpAnyH_take (i := 5) (oi := _) (v := ?_) rfl (by kernel_rfl) (by kernel_rfl) (by kernel_rfl) (fun _ _ _ h => h) (Or.inl ⟨by rfl, ?_⟩) (by first | assumption | trivial) ?_
  rotate_left
  · intro w hSw; (try dsimp only at hSw); go_simp; try with_reducible rfl
  try simp only [Act.put, qj1, qj2, qj3, qj4, qj5, qj6]
  refine wpAnyH_take (i := 6) (oi := _) (v := ?_) rfl (by kernel_rfl) (by kernel_rfl) (by kernel_rfl) (fun _ _ _ h => h) (Or.inl ⟨by rfl, ?_⟩) (by first | assumption | trivial) ?_
  rotate_left
  · intro w hSw; (try dsimp only at hSw); go_simp; try with_reducible rfl
  try simp only [Act.put, qj1, qj2, qj3, qj4, qj5, qj6]
  refine wpAnyH_ready (rs := [7]) (by kernel_rfl) (by simp) ?_
  refine AllReadyH.cons (o := _) rfl (fun K hK => ?_) AllReadyH.nil
  go_simp
  refine (strCloseR (H1.out.a.new HFI.out) H1.out.ok.cap0 H1.out.ok.cap1 (by omega)).mono ?_
  rintro e w2 ⟨rfl, ho⟩
  have HO := Lib.hid ((HH.out.new HFI.out).put1 hc (HB.out.keep HFI.out (by simp)) (H0.out.new HFI.out) ho H1.out.ok.closeR)
  have hkeep : w2.cell? ⟨d, 1, none⟩ = some (.pointer (some ⟨s1, 0, none⟩)) := by
    obtain ⟨o2, _, _, T, k1, k2⟩ := ho
    exact k1.keep (HFI.out.keep (HB.out.at 1 _ rfl) (by simp)) (fun hm => by
      have h5 := k2 d hm (Nat.lt_of_lt_of_le HB.out.lt HFI.out.size)
      have h6 := HH.out.od
      omega)
  clear ho
  refine hK.out _ _ (hkeep) (fun hHeld => ?_)
  clear hK K
  try simp only [Act.put, qj1, qj2, qj3, qj4, qj5, qj6]
  refine wpAnyH_take (i := 8) (oi := _) (v := ?_) rfl (by kernel_rfl) (by kernel_rfl) (by kernel_rfl) (fun _ _ _ h => h) (Or.inl ⟨by rfl, ?_⟩) (by first | assumption | trivial) ?_
  rotate_left
  · intro w hSw; (try dsimp only at hSw); go_simp; try with_reducible rfl
  try simp only [Act.put, qj1, qj2, qj3, qj4, qj5, qj6]
  refine wpAnyH_done (by kernel_rfl) ?_ _
  have hout : DupOut own c d { x with s1 := (x.s1.closeR 14).1 } w w2 := by
    obtain ⟨o2, k1, k2, k3⟩ := HO.out
    exact ⟨o2, fun z hz => k1 z (Nat.lt_of_lt_of_le hz HFI.out.size), k2, (FrO.new HFI.out).trans k3 (Ext.refl _ _)⟩
  clear hHeld
  go_wp2
  go_ret
  exact ⟨rfl, hout⟩
theorem dupCR_1 (h : DupB w own c d x) (hc : c % 4 = 1) :
    Calls Tryz.prog 142 #[.pointer (some ⟨d, 0, none⟩), .int .i64 1] w fun e w' => e = .returned (.int .i64 (x.closeR true).2) ∧ DupOut own c d (x.closeR true).1 w w' := by
  obtain ⟨s0, s1, hb, hs0, hs1⟩ := h.at_
  have HH := Lib.hid h
  have HC := Lib.hid (dupCheckB 1 (.inr rfl) h)
  have HB := Lib.hid hb
  have H0 := Lib.hid hs0
  have H1 := Lib.hid hs1
  obtain ⟨wd, hwd⟩ : ∃ z, w.drew = z := ⟨_, rfl⟩
  have fd : Fr [] w wd := by rw [← hwd]; exact (Fr.refl [] w).drew
  have HFD := Lib.hid fd
  have HWD := Lib.hid hwd
  clear h hb hs0 hs1 fd hwd
  go_enter Tryz.func142, Tryz.ntmps142
  go_wp2_with fail
  refine HC.out.mono ?_
  rintro e w' ⟨rfl, rfl⟩
  go_upto_region 4 with fail
  refine wp_region_held_drew (S := fun W => W.cell? ⟨d, 0, none⟩ = some (.pointer (some ⟨s0, 0, none⟩))) (by kernel_rfl) (by rw [HWD.out]; exact HFD.out.keep (HB.out.at 0 _ rfl) (by simp)) (fun hHeld => ?_)
  rw [HWD.out] at hHeld ⊢
  refine wpAnyH_take (i := 0) (oi := _) (v := ?_) rfl (by kernel_rfl) (by kernel_rfl) (by kernel_rfl) (fun _ _ _ h => h) (Or.inl ⟨by rfl, ?_⟩) (by first | assumption | trivial) ?_
  rotate_left
  · intro w hSw; (try dsimp only at hSw); go_simp; try with_reducible rfl
  try simp only [Act.put, qj1, qj2, qj3, qj4, qj5, qj6]
  refine wpAnyH_take (i := 1) (oi := _) (v := ?_) rfl (by kernel_rfl) (by kernel_rfl) (by kernel_rfl) (fun _ _ _ h => h) (Or.inl ⟨by rfl, ?_⟩) (by first | assumption | trivial) ?_
  rotate_left
  · intro w hSw; (try dsimp only at hSw); go_simp; try with_reducible rfl
  try simp only [Act.put, qj1, qj2, qj3, qj4, qj5, qj6]
  refine wpAnyH_take (i := 3) (oi := _) (v := ?_) rfl (by kernel_rfl) (by kernel_rfl) (by kernel_rfl) (fun _ _ _ h => h) (Or.inl ⟨by rfl, ?_⟩) (by first | assumption | trivial) ?_
  rotate_left
  · intro w hSw; (try dsimp only at hSw); go_simp; try with_reducible rfl
  try simp only [Act.put, qj1, qj2, qj3, qj4, qj5, qj6]
  refine wpAnyH_take (i := 4) (oi := _) (v := ?_) rfl (by kernel_rfl) (by kernel_rfl) (by kernel_rfl) (fun _ _ _ h => h) (Or.inl ⟨by rfl, ?_⟩) (by first | assumption | trivial) ?_
  rotate_left
  · intro w hSw; (try dsimp only at hSw); go_simp; try with_reducible rfl
  try simp only [Act.put, qj1, qj2, qj3, qj4, qj5, qj6]
  refine wpAnyH_ready (rs := [2]) (by kernel_rfl) (by simp) ?_
  refine AllReadyH.cons (o := _) rfl (fun K hK => ?_) AllReadyH.nil
  go_simp
  refine (in_any 1 (by omega) (by omega) wd).mono ?_
  rintro e wi ⟨rfl, ni, rfl⟩
  obtain ⟨wi, hwi⟩ : ∃ z, wd.drewN ni = z := ⟨_, rfl⟩
  rw [hwi]
  have HFI := Lib.hid (show Fr [] w wi from by rw [← hwi]; exact HFD.out.drewN ni)
  clear hwi
  refine hK.out _ _ (HFI.out.keep (HB.out.at 0 _ rfl) (by simp)) (fun hHeld => ?_)
  clear hK K
  try simp only [Act.put, qj1, qj2, qj3, qj4, qj5, qj6]
  refine wpAnyH_take (i := 5) (oi := _) (v := ?_) rfl (by kernel_rfl) (by kernel_rfl) (by kernel_rfl) (fun _ _ _ h => h) (Or.inl ⟨by rfl, ?_⟩) (by first | assumption | trivial) ?_
  rotate_left
  · intro w hSw; (try dsimp only at hSw); go_simp; try with_reducible rfl
  try simp only [Act.put, qj1, qj2, qj3, qj4, qj5, qj6]
  refine wpAnyH_take (i := 6) (oi := _) (v := ?_) rfl (by kernel_rfl) (by kernel_rfl) (by kernel_rfl) (fun _ _ _ h => h) (Or.inl ⟨by rfl, ?_⟩) (by first | assumption | trivial) ?_
  rotate_left
  · intro w hSw; (try dsimp only at hSw); go_simp; try with_reducible rfl
  try simp only [Act.put, qj1, qj2, qj3, qj4, qj5, qj6]
  refine wpAnyH_ready (rs := [7]) (by kernel_rfl) (by simp) ?_
  refine AllReadyH.cons (o := _) rfl (fun K hK => ?_) AllReadyH.nil
  go_simp
  refine (strCloseR (H0.out.a.new HFI.out) H0.out.ok.cap0 H0.out.ok.cap1 (by omega)).mono ?_
  rintro e w2 ⟨rfl, ho⟩
  have HO := Lib.hid ((HH.out.new HFI.out).put0 hc (HB.out.keep HFI.out (by simp)) (H1.out.new HFI.out) ho H0.out.ok.closeR)
  have hkeep : w2.cell? ⟨d, 0, none⟩ = some (.pointer (some ⟨s0, 0, none⟩)) := by
    obtain ⟨o2, _, _, T, k1, k2⟩ := ho
    exact k1.keep (HFI.out.keep (HB.out.at 0 _ rfl) (by simp)) (fun hm => by
      have h5 := k2 d hm (Nat.lt_of_lt_of_le HB.out.lt HFI.out.size)
      have h6 := HH.out.od
      omega)
  clear ho
  refine hK.out _ _ (hkeep) (fun hHeld => ?_)
  clear hK K
  try simp only [Act.put, qj1, qj2, qj3, qj4, qj5, qj6]
  refine wpAnyH_take (i := 8) (oi := _) (v := ?_) rfl (by kernel_rfl) (by kernel_rfl) (by kernel_rfl) (fun _ _ _ h => h) (Or.inl ⟨by rfl, ?_⟩) (by first | assumption | trivial) ?_
  rotate_left
  · intro w hSw; (try dsimp only at hSw); go_simp; try with_reducible rfl
  try simp only [Act.put, qj1, qj2, qj3, qj4, qj5, qj6]
  refine wpAnyH_done (by kernel_rfl) ?_ _
  have hout : DupOut own c d { x with s0 := (x.s0.closeR 14).1 } w w2 := by
    obtain ⟨o2, k1, k2, k3⟩ := HO.out
    exact ⟨o2, fun z hz => k1 z (Nat.lt_of_lt_of_le hz HFI.out.size), k2, (FrO.new HFI.out).trans k3 (Ext.refl _ _)⟩
  clear hHeld
  go_wp2
  go_ret
  exact ⟨rfl, hout⟩
end
end Go.Proofs.YtmdhlodafjpnmaaGreat
namespace Go.Proofs.YtmdhlodafjpnmaaGreat
open List renaming getElem_toArray → qj1, getElem_cons_succ → qj2, getElem_cons_zero → qj3, setIfInBounds_toArray → qj4, set_cons_zero → qj5, set_cons_succ → qj6
open Go.RowKit
set_option linter.unusedVariables false
set_option linter.unusedSimpArgs false
set_option maxRecDepth 100000
set_option maxHeartbeats 8000000

theorem aggB2 : ∀ w, (isAgg 92).run Tryz.prog w = .ok true w := fun w => by kernel_rfl
theorem sizeB2 : ∀ w, (sizeOf 92).run Tryz.prog w = .ok 2 w := fun w => by kernel_rfl
theorem bldArrG (x y : SS) (b0 r0 b1 r1 : Sli) : ∀ w, (Instr.build 91 #[(0, .agg (stC x b0 r0).toArray), (1, .agg (stC y b1 r1).toArray)]).run Tryz.prog w = .ok (.agg (stC x b0 r0 ++ stC y b1 r1).toArray) w := fun w => by kernel_rfl
theorem bldCsG (x : CC) (q : Q4) : ∀ w, (Instr.build 94 #[(0, .agg (stC x.s0 q.b0 q.r0 ++ stC x.s1 q.b1 q.r1).toArray), (1, .agg #[.bool x.a0, .bool x.a1])]).run Tryz.prog w = .ok (.agg (cnC x q).toArray) w := fun w => by kernel_rfl
def CnOut (x : CC) (w : World) (e : Ending) (w' : World) : Prop := ∃ q : Q4, e = .returned (.agg (cnC x q).toArray) ∧ CnO w' w.heap.size x q ∧ Fr [] w w'
theorem dupStateB {w : World} {own : Nat → Nat} {c d : Nat} {x : CC} (h : DupB w own c d x) :
    Calls Tryz.prog 62 #[.pointer (some ⟨d, 0, none⟩)] w (CnOut x w) := by
  obtain ⟨s0, s1, hb, hst0, hst1⟩ := h.at_
  obtain ⟨B, hB⟩ : ∃ B, w.heap.size = B := ⟨_, rfl⟩
  obtain ⟨w0, hw0⟩ : ∃ z, w.alloc (.cells #[.int .i64 0, .slice none 0 0, .bool false, .slice none 0 0, .int .i64 0, .int .i64 0, .int .i64 0, .int .i64 0, .slice none 0 0, .bool false, .slice none 0 0, .int .i64 0, .int .i64 0, .int .i64 0, .bool false, .bool false] 94) = z := ⟨_, rfl⟩
  have f0 : Fr [] w w0 := by rw [← hw0]; exact (Fr.refl [] w).alloc _
  have hb0 : Blk w0 B 94 zCn := by rw [← hw0, ← hB]; exact Blk.made w 94 zCn
  obtain ⟨w1, hw1⟩ : ∃ z, w0.drew = z := ⟨_, rfl⟩
  have f1 : Fr [] w0 w1 := by rw [← hw1]; exact (Fr.refl [] w0).drew
  have HB0 := Lib.hid (hb0.keep f1 (by simp))
  have HF1 := Lib.hid (f0.step f1)
  have HN := Lib.hid (dupCheckB 0 (.inl rfl) (h.new f0))
  have HS := Lib.hid (show ∀ W, Fr [] w W → W.cell? ⟨d, 0, none⟩ = some (.pointer (some ⟨s0, 0, none⟩)) ∧ W.cell? ⟨d, 1, none⟩ = some (.pointer (some ⟨s1, 0, none⟩)) ∧ LiesAt W d 2 [.bool x.a0, .bool x.a1] from fun W f => by
    have hh := hb.keep f (by simp)
    exact ⟨hh.at 0 _ rfl, hh.at 1 _ rfl, by have := hh.at.part (k := 2) (n := 2) (ys := [.bool x.a0, .bool x.a1]) rfl; rwa [Nat.zero_add] at this⟩)
  have HT0 := Lib.hid hst0
  have HT1 := Lib.hid hst1
  have HBS := Lib.hid hB
  have HW0 := Lib.hid hw0
  have HW1 := Lib.hid hw1
  clear f0 f1 hb0 hB hw0 hw1 h hb hst0 hst1
  go_enter Tryz.func62, Tryz.ntmps62
  go_upto_region 1 with fail
  rw [HW0.out]
  simp only [HBS.out]
  go_wp2_with fail
  refine HN.out.mono ?_
  rintro e w' ⟨rfl, rfl⟩
  go_upto_region 3 with fail
  refine wp_region_held_drew (S := fun W => W.cell? ⟨d, 0, none⟩ = some (.pointer (some ⟨s0, 0, none⟩)) ∧ W.cell? ⟨d, 1, none⟩ = some (.pointer (some ⟨s1, 0, none⟩)) ∧ LiesAt W d 2 [.bool x.a0, .bool x.a1]) (by kernel_rfl) (by rw [HW1.out]; exact HS.out _ HF1.out) (fun hHeld => ?_)
  rw [HW1.out] at hHeld ⊢
  refine wpAnyH_take (i := 0) (oi := _) (v := ?_) rfl (by kernel_rfl) (by kernel_rfl) (by kernel_rfl) (fun _ _ _ h => h) (Or.inl ⟨by rfl, ?_⟩) (by first | assumption | trivial) ?_
  rotate_left
  · intro w hSw; (try dsimp only at hSw); go_simp; try with_reducible rfl
  try simp only [Act.put, qj1, qj2, qj3, qj4, qj5, qj6]
  refine wpAnyH_take (i := 1) (oi := _) (v := ?_) rfl (by kernel_rfl) (by kernel_rfl) (by kernel_rfl) (fun _ _ _ h => h) (Or.inl ⟨by rfl, ?_⟩) (by first | assumption | trivial) ?_
  rotate_left
  · intro w hSw; (try dsimp only at hSw); go_simp; try with_reducible rfl
  try simp only [Act.put, qj1, qj2, qj3, qj4, qj5, qj6]
  refine wpAnyH_take (i := 2) (oi := _) (v := ?_) rfl (by kernel_rfl) (by kernel_rfl) (by kernel_rfl) (fun _ _ _ h => h) (Or.inl ⟨by rfl, ?_⟩) (by first | assumption | trivial) ?_
  rotate_left
  · intro w hSw; (try dsimp only at hSw); go_simp; try with_reducible rfl
  try simp only [Act.put, qj1, qj2, qj3, qj4, qj5, qj6]
  refine wpAnyH_take (i := 3) (oi := _) (v := ?_) rfl (by kernel_rfl) (by kernel_rfl) (by kernel_rfl) (fun _ _ _ h => h) (Or.inl ⟨by rfl, ?_⟩) (by first | assumption | trivial) ?_
  rotate_left
  · intro w hSw; (try dsimp only at hSw); go_simp; try with_reducible rfl
  try simp only [Act.put, qj1, qj2, qj3, qj4, qj5, qj6]
  refine wpAnyH_take (i := 4) (oi := _) (v := ?_) rfl (by kernel_rfl) (by kernel_rfl) (by kernel_rfl) (fun _ _ _ h => h) (Or.inl ⟨by rfl, ?_⟩) (by first | assumption | trivial) ?_
  rotate_left
  · intro w hSw; (try dsimp only at hSw); go_simp; try with_reducible rfl
  try simp only [Act.put, qj1, qj2, qj3, qj4, qj5, qj6]
  refine wpAnyH_take (i := 6) (oi := _) (v := ?_) rfl (by kernel_rfl) (by kernel_rfl) (by kernel_rfl) (fun _ _ _ h => h) (Or.inl ⟨by rfl, ?_⟩) (by first | assumption | trivial) ?_
  rotate_left
  · intro w hSw; (try dsimp only at hSw); go_simp; try with_reducible rfl
  try simp only [Act.put, qj1, qj2, qj3, qj4, qj5, qj6]
  refine wpAnyH_take (i := 7) (oi := _) (v := ?_) rfl (by kernel_rfl) (by kernel_rfl) (by kernel_rfl) (fun _ _ _ h => h) (Or.inl ⟨by rfl, ?_⟩) (by first | assumption | trivial) ?_
  rotate_left
  · intro w hSw; (try dsimp only at hSw); go_simp; try with_reducible rfl
  try simp only [Act.put, qj1, qj2, qj3, qj4, qj5, qj6]
  refine wpAnyH_take (i := 8) (oi := _) (v := ?_) rfl (by kernel_rfl) (by kernel_rfl) (by kernel_rfl) (fun _ _ _ h => h) (Or.inl ⟨by rfl, ?_⟩) (by first | assumption | trivial) ?_
  rotate_left
  · intro w hSw; (try dsimp only at hSw); go_simp; try with_reducible rfl
  try simp only [Act.put, qj1, qj2, qj3, qj4, qj5, qj6]
  refine wpAnyH_take (i := 9) (oi := _) (v := ?_) rfl (by kernel_rfl) (by kernel_rfl) (by kernel_rfl) (fun _ _ _ h => h) (Or.inl ⟨by rfl, ?_⟩) (by first | assumption | trivial) ?_
  rotate_left
  · intro w hSw; (try dsimp only at hSw); go_simp; try with_reducible rfl
  try simp only [Act.put, qj1, qj2, qj3, qj4, qj5, qj6]
  refine wpAnyH_take (i := 10) (oi := _) (v := ?_) rfl (by kernel_rfl) (by kernel_rfl) (by kernel_rfl) (fun _ _ _ h => h) (Or.inl ⟨by rfl, ?_⟩) (by first | assumption | trivial) ?_
  rotate_left
  · intro w hSw; (try dsimp only at hSw); go_simp; try with_reducible rfl
  try simp only [Act.put, qj1, qj2, qj3, qj4, qj5, qj6]
  refine wpAnyH_take (i := 13) (oi := _) (v := ?_) rfl (by kernel_rfl) (by kernel_rfl) (by kernel_rfl) (fun _ _ _ h => h) (Or.inl ⟨by rfl, ?_⟩) (by first | assumption | trivial) ?_
  rotate_left
  · intro w hSw; (try dsimp only at hSw); go_simp; try with_reducible rfl
  try simp only [Act.put, qj1, qj2, qj3, qj4, qj5, qj6]
  refine wpAnyH_take (i := 14) (oi := _) (v := ?_) rfl (by kernel_rfl) (by kernel_rfl) (by kernel_rfl) (fun _ _ _ h => h) (Or.inl ⟨by rfl, ?_⟩) (by first | assumption | trivial) ?_
  rotate_left
  · intro w hSw; (try dsimp only at hSw); go_simp; try with_reducible rfl
  try simp only [Act.put, qj1, qj2, qj3, qj4, qj5, qj6]
  refine wpAnyH_take (i := 15) (oi := _) (v := ?_) rfl (by kernel_rfl) (by kernel_rfl) (by kernel_rfl) (fun _ _ _ h => h) (Or.inl ⟨by rfl, ?_⟩) (by first | assumption | trivial) ?_
  rotate_left
  · intro w hSw; (try dsimp only at hSw); go_simp; try with_reducible rfl
  try simp only [Act.put, qj1, qj2, qj3, qj4, qj5, qj6]
  refine wpAnyH_take (i := 16) (oi := _) (v := .agg #[.bool x.a0, .bool x.a1]) rfl (by kernel_rfl) (by kernel_rfl) (by kernel_rfl) (fun _ _ _ h => h) (Or.inl ⟨by rfl, ?_⟩) (by first | assumption | trivial) ?_
  · intro w hSw
    try dsimp only at hSw
    show Sem.run Tryz.prog ((Instr.loadAt 92 (.pointer (some ⟨d, 2, none⟩))) >>= fun x => pure (Next.value x)) w = _
    rw [Sem.run_bind, load_all aggB2 sizeB2 (xs := [.bool x.a0, .bool x.a1]) rfl hSw.2.2]
    rfl
  try simp only [Act.put, qj1, qj2, qj3, qj4, qj5, qj6]
  refine wpAnyH_ready (rs := [5]) (by kernel_rfl) (by simp) ?_
  refine AllReadyH.cons (o := _) rfl (fun K hK => ?_) AllReadyH.nil
  go_simp
  refine (strState (HT0.out.new HF1.out)).mono ?_
  rintro e w2 ⟨b0, r0, rfl, ho1, ho2, f2⟩
  have HF2 := Lib.hid (HF1.out.step f2)
  have HB1 := Lib.hid (HB0.out.keep f2 (by simp))
  have HU0 := Lib.hid (And.intro (ho1.base HF1.out.size) (ho2.base HF1.out.size))
  have HS2 := Lib.hid f2
  clear f2 ho1 ho2
  refine hK.out _ _ (HS.out _ HF2.out) (fun hHeld => ?_)
  clear hK K
  try simp only [Act.put, qj1, qj2, qj3, qj4, qj5, qj6]
  refine wpAnyH_ready (rs := [11]) (by kernel_rfl) (by simp) ?_
  refine AllReadyH.cons (o := _) rfl (fun K hK => ?_) AllReadyH.nil
  go_simp
  refine (strState (HT1.out.new HF2.out)).mono ?_
  rintro e w3 ⟨b1, r1, rfl, ho1, ho2, f3⟩
  have HF3 := Lib.hid (HF2.out.step f3)
  have HB2 := Lib.hid (HB1.out.keep f3 (by simp))
  have HU1 := Lib.hid (And.intro (ho1.base HF2.out.size) (ho2.base HF2.out.size))
  have HS3 := Lib.hid f3
  clear f3 ho1 ho2
  refine hK.out _ _ (HS.out _ HF3.out) (fun hHeld => ?_)
  clear hK K
  try simp only [Act.put, qj1, qj2, qj3, qj4, qj5, qj6]
  refine wpAnyH_take (i := 12) (oi := _) (v := .agg (stC x.s0 b0 r0 ++ stC x.s1 b1 r1).toArray) rfl (by kernel_rfl) (by kernel_rfl) (by kernel_rfl) (fun _ _ _ h => h) (Or.inl ⟨by rfl, ?_⟩) (by first | assumption | trivial) ?_
  · intro w hSw
    try dsimp only at hSw
    exact exec_bld2 (V := .agg (stC x.s0 b0 r0).toArray) (U := .agg (stC x.s1 b1 r1).toArray) rfl rfl rfl (bldArrG _ _ _ _ _ _ w)
  try simp only [Act.put, qj1, qj2, qj3, qj4, qj5, qj6]
  refine wpAnyH_take (i := 17) (oi := _) (v := .agg (cnC x ⟨b0, r0, b1, r1⟩).toArray) rfl (by kernel_rfl) (by kernel_rfl) (by kernel_rfl) (fun _ _ _ h => h) (Or.inl ⟨by rfl, ?_⟩) (by first | assumption | trivial) ?_
  · intro w hSw
    try dsimp only at hSw
    exact exec_bld2 (V := .agg (stC x.s0 b0 r0 ++ stC x.s1 b1 r1).toArray) (U := .agg #[.bool x.a0, .bool x.a1]) rfl rfl rfl (bldCsG x ⟨b0, r0, b1, r1⟩ w)
  try simp only [Act.put, qj1, qj2, qj3, qj4, qj5, qj6]
  refine wpAnyH_ready (rs := [18]) (by kernel_rfl) (by simp) ?_
  refine AllReadyH.cons (o := _) rfl (fun K hK => ?_) AllReadyH.nil
  obtain ⟨w5, hst, hb_, hf_⟩ := store_all (t := 94) (cnC x ⟨b0, r0, b1, r1⟩) size94 rfl (cnC_one _ _) HB2.out rfl
  split
  rotate_left
  · rename_i hno
    exact absurd rfl hno
  refine wp_skp (w' := w5) ?_ ?_
  · show Sem.run Tryz.prog ((Instr.storeAt 94 (.pointer (some ⟨B, 0, none⟩)) (.agg (cnC x ⟨b0, r0, b1, r1⟩).toArray)) >>= fun _ => pure Next.skip) _ = _
    rw [Sem.run_bind, hst]
    rfl
  clear hst
  have HB5 := Lib.hid hb_
  have HF5 := Lib.hid (HF3.out.own1 (S := []) (B := 0) hf_ (by have := HBS.out; omega))
  have hne : ∀ {v : Sli} {l : List UInt8}, BsO w3 w.heap.size v l → BsO w5 w.heap.size v l := fun {v l} h => rowFr' h hf_ (fun g hg hm => by rw [List.mem_singleton] at hm; subst hm; exact blkNe HB2.out h (by decide) hg)
  have HQ := Lib.hid (show CnO w5 w.heap.size x ⟨b0, r0, b1, r1⟩ from ⟨hne (HU0.out.1.new HS3.out), hne (HU0.out.2.new HS3.out), hne HU1.out.1, hne HU1.out.2⟩)
  clear hb_ hf_ hne
  refine hK.out _ _ (HS.out _ HF5.out) (fun hHeld => ?_)
  clear hK K
  try simp only [Act.put, qj1, qj2, qj3, qj4, qj5, qj6]
  refine wpAnyH_done (by kernel_rfl) ?_ _
  clear hHeld
  go_wp2
  have hl := load_var agg94 size94 (xs := cnC x ⟨b0, r0, b1, r1⟩) rfl HB5.out.at
  refine bodyPost_ret (v := .agg (cnC x ⟨b0, r0, b1, r1⟩).toArray) (by simp [results, Tryz.results62, as_addr, hl]) rfl ?_
  exact ⟨⟨b0, r0, b1, r1⟩, rfl, HQ.out, HF5.out⟩
end Go.Proofs.YtmdhlodafjpnmaaGreat
namespace Go.Proofs.YtmdhlodafjpnmaaGreat
open List renaming getElem_toArray → qj1, getElem_cons_succ → qj2, getElem_cons_zero → qj3, setIfInBounds_toArray → qj4, set_cons_zero → qj5, set_cons_succ → qj6
open Go.RowKit
set_option linter.unusedVariables false
set_option linter.unusedSimpArgs false
set_option maxRecDepth 100000
set_option maxHeartbeats 8000000

theorem bldP2 (a b : Nat) : ∀ w, (Instr.build 150 #[(0, .pointer (some ⟨a, 0, none⟩)), (1, .pointer (some ⟨b, 0, none⟩))]).run Tryz.prog w = .ok (.agg #[.pointer (some ⟨a, 0, none⟩), .pointer (some ⟨b, 0, none⟩)]) w := fun w => by kernel_rfl
theorem bldDx (a b : Nat) (x y : Bool) : ∀ w, (Instr.build 152 #[(0, .agg #[.pointer (some ⟨a, 0, none⟩), .pointer (some ⟨b, 0, none⟩)]), (1, .agg #[.bool x, .bool y])]).run Tryz.prog w = .ok (.agg #[.pointer (some ⟨a, 0, none⟩), .pointer (some ⟨b, 0, none⟩), .bool x, .bool y]) w := fun w => by kernel_rfl
def CopyD (own : Nat → Nat) (c2 : Nat) (x : CC) (w : World) (e : Ending) (w' : World) : Prop := ∃ (d2 : Nat) (own' : Nat → Nat), e = .returned (.pointer (some ⟨d2, 0, none⟩)) ∧ DupB w' own' c2 d2 x ∧ Ext w own own' ∧ Fr [] w w' ∧ w.heap.size ≤ d2
theorem dupCopyB {w : World} {own : Nat → Nat} {c d : Nat} {x : CC} (h : DupB w own c d x) (c2 : Nat) :
    Calls Tryz.prog 37 #[.pointer (some ⟨d, 0, none⟩)] w (CopyD own c2 x w) := by
  obtain ⟨s0, s1, hb, hst0, hst1⟩ := h.at_
  have HN := Lib.hid (dupCheckB 0 (.inl rfl) h)
  have HS := Lib.hid (show ∀ W, Fr [] w W → W.cell? ⟨d, 0, none⟩ = some (.pointer (some ⟨s0, 0, none⟩)) ∧ W.cell? ⟨d, 1, none⟩ = some (.pointer (some ⟨s1, 0, none⟩)) ∧ LiesAt W d 2 [.bool x.a0, .bool x.a1] from fun W f => by
    have hh := hb.keep f (by simp)
    exact ⟨hh.at 0 _ rfl, hh.at 1 _ rfl, by have := hh.at.part (k := 2) (n := 2) (ys := [.bool x.a0, .bool x.a1]) rfl; rwa [Nat.zero_add] at this⟩)
  obtain ⟨w1, hw1⟩ : ∃ z, w.drew = z := ⟨_, rfl⟩
  have f1 : Fr [] w w1 := by rw [← hw1]; exact (Fr.refl [] w).drew
  have HF1 := Lib.hid f1
  have HW1 := Lib.hid hw1
  have HT0 := Lib.hid hst0
  have HT1 := Lib.hid hst1
  clear h hb hst0 hst1 f1 hw1
  go_enter Tryz.func37, Tryz.ntmps37
  go_wp2_with fail
  refine HN.out.mono ?_
  rintro e w' ⟨rfl, rfl⟩
  go_upto_region 3 with fail
  refine wp_region_held_drew (S := fun W => W.cell? ⟨d, 0, none⟩ = some (.pointer (some ⟨s0, 0, none⟩)) ∧ W.cell? ⟨d, 1, none⟩ = some (.pointer (some ⟨s1, 0, none⟩)) ∧ LiesAt W d 2 [.bool x.a0, .bool x.a1]) (by kernel_rfl) (by rw [HW1.out]; exact HS.out _ HF1.out) (fun hHeld => ?_)
  rw [HW1.out] at hHeld ⊢
  refine wpAnyH_take (i := 0) (oi := _) (v := ?_) rfl (by kernel_rfl) (by kernel_rfl) (by kernel_rfl) (fun _ _ _ h => h) (Or.inl ⟨by rfl, ?_⟩) (by first | assumption | trivial) ?_
  rotate_left
  · intro w hSw; (try dsimp only at hSw); go_simp; try with_reducible rfl
  try simp only [Act.put, qj1, qj2, qj3, qj4, qj5, qj6]
  refine wpAnyH_take (i := 1) (oi := _) (v := ?_) rfl (by kernel_rfl) (by kernel_rfl) (by kernel_rfl) (fun _ _ _ h => h) (Or.inl ⟨by rfl, ?_⟩) (by first | assumption | trivial) ?_
  rotate_left
  · intro w hSw; (try dsimp only at hSw); go_simp; try with_reducible rfl
  try simp only [Act.put, qj1, qj2, qj3, qj4, qj5, qj6]
  refine wpAnyH_take (i := 2) (oi := _) (v := ?_) rfl (by kernel_rfl) (by kernel_rfl) (by kernel_rfl) (fun _ _ _ h => h) (Or.inl ⟨by rfl, ?_⟩) (by first | assumption | trivial) ?_
  rotate_left
  · intro w hSw; (try dsimp only at hSw); go_simp; try with_reducible rfl
  try simp only [Act.put, qj1, qj2, qj3, qj4, qj5, qj6]
  refine wpAnyH_take (i := 3) (oi := _) (v := ?_) rfl (by kernel_rfl) (by kernel_rfl) (by kernel_rfl) (fun _ _ _ h => h) (Or.inl ⟨by rfl, ?_⟩) (by first | assumption | trivial) ?_
  rotate_left
  · intro w hSw; (try dsimp only at hSw); go_simp; try with_reducible rfl
  try simp only [Act.put, qj1, qj2, qj3, qj4, qj5, qj6]
  refine wpAnyH_take (i := 4) (oi := _) (v := ?_) rfl (by kernel_rfl) (by kernel_rfl) (by kernel_rfl) (fun _ _ _ h => h) (Or.inl ⟨by rfl, ?_⟩) (by first | assumption | trivial) ?_
  rotate_left
  · intro w hSw; (try dsimp only at hSw); go_simp; try with_reducible rfl
  try simp only [Act.put, qj1, qj2, qj3, qj4, qj5, qj6]
  refine wpAnyH_take (i := 6) (oi := _) (v := ?_) rfl (by kernel_rfl) (by kernel_rfl) (by kernel_rfl) (fun _ _ _ h => h) (Or.inl ⟨by rfl, ?_⟩) (by first | assumption | trivial) ?_
  rotate_left
  · intro w hSw; (try dsimp only at hSw); go_simp; try with_reducible rfl
  try simp only [Act.put, qj1, qj2, qj3, qj4, qj5, qj6]
  refine wpAnyH_take (i := 7) (oi := _) (v := ?_) rfl (by kernel_rfl) (by kernel_rfl) (by kernel_rfl) (fun _ _ _ h => h) (Or.inl ⟨by rfl, ?_⟩) (by first | assumption | trivial) ?_
  rotate_left
  · intro w hSw; (try dsimp only at hSw); go_simp; try with_reducible rfl
  try simp only [Act.put, qj1, qj2, qj3, qj4, qj5, qj6]
  refine wpAnyH_take (i := 8) (oi := _) (v := ?_) rfl (by kernel_rfl) (by kernel_rfl) (by kernel_rfl) (fun _ _ _ h => h) (Or.inl ⟨by rfl, ?_⟩) (by first | assumption | trivial) ?_
  rotate_left
  · intro w hSw; (try dsimp only at hSw); go_simp; try with_reducible rfl
  try simp only [Act.put, qj1, qj2, qj3, qj4, qj5, qj6]
  refine wpAnyH_take (i := 9) (oi := _) (v := ?_) rfl (by kernel_rfl) (by kernel_rfl) (by kernel_rfl) (fun _ _ _ h => h) (Or.inl ⟨by rfl, ?_⟩) (by first | assumption | trivial) ?_
  rotate_left
  · intro w hSw; (try dsimp only at hSw); go_simp; try with_reducible rfl
  try simp only [Act.put, qj1, qj2, qj3, qj4, qj5, qj6]
  refine wpAnyH_take (i := 10) (oi := _) (v := ?_) rfl (by kernel_rfl) (by kernel_rfl) (by kernel_rfl) (fun _ _ _ h => h) (Or.inl ⟨by rfl, ?_⟩) (by first | assumption | trivial) ?_
  rotate_left
  · intro w hSw; (try dsimp only at hSw); go_simp; try with_reducible rfl
  try simp only [Act.put, qj1, qj2, qj3, qj4, qj5, qj6]
  refine wpAnyH_take (i := 13) (oi := _) (v := ?_) rfl (by kernel_rfl) (by kernel_rfl) (by kernel_rfl) (fun _ _ _ h => h) (Or.inl ⟨by rfl, ?_⟩) (by first | assumption | trivial) ?_
  rotate_left
  · intro w hSw; (try dsimp only at hSw); go_simp; try with_reducible rfl
  try simp only [Act.put, qj1, qj2, qj3, qj4, qj5, qj6]
  refine wpAnyH_take (i := 14) (oi := _) (v := ?_) rfl (by kernel_rfl) (by kernel_rfl) (by kernel_rfl) (fun _ _ _ h => h) (Or.inl ⟨by rfl, ?_⟩) (by first | assumption | trivial) ?_
  rotate_left
  · intro w hSw; (try dsimp only at hSw); go_simp; try with_reducible rfl
  try simp only [Act.put, qj1, qj2, qj3, qj4, qj5, qj6]
  refine wpAnyH_take (i := 15) (oi := _) (v := ?_) rfl (by kernel_rfl) (by kernel_rfl) (by kernel_rfl) (fun _ _ _ h => h) (Or.inl ⟨by rfl, ?_⟩) (by first | assumption | trivial) ?_
  rotate_left
  · intro w hSw; (try dsimp only at hSw); go_simp; try with_reducible rfl
  try simp only [Act.put, qj1, qj2, qj3, qj4, qj5, qj6]
  refine wpAnyH_take (i := 16) (oi := _) (v := .agg #[.bool x.a0, .bool x.a1]) rfl (by kernel_rfl) (by kernel_rfl) (by kernel_rfl) (fun _ _ _ h => h) (Or.inl ⟨by rfl, ?_⟩) (by first | assumption | trivial) ?_
  · intro w hSw
    try dsimp only at hSw
    show Sem.run Tryz.prog ((Instr.loadAt 92 (.pointer (some ⟨d, 2, none⟩))) >>= fun x => pure (Next.value x)) w = _
    rw [Sem.run_bind, load_all aggB2 sizeB2 (xs := [.bool x.a0, .bool x.a1]) rfl hSw.2.2]
    rfl
  try simp only [Act.put, qj1, qj2, qj3, qj4, qj5, qj6]
  refine wpAnyH_ready (rs := [5]) (by kernel_rfl) (by simp) ?_
  refine AllReadyH.cons (o := _) rfl (fun K hK => ?_) AllReadyH.nil
  go_simp
  refine (strCopy (HT0.out.new HF1.out) (c2 + 4)).mono ?_
  rintro e w2 ⟨t0, rfl, h2, f2, l2⟩
  have HU0 := Lib.hid h2
  have HG2 := Lib.hid f2
  have HF2 := Lib.hid (HF1.out.step f2)
  clear h2 f2 l2
  refine hK.out _ _ (HS.out _ HF2.out) (fun hHeld => ?_)
  clear hK K
  try simp only [Act.put, qj1, qj2, qj3, qj4, qj5, qj6]
  refine wpAnyH_ready (rs := [11]) (by kernel_rfl) (by simp) ?_
  refine AllReadyH.cons (o := _) rfl (fun K hK => ?_) AllReadyH.nil
  go_simp
  refine (strCopy (((HT1.out.new HF1.out).ext (Ext.new w1 own (c2 + 4))).new HG2.out) (c2 + 8)).mono ?_
  rintro e w3 ⟨t1, rfl, h3, f3, l3⟩
  have HU1 := Lib.hid h3
  have HG3 := Lib.hid f3
  have HF3 := Lib.hid (HF2.out.step f3)
  clear h3 f3 l3
  refine hK.out _ _ (HS.out _ HF3.out) (fun hHeld => ?_)
  clear hK K
  try simp only [Act.put, qj1, qj2, qj3, qj4, qj5, qj6]
  refine wpAnyH_take (i := 12) (oi := _) (v := .agg #[.pointer (some ⟨t0, 0, none⟩), .pointer (some ⟨t1, 0, none⟩)]) rfl (by kernel_rfl) (by kernel_rfl) (by kernel_rfl) (fun _ _ _ h => h) (Or.inl ⟨by rfl, ?_⟩) (by first | assumption | trivial) ?_
  · intro w hSw
    try dsimp only at hSw
    exact exec_bld2 (V := .pointer (some ⟨t0, 0, none⟩)) (U := .pointer (some ⟨t1, 0, none⟩)) rfl rfl rfl (bldP2 _ _ w)
  try simp only [Act.put, qj1, qj2, qj3, qj4, qj5, qj6]
  refine wpAnyH_take (i := 17) (oi := _) (v := .agg #[.pointer (some ⟨t0, 0, none⟩), .pointer (some ⟨t1, 0, none⟩), .bool x.a0, .bool x.a1]) rfl (by kernel_rfl) (by kernel_rfl) (by kernel_rfl) (fun _ _ _ h => h) (Or.inl ⟨by rfl, ?_⟩) (by first | assumption | trivial) ?_
  · intro w hSw
    try dsimp only at hSw
    exact exec_bld2 (V := .agg #[.pointer (some ⟨t0, 0, none⟩), .pointer (some ⟨t1, 0, none⟩)]) (U := .agg #[.bool x.a0, .bool x.a1]) rfl rfl rfl (bldDx _ _ _ _ w)
  try simp only [Act.put, qj1, qj2, qj3, qj4, qj5, qj6]
  refine wpAnyH_ready (rs := [18]) (by kernel_rfl) (by simp) ?_
  refine AllReadyH.cons (o := _) rfl (fun K hK => ?_) AllReadyH.nil
  go_simp
  obtain ⟨D, hA_⟩ : ∃ A, w3.heap.size = A := ⟨_, rfl⟩
  obtain ⟨w4, hw_⟩ : ∃ z, w3.alloc (.cells #[.pointer (some ⟨t0, 0, none⟩), .pointer (some ⟨t1, 0, none⟩), .bool x.a0, .bool x.a1] 152) = z := ⟨_, rfl⟩
  have hB_ : Blk w4 D 152 [.pointer (some ⟨t0, 0, none⟩), .pointer (some ⟨t1, 0, none⟩), .bool x.a0, .bool x.a1] := by rw [← hw_, ← hA_]; exact Blk.made w3 152 _
  have hF_ : Fr [] w3 w4 := by rw [← hw_]; exact (Fr.refl [] w3).alloc _
  rw [hw_]
  simp only [hA_]
  have HD := Lib.hid hA_
  have HBD := Lib.hid hB_
  have HFw4 := Lib.hid hF_
  clear hA_ hw_ hB_ hF_
  refine hK.out _ _ (HS.out _ (HF3.out.step HFw4.out)) (fun hHeld => ?_)
  clear hK K
  try simp only [Act.put, qj1, qj2, qj3, qj4, qj5, qj6]
  refine wpAnyH_take (i := 19) (oi := _) (v := ?_) rfl (by kernel_rfl) (by kernel_rfl) (by kernel_rfl) (fun _ _ _ h => h) (Or.inl ⟨by rfl, ?_⟩) (by first | assumption | trivial) ?_
  rotate_left
  · intro w hSw; (try dsimp only at hSw); go_simp; try with_reducible rfl
  try simp only [Act.put, qj1, qj2, qj3, qj4, qj5, qj6]
  refine wpAnyH_done (by kernel_rfl) ?_ _
  clear hHeld
  go_wp2
  go_ret
  have hD := HD.out
  have z1 := HF1.out.size
  have z2 := HG2.out.size
  have z3 := HG3.out.size
  have e1 : Ext w1 own (ownNew w1 own (c2 + 4)) := Ext.new _ _ _
  have e2 : Ext w2 (ownNew w1 own (c2 + 4)) (ownNew w2 (ownNew w1 own (c2 + 4)) (c2 + 8)) := Ext.new _ _ _
  have e3 : Ext w3 (ownNew w2 (ownNew w1 own (c2 + 4)) (c2 + 8)) (ownNew w3 (ownNew w2 (ownNew w1 own (c2 + 4)) (c2 + 8)) c2) := Ext.new _ _ _
  refine ⟨D, _, rfl, ⟨ownNew_ge (own := ownNew w2 (ownNew w1 own (c2 + 4)) (c2 + 8)) (w := w3) (by omega), t0, t1, HBD.out, ((((HU0.out.ext e2).new HG3.out).ext e3).new HFw4.out), ((HU1.out.ext e3).new HFw4.out)⟩, fun z hz => ?_, HF3.out.step HFw4.out, by omega⟩
  rw [e3 z (by omega), e2 z (by omega), e1 z (by omega)]
end Go.Proofs.YtmdhlodafjpnmaaGreat
namespace Go.Proofs.YtmdhlodafjpnmaaGreat
open List renaming getElem_toArray → qj1, getElem_cons_succ → qj2, getElem_cons_zero → qj3, setIfInBounds_toArray → qj4, set_cons_zero → qj5, set_cons_succ → qj6
open Go.RowKit
set_option linter.unusedVariables false
set_option linter.unusedSimpArgs false
set_option maxRecDepth 100000
set_option maxHeartbeats 8000000

theorem aggA2 : ∀ w, (isAgg 150).run Tryz.prog w = .ok true w := fun w => by kernel_rfl
theorem sizeA2 : ∀ w, (sizeOf 150).run Tryz.prog w = .ok 2 w := fun w => by kernel_rfl
def BothN (own : Nat → Nat) (c cap : Nat) (w : World) (e : Ending) (w' : World) : Prop := ∃ (s0 s1 : Nat) (own' : Nat → Nat), e = .returned (.tuple #[.agg #[.pointer (some ⟨s0, 0, none⟩), .pointer (some ⟨s1, 0, none⟩)], .int .i64 0]) ∧ StrB w' own' (c + 4) s0 (ss0 cap) ∧ StrB w' own' (c + 8) s1 (ss0 cap) ∧ Ext w own own' ∧ Fr [] w w'
theorem bothNew (own : Nat → Nat) (c cap : Nat) (hcap : cap ≤ 4096) (hc : c % 4 = 1) (w : World) :
    Calls Tryz.prog 126 #[.agg #[.int .i64 cap, .int .i64 cap], .func (.func 127) #[] #[]] w (BothN own c cap w) := by
  obtain ⟨X, hX⟩ : ∃ A, w.heap.size = A := ⟨_, rfl⟩
  obtain ⟨wA, hwA⟩ : ∃ z, (w.alloc (.cells #[.int .i64 cap, .int .i64 cap] 201)).alloc (.cells #[.pointer none, .pointer none] 150) = z := ⟨_, rfl⟩
  have hs1 : (w.alloc (.cells #[.int .i64 cap, .int .i64 cap] 201)).heap.size = X + 1 := by rw [← hX]; simp
  have b0 : Blk wA X 201 [.int .i64 cap, .int .i64 cap] := by
    rw [← hwA, ← hX]
    exact (Blk.made w 201 _).keep ((Fr.refl [] _).alloc _) (by simp)
  have b1 : Blk wA (X + 1) 150 [.pointer none, .pointer none] := by
    have h := Blk.made (w.alloc (.cells #[.int .i64 cap, .int .i64 cap] 201)) 150 [.pointer none, .pointer none]
    rw [hs1] at h
    rw [← hwA]
    exact h
  have fA : Fr [] w wA := by rw [← hwA]; exact ((Fr.refl [] w).alloc _).alloc _
  have HB1 := Lib.hid b1
  have HFA := Lib.hid fA
  have HWA := Lib.hid hwA
  have HX := Lib.hid hX
  have k0 : wA.cell? ⟨X, 0, none⟩ = some (.int .i64 cap) := b0.at 0 _ rfl
  have k1 : wA.cell? ⟨X, 1, none⟩ = some (.int .i64 cap) := b0.at 1 _ rfl
  have hix : ∀ W : World, (Instr.index 201 (.agg #[.int .i64 cap, .int .i64 cap]) (.int .i64 0)).run Tryz.prog W = .ok (.int .i64 cap) W := fun W => by kernel_rfl
  have hix1 : ∀ W : World, (Instr.index 201 (.agg #[.int .i64 cap, .int .i64 cap]) (.int .i64 1)).run Tryz.prog W = .ok (.int .i64 cap) W := fun W => by kernel_rfl
  clear b0 b1 fA hwA hs1 hX
  go_enter Tryz.func126, Tryz.ntmps126
  go_upto_region 1 with fail
  rw [HWA.out]
  simp only [HX.out]
  go_wp2
  refine wp_loop_rounds 3 ?_
  rw [rounds_succ]
  go_wp2_with fail
  refine (strNew (ownNew w own 4) (c + 4) cap hcap wA).mono ?_
  rintro e w1 ⟨s0, rfl, h0, f1, l0⟩
  have HS0 := Lib.hid h0
  have HF1 := Lib.hid f1
  have z1 : w1.frozen? ⟨X + 1, 0, none⟩ = false := blk_frozen (HB1.out.keep f1 (by simp)) 0
  have j0 : w1.cell? ⟨X + 1, 0, none⟩ = some (.pointer none) := (HB1.out.keep f1 (by simp)).at 0 _ rfl
  have HL0 := Lib.hid l0
  clear h0 f1 l0 k0 k1
  go_wp2
  rw [rounds_succ]
  obtain ⟨w2, hw2⟩ : ∃ z, w1.setCell ⟨X + 1, 0, none⟩ (.pointer (some ⟨s0, 0, none⟩)) = z := ⟨_, rfl⟩
  rw [hw2]
  have hb2 : Blk w2 (X + 1) 150 [.pointer (some ⟨s0, 0, none⟩), .pointer none] := by rw [← hw2]; exact blk_set (HB1.out.keep HF1.out (by simp)) (k := 0) _
  have f2 : Fr [X + 1] w1 w2 := by rw [← hw2]; exact (Fr.refl _ _).setCell (fun _ => by simp) _
  have HB2 := Lib.hid hb2
  have HF2 := Lib.hid f2
  have HXL := Lib.hid (show X + 1 < wA.heap.size ∧ w.heap.size = X from ⟨HB1.out.lt, HX.out⟩)
  have HLA := Lib.hid (show ownNew wA (ownNew w own 4) (c + 4) (X + 1) = 4 from (if_pos HXL.out.1).trans (ownNew_ge (by have := HXL.out.2; omega)))
  have HS2 := Lib.hid (HS0.out.keep f2 (fun z hz hl => by
    rw [List.mem_singleton] at hz
    subst hz
    rw [HLA.out]
    omega))
  clear hw2 hb2 f2 z1 j0
  go_wp2_with fail
  refine (strNew (ownNew wA (ownNew w own 4) (c + 4)) (c + 8) cap hcap w2).mono ?_
  rintro e w3 ⟨s1, rfl, h1, f3, l1⟩
  have HS1 := Lib.hid h1
  have HF3 := Lib.hid f3
  have z1 : w3.frozen? ⟨X + 1, 1, none⟩ = false := blk_frozen (HB2.out.keep f3 (by simp)) 1
  have j0 : w3.cell? ⟨X + 1, 1, none⟩ = some (.pointer none) := (HB2.out.keep f3 (by simp)).at 1 _ rfl
  have e2 : Ext w2 (ownNew wA (ownNew w own 4) (c + 4)) (ownNew w2 (ownNew wA (ownNew w own 4) (c + 4)) (c + 8)) := Ext.new _ _ _
  have HLB := Lib.hid (show ownNew w2 (ownNew wA (ownNew w own 4) (c + 4)) (c + 8) (X + 1) = 4 from (e2 _ HB2.out.lt).trans HLA.out)
  have HS3 := Lib.hid ((HS2.out.ext e2).new f3)
  clear h1 f3 l1
  go_wp2
  rw [rounds_succ]
  obtain ⟨w4, hw4⟩ : ∃ z, w3.setCell ⟨X + 1, 1, none⟩ (.pointer (some ⟨s1, 0, none⟩)) = z := ⟨_, rfl⟩
  rw [hw4]
  have hb4 : Blk w4 (X + 1) 150 [.pointer (some ⟨s0, 0, none⟩), .pointer (some ⟨s1, 0, none⟩)] := by rw [← hw4]; exact blk_set (HB2.out.keep HF3.out (by simp)) (k := 1) _
  have f4 : Fr [X + 1] w3 w4 := by rw [← hw4]; exact (Fr.refl _ _).setCell (fun _ => by simp) _
  have HB4 := Lib.hid hb4
  have HF4 := Lib.hid f4
  clear hw4 hb4 f4 z1 j0
  go_upto_region 8 with fail
  refine wp_region_lit ?_
  refine wpList_val rfl (v := .agg ([.pointer (some ⟨s0, 0, none⟩), .pointer (some ⟨s1, 0, none⟩)]).toArray) (w' := w4) ?_ ?_
  · show Sem.run Tryz.prog ((Instr.loadAt 150 (.pointer (some ⟨(X + 1), 0, none⟩))) >>= fun x => pure (Next.value x)) w4 = _
    rw [Sem.run_bind, load_all aggA2 sizeA2 (xs := [.pointer (some ⟨s0, 0, none⟩), .pointer (some ⟨s1, 0, none⟩)]) rfl HB4.out.at]
    rfl
  try simp only [Act.put, qj1, qj2, qj3, qj4, qj5, qj6]
  obtain ⟨w5, hst, hb_, hf_⟩ := store_all (t := 150) [.pointer (some ⟨s0, 0, none⟩), .pointer (some ⟨s1, 0, none⟩)] sizeA2 rfl (fun u hu => by simp only [List.mem_cons, List.not_mem_nil, or_false] at hu; rcases hu with rfl | rfl <;> rfl) HB4.out rfl
  refine wpList_skp rfl (w' := w5) ?_ ?_
  · show Sem.run Tryz.prog ((Instr.storeAt 150 (.pointer (some ⟨(X + 1), 0, none⟩)) (.agg ([.pointer (some ⟨s0, 0, none⟩), .pointer (some ⟨s1, 0, none⟩)] : List Value).toArray)) >>= fun _ => pure Next.skip) _ = _
    rw [Sem.run_bind, hst]
    rfl
  clear hst
  try simp only [Act.put, qj1, qj2, qj3, qj4, qj5, qj6]
  refine wpList_plain rfl (fun K hK => ?_); go_simp; refine hK _ _ ?_; clear hK K
  refine wpList_nil ?_
  try simp only [Act.put, qj1, qj2, qj3, qj4, qj5, qj6]
  have hl := load_var aggA2 sizeA2 (xs := [.pointer (some ⟨s0, 0, none⟩), .pointer (some ⟨s1, 0, none⟩)]) rfl hb_.at
  go_wp2
  refine bodyPost_ret (v := .tuple #[.agg #[.pointer (some ⟨s0, 0, none⟩), .pointer (some ⟨s1, 0, none⟩)], .int .i64 0]) (by simp [results, Tryz.results126, as_addr, hl]) rfl ?_
  have hno : ∀ z ∈ [X + 1], z < w3.heap.size → ownNew w2 (ownNew wA (ownNew w own 4) (c + 4)) (c + 8) z ≠ c + 4 ∧ ownNew w2 (ownNew wA (ownNew w own 4) (c + 4)) (c + 8) z ≠ c + 8 ∧ ownNew w2 (ownNew wA (ownNew w own 4) (c + 4)) (c + 8) z ≠ 3 := fun z hz hl => by
    rw [List.mem_singleton] at hz
    subst hz
    rw [HLB.out]
    omega
  have f35 : Fr [X + 1] w3 w5 := HF4.out.trans hf_ (fun x hx _ => hx)
  have hxl := HXL.out
  have s1z := HFA.out.size
  have s2z := HF1.out.size
  have s3z := HF2.out.size
  refine ⟨s0, s1, _, rfl, HS3.out.keep f35 (fun z hz hl => ⟨(hno z hz hl).1, (hno z hz hl).2.2⟩), HS1.out.keep f35 (fun z hz hl => ⟨(hno z hz hl).2.1, (hno z hz hl).2.2⟩), fun z hz => ?_, (((HFA.out.step HF1.out).trans HF2.out (fun x hx hl => by rw [List.mem_singleton] at hx; omega)).step HF3.out).trans f35 (fun x hx hl => by rw [List.mem_singleton] at hx; omega)⟩
  rw [e2 z (by omega)]
  exact (if_pos (by omega)).trans (if_pos hz)
end Go.Proofs.YtmdhlodafjpnmaaGreat
namespace Go.Proofs.YtmdhlodafjpnmaaGreat
open List renaming getElem_toArray → qj1, getElem_cons_succ → qj2, getElem_cons_zero → qj3, setIfInBounds_toArray → qj4, set_cons_zero → qj5, set_cons_succ → qj6
open Go.RowKit
set_option linter.unusedVariables false
set_option linter.unusedSimpArgs false
set_option maxRecDepth 100000
set_option maxHeartbeats 8000000

theorem bldI2 (a b : Int) : ∀ w, (Instr.build 201 #[(0, .int .i64 a), (1, .int .i64 b)]).run Tryz.prog w = .ok (.agg #[.int .i64 a, .int .i64 b]) w := fun w => by kernel_rfl
theorem bldDx1 (a b : Nat) : ∀ w, (Instr.build 152 #[(0, .agg #[.pointer (some ⟨a, 0, none⟩), .pointer (some ⟨b, 0, none⟩)])]).run Tryz.prog w = .ok (.agg #[.pointer (some ⟨a, 0, none⟩), .pointer (some ⟨b, 0, none⟩), .bool false, .bool false]) w := fun w => by kernel_rfl
/-- An open connection that holds nothing. -/
def cc0 (cap : Int) : CC := ⟨ss0 cap, ss0 cap, false, false⟩
def NewD (own : Nat → Nat) (c cap : Nat) (w : World) (e : Ending) (w' : World) : Prop := ∃ (d : Nat) (own' : Nat → Nat), e = .returned (.tuple #[.pointer (some ⟨d, 0, none⟩), .int .i64 0]) ∧ DupB w' own' c d (cc0 cap) ∧ Ext w own own' ∧ Fr [] w w' ∧ w.heap.size ≤ d
theorem dupNewB (own : Nat → Nat) (c cap : Nat) (hcap : cap ≤ 4096) (hc : c % 4 = 1) (w : World) :
    Calls Tryz.prog 80 #[.int .i64 cap, .int .i64 cap] w (NewD own c cap w) := by
  have hbi := bldI2 cap cap
  go_enter Tryz.func80, Tryz.ntmps80
  go_upto_region 1 with fail
  refine wp_region_lit ?_
  refine wpList_plain rfl (fun K hK => ?_); go_simp; refine hK _ _ ?_; clear hK K
  refine wpList_plain rfl (fun K hK => ?_); go_simp; refine hK _ _ ?_; clear hK K
  refine wpList_plain rfl (fun K hK => ?_); go_simp; refine hK _ _ ?_; clear hK K
  refine wpList_plain rfl (fun K hK => ?_)
  go_simp
  refine (bothNew own c cap hcap hc w).mono ?_
  rintro e w1 ⟨s0, s1, own1, rfl, h0, h1, hx, f1⟩
  have HS0 := Lib.hid h0
  have HS1 := Lib.hid h1
  have HX := Lib.hid hx
  have HF1 := Lib.hid f1
  clear h0 h1 hx f1
  refine hK _ _ ?_
  clear hK K
  try simp only [Act.put, qj1, qj2, qj3, qj4, qj5, qj6]
  refine wpList_plain rfl (fun K hK => ?_); go_simp; refine hK _ _ ?_; clear hK K
  refine wpList_plain rfl (fun K hK => ?_); go_simp; refine hK _ _ ?_; clear hK K
  refine wpList_plain rfl (fun K hK => ?_); go_simp; refine hK _ _ ?_; clear hK K
  try simp only [Act.put, qj1, qj2, qj3, qj4, qj5, qj6]
  refine wpList_plain rfl (fun K hK => ?_); go_simp; refine hK _ _ ?_; clear hK K
  try simp only [Act.put, qj1, qj2, qj3, qj4, qj5, qj6]
  obtain ⟨Q, hA_⟩ : ∃ A, w1.heap.size = A := ⟨_, rfl⟩
  obtain ⟨w2, hw_⟩ : ∃ z, w1.alloc (.cells #[.pointer none, .pointer none] 150) = z := ⟨_, rfl⟩
  have hB_ : Blk w2 Q 150 [.pointer none, .pointer none] := by rw [← hw_, ← hA_]; exact Blk.made w1 150 _
  have hF_ : Fr [] w1 w2 := by rw [← hw_]; exact (Fr.refl [] w1).alloc _
  rw [hw_]
  simp only [hA_]
  have HQ := Lib.hid hA_
  have HBQ := Lib.hid hB_
  have HFw2 := Lib.hid hF_
  clear hA_ hw_ hB_ hF_
  obtain ⟨w3, hst, hb_, hf_⟩ := store_all (t := 150) [.pointer (some ⟨s0, 0, none⟩), .pointer (some ⟨s1, 0, none⟩)] sizeA2 rfl (fun u hu => by simp only [List.mem_cons, List.not_mem_nil, or_false] at hu; rcases hu with rfl | rfl <;> rfl) HBQ.out rfl
  refine wpList_skp rfl (w' := w3) ?_ ?_
  · show Sem.run Tryz.prog ((Instr.storeAt 150 (.pointer (some ⟨Q, 0, none⟩)) (.agg ([.pointer (some ⟨s0, 0, none⟩), .pointer (some ⟨s1, 0, none⟩)] : List Value).toArray)) >>= fun _ => pure Next.skip) _ = _
    rw [Sem.run_bind, hst]
    rfl
  clear hst
  try simp only [Act.put, qj1, qj2, qj3, qj4, qj5, qj6]
  refine wpList_plain rfl (fun K hK => ?_); go_simp; refine hK _ _ ?_; clear hK K
  refine wpList_nil ?_
  try simp only [Act.put, qj1, qj2, qj3, qj4, qj5, qj6]
  have HQ3 := Lib.hid hb_
  have HF3 := Lib.hid (show Fr [] w1 w3 from HFw2.out.trans hf_ (fun x hx hl => by rw [List.mem_singleton] at hx; have := HQ.out; omega))
  clear hb_ hf_
  have hbd := bldDx1 s0 s1
  go_upto_region 4 with fail
  refine wp_region_lit ?_
  refine wpList_val rfl (v := .agg ([.pointer (some ⟨s0, 0, none⟩), .pointer (some ⟨s1, 0, none⟩)]).toArray) (w' := w3) ?_ ?_
  · show Sem.run Tryz.prog ((Instr.loadAt 150 (.pointer (some ⟨Q, 0, none⟩))) >>= fun x => pure (Next.value x)) w3 = _
    rw [Sem.run_bind, load_all aggA2 sizeA2 (xs := [.pointer (some ⟨s0, 0, none⟩), .pointer (some ⟨s1, 0, none⟩)]) rfl HQ3.out.at]
    rfl
  try simp only [Act.put, qj1, qj2, qj3, qj4, qj5, qj6]
  refine wpList_plain rfl (fun K hK => ?_); go_simp; refine hK _ _ ?_; clear hK K
  try simp only [Act.put, qj1, qj2, qj3, qj4, qj5, qj6]
  refine wpList_plain rfl (fun K hK => ?_); go_simp; refine hK _ _ ?_; clear hK K
  try simp only [Act.put, qj1, qj2, qj3, qj4, qj5, qj6]
  obtain ⟨D, hA_⟩ : ∃ A, w3.heap.size = A := ⟨_, rfl⟩
  obtain ⟨w4, hw_⟩ : ∃ z, w3.alloc (.cells #[.pointer (some ⟨s0, 0, none⟩), .pointer (some ⟨s1, 0, none⟩), .bool false, .bool false] 152) = z := ⟨_, rfl⟩
  have hB_ : Blk w4 D 152 [.pointer (some ⟨s0, 0, none⟩), .pointer (some ⟨s1, 0, none⟩), .bool false, .bool false] := by rw [← hw_, ← hA_]; exact Blk.made w3 152 _
  have hF_ : Fr [] w3 w4 := by rw [← hw_]; exact (Fr.refl [] w3).alloc _
  rw [hw_]
  simp only [hA_]
  have HD := Lib.hid hA_
  have HBD := Lib.hid hB_
  have HFw4 := Lib.hid hF_
  clear hA_ hw_ hB_ hF_
  refine wpList_plain rfl (fun K hK => ?_); go_simp; refine hK _ _ ?_; clear hK K
  refine wpList_plain rfl (fun K hK => ?_); go_simp; refine hK _ _ ?_; clear hK K
  refine wpList_nil ?_
  try simp only [Act.put, qj1, qj2, qj3, qj4, qj5, qj6]
  go_wp2
  refine bodyPost_ret (v := .tuple #[.pointer (some ⟨D, 0, none⟩), .int .i64 0]) (by simp [results, Tryz.results80]) rfl ?_
  have hD := HD.out
  have z1 := HF1.out.size
  have z3 := HF3.out.size
  have e3 : Ext w3 own1 (ownNew w3 own1 c) := Ext.new _ _ _
  exact ⟨D, _, rfl, ⟨ownNew_ge (own := own1) (w := w3) (by omega), s0, s1, HBD.out, ((HS0.out.new HF3.out).ext e3).new HFw4.out, ((HS1.out.new HF3.out).ext e3).new HFw4.out⟩, fun z hz => (e3 z (by omega)).trans (HX.out z hz), (HF1.out.step HF3.out).step HFw4.out, by omega⟩
end Go.Proofs.YtmdhlodafjpnmaaGreat
