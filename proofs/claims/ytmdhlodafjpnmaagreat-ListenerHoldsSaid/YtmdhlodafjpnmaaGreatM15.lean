/- Streams: refill. -/
/- Streams: State. -/
import Derived.Test.YtmdhlodafjpnmaaGreatM10
namespace Go.Proofs.YtmdhlodafjpnmaaGreat
open List renaming getElem_toArray → qj1, getElem_cons_succ → qj2, getElem_cons_zero → qj3, setIfInBounds_toArray → qj4, set_cons_zero → qj5, set_cons_succ → qj6
open Go.RowKit
set_option linter.unusedVariables false
set_option linter.unusedSimpArgs false
set_option maxRecDepth 100000
set_option maxHeartbeats 4000000

theorem fill_dm (n : Nat) (W : World) : (method (n + 1) 246 (.agg #[]) "aqueduct/stream.fill").run Tryz.prog W = .ok (208, .agg #[]) W := by kernel_rfl
theorem fill_bm (r n : Nat) (W : World) : (method (n + 1) 251 (.agg #[.pointer (some ⟨r, 0, none⟩)]) "aqueduct/stream.fill").run Tryz.prog W = .ok (217, .agg #[.pointer (some ⟨r, 0, none⟩)]) W := by kernel_rfl
theorem take_dm (n : Nat) (W : World) : (method (n + 1) 246 (.agg #[]) "aqueduct/stream.take").run Tryz.prog W = .ok (211, .agg #[]) W := by kernel_rfl
theorem take_bm (r n : Nat) (W : World) : (method (n + 1) 251 (.agg #[.pointer (some ⟨r, 0, none⟩)]) "aqueduct/stream.take").run Tryz.prog W = .ok (220, .agg #[.pointer (some ⟨r, 0, none⟩)]) W := by kernel_rfl
theorem held_dm (n : Nat) (W : World) : (method (n + 1) 246 (.agg #[]) "aqueduct/stream.held").run Tryz.prog W = .ok (209, .agg #[]) W := by kernel_rfl
theorem held_bm (r n : Nat) (W : World) : (method (n + 1) 251 (.agg #[.pointer (some ⟨r, 0, none⟩)]) "aqueduct/stream.held").run Tryz.prog W = .ok (218, .agg #[.pointer (some ⟨r, 0, none⟩)]) W := by kernel_rfl
theorem again_dm (n : Nat) (W : World) : (method (n + 1) 246 (.agg #[]) "aqueduct/stream.again").run Tryz.prog W = .ok (207, .agg #[]) W := by kernel_rfl
theorem again_bm (r n : Nat) (W : World) : (method (n + 1) 251 (.agg #[.pointer (some ⟨r, 0, none⟩)]) "aqueduct/stream.again").run Tryz.prog W = .ok (216, .agg #[.pointer (some ⟨r, 0, none⟩)]) W := by kernel_rfl
theorem room_dm (n : Nat) (W : World) : (method (n + 1) 246 (.agg #[]) "aqueduct/stream.room").run Tryz.prog W = .ok (210, .agg #[]) W := by kernel_rfl
theorem room_bm (r n : Nat) (W : World) : (method (n + 1) 251 (.agg #[.pointer (some ⟨r, 0, none⟩)]) "aqueduct/stream.room").run Tryz.prog W = .ok (219, .agg #[.pointer (some ⟨r, 0, none⟩)]) W := by kernel_rfl

/-- What a call makes of a stream that belongs to c. -/
def StrOut (own : Nat → Nat) (c s : Nat) (x : SS) (w w' : World) : Prop := ∃ own', Ext w own own' ∧ StrA w' own' c s x ∧ FrO own (fun z => z = c) w w'
theorem StrOut.refl {own : Nat → Nat} {c s : Nat} {x : SS} {w : World} (h : StrA w own c s x) : StrOut own c s x w w := ⟨own, Ext.refl _ _, h, FrO.new (Fr.refl [] w)⟩
theorem StrOut.new {own : Nat → Nat} {c s : Nat} {x : SS} {w w' : World} (h : StrA w own c s x) (f : Fr [] w w') : StrOut own c s x w w' := ⟨own, Ext.refl _ _, h.new f, FrO.new f⟩
theorem StrOut.more {own : Nat → Nat} {c s : Nat} {x : SS} {w w' w'' : World} (h : StrOut own c s x w w') (f : Fr [] w' w'') : StrOut own c s x w w'' := by
  obtain ⟨o, h1, h2, h3⟩ := h
  exact ⟨o, h1, h2.new f, h3.trans (FrO.new (own := own) f) (Ext.refl _ _)⟩
theorem strRefill {w : World} {own : Nat → Nat} {c s : Nat} {x : SS} (h : StrA w own c s x) (ok : StOk0 x) (hc3 : c ≠ 3) :
    Calls Tryz.prog 132 #[.pointer (some ⟨s, 0, none⟩)] w fun e w' => e = .returned (.tuple #[]) ∧ StrOut own c s x.fill w w' := by
  have HH := Lib.hid h
  obtain ⟨st, p, hb, hs, hr⟩ := h.at_
  have c1 : w.cell? ⟨s, 1, none⟩ = some (.bool x.busy) := hb.at 1 _ rfl
  have HO := Lib.hid (strOpen h)
  cases hbz : x.busy with
  | false =>
    rw [hbz] at c1
    have hf : x.fill = x := by unfold SS.fill; rw [hbz]; rfl
    rw [hf]
    clear h hb hs hr
    go_enter Tryz.func132, Tryz.ntmps132
    go_wp2
    go_end0
    exact ⟨rfl, StrOut.refl HH.out⟩
  | true =>
    rw [hbz] at c1
    cases hoz : x.isOpen with
    | false =>
      rw [hoz] at HO
      have hf : x.fill = x := by unfold SS.fill; rw [hbz, hoz]; rfl
      rw [hf]
      clear h hb hs hr
      go_enter Tryz.func132, Tryz.ntmps132
      go_wp2_with (go_at_call 131; refine HO.out.mono ?_; rintro e w' ⟨rfl, rfl⟩)
      go_end0
      exact ⟨rfl, StrOut.refl HH.out⟩
    | true =>
      rw [hoz] at HO
      obtain ⟨n, hn⟩ : ∃ n, x.fillN = n := ⟨_, rfl⟩
      have hf : x.fill = { x with buf := x.buf ++ x.rest.take n, rest := x.rest.drop n, acc := x.acc + (n : Nat) } := by unfold SS.fill; rw [hbz, hoz, hn]; rfl
      rw [hf]
      have HB := Lib.hid hb
      have HR := Lib.hid hr
      have HOS := Lib.hid h.os
      have HN := Lib.hid hn
      have HBZ := Lib.hid hbz
      have a0 := ok.acc0
      have a1 := ok.acc1
      have hnr : n ≤ x.rest.length := by rw [← hn]; unfold SS.fillN; omega
      have hwa : IntKind.i64.wrap (x.acc + (n : Int)) = x.acc + (n : Int) := IntWalk.i64_in _ (by omega)
      obtain ⟨wd, hwd⟩ : ∃ z, w.drew = z := ⟨_, rfl⟩
      have fd : Fr [] w wd := by rw [← hwd]; exact (Fr.refl [] w).drew
      have HFD := Lib.hid fd
      have HWD := Lib.hid hwd
      have k0 : w.cell? ⟨s, 0, none⟩ = some st := hb.at 0 _ rfl
      have k4 : w.cell? ⟨s, 4, none⟩ = some (.int .i64 x.acc) := hb.at 4 _ rfl
      have K04 := Lib.hid (And.intro k0 k4)
      have OKK := Lib.hid ok
      have HSZ := Lib.hid (show ∀ (W : World) (p2 : Sli), stB { x with buf := x.buf ++ x.rest.take n, rest := x.rest.drop n, acc := x.acc + (n : Nat) } st p2 = (ropeIn [st, .bool x.busy] p2 (x.rest.drop n).length [.int .i64 x.acc, .int .i64 x.wr, .int .i64 x.rd]).take 4 ++ [.int .i64 (x.acc + (n : Int))] ++ (ropeIn [st, .bool x.busy] p2 (x.rest.drop n).length [.int .i64 x.acc, .int .i64 x.wr, .int .i64 x.rd]).drop 5 from fun W p2 => rfl)
      clear hb hr fd hwd k0 k4 hn hf hbz ok
      rcases hs with ⟨hcap, hbuf, rfl⟩ | ⟨r, g, l, cp, f, k, h1, h2, h3, h4, h5, h6, h7, h8, h9, rfl⟩
      · skip
        have hn0 : n = 0 := by rw [← HN.out]; unfold SS.fillN; rw [hcap]; simp
        have HN0 := Lib.hid hn0
        have hwa0 : IntKind.i64.wrap (x.acc + 0) = x.acc := by rw [IntWalk.i64_in _ (by omega)]; omega
        have hwa1 : IntKind.i64.wrap x.acc = x.acc := IntWalk.i64_in _ (by omega)
        have HCB := Lib.hid (And.intro hcap hbuf)
        clear hn0 hcap hbuf
        have hm := fill_dm
        clear h
        go_enter Tryz.func132, Tryz.ntmps132
        go_wp2_with fail
        refine HO.out.mono ?_
        rintro e w' ⟨rfl, rfl⟩
        go_upto_region 1 with fail
        refine wp_region_held_drew (S := fun W => W.cell? ⟨s, 0, none⟩ = some (.iface 246 (.agg #[])) ∧ W.cell? ⟨s, 4, none⟩ = some (.int .i64 x.acc)) (by kernel_rfl) (by rw [HWD.out]; exact ⟨HFD.out.keep K04.out.1 (by simp), HFD.out.keep K04.out.2 (by simp)⟩) (fun hHeld => ?_)
        rw [HWD.out] at hHeld ⊢
        refine wpAnyH_take (i := 0) (oi := _) (v := ?_) rfl (by kernel_rfl) (by kernel_rfl) (by kernel_rfl) (fun _ _ _ h => h) (Or.inl ⟨by rfl, ?_⟩) (by first | assumption | trivial) ?_
        rotate_left
        · intro w hSw; (try dsimp only at hSw); go_simp; try with_reducible rfl
        try simp only [Act.put, qj1, qj2, qj3, qj4, qj5, qj6]
        refine wpAnyH_take (i := 1) (oi := _) (v := ?_) rfl (by kernel_rfl) (by kernel_rfl) (by kernel_rfl) (fun _ _ _ h => h) (Or.inl ⟨by rfl, ?_⟩) (by first | assumption | trivial) ?_
        rotate_left
        · intro w hSw; (try dsimp only at hSw); go_simp; try with_reducible rfl
        try simp only [Act.put, qj1, qj2, qj3, qj4, qj5, qj6]
        refine wpAnyH_take (i := 2) (oi := _) (v := ?_) rfl (by kernel_rfl) (by kernel_rfl) (by kernel_rfl) (fun _ _ _ h => h) (Or.inl ⟨by rfl, ?_⟩) (by first | assumption | trivial) ?_
        rotate_left
        · intro w hSw; (try dsimp only at hSw); go_simp; try with_reducible rfl
        try simp only [Act.put, qj1, qj2, qj3, qj4, qj5, qj6]
        refine wpAnyH_take (i := 3) (oi := _) (v := ?_) rfl (by kernel_rfl) (by kernel_rfl) (by kernel_rfl) (fun _ _ _ h => h) (Or.inl ⟨by rfl, ?_⟩) (by first | assumption | trivial) ?_
        rotate_left
        · intro w hSw; (try dsimp only at hSw); go_simp; try with_reducible rfl
        try simp only [Act.put, qj1, qj2, qj3, qj4, qj5, qj6]
        refine wpAnyH_take (i := 4) (oi := _) (v := ?_) rfl (by kernel_rfl) (by kernel_rfl) (by kernel_rfl) (fun _ _ _ h => h) (Or.inl ⟨by rfl, ?_⟩) (by first | assumption | trivial) ?_
        rotate_left
        · intro w hSw; (try dsimp only at hSw); go_simp; try with_reducible rfl
        try simp only [Act.put, qj1, qj2, qj3, qj4, qj5, qj6]
        refine wpAnyH_take (i := 5) (oi := _) (v := ?_) rfl (by kernel_rfl) (by kernel_rfl) (by kernel_rfl) (fun _ _ _ h => h) (Or.inl ⟨by rfl, ?_⟩) (by first | assumption | trivial) ?_
        rotate_left
        · intro w hSw; (try dsimp only at hSw); go_simp; try with_reducible rfl
        try simp only [Act.put, qj1, qj2, qj3, qj4, qj5, qj6]
        refine wpAnyH_take (i := 6) (oi := _) (v := ?_) rfl (by kernel_rfl) (by kernel_rfl) (by kernel_rfl) (fun _ _ _ h => h) (Or.inl ⟨by rfl, ?_⟩) (by first | assumption | trivial) ?_
        rotate_left
        · intro w hSw; (try dsimp only at hSw); go_simp; try with_reducible rfl
        try simp only [Act.put, qj1, qj2, qj3, qj4, qj5, qj6]
        refine wpAnyH_take (i := 7) (oi := _) (v := ?_) rfl (by kernel_rfl) (by kernel_rfl) (by kernel_rfl) (fun _ _ _ h => h) (Or.inl ⟨by rfl, ?_⟩) (by first | assumption | trivial) ?_
        rotate_left
        · intro w hSw; (try dsimp only at hSw); go_simp; try with_reducible rfl
        try simp only [Act.put, qj1, qj2, qj3, qj4, qj5, qj6]
        refine wpAnyH_take (i := 8) (oi := _) (v := ?_) rfl (by kernel_rfl) (by kernel_rfl) (by kernel_rfl) (fun _ _ _ h => h) (Or.inl ⟨by rfl, ?_⟩) (by first | assumption | trivial) ?_
        rotate_left
        · intro w hSw; (try dsimp only at hSw); go_simp; try with_reducible rfl
        try simp only [Act.put, qj1, qj2, qj3, qj4, qj5, qj6]
        refine wpAnyH_take (i := 9) (oi := _) (v := ?_) rfl (by kernel_rfl) (by kernel_rfl) (by kernel_rfl) (fun _ _ _ h => h) (Or.inl ⟨by rfl, ?_⟩) (by first | assumption | trivial) ?_
        rotate_left
        · intro w hSw; (try dsimp only at hSw); go_simp; try with_reducible rfl
        try simp only [Act.put, qj1, qj2, qj3, qj4, qj5, qj6]
        refine wpAnyH_take (i := 10) (oi := _) (v := ?_) rfl (by kernel_rfl) (by kernel_rfl) (by kernel_rfl) (fun _ _ _ h => h) (Or.inl ⟨by rfl, ?_⟩) (by first | assumption | trivial) ?_
        rotate_left
        · intro w hSw; (try dsimp only at hSw); go_simp; try with_reducible rfl
        try simp only [Act.put, qj1, qj2, qj3, qj4, qj5, qj6]
        refine wpAnyH_take (i := 11) (oi := _) (v := ?_) rfl (by kernel_rfl) (by kernel_rfl) (by kernel_rfl) (fun _ _ _ h => h) (Or.inl ⟨by rfl, ?_⟩) (by first | assumption | trivial) ?_
        rotate_left
        · intro w hSw; (try dsimp only at hSw); go_simp; try with_reducible rfl
        try simp only [Act.put, qj1, qj2, qj3, qj4, qj5, qj6]
        refine wpAnyH_take (i := 12) (oi := _) (v := ?_) rfl (by kernel_rfl) (by kernel_rfl) (by kernel_rfl) (fun _ _ _ h => h) (Or.inl ⟨by rfl, ?_⟩) (by first | assumption | trivial) ?_
        rotate_left
        · intro w hSw; (try dsimp only at hSw); go_simp; try with_reducible rfl
        try simp only [Act.put, qj1, qj2, qj3, qj4, qj5, qj6]
        refine wpAnyH_ready (rs := [13]) (by kernel_rfl) (by simp) ?_
        refine AllReadyH.cons (o := _) rfl (fun K hK => ?_) AllReadyH.nil
        go_simp
        refine (fill_direct _ wd).mono ?_
        rintro e w2 ⟨rfl, f2⟩
        have HF2 := Lib.hid f2
        clear f2
        refine hK.out _ _ (⟨HF2.out.keep hHeld.1 (by simp), HF2.out.keep hHeld.2 (by simp)⟩) (fun hHeld => ?_)
        clear hK K
        try simp only [Act.put, qj1, qj2, qj3, qj4, qj5, qj6]
        refine wpAnyH_take (i := 14) (oi := _) (v := ?_) rfl (by kernel_rfl) (by kernel_rfl) (by kernel_rfl) (fun _ _ _ h => h) (Or.inl ⟨by rfl, ?_⟩) (by first | assumption | trivial) ?_
        rotate_left
        · intro w hSw; (try dsimp only at hSw); go_simp; try with_reducible rfl
        try simp only [Act.put, qj1, qj2, qj3, qj4, qj5, qj6]
        refine wpAnyH_take (i := 15) (oi := _) (v := ?_) rfl (by kernel_rfl) (by kernel_rfl) (by kernel_rfl) (fun _ _ _ h => h) (Or.inl ⟨by rfl, ?_⟩) (by first | assumption | trivial) ?_
        rotate_left
        · intro w hSw; (try dsimp only at hSw); go_simp; try with_reducible rfl
        try simp only [Act.put, qj1, qj2, qj3, qj4, qj5, qj6]
        refine wpAnyH_take (i := 16) (oi := _) (v := ?_) rfl (by kernel_rfl) (by kernel_rfl) (by kernel_rfl) (fun _ _ _ h => h) (Or.inl ⟨by rfl, ?_⟩) (by first | assumption | trivial) ?_
        rotate_left
        · intro w hSw; (try dsimp only at hSw); go_simp; try with_reducible rfl
        try simp only [Act.put, qj1, qj2, qj3, qj4, qj5, qj6]
        refine wpAnyH_ready (rs := [17]) (by kernel_rfl) (by simp) ?_
        refine AllReadyH.cons (o := _) rfl (fun K hK => ?_) AllReadyH.nil
        obtain ⟨w3, hst, hb_, hf_⟩ := store_cell (t := 3) (o := 4) (.int .i64 x.acc) size3 rfl rfl ((HB.out.keep HFD.out (by simp)).keep HF2.out (by simp)) (by simp [stB])
        split
        rotate_left
        · rename_i hno
          exact absurd rfl hno
        refine wp_skp (w' := w3) ?_ ?_
        · show Sem.run Tryz.prog ((Instr.storeAt 3 (.pointer (some ⟨s, 4, none⟩)) (.int .i64 x.acc)) >>= fun _ => pure Next.skip) _ = _
          rw [Sem.run_bind, hst]
          rfl
        clear hst
        have HB3 := Lib.hid (show Blk w3 s 209 (stB x (.iface 246 (.agg #[])) p) from hb_)
        have HF3 := Lib.hid hf_
        clear hb_ hf_
        refine hK.out _ _ (⟨HB3.out.at 0 _ rfl, HB3.out.at 4 _ rfl⟩) (fun hHeld => ?_)
        clear hK K
        try simp only [Act.put, qj1, qj2, qj3, qj4, qj5, qj6]
        refine wpAnyH_done (by kernel_rfl) ?_ _
        clear hHeld
        go_end0
        have f3 : Fr [s] w w3 := ((HFD.out.step HF2.out).mono (fun x hx _ => by cases hx)).trans HF3.out (fun x hx _ => hx)
        have hx : ({ x with buf := x.buf ++ x.rest.take n, rest := x.rest.drop n, acc := x.acc + (n : Nat) } : SS) = x := by rw [HN0.out]; cases x; simp
        rw [hx]
        exact ⟨rfl, own, Ext.refl _ _, ⟨HOS.out, _, p, HB3.out, .inl ⟨HCB.out.1, HCB.out.2, rfl⟩, HR.out.keep f3 (fun z hz hl => by rw [List.mem_singleton] at hz; subst hz; rw [HOS.out]; exact hc3)⟩, FrO.of f3 (fun z hz => by rw [List.mem_singleton] at hz; subst hz; exact HOS.out)⟩
      · skip
        have hcl := h9.hl
        have hnk : min (l.length - k) x.rest.length = n := by rw [← HN.out]; unfold SS.fillN; rw [← h6, h8]; simp
        have hlen : (x.rest.take n).length = n := by rw [List.length_take]; omega
        obtain ⟨s1, hs1⟩ : ∃ z, x.rest.take n = z := ⟨_, rfl⟩
        obtain ⟨s2, hs2⟩ : ∃ z, x.rest.drop n = z := ⟨_, rfl⟩
        have HFILL := Lib.hid (fill_ring (h9.new HFD.out) h5 (HR.out.new HFD.out) (by omega) (q := s) (t := 209) (pre := [.iface 251 (.agg #[.pointer (some ⟨r, 0, none⟩)]), .bool x.busy]) (post := [.int .i64 x.acc, .int .i64 x.wr, .int .i64 x.rd]) (HB.out.keep HFD.out (by simp)) (Ne.symm h3) (Ne.symm h4) ⟨by rw [HOS.out]; exact hc3, by rw [h1]; exact hc3, by rw [h2]; exact hc3⟩ n hnk)
        rw [hs1, hs2] at HFILL HSZ
        rw [hs1] at hlen
        rw [hs1, hs2]
        have hwa2 : IntKind.i64.wrap (x.acc + (s1.length : Int)) = x.acc + (n : Int) := by rw [hlen]; exact hwa
        have HS1 := Lib.hid (And.intro hs1 (And.intro hs2 hlen))
        have HRI := Lib.hid (And.intro h1 (And.intro h2 (And.intro h3 (And.intro h4 h5))))
        have HRG := Lib.hid h9
        have HCC := Lib.hid (And.intro h6 (And.intro h7 h8))
        have hm := fill_bm r
        have HNK := Lib.hid hnk
        have HKB := Lib.hid (And.intro h9.hf h9.hn)
        clear h1 h2 h3 h4 h5 h6 h7 h8 h9 hs1 hs2 hlen hnk h hwa
        go_enter Tryz.func132, Tryz.ntmps132
        go_wp2_with fail
        refine HO.out.mono ?_
        rintro e w' ⟨rfl, rfl⟩
        go_upto_region 1 with fail
        refine wp_region_held_drew (S := fun W => W.cell? ⟨s, 0, none⟩ = some (.iface 251 (.agg #[.pointer (some ⟨r, 0, none⟩)]))) (by kernel_rfl) (by rw [HWD.out]; exact HFD.out.keep K04.out.1 (by simp)) (fun hHeld => ?_)
        rw [HWD.out] at hHeld ⊢
        refine wpAnyH_take (i := 0) (oi := _) (v := ?_) rfl (by kernel_rfl) (by kernel_rfl) (by kernel_rfl) (fun _ _ _ h => h) (Or.inl ⟨by rfl, ?_⟩) (by first | assumption | trivial) ?_
        rotate_left
        · intro w hSw; (try dsimp only at hSw); go_simp; try with_reducible rfl
        try simp only [Act.put, qj1, qj2, qj3, qj4, qj5, qj6]
        refine wpAnyH_take (i := 1) (oi := _) (v := ?_) rfl (by kernel_rfl) (by kernel_rfl) (by kernel_rfl) (fun _ _ _ h => h) (Or.inl ⟨by rfl, ?_⟩) (by first | assumption | trivial) ?_
        rotate_left
        · intro w hSw; (try dsimp only at hSw); go_simp; try with_reducible rfl
        try simp only [Act.put, qj1, qj2, qj3, qj4, qj5, qj6]
        refine wpAnyH_take (i := 2) (oi := _) (v := ?_) rfl (by kernel_rfl) (by kernel_rfl) (by kernel_rfl) (fun _ _ _ h => h) (Or.inl ⟨by rfl, ?_⟩) (by first | assumption | trivial) ?_
        rotate_left
        · intro w hSw; (try dsimp only at hSw); go_simp; try with_reducible rfl
        try simp only [Act.put, qj1, qj2, qj3, qj4, qj5, qj6]
        refine wpAnyH_take (i := 4) (oi := _) (v := ?_) rfl (by kernel_rfl) (by kernel_rfl) (by kernel_rfl) (fun _ _ _ h => h) (Or.inl ⟨by rfl, ?_⟩) (by first | assumption | trivial) ?_
        rotate_left
        · intro w hSw; (try dsimp only at hSw); go_simp; try with_reducible rfl
        try simp only [Act.put, qj1, qj2, qj3, qj4, qj5, qj6]
        refine wpAnyH_take (i := 5) (oi := _) (v := ?_) rfl (by kernel_rfl) (by kernel_rfl) (by kernel_rfl) (fun _ _ _ h => h) (Or.inl ⟨by rfl, ?_⟩) (by first | assumption | trivial) ?_
        rotate_left
        · intro w hSw; (try dsimp only at hSw); go_simp; try with_reducible rfl
        try simp only [Act.put, qj1, qj2, qj3, qj4, qj5, qj6]
        refine wpAnyH_take (i := 6) (oi := _) (v := ?_) rfl (by kernel_rfl) (by kernel_rfl) (by kernel_rfl) (fun _ _ _ h => h) (Or.inl ⟨by rfl, ?_⟩) (by first | assumption | trivial) ?_
        rotate_left
        · intro w hSw; (try dsimp only at hSw); go_simp; try with_reducible rfl
        try simp only [Act.put, qj1, qj2, qj3, qj4, qj5, qj6]
        refine wpAnyH_take (i := 7) (oi := _) (v := .iface 251 (.agg #[.pointer (some ⟨r, 0, none⟩)])) rfl (by kernel_rfl) (by kernel_rfl) (by kernel_rfl) (fun _ _ _ h => h) (Or.inl ⟨by rfl, ?_⟩) (by first | assumption | trivial) ?_
        · intro w hSw
          try dsimp only at hSw
          go_simp
        try simp only [Act.put, qj1, qj2, qj3, qj4, qj5, qj6]
        refine wpAnyH_take (i := 8) (oi := _) (v := ?_) rfl (by kernel_rfl) (by kernel_rfl) (by kernel_rfl) (fun _ _ _ h => h) (Or.inl ⟨by rfl, ?_⟩) (by first | assumption | trivial) ?_
        rotate_left
        · intro w hSw; (try dsimp only at hSw); go_simp; try with_reducible rfl
        try simp only [Act.put, qj1, qj2, qj3, qj4, qj5, qj6]
        refine wpAnyH_take (i := 9) (oi := _) (v := ?_) rfl (by kernel_rfl) (by kernel_rfl) (by kernel_rfl) (fun _ _ _ h => h) (Or.inl ⟨by rfl, ?_⟩) (by first | assumption | trivial) ?_
        rotate_left
        · intro w hSw; (try dsimp only at hSw); go_simp; try with_reducible rfl
        try simp only [Act.put, qj1, qj2, qj3, qj4, qj5, qj6]
        refine wpAnyH_take (i := 10) (oi := _) (v := ?_) rfl (by kernel_rfl) (by kernel_rfl) (by kernel_rfl) (fun _ _ _ h => h) (Or.inl ⟨by rfl, ?_⟩) (by first | assumption | trivial) ?_
        rotate_left
        · intro w hSw; (try dsimp only at hSw); go_simp; try with_reducible rfl
        try simp only [Act.put, qj1, qj2, qj3, qj4, qj5, qj6]
        refine wpAnyH_take (i := 11) (oi := _) (v := ?_) rfl (by kernel_rfl) (by kernel_rfl) (by kernel_rfl) (fun _ _ _ h => h) (Or.inl ⟨by rfl, ?_⟩) (by first | assumption | trivial) ?_
        rotate_left
        · intro w hSw; (try dsimp only at hSw); go_simp; try with_reducible rfl
        try simp only [Act.put, qj1, qj2, qj3, qj4, qj5, qj6]
        refine wpAnyH_take (i := 12) (oi := _) (v := ?_) rfl (by kernel_rfl) (by kernel_rfl) (by kernel_rfl) (fun _ _ _ h => h) (Or.inl ⟨by rfl, ?_⟩) (by first | assumption | trivial) ?_
        rotate_left
        · intro w hSw; (try dsimp only at hSw); go_simp; try with_reducible rfl
        try simp only [Act.put, qj1, qj2, qj3, qj4, qj5, qj6]
        refine wpAnyH_ready (rs := [3, 13]) (by kernel_rfl) (by simp) ?_
        refine AllReadyH.cons (o := _) rfl (fun K hK => ?_) (AllReadyH.cons (o := _) rfl (fun K hK => ?_) AllReadyH.nil)
        · skip
          have ka : wd.cell? ⟨s, 4, none⟩ = some (.int .i64 x.acc) := HFD.out.keep K04.out.2 (by simp)
          go_simp
          clear ka
          refine hK.out _ _ (hHeld) (fun hHeld => ?_)
          clear hK K
          try simp only [Act.put, qj1, qj2, qj3, qj4, qj5, qj6]
          refine wpAnyH_ready (rs := [13]) (by kernel_rfl) (by simp) ?_
          refine AllReadyH.cons (o := _) rfl (fun K hK => ?_) AllReadyH.nil
          go_simp
          refine HFILL.out.mono ?_
          rintro e w2 ⟨p2, own2, rfl, hr2, hp2, hq2, hx2, f2⟩
          have HR2 := Lib.hid hr2
          have HP2 := Lib.hid hp2
          have HQ2 := Lib.hid hq2
          have HX2 := Lib.hid hx2
          have HF2 := Lib.hid f2
          clear hr2 hp2 hq2 hx2 f2
          refine hK.out _ _ (HQ2.out.at 0 _ rfl) (fun hHeld => ?_)
          clear hK K
          try simp only [Act.put, qj1, qj2, qj3, qj4, qj5, qj6]
          refine wpAnyH_take (i := 14) (oi := _) (v := ?_) rfl (by kernel_rfl) (by kernel_rfl) (by kernel_rfl) (fun _ _ _ h => h) (Or.inl ⟨by rfl, ?_⟩) (by first | assumption | trivial) ?_
          rotate_left
          · intro w hSw; (try dsimp only at hSw); go_simp; try with_reducible rfl
          try simp only [Act.put, qj1, qj2, qj3, qj4, qj5, qj6]
          refine wpAnyH_take (i := 15) (oi := _) (v := ?_) rfl (by kernel_rfl) (by kernel_rfl) (by kernel_rfl) (fun _ _ _ h => h) (Or.inl ⟨by rfl, ?_⟩) (by first | assumption | trivial) ?_
          rotate_left
          · intro w hSw; (try dsimp only at hSw); go_simp; try with_reducible rfl
          try simp only [Act.put, qj1, qj2, qj3, qj4, qj5, qj6]
          refine wpAnyH_take (i := 16) (oi := _) (v := ?_) rfl (by kernel_rfl) (by kernel_rfl) (by kernel_rfl) (fun _ _ _ h => h) (Or.inl ⟨by rfl, ?_⟩) (by first | assumption | trivial) ?_
          rotate_left
          · intro w hSw; (try dsimp only at hSw); go_simp; try with_reducible rfl
          try simp only [Act.put, qj1, qj2, qj3, qj4, qj5, qj6]
          refine wpAnyH_ready (rs := [17]) (by kernel_rfl) (by simp) ?_
          refine AllReadyH.cons (o := _) rfl (fun K hK => ?_) AllReadyH.nil
          obtain ⟨w3, hst, hb_, hf_⟩ := store_cell (t := 3) (o := 4) (.int .i64 (x.acc + (n : Int))) size3 rfl rfl HQ2.out (by simp [ropeIn])
          split
          rotate_left
          · rename_i hno
            exact absurd rfl hno
          refine wp_skp (w' := w3) ?_ ?_
          · show Sem.run Tryz.prog ((Instr.storeAt 3 (.pointer (some ⟨s, 4, none⟩)) (.int .i64 (x.acc + (n : Int)))) >>= fun _ => pure Next.skip) _ = _
            rw [Sem.run_bind, hst]
            rfl
          clear hst
          rw [← HSZ.out w2 p2] at hb_
          have HB3 := Lib.hid hb_
          have HF3 := Lib.hid hf_
          clear hb_ hf_
          refine hK.out _ _ (HB3.out.at 0 _ rfl) (fun hHeld => ?_)
          clear hK K
          try simp only [Act.put, qj1, qj2, qj3, qj4, qj5, qj6]
          refine wpAnyH_done (by kernel_rfl) ?_ _
          clear hHeld
          go_end0
          have hri := HRI.out
          have hss := HS1.out
          have f3 : Fr [s, r, g] w w3 := ((HFD.out.mono (T := [s, r, g]) (fun x hx _ => by cases hx)).trans HF2.out (fun x hx _ => hx)).trans (HF3.out.mono (T := [s, r, g]) (fun x hx _ => by rw [List.mem_singleton] at hx; subst hx; simp)) (fun x hx _ => hx)
          have hx3 : Ext w own own2 := fun z hz => HX2.out z (Nat.lt_of_lt_of_le hz HFD.out.size)
          have hrl := HRG.out.blk.lt
          have hgl := HRG.out.row.lt
          have hsl := HB.out.lt
          have hos2 : own2 s = c := (hx3 s hsl).trans HOS.out
          refine ⟨rfl, own2, hx3, ⟨hos2, _, p2, HB3.out, .inr ⟨r, g, ringPut l f k s1, cp, f, k + s1.length, (hx3 r hrl).trans hri.1, (hx3 g hgl).trans hri.2.1, hri.2.2.1, hri.2.2.2.1, hri.2.2.2.2, ?_, ?_, ?_, HR2.out.keep HF3.out (by simpa using hri.2.2.1) (by simpa using hri.2.2.2.1), rfl⟩, HP2.out.keep HF3.out (fun z hz hl => by rw [List.mem_singleton] at hz; subst hz; rw [hos2]; exact hc3)⟩, FrO.of f3 (fun z hz => ?_)⟩
          · rw [ringPut_len HKB.out.1 (by have := HNK.out; have := HKB.out.2; omega)]
            exact HCC.out.1
          · rw [cont_put HKB.out.1 (by have := HNK.out; have := HKB.out.2; omega), HCC.out.2.1]
          · simp only [List.length_append]
            rw [HCC.out.2.2]
          · simp only [List.mem_cons, List.not_mem_nil, or_false] at hz
            rcases hz with rfl | rfl | rfl
            · exact HOS.out
            · exact hri.1
            · exact hri.2.1
        · skip
          go_simp
          refine HFILL.out.mono ?_
          rintro e w2 ⟨p2, own2, rfl, hr2, hp2, hq2, hx2, f2⟩
          have HR2 := Lib.hid hr2
          have HP2 := Lib.hid hp2
          have HQ2 := Lib.hid hq2
          have HX2 := Lib.hid hx2
          have HF2 := Lib.hid f2
          clear hr2 hp2 hq2 hx2 f2
          refine hK.out _ _ (HQ2.out.at 0 _ rfl) (fun hHeld => ?_)
          clear hK K
          try simp only [Act.put, qj1, qj2, qj3, qj4, qj5, qj6]
          refine wpAnyH_ready (rs := [3]) (by kernel_rfl) (by simp) ?_
          refine AllReadyH.cons (o := _) rfl (fun K hK => ?_) AllReadyH.nil
          have ka : w2.cell? ⟨s, 4, none⟩ = some (.int .i64 x.acc) := HQ2.out.at 4 _ rfl
          go_simp
          clear ka
          refine hK.out _ _ (hHeld) (fun hHeld => ?_)
          clear hK K
          try simp only [Act.put, qj1, qj2, qj3, qj4, qj5, qj6]
          refine wpAnyH_take (i := 14) (oi := _) (v := ?_) rfl (by kernel_rfl) (by kernel_rfl) (by kernel_rfl) (fun _ _ _ h => h) (Or.inl ⟨by rfl, ?_⟩) (by first | assumption | trivial) ?_
          rotate_left
          · intro w hSw; (try dsimp only at hSw); go_simp; try with_reducible rfl
          try simp only [Act.put, qj1, qj2, qj3, qj4, qj5, qj6]
          refine wpAnyH_take (i := 15) (oi := _) (v := ?_) rfl (by kernel_rfl) (by kernel_rfl) (by kernel_rfl) (fun _ _ _ h => h) (Or.inl ⟨by rfl, ?_⟩) (by first | assumption | trivial) ?_
          rotate_left
          · intro w hSw; (try dsimp only at hSw); go_simp; try with_reducible rfl
          try simp only [Act.put, qj1, qj2, qj3, qj4, qj5, qj6]
          refine wpAnyH_take (i := 16) (oi := _) (v := ?_) rfl (by kernel_rfl) (by kernel_rfl) (by kernel_rfl) (fun _ _ _ h => h) (Or.inl ⟨by rfl, ?_⟩) (by first | assumption | trivial) ?_
          rotate_left
          · intro w hSw; (try dsimp only at hSw); go_simp; try with_reducible rfl
          try simp only [Act.put, qj1, qj2, qj3, qj4, qj5, qj6]
          refine wpAnyH_ready (rs := [17]) (by kernel_rfl) (by simp) ?_
          refine AllReadyH.cons (o := _) rfl (fun K hK => ?_) AllReadyH.nil
          obtain ⟨w3, hst, hb_, hf_⟩ := store_cell (t := 3) (o := 4) (.int .i64 (x.acc + (n : Int))) size3 rfl rfl HQ2.out (by simp [ropeIn])
          split
          rotate_left
          · rename_i hno
            exact absurd rfl hno
          refine wp_skp (w' := w3) ?_ ?_
          · show Sem.run Tryz.prog ((Instr.storeAt 3 (.pointer (some ⟨s, 4, none⟩)) (.int .i64 (x.acc + (n : Int)))) >>= fun _ => pure Next.skip) _ = _
            rw [Sem.run_bind, hst]
            rfl
          clear hst
          rw [← HSZ.out w2 p2] at hb_
          have HB3 := Lib.hid hb_
          have HF3 := Lib.hid hf_
          clear hb_ hf_
          refine hK.out _ _ (HB3.out.at 0 _ rfl) (fun hHeld => ?_)
          clear hK K
          try simp only [Act.put, qj1, qj2, qj3, qj4, qj5, qj6]
          refine wpAnyH_done (by kernel_rfl) ?_ _
          clear hHeld
          go_end0
          have hri := HRI.out
          have hss := HS1.out
          have f3 : Fr [s, r, g] w w3 := ((HFD.out.mono (T := [s, r, g]) (fun x hx _ => by cases hx)).trans HF2.out (fun x hx _ => hx)).trans (HF3.out.mono (T := [s, r, g]) (fun x hx _ => by rw [List.mem_singleton] at hx; subst hx; simp)) (fun x hx _ => hx)
          have hx3 : Ext w own own2 := fun z hz => HX2.out z (Nat.lt_of_lt_of_le hz HFD.out.size)
          have hrl := HRG.out.blk.lt
          have hgl := HRG.out.row.lt
          have hsl := HB.out.lt
          have hos2 : own2 s = c := (hx3 s hsl).trans HOS.out
          refine ⟨rfl, own2, hx3, ⟨hos2, _, p2, HB3.out, .inr ⟨r, g, ringPut l f k s1, cp, f, k + s1.length, (hx3 r hrl).trans hri.1, (hx3 g hgl).trans hri.2.1, hri.2.2.1, hri.2.2.2.1, hri.2.2.2.2, ?_, ?_, ?_, HR2.out.keep HF3.out (by simpa using hri.2.2.1) (by simpa using hri.2.2.2.1), rfl⟩, HP2.out.keep HF3.out (fun z hz hl => by rw [List.mem_singleton] at hz; subst hz; rw [hos2]; exact hc3)⟩, FrO.of f3 (fun z hz => ?_)⟩
          · rw [ringPut_len HKB.out.1 (by have := HNK.out; have := HKB.out.2; omega)]
            exact HCC.out.1
          · rw [cont_put HKB.out.1 (by have := HNK.out; have := HKB.out.2; omega), HCC.out.2.1]
          · simp only [List.length_append]
            rw [HCC.out.2.2]
          · simp only [List.mem_cons, List.not_mem_nil, or_false] at hz
            rcases hz with rfl | rfl | rfl
            · exact HOS.out
            · exact hri.1
            · exact hri.2.1
end Go.Proofs.YtmdhlodafjpnmaaGreat
namespace Go.Proofs.YtmdhlodafjpnmaaGreat
open List renaming getElem_toArray → qj1, getElem_cons_succ → qj2, getElem_cons_zero → qj3, setIfInBounds_toArray → qj4, set_cons_zero → qj5, set_cons_succ → qj6
open Go.RowKit
set_option linter.unusedVariables false
set_option linter.unusedSimpArgs false
set_option maxRecDepth 100000
set_option maxHeartbeats 4000000

theorem exec_build7 {P : Program} {o : Oper} {a : Act} {w w' : World} {v : Value} {t : TypeId} {x0 x1 x2 x3 x4 x5 x6 : Operand} {v0 v1 v2 v3 v4 v5 v6 : Value} (ho : o.op = .build t #[(0, x0), (1, x1), (2, x2), (3, x3), (4, x4), (5, x5), (6, x6)]) (h0 : a.eval x0 = v0) (h1 : a.eval x1 = v1) (h2 : a.eval x2 = v2) (h3 : a.eval x3 = v3) (h4 : a.eval x4 = v4) (h5 : a.eval x5 = v5) (h6 : a.eval x6 = v6) (hrun : (Instr.build t #[(0, v0), (1, v1), (2, v2), (3, v3), (4, v4), (5, v5), (6, v6)]).run P w = .ok v w') : (execOp a.eval o).run P w = .ok (.value v) w' := by
  simp [execOp, ho, h0, h1, h2, h3, h4, h5, h6, hrun]
theorem bldStG (x : SS) (b r : Sli) : ∀ w, (Instr.build 90 #[(0, .int .i64 x.cap), (1, .slice b.1 b.2.1 b.2.2), (2, .bool x.busy), (3, .slice r.1 r.2.1 r.2.2), (4, .int .i64 x.acc), (5, .int .i64 x.wr), (6, .int .i64 x.rd)]).run Tryz.prog w = .ok (.agg (stC x b r).toArray) w := fun w => by kernel_rfl
theorem aggSt : ∀ w, (isAgg 90).run Tryz.prog w = .ok true w := fun w => by kernel_rfl
theorem sizeSt : ∀ w, (sizeOf 90).run Tryz.prog w = .ok 7 w := fun w => by kernel_rfl
def StOut (x : SS) (w : World) (e : Ending) (w' : World) : Prop := ∃ b r : Sli, e = .returned (.agg (stC x b r).toArray) ∧ BsO w' w.heap.size b x.buf ∧ BsO w' w.heap.size r x.rest ∧ Fr [] w w'
theorem strState {w : World} {own : Nat → Nat} {c s : Nat} {x : SS} (h : StrB w own c s x) :
    Calls Tryz.prog 109 #[.pointer (some ⟨s, 0, none⟩)] w (StOut x w) := by
  have hrl : x.rest.length ≤ 65536 := by have := h.ok.acc0; have := h.ok.acc1; omega
  obtain ⟨st, p, hb, hs, hr⟩ := h.a.at_
  have HH := Lib.hid h.a
  have HR := Lib.hid hr
  clear h hr
  rcases hs with ⟨hc0, hbuf, rfl⟩ | ⟨r, g, l, cp, f, n, q1, q2, q3, q4, q5, q6, q7, q8, q9, rfl⟩
  · skip
    have HRM := Lib.hid (show ∀ W, Fr [] w W → Calls Tryz.prog 210 #[.agg #[]] W (fun e w' => e = .returned (.int .i64 x.cap) ∧ Fr [] W w') from fun W fW => by rw [hc0]; exact room_zero W)
    have HHE := Lib.hid (show ∀ W, Fr [] w W → Calls Tryz.prog 209 #[.agg #[]] W (BytesOut x.buf W) from fun W fW => by rw [hbuf]; exact (held_direct W).mono (fun e w' h => ⟨(none, 0, 0), h.1, BsO.nil _ _, h.2⟩))
    obtain ⟨B, hB⟩ : ∃ B, w.heap.size = B := ⟨_, rfl⟩
    obtain ⟨w0, hw0⟩ : ∃ z, w.alloc (.cells #[.int .i64 0, .slice none 0 0, .bool false, .slice none 0 0, .int .i64 0, .int .i64 0, .int .i64 0] 90) = z := ⟨_, rfl⟩
    have f0 : Fr [] w w0 := by rw [← hw0]; exact (Fr.refl [] w).alloc _
    have hb0 : Blk w0 B 90 zSt := by rw [← hw0, ← hB]; exact Blk.made w 90 zSt
    obtain ⟨w1, hw1⟩ : ∃ z, w0.drew = z := ⟨_, rfl⟩
    have f1 : Fr [] w0 w1 := by rw [← hw1]; exact (Fr.refl [] w0).drew
    have HB0 := Lib.hid (hb0.keep f1 (by simp))
    have HF1 := Lib.hid (f0.step f1)
    have HN := Lib.hid (strNone (HH.out.new f0))
    have HS := Lib.hid (show ∀ W, Fr [] w W → W.cell? ⟨s, 0, none⟩ = some (.iface 246 (.agg #[])) ∧ W.cell? ⟨s, 1, none⟩ = some (.bool x.busy) ∧ LiesAt W s 2 [.slice p.1 p.2.1 p.2.2, .int .i64 x.rest.length] ∧ W.cell? ⟨s, 4, none⟩ = some (.int .i64 x.acc) ∧ W.cell? ⟨s, 5, none⟩ = some (.int .i64 x.wr) ∧ W.cell? ⟨s, 6, none⟩ = some (.int .i64 x.rd) from fun W fW => by
      have h := hb.keep fW (by simp)
      exact ⟨h.at 0 _ rfl, h.at 1 _ rfl, by have := h.at.part (k := 2) (n := 2) (ys := [.slice p.1 p.2.1 p.2.2, .int .i64 x.rest.length]) rfl; rwa [Nat.zero_add] at this, h.at 4 _ rfl, h.at 5 _ rfl, h.at 6 _ rfl⟩)
    have HBS := Lib.hid hB
    have HW0 := Lib.hid hw0
    have HW1 := Lib.hid hw1
    clear f0 f1 hb0 hB hw0 hw1 hb HH
    clear hc0 hbuf
    have hmr := room_dm
    have hmh := held_dm
    go_enter Tryz.func109, Tryz.ntmps109
    go_upto_region 1 with fail
    rw [HW0.out]
    simp only [HBS.out]
    go_wp2_with fail
    refine HN.out.mono ?_
    rintro e w' ⟨rfl, rfl⟩
    go_upto_region 3 with fail
    refine wp_region_held_drew (S := fun W => W.cell? ⟨s, 0, none⟩ = some (.iface 246 (.agg #[])) ∧ W.cell? ⟨s, 1, none⟩ = some (.bool x.busy) ∧ LiesAt W s 2 [.slice p.1 p.2.1 p.2.2, .int .i64 x.rest.length] ∧ W.cell? ⟨s, 4, none⟩ = some (.int .i64 x.acc) ∧ W.cell? ⟨s, 5, none⟩ = some (.int .i64 x.wr) ∧ W.cell? ⟨s, 6, none⟩ = some (.int .i64 x.rd)) (by kernel_rfl) (by rw [HW1.out]; exact HS.out _ HF1.out) (fun hHeld => ?_)
    rw [HW1.out] at hHeld ⊢
    refine wpAnyH_take (i := 0) (oi := _) (v := ?_) rfl (by kernel_rfl) (by kernel_rfl) (by kernel_rfl) (fun _ _ _ h => h) (Or.inl ⟨by rfl, ?_⟩) (by first | assumption | trivial) ?_
    rotate_left
    · intro w hSw; (try dsimp only at hSw); go_simp; try with_reducible rfl
    try simp only [Act.put, qj1, qj2, qj3, qj4, qj5, qj6]
    refine wpAnyH_take (i := 1) (oi := _) (v := ?_) rfl (by kernel_rfl) (by kernel_rfl) (by kernel_rfl) (fun _ _ _ h => h) (Or.inl ⟨by rfl, ?_⟩) (by first | assumption | trivial) ?_
    rotate_left
    · intro w hSw; (try dsimp only at hSw); go_simp; try with_reducible rfl
    try simp only [Act.put, qj1, qj2, qj3, qj4, qj5, qj6]
    refine wpAnyH_take (i := 2) (oi := _) (v := ?_) rfl (by kernel_rfl) (by kernel_rfl) (by kernel_rfl) (fun _ _ _ h => h) (Or.inl ⟨by rfl, ?_⟩) (by first | assumption | trivial) ?_
    rotate_left
    · intro w hSw; (try dsimp only at hSw); go_simp; try with_reducible rfl
    try simp only [Act.put, qj1, qj2, qj3, qj4, qj5, qj6]
    refine wpAnyH_take (i := 3) (oi := _) (v := ?_) rfl (by kernel_rfl) (by kernel_rfl) (by kernel_rfl) (fun _ _ _ h => h) (Or.inl ⟨by rfl, ?_⟩) (by first | assumption | trivial) ?_
    rotate_left
    · intro w hSw; (try dsimp only at hSw); go_simp; try with_reducible rfl
    try simp only [Act.put, qj1, qj2, qj3, qj4, qj5, qj6]
    refine wpAnyH_take (i := 5) (oi := _) (v := ?_) rfl (by kernel_rfl) (by kernel_rfl) (by kernel_rfl) (fun _ _ _ h => h) (Or.inl ⟨by rfl, ?_⟩) (by first | assumption | trivial) ?_
    rotate_left
    · intro w hSw; (try dsimp only at hSw); go_simp; try with_reducible rfl
    try simp only [Act.put, qj1, qj2, qj3, qj4, qj5, qj6]
    refine wpAnyH_take (i := 6) (oi := _) (v := ?_) rfl (by kernel_rfl) (by kernel_rfl) (by kernel_rfl) (fun _ _ _ h => h) (Or.inl ⟨by rfl, ?_⟩) (by first | assumption | trivial) ?_
    rotate_left
    · intro w hSw; (try dsimp only at hSw); go_simp; try with_reducible rfl
    try simp only [Act.put, qj1, qj2, qj3, qj4, qj5, qj6]
    refine wpAnyH_take (i := 7) (oi := _) (v := ?_) rfl (by kernel_rfl) (by kernel_rfl) (by kernel_rfl) (fun _ _ _ h => h) (Or.inl ⟨by rfl, ?_⟩) (by first | assumption | trivial) ?_
    rotate_left
    · intro w hSw; (try dsimp only at hSw); go_simp; try with_reducible rfl
    try simp only [Act.put, qj1, qj2, qj3, qj4, qj5, qj6]
    refine wpAnyH_take (i := 8) (oi := _) (v := ?_) rfl (by kernel_rfl) (by kernel_rfl) (by kernel_rfl) (fun _ _ _ h => h) (Or.inl ⟨by rfl, ?_⟩) (by first | assumption | trivial) ?_
    rotate_left
    · intro w hSw; (try dsimp only at hSw); go_simp; try with_reducible rfl
    try simp only [Act.put, qj1, qj2, qj3, qj4, qj5, qj6]
    refine wpAnyH_take (i := 10) (oi := _) (v := ?_) rfl (by kernel_rfl) (by kernel_rfl) (by kernel_rfl) (fun _ _ _ h => h) (Or.inl ⟨by rfl, ?_⟩) (by first | assumption | trivial) ?_
    rotate_left
    · intro w hSw; (try dsimp only at hSw); go_simp; try with_reducible rfl
    try simp only [Act.put, qj1, qj2, qj3, qj4, qj5, qj6]
    refine wpAnyH_take (i := 11) (oi := _) (v := ?_) rfl (by kernel_rfl) (by kernel_rfl) (by kernel_rfl) (fun _ _ _ h => h) (Or.inl ⟨by rfl, ?_⟩) (by first | assumption | trivial) ?_
    rotate_left
    · intro w hSw; (try dsimp only at hSw); go_simp; try with_reducible rfl
    try simp only [Act.put, qj1, qj2, qj3, qj4, qj5, qj6]
    refine wpAnyH_take (i := 12) (oi := _) (v := ?_) rfl (by kernel_rfl) (by kernel_rfl) (by kernel_rfl) (fun _ _ _ h => h) (Or.inl ⟨by rfl, ?_⟩) (by first | assumption | trivial) ?_
    rotate_left
    · intro w hSw; (try dsimp only at hSw); go_simp; try with_reducible rfl
    try simp only [Act.put, qj1, qj2, qj3, qj4, qj5, qj6]
    refine wpAnyH_take (i := 13) (oi := _) (v := ?_) rfl (by kernel_rfl) (by kernel_rfl) (by kernel_rfl) (fun _ _ _ h => h) (Or.inl ⟨by rfl, ?_⟩) (by first | assumption | trivial) ?_
    rotate_left
    · intro w hSw; (try dsimp only at hSw); go_simp; try with_reducible rfl
    try simp only [Act.put, qj1, qj2, qj3, qj4, qj5, qj6]
    refine wpAnyH_take (i := 14) (oi := _) (v := ?_) rfl (by kernel_rfl) (by kernel_rfl) (by kernel_rfl) (fun _ _ _ h => h) (Or.inl ⟨by rfl, ?_⟩) (by first | assumption | trivial) ?_
    rotate_left
    · intro w hSw; (try dsimp only at hSw); go_simp; try with_reducible rfl
    try simp only [Act.put, qj1, qj2, qj3, qj4, qj5, qj6]
    refine wpAnyH_take (i := 15) (oi := _) (v := ?_) rfl (by kernel_rfl) (by kernel_rfl) (by kernel_rfl) (fun _ _ _ h => h) (Or.inl ⟨by rfl, ?_⟩) (by first | assumption | trivial) ?_
    rotate_left
    · intro w hSw; (try dsimp only at hSw); go_simp; try with_reducible rfl
    try simp only [Act.put, qj1, qj2, qj3, qj4, qj5, qj6]
    refine wpAnyH_take (i := 16) (oi := _) (v := ?_) rfl (by kernel_rfl) (by kernel_rfl) (by kernel_rfl) (fun _ _ _ h => h) (Or.inl ⟨by rfl, ?_⟩) (by first | assumption | trivial) ?_
    rotate_left
    · intro w hSw; (try dsimp only at hSw); go_simp; try with_reducible rfl
    try simp only [Act.put, qj1, qj2, qj3, qj4, qj5, qj6]
    refine wpAnyH_take (i := 17) (oi := _) (v := .agg ([.slice p.1 p.2.1 p.2.2, .int .i64 x.rest.length] : List Value).toArray) rfl (by kernel_rfl) (by kernel_rfl) (by kernel_rfl) (fun _ _ _ h => h) (Or.inl ⟨by rfl, ?_⟩) (by first | assumption | trivial) ?_
    · intro w hSw
      try dsimp only at hSw
      show Sem.run Tryz.prog ((Instr.loadAt 128 (.pointer (some ⟨s, 2, none⟩))) >>= fun x => pure (Next.value x)) w = _
      rw [Sem.run_bind, load_all aggRope sizeRope (xs := [.slice p.1 p.2.1 p.2.2, .int .i64 x.rest.length]) rfl hSw.2.2.1]
      rfl
    try simp only [Act.put, qj1, qj2, qj3, qj4, qj5, qj6]
    refine wpAnyH_take (i := 19) (oi := _) (v := ?_) rfl (by kernel_rfl) (by kernel_rfl) (by kernel_rfl) (fun _ _ _ h => h) (Or.inl ⟨by rfl, ?_⟩) (by first | assumption | trivial) ?_
    rotate_left
    · intro w hSw; (try dsimp only at hSw); go_simp; try with_reducible rfl
    try simp only [Act.put, qj1, qj2, qj3, qj4, qj5, qj6]
    refine wpAnyH_take (i := 20) (oi := _) (v := ?_) rfl (by kernel_rfl) (by kernel_rfl) (by kernel_rfl) (fun _ _ _ h => h) (Or.inl ⟨by rfl, ?_⟩) (by first | assumption | trivial) ?_
    rotate_left
    · intro w hSw; (try dsimp only at hSw); go_simp; try with_reducible rfl
    try simp only [Act.put, qj1, qj2, qj3, qj4, qj5, qj6]
    refine wpAnyH_take (i := 21) (oi := _) (v := ?_) rfl (by kernel_rfl) (by kernel_rfl) (by kernel_rfl) (fun _ _ _ h => h) (Or.inl ⟨by rfl, ?_⟩) (by first | assumption | trivial) ?_
    rotate_left
    · intro w hSw; (try dsimp only at hSw); go_simp; try with_reducible rfl
    try simp only [Act.put, qj1, qj2, qj3, qj4, qj5, qj6]
    refine wpAnyH_take (i := 22) (oi := _) (v := ?_) rfl (by kernel_rfl) (by kernel_rfl) (by kernel_rfl) (fun _ _ _ h => h) (Or.inl ⟨by rfl, ?_⟩) (by first | assumption | trivial) ?_
    rotate_left
    · intro w hSw; (try dsimp only at hSw); go_simp; try with_reducible rfl
    try simp only [Act.put, qj1, qj2, qj3, qj4, qj5, qj6]
    refine wpAnyH_take (i := 23) (oi := _) (v := ?_) rfl (by kernel_rfl) (by kernel_rfl) (by kernel_rfl) (fun _ _ _ h => h) (Or.inl ⟨by rfl, ?_⟩) (by first | assumption | trivial) ?_
    rotate_left
    · intro w hSw; (try dsimp only at hSw); go_simp; try with_reducible rfl
    try simp only [Act.put, qj1, qj2, qj3, qj4, qj5, qj6]
    refine wpAnyH_take (i := 24) (oi := _) (v := ?_) rfl (by kernel_rfl) (by kernel_rfl) (by kernel_rfl) (fun _ _ _ h => h) (Or.inl ⟨by rfl, ?_⟩) (by first | assumption | trivial) ?_
    rotate_left
    · intro w hSw; (try dsimp only at hSw); go_simp; try with_reducible rfl
    try simp only [Act.put, qj1, qj2, qj3, qj4, qj5, qj6]
    refine wpAnyH_take (i := 25) (oi := _) (v := ?_) rfl (by kernel_rfl) (by kernel_rfl) (by kernel_rfl) (fun _ _ _ h => h) (Or.inl ⟨by rfl, ?_⟩) (by first | assumption | trivial) ?_
    rotate_left
    · intro w hSw; (try dsimp only at hSw); go_simp; try with_reducible rfl
    try simp only [Act.put, qj1, qj2, qj3, qj4, qj5, qj6]
    refine wpAnyH_take (i := 26) (oi := _) (v := ?_) rfl (by kernel_rfl) (by kernel_rfl) (by kernel_rfl) (fun _ _ _ h => h) (Or.inl ⟨by rfl, ?_⟩) (by first | assumption | trivial) ?_
    rotate_left
    · intro w hSw; (try dsimp only at hSw); go_simp; try with_reducible rfl
    try simp only [Act.put, qj1, qj2, qj3, qj4, qj5, qj6]
    refine wpAnyH_take (i := 27) (oi := _) (v := ?_) rfl (by kernel_rfl) (by kernel_rfl) (by kernel_rfl) (fun _ _ _ h => h) (Or.inl ⟨by rfl, ?_⟩) (by first | assumption | trivial) ?_
    rotate_left
    · intro w hSw; (try dsimp only at hSw); go_simp; try with_reducible rfl
    try simp only [Act.put, qj1, qj2, qj3, qj4, qj5, qj6]
    refine wpAnyH_take (i := 28) (oi := _) (v := ?_) rfl (by kernel_rfl) (by kernel_rfl) (by kernel_rfl) (fun _ _ _ h => h) (Or.inl ⟨by rfl, ?_⟩) (by first | assumption | trivial) ?_
    rotate_left
    · intro w hSw; (try dsimp only at hSw); go_simp; try with_reducible rfl
    try simp only [Act.put, qj1, qj2, qj3, qj4, qj5, qj6]
    refine wpAnyH_take (i := 29) (oi := _) (v := ?_) rfl (by kernel_rfl) (by kernel_rfl) (by kernel_rfl) (fun _ _ _ h => h) (Or.inl ⟨by rfl, ?_⟩) (by first | assumption | trivial) ?_
    rotate_left
    · intro w hSw; (try dsimp only at hSw); go_simp; try with_reducible rfl
    try simp only [Act.put, qj1, qj2, qj3, qj4, qj5, qj6]
    refine wpAnyH_take (i := 30) (oi := _) (v := ?_) rfl (by kernel_rfl) (by kernel_rfl) (by kernel_rfl) (fun _ _ _ h => h) (Or.inl ⟨by rfl, ?_⟩) (by first | assumption | trivial) ?_
    rotate_left
    · intro w hSw; (try dsimp only at hSw); go_simp; try with_reducible rfl
    try simp only [Act.put, qj1, qj2, qj3, qj4, qj5, qj6]
    refine wpAnyH_take (i := 31) (oi := _) (v := ?_) rfl (by kernel_rfl) (by kernel_rfl) (by kernel_rfl) (fun _ _ _ h => h) (Or.inl ⟨by rfl, ?_⟩) (by first | assumption | trivial) ?_
    rotate_left
    · intro w hSw; (try dsimp only at hSw); go_simp; try with_reducible rfl
    try simp only [Act.put, qj1, qj2, qj3, qj4, qj5, qj6]
    refine wpAnyH_take (i := 32) (oi := _) (v := ?_) rfl (by kernel_rfl) (by kernel_rfl) (by kernel_rfl) (fun _ _ _ h => h) (Or.inl ⟨by rfl, ?_⟩) (by first | assumption | trivial) ?_
    rotate_left
    · intro w hSw; (try dsimp only at hSw); go_simp; try with_reducible rfl
    try simp only [Act.put, qj1, qj2, qj3, qj4, qj5, qj6]
    refine wpAnyH_ready (rs := [4]) (by kernel_rfl) (by simp) ?_
    refine AllReadyH.cons (o := _) rfl (fun K hK => ?_) AllReadyH.nil
    go_simp
    refine (HRM.out _ HF1.out).mono ?_
    rintro e w2 ⟨rfl, f2⟩
    have HF2 := Lib.hid (HF1.out.step f2)
    have HB1 := Lib.hid (HB0.out.keep f2 (by simp))
    clear f2
    refine hK.out _ _ (HS.out _ HF2.out) (fun hHeld => ?_)
    clear hK K
    try simp only [Act.put, qj1, qj2, qj3, qj4, qj5, qj6]
    refine wpAnyH_ready (rs := [9]) (by kernel_rfl) (by simp) ?_
    refine AllReadyH.cons (o := _) rfl (fun K hK => ?_) AllReadyH.nil
    go_simp
    refine (HHE.out _ HF2.out).mono ?_
    rintro e w3 ⟨u, rfl, ho, f3⟩
    have HF3 := Lib.hid (HF2.out.step f3)
    have HB2 := Lib.hid (HB1.out.keep f3 (by simp))
    have HOu := Lib.hid (ho.base HF2.out.size)
    have HFS3 := Lib.hid f3
    clear ho
    obtain ⟨ua, un, uc⟩ := u
    simp only [slv]
    clear f3
    refine hK.out _ _ (HS.out _ HF3.out) (fun hHeld => ?_)
    clear hK K
    try simp only [Act.put, qj1, qj2, qj3, qj4, qj5, qj6]
    refine wpAnyH_ready (rs := [18]) (by kernel_rfl) (by simp) ?_
    refine AllReadyH.cons (o := _) rfl (fun K hK => ?_) AllReadyH.nil
    go_simp
    refine (ropeBytes_any (HR.out.new HF3.out) hrl x.rest.length).mono ?_
    rintro e w4 ⟨v, rfl, ho, f4⟩
    have HF4 := Lib.hid (HF3.out.step f4)
    have HB3 := Lib.hid (HB2.out.keep f4 (by simp))
    have HOv := Lib.hid (ho.base HF3.out.size)
    have HFS4 := Lib.hid f4
    clear ho
    obtain ⟨va, vn, vc⟩ := v
    simp only [slv]
    clear f4
    refine hK.out _ _ (HS.out _ HF4.out) (fun hHeld => ?_)
    clear hK K
    try simp only [Act.put, qj1, qj2, qj3, qj4, qj5, qj6]
    refine wpAnyH_take (i := 33) (oi := _) (v := .agg (stC x (ua, un, uc) (va, vn, vc)).toArray) rfl (by kernel_rfl) (by kernel_rfl) (by kernel_rfl) (fun _ _ _ h => h) (Or.inl ⟨by rfl, ?_⟩) (by first | assumption | trivial) ?_
    · intro w hSw
      try dsimp only at hSw
      exact exec_build7 (v0 := .int .i64 x.cap) (v1 := .slice ua un uc) (v2 := .bool x.busy) (v3 := .slice va vn vc) (v4 := .int .i64 x.acc) (v5 := .int .i64 x.wr) (v6 := .int .i64 x.rd) rfl rfl rfl rfl rfl rfl rfl rfl (bldStG x (ua, un, uc) (va, vn, vc) w)
    try simp only [Act.put, qj1, qj2, qj3, qj4, qj5, qj6]
    refine wpAnyH_ready (rs := [34]) (by kernel_rfl) (by simp) ?_
    refine AllReadyH.cons (o := _) rfl (fun K hK => ?_) AllReadyH.nil
    obtain ⟨w5, hst, hb_, hf_⟩ := store_all (t := 90) (stC x (ua, un, uc) (va, vn, vc)) sizeSt rfl (stC_one _ _ _) HB3.out rfl
    split
    rotate_left
    · rename_i hno
      exact absurd rfl hno
    refine wp_skp (w' := w5) ?_ ?_
    · show Sem.run Tryz.prog ((Instr.storeAt 90 (.pointer (some ⟨B, 0, none⟩)) (.agg (stC x (ua, un, uc) (va, vn, vc)).toArray)) >>= fun _ => pure Next.skip) _ = _
      rw [Sem.run_bind, hst]
      rfl
    clear hst
    have HB5 := Lib.hid hb_
    have HF5 := Lib.hid (HF4.out.own1 (S := []) (B := 0) hf_ (by have := HBS.out; omega))
    have HU5 := Lib.hid (show BsO w5 w.heap.size (ua, un, uc) x.buf from rowFr' (rowNew HOu.out HFS4.out) hf_ (fun g hg hm => by rw [List.mem_singleton] at hm; subst hm; exact blkNe HB3.out (rowNew HOu.out HFS4.out) (by decide) hg))
    have HV5 := Lib.hid (show BsO w5 w.heap.size (va, vn, vc) x.rest from rowFr' HOv.out hf_ (fun g hg hm => by rw [List.mem_singleton] at hm; subst hm; exact blkNe HB3.out HOv.out (by decide) hg))
    clear hb_ hf_
    refine hK.out _ _ (HS.out _ HF5.out) (fun hHeld => ?_)
    clear hK K
    try simp only [Act.put, qj1, qj2, qj3, qj4, qj5, qj6]
    refine wpAnyH_done (by kernel_rfl) ?_ _
    clear hHeld
    go_wp2
    have hl := load_var aggSt sizeSt (xs := stC x (ua, un, uc) (va, vn, vc)) rfl HB5.out.at
    refine bodyPost_ret (v := .agg (stC x (ua, un, uc) (va, vn, vc)).toArray) (by simp [results, Tryz.results109, as_addr, hl]) rfl ?_
    exact ⟨(ua, un, uc), (va, vn, vc), rfl, HU5.out, HV5.out, HF5.out⟩
  · skip
    have HRM := Lib.hid (show ∀ W, Fr [] w W → Calls Tryz.prog 219 #[.agg #[.pointer (some ⟨r, 0, none⟩)]] W (fun e w' => e = .returned (.int .i64 x.cap) ∧ Fr [] W w') from fun W fW => by rw [← q6]; exact room_rings (q9.new fW))
    have HHE := Lib.hid (show ∀ W, Fr [] w W → Calls Tryz.prog 218 #[.agg #[.pointer (some ⟨r, 0, none⟩)]] W (BytesOut x.buf W) from fun W fW => by rw [← q7]; exact held_ring (q9.new fW) q5)
    obtain ⟨B, hB⟩ : ∃ B, w.heap.size = B := ⟨_, rfl⟩
    obtain ⟨w0, hw0⟩ : ∃ z, w.alloc (.cells #[.int .i64 0, .slice none 0 0, .bool false, .slice none 0 0, .int .i64 0, .int .i64 0, .int .i64 0] 90) = z := ⟨_, rfl⟩
    have f0 : Fr [] w w0 := by rw [← hw0]; exact (Fr.refl [] w).alloc _
    have hb0 : Blk w0 B 90 zSt := by rw [← hw0, ← hB]; exact Blk.made w 90 zSt
    obtain ⟨w1, hw1⟩ : ∃ z, w0.drew = z := ⟨_, rfl⟩
    have f1 : Fr [] w0 w1 := by rw [← hw1]; exact (Fr.refl [] w0).drew
    have HB0 := Lib.hid (hb0.keep f1 (by simp))
    have HF1 := Lib.hid (f0.step f1)
    have HN := Lib.hid (strNone (HH.out.new f0))
    have HS := Lib.hid (show ∀ W, Fr [] w W → W.cell? ⟨s, 0, none⟩ = some (.iface 251 (.agg #[.pointer (some ⟨r, 0, none⟩)])) ∧ W.cell? ⟨s, 1, none⟩ = some (.bool x.busy) ∧ LiesAt W s 2 [.slice p.1 p.2.1 p.2.2, .int .i64 x.rest.length] ∧ W.cell? ⟨s, 4, none⟩ = some (.int .i64 x.acc) ∧ W.cell? ⟨s, 5, none⟩ = some (.int .i64 x.wr) ∧ W.cell? ⟨s, 6, none⟩ = some (.int .i64 x.rd) from fun W fW => by
      have h := hb.keep fW (by simp)
      exact ⟨h.at 0 _ rfl, h.at 1 _ rfl, by have := h.at.part (k := 2) (n := 2) (ys := [.slice p.1 p.2.1 p.2.2, .int .i64 x.rest.length]) rfl; rwa [Nat.zero_add] at this, h.at 4 _ rfl, h.at 5 _ rfl, h.at 6 _ rfl⟩)
    have HBS := Lib.hid hB
    have HW0 := Lib.hid hw0
    have HW1 := Lib.hid hw1
    clear f0 f1 hb0 hB hw0 hw1 hb HH
    clear q1 q2 q3 q4 q5 q6 q7 q8 q9
    have hmr := room_bm r
    have hmh := held_bm r
    go_enter Tryz.func109, Tryz.ntmps109
    go_upto_region 1 with fail
    rw [HW0.out]
    simp only [HBS.out]
    go_wp2_with fail
    refine HN.out.mono ?_
    rintro e w' ⟨rfl, rfl⟩
    go_upto_region 3 with fail
    refine wp_region_held_drew (S := fun W => W.cell? ⟨s, 0, none⟩ = some (.iface 251 (.agg #[.pointer (some ⟨r, 0, none⟩)])) ∧ W.cell? ⟨s, 1, none⟩ = some (.bool x.busy) ∧ LiesAt W s 2 [.slice p.1 p.2.1 p.2.2, .int .i64 x.rest.length] ∧ W.cell? ⟨s, 4, none⟩ = some (.int .i64 x.acc) ∧ W.cell? ⟨s, 5, none⟩ = some (.int .i64 x.wr) ∧ W.cell? ⟨s, 6, none⟩ = some (.int .i64 x.rd)) (by kernel_rfl) (by rw [HW1.out]; exact HS.out _ HF1.out) (fun hHeld => ?_)
    rw [HW1.out] at hHeld ⊢
    refine wpAnyH_take (i := 0) (oi := _) (v := ?_) rfl (by kernel_rfl) (by kernel_rfl) (by kernel_rfl) (fun _ _ _ h => h) (Or.inl ⟨by rfl, ?_⟩) (by first | assumption | trivial) ?_
    rotate_left
    · intro w hSw; (try dsimp only at hSw); go_simp; try with_reducible rfl
    try simp only [Act.put, qj1, qj2, qj3, qj4, qj5, qj6]
    refine wpAnyH_take (i := 1) (oi := _) (v := ?_) rfl (by kernel_rfl) (by kernel_rfl) (by kernel_rfl) (fun _ _ _ h => h) (Or.inl ⟨by rfl, ?_⟩) (by first | assumption | trivial) ?_
    rotate_left
    · intro w hSw; (try dsimp only at hSw); go_simp; try with_reducible rfl
    try simp only [Act.put, qj1, qj2, qj3, qj4, qj5, qj6]
    refine wpAnyH_take (i := 2) (oi := _) (v := ?_) rfl (by kernel_rfl) (by kernel_rfl) (by kernel_rfl) (fun _ _ _ h => h) (Or.inl ⟨by rfl, ?_⟩) (by first | assumption | trivial) ?_
    rotate_left
    · intro w hSw; (try dsimp only at hSw); go_simp; try with_reducible rfl
    try simp only [Act.put, qj1, qj2, qj3, qj4, qj5, qj6]
    refine wpAnyH_take (i := 3) (oi := _) (v := ?_) rfl (by kernel_rfl) (by kernel_rfl) (by kernel_rfl) (fun _ _ _ h => h) (Or.inl ⟨by rfl, ?_⟩) (by first | assumption | trivial) ?_
    rotate_left
    · intro w hSw; (try dsimp only at hSw); go_simp; try with_reducible rfl
    try simp only [Act.put, qj1, qj2, qj3, qj4, qj5, qj6]
    refine wpAnyH_take (i := 5) (oi := _) (v := ?_) rfl (by kernel_rfl) (by kernel_rfl) (by kernel_rfl) (fun _ _ _ h => h) (Or.inl ⟨by rfl, ?_⟩) (by first | assumption | trivial) ?_
    rotate_left
    · intro w hSw; (try dsimp only at hSw); go_simp; try with_reducible rfl
    try simp only [Act.put, qj1, qj2, qj3, qj4, qj5, qj6]
    refine wpAnyH_take (i := 6) (oi := _) (v := ?_) rfl (by kernel_rfl) (by kernel_rfl) (by kernel_rfl) (fun _ _ _ h => h) (Or.inl ⟨by rfl, ?_⟩) (by first | assumption | trivial) ?_
    rotate_left
    · intro w hSw; (try dsimp only at hSw); go_simp; try with_reducible rfl
    try simp only [Act.put, qj1, qj2, qj3, qj4, qj5, qj6]
    refine wpAnyH_take (i := 7) (oi := _) (v := ?_) rfl (by kernel_rfl) (by kernel_rfl) (by kernel_rfl) (fun _ _ _ h => h) (Or.inl ⟨by rfl, ?_⟩) (by first | assumption | trivial) ?_
    rotate_left
    · intro w hSw; (try dsimp only at hSw); go_simp; try with_reducible rfl
    try simp only [Act.put, qj1, qj2, qj3, qj4, qj5, qj6]
    refine wpAnyH_take (i := 8) (oi := _) (v := ?_) rfl (by kernel_rfl) (by kernel_rfl) (by kernel_rfl) (fun _ _ _ h => h) (Or.inl ⟨by rfl, ?_⟩) (by first | assumption | trivial) ?_
    rotate_left
    · intro w hSw; (try dsimp only at hSw); go_simp; try with_reducible rfl
    try simp only [Act.put, qj1, qj2, qj3, qj4, qj5, qj6]
    refine wpAnyH_take (i := 10) (oi := _) (v := ?_) rfl (by kernel_rfl) (by kernel_rfl) (by kernel_rfl) (fun _ _ _ h => h) (Or.inl ⟨by rfl, ?_⟩) (by first | assumption | trivial) ?_
    rotate_left
    · intro w hSw; (try dsimp only at hSw); go_simp; try with_reducible rfl
    try simp only [Act.put, qj1, qj2, qj3, qj4, qj5, qj6]
    refine wpAnyH_take (i := 11) (oi := _) (v := ?_) rfl (by kernel_rfl) (by kernel_rfl) (by kernel_rfl) (fun _ _ _ h => h) (Or.inl ⟨by rfl, ?_⟩) (by first | assumption | trivial) ?_
    rotate_left
    · intro w hSw; (try dsimp only at hSw); go_simp; try with_reducible rfl
    try simp only [Act.put, qj1, qj2, qj3, qj4, qj5, qj6]
    refine wpAnyH_take (i := 12) (oi := _) (v := ?_) rfl (by kernel_rfl) (by kernel_rfl) (by kernel_rfl) (fun _ _ _ h => h) (Or.inl ⟨by rfl, ?_⟩) (by first | assumption | trivial) ?_
    rotate_left
    · intro w hSw; (try dsimp only at hSw); go_simp; try with_reducible rfl
    try simp only [Act.put, qj1, qj2, qj3, qj4, qj5, qj6]
    refine wpAnyH_take (i := 13) (oi := _) (v := ?_) rfl (by kernel_rfl) (by kernel_rfl) (by kernel_rfl) (fun _ _ _ h => h) (Or.inl ⟨by rfl, ?_⟩) (by first | assumption | trivial) ?_
    rotate_left
    · intro w hSw; (try dsimp only at hSw); go_simp; try with_reducible rfl
    try simp only [Act.put, qj1, qj2, qj3, qj4, qj5, qj6]
    refine wpAnyH_take (i := 14) (oi := _) (v := ?_) rfl (by kernel_rfl) (by kernel_rfl) (by kernel_rfl) (fun _ _ _ h => h) (Or.inl ⟨by rfl, ?_⟩) (by first | assumption | trivial) ?_
    rotate_left
    · intro w hSw; (try dsimp only at hSw); go_simp; try with_reducible rfl
    try simp only [Act.put, qj1, qj2, qj3, qj4, qj5, qj6]
    refine wpAnyH_take (i := 15) (oi := _) (v := ?_) rfl (by kernel_rfl) (by kernel_rfl) (by kernel_rfl) (fun _ _ _ h => h) (Or.inl ⟨by rfl, ?_⟩) (by first | assumption | trivial) ?_
    rotate_left
    · intro w hSw; (try dsimp only at hSw); go_simp; try with_reducible rfl
    try simp only [Act.put, qj1, qj2, qj3, qj4, qj5, qj6]
    refine wpAnyH_take (i := 16) (oi := _) (v := ?_) rfl (by kernel_rfl) (by kernel_rfl) (by kernel_rfl) (fun _ _ _ h => h) (Or.inl ⟨by rfl, ?_⟩) (by first | assumption | trivial) ?_
    rotate_left
    · intro w hSw; (try dsimp only at hSw); go_simp; try with_reducible rfl
    try simp only [Act.put, qj1, qj2, qj3, qj4, qj5, qj6]
    refine wpAnyH_take (i := 17) (oi := _) (v := .agg ([.slice p.1 p.2.1 p.2.2, .int .i64 x.rest.length] : List Value).toArray) rfl (by kernel_rfl) (by kernel_rfl) (by kernel_rfl) (fun _ _ _ h => h) (Or.inl ⟨by rfl, ?_⟩) (by first | assumption | trivial) ?_
    · intro w hSw
      try dsimp only at hSw
      show Sem.run Tryz.prog ((Instr.loadAt 128 (.pointer (some ⟨s, 2, none⟩))) >>= fun x => pure (Next.value x)) w = _
      rw [Sem.run_bind, load_all aggRope sizeRope (xs := [.slice p.1 p.2.1 p.2.2, .int .i64 x.rest.length]) rfl hSw.2.2.1]
      rfl
    try simp only [Act.put, qj1, qj2, qj3, qj4, qj5, qj6]
    refine wpAnyH_take (i := 19) (oi := _) (v := ?_) rfl (by kernel_rfl) (by kernel_rfl) (by kernel_rfl) (fun _ _ _ h => h) (Or.inl ⟨by rfl, ?_⟩) (by first | assumption | trivial) ?_
    rotate_left
    · intro w hSw; (try dsimp only at hSw); go_simp; try with_reducible rfl
    try simp only [Act.put, qj1, qj2, qj3, qj4, qj5, qj6]
    refine wpAnyH_take (i := 20) (oi := _) (v := ?_) rfl (by kernel_rfl) (by kernel_rfl) (by kernel_rfl) (fun _ _ _ h => h) (Or.inl ⟨by rfl, ?_⟩) (by first | assumption | trivial) ?_
    rotate_left
    · intro w hSw; (try dsimp only at hSw); go_simp; try with_reducible rfl
    try simp only [Act.put, qj1, qj2, qj3, qj4, qj5, qj6]
    refine wpAnyH_take (i := 21) (oi := _) (v := ?_) rfl (by kernel_rfl) (by kernel_rfl) (by kernel_rfl) (fun _ _ _ h => h) (Or.inl ⟨by rfl, ?_⟩) (by first | assumption | trivial) ?_
    rotate_left
    · intro w hSw; (try dsimp only at hSw); go_simp; try with_reducible rfl
    try simp only [Act.put, qj1, qj2, qj3, qj4, qj5, qj6]
    refine wpAnyH_take (i := 22) (oi := _) (v := ?_) rfl (by kernel_rfl) (by kernel_rfl) (by kernel_rfl) (fun _ _ _ h => h) (Or.inl ⟨by rfl, ?_⟩) (by first | assumption | trivial) ?_
    rotate_left
    · intro w hSw; (try dsimp only at hSw); go_simp; try with_reducible rfl
    try simp only [Act.put, qj1, qj2, qj3, qj4, qj5, qj6]
    refine wpAnyH_take (i := 23) (oi := _) (v := ?_) rfl (by kernel_rfl) (by kernel_rfl) (by kernel_rfl) (fun _ _ _ h => h) (Or.inl ⟨by rfl, ?_⟩) (by first | assumption | trivial) ?_
    rotate_left
    · intro w hSw; (try dsimp only at hSw); go_simp; try with_reducible rfl
    try simp only [Act.put, qj1, qj2, qj3, qj4, qj5, qj6]
    refine wpAnyH_take (i := 24) (oi := _) (v := ?_) rfl (by kernel_rfl) (by kernel_rfl) (by kernel_rfl) (fun _ _ _ h => h) (Or.inl ⟨by rfl, ?_⟩) (by first | assumption | trivial) ?_
    rotate_left
    · intro w hSw; (try dsimp only at hSw); go_simp; try with_reducible rfl
    try simp only [Act.put, qj1, qj2, qj3, qj4, qj5, qj6]
    refine wpAnyH_take (i := 25) (oi := _) (v := ?_) rfl (by kernel_rfl) (by kernel_rfl) (by kernel_rfl) (fun _ _ _ h => h) (Or.inl ⟨by rfl, ?_⟩) (by first | assumption | trivial) ?_
    rotate_left
    · intro w hSw; (try dsimp only at hSw); go_simp; try with_reducible rfl
    try simp only [Act.put, qj1, qj2, qj3, qj4, qj5, qj6]
    refine wpAnyH_take (i := 26) (oi := _) (v := ?_) rfl (by kernel_rfl) (by kernel_rfl) (by kernel_rfl) (fun _ _ _ h => h) (Or.inl ⟨by rfl, ?_⟩) (by first | assumption | trivial) ?_
    rotate_left
    · intro w hSw; (try dsimp only at hSw); go_simp; try with_reducible rfl
    try simp only [Act.put, qj1, qj2, qj3, qj4, qj5, qj6]
    refine wpAnyH_take (i := 27) (oi := _) (v := ?_) rfl (by kernel_rfl) (by kernel_rfl) (by kernel_rfl) (fun _ _ _ h => h) (Or.inl ⟨by rfl, ?_⟩) (by first | assumption | trivial) ?_
    rotate_left
    · intro w hSw; (try dsimp only at hSw); go_simp; try with_reducible rfl
    try simp only [Act.put, qj1, qj2, qj3, qj4, qj5, qj6]
    refine wpAnyH_take (i := 28) (oi := _) (v := ?_) rfl (by kernel_rfl) (by kernel_rfl) (by kernel_rfl) (fun _ _ _ h => h) (Or.inl ⟨by rfl, ?_⟩) (by first | assumption | trivial) ?_
    rotate_left
    · intro w hSw; (try dsimp only at hSw); go_simp; try with_reducible rfl
    try simp only [Act.put, qj1, qj2, qj3, qj4, qj5, qj6]
    refine wpAnyH_take (i := 29) (oi := _) (v := ?_) rfl (by kernel_rfl) (by kernel_rfl) (by kernel_rfl) (fun _ _ _ h => h) (Or.inl ⟨by rfl, ?_⟩) (by first | assumption | trivial) ?_
    rotate_left
    · intro w hSw; (try dsimp only at hSw); go_simp; try with_reducible rfl
    try simp only [Act.put, qj1, qj2, qj3, qj4, qj5, qj6]
    refine wpAnyH_take (i := 30) (oi := _) (v := ?_) rfl (by kernel_rfl) (by kernel_rfl) (by kernel_rfl) (fun _ _ _ h => h) (Or.inl ⟨by rfl, ?_⟩) (by first | assumption | trivial) ?_
    rotate_left
    · intro w hSw; (try dsimp only at hSw); go_simp; try with_reducible rfl
    try simp only [Act.put, qj1, qj2, qj3, qj4, qj5, qj6]
    refine wpAnyH_take (i := 31) (oi := _) (v := ?_) rfl (by kernel_rfl) (by kernel_rfl) (by kernel_rfl) (fun _ _ _ h => h) (Or.inl ⟨by rfl, ?_⟩) (by first | assumption | trivial) ?_
    rotate_left
    · intro w hSw; (try dsimp only at hSw); go_simp; try with_reducible rfl
    try simp only [Act.put, qj1, qj2, qj3, qj4, qj5, qj6]
    refine wpAnyH_take (i := 32) (oi := _) (v := ?_) rfl (by kernel_rfl) (by kernel_rfl) (by kernel_rfl) (fun _ _ _ h => h) (Or.inl ⟨by rfl, ?_⟩) (by first | assumption | trivial) ?_
    rotate_left
    · intro w hSw; (try dsimp only at hSw); go_simp; try with_reducible rfl
    try simp only [Act.put, qj1, qj2, qj3, qj4, qj5, qj6]
    refine wpAnyH_ready (rs := [4]) (by kernel_rfl) (by simp) ?_
    refine AllReadyH.cons (o := _) rfl (fun K hK => ?_) AllReadyH.nil
    go_simp
    refine (HRM.out _ HF1.out).mono ?_
    rintro e w2 ⟨rfl, f2⟩
    have HF2 := Lib.hid (HF1.out.step f2)
    have HB1 := Lib.hid (HB0.out.keep f2 (by simp))
    clear f2
    refine hK.out _ _ (HS.out _ HF2.out) (fun hHeld => ?_)
    clear hK K
    try simp only [Act.put, qj1, qj2, qj3, qj4, qj5, qj6]
    refine wpAnyH_ready (rs := [9]) (by kernel_rfl) (by simp) ?_
    refine AllReadyH.cons (o := _) rfl (fun K hK => ?_) AllReadyH.nil
    go_simp
    refine (HHE.out _ HF2.out).mono ?_
    rintro e w3 ⟨u, rfl, ho, f3⟩
    have HF3 := Lib.hid (HF2.out.step f3)
    have HB2 := Lib.hid (HB1.out.keep f3 (by simp))
    have HOu := Lib.hid (ho.base HF2.out.size)
    have HFS3 := Lib.hid f3
    clear ho
    obtain ⟨ua, un, uc⟩ := u
    simp only [slv]
    clear f3
    refine hK.out _ _ (HS.out _ HF3.out) (fun hHeld => ?_)
    clear hK K
    try simp only [Act.put, qj1, qj2, qj3, qj4, qj5, qj6]
    refine wpAnyH_ready (rs := [18]) (by kernel_rfl) (by simp) ?_
    refine AllReadyH.cons (o := _) rfl (fun K hK => ?_) AllReadyH.nil
    go_simp
    refine (ropeBytes_any (HR.out.new HF3.out) hrl x.rest.length).mono ?_
    rintro e w4 ⟨v, rfl, ho, f4⟩
    have HF4 := Lib.hid (HF3.out.step f4)
    have HB3 := Lib.hid (HB2.out.keep f4 (by simp))
    have HOv := Lib.hid (ho.base HF3.out.size)
    have HFS4 := Lib.hid f4
    clear ho
    obtain ⟨va, vn, vc⟩ := v
    simp only [slv]
    clear f4
    refine hK.out _ _ (HS.out _ HF4.out) (fun hHeld => ?_)
    clear hK K
    try simp only [Act.put, qj1, qj2, qj3, qj4, qj5, qj6]
    refine wpAnyH_take (i := 33) (oi := _) (v := .agg (stC x (ua, un, uc) (va, vn, vc)).toArray) rfl (by kernel_rfl) (by kernel_rfl) (by kernel_rfl) (fun _ _ _ h => h) (Or.inl ⟨by rfl, ?_⟩) (by first | assumption | trivial) ?_
    · intro w hSw
      try dsimp only at hSw
      exact exec_build7 (v0 := .int .i64 x.cap) (v1 := .slice ua un uc) (v2 := .bool x.busy) (v3 := .slice va vn vc) (v4 := .int .i64 x.acc) (v5 := .int .i64 x.wr) (v6 := .int .i64 x.rd) rfl rfl rfl rfl rfl rfl rfl rfl (bldStG x (ua, un, uc) (va, vn, vc) w)
    try simp only [Act.put, qj1, qj2, qj3, qj4, qj5, qj6]
    refine wpAnyH_ready (rs := [34]) (by kernel_rfl) (by simp) ?_
    refine AllReadyH.cons (o := _) rfl (fun K hK => ?_) AllReadyH.nil
    obtain ⟨w5, hst, hb_, hf_⟩ := store_all (t := 90) (stC x (ua, un, uc) (va, vn, vc)) sizeSt rfl (stC_one _ _ _) HB3.out rfl
    split
    rotate_left
    · rename_i hno
      exact absurd rfl hno
    refine wp_skp (w' := w5) ?_ ?_
    · show Sem.run Tryz.prog ((Instr.storeAt 90 (.pointer (some ⟨B, 0, none⟩)) (.agg (stC x (ua, un, uc) (va, vn, vc)).toArray)) >>= fun _ => pure Next.skip) _ = _
      rw [Sem.run_bind, hst]
      rfl
    clear hst
    have HB5 := Lib.hid hb_
    have HF5 := Lib.hid (HF4.out.own1 (S := []) (B := 0) hf_ (by have := HBS.out; omega))
    have HU5 := Lib.hid (show BsO w5 w.heap.size (ua, un, uc) x.buf from rowFr' (rowNew HOu.out HFS4.out) hf_ (fun g hg hm => by rw [List.mem_singleton] at hm; subst hm; exact blkNe HB3.out (rowNew HOu.out HFS4.out) (by decide) hg))
    have HV5 := Lib.hid (show BsO w5 w.heap.size (va, vn, vc) x.rest from rowFr' HOv.out hf_ (fun g hg hm => by rw [List.mem_singleton] at hm; subst hm; exact blkNe HB3.out HOv.out (by decide) hg))
    clear hb_ hf_
    refine hK.out _ _ (HS.out _ HF5.out) (fun hHeld => ?_)
    clear hK K
    try simp only [Act.put, qj1, qj2, qj3, qj4, qj5, qj6]
    refine wpAnyH_done (by kernel_rfl) ?_ _
    clear hHeld
    go_wp2
    have hl := load_var aggSt sizeSt (xs := stC x (ua, un, uc) (va, vn, vc)) rfl HB5.out.at
    refine bodyPost_ret (v := .agg (stC x (ua, un, uc) (va, vn, vc)).toArray) (by simp [results, Tryz.results109, as_addr, hl]) rfl ?_
    exact ⟨(ua, un, uc), (va, vn, vc), rfl, HU5.out, HV5.out, HF5.out⟩
end Go.Proofs.YtmdhlodafjpnmaaGreat
