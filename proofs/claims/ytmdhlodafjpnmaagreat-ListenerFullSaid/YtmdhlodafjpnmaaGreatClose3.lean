/- Contract of listener's Close over a net in memory. -/
/- The walk of listener's Close. -/
import Derived.Test.YtmdhlodafjpnmaaGreatHang3
import Derived.Deep.CutRange
namespace Go.Proofs.YtmdhlodafjpnmaaGreat
open Go.RowKit
open Go.Maps (Keyed)
set_option linter.unusedVariables false
set_option maxRecDepth 100000
set_option maxHeartbeats 8000000

theorem netClose_none {n r m lm cm : Nat} {names ls cs : List (Value × Value)} (ref : Int) (w : World) (h : NetIs w n r m lm cm names ls cs) (hr : -9223372036854775808 ≤ ref) (hr' : ref ≤ 9223372036854775807) (hx : ∀ x ∈ ls, x.1 ≠ .int .i64 ref) :
    Calls Tryz.prog 35 #[.pointer (some ⟨n, 0, none⟩), .int .i64 ref] w fun e w' => e = .returned (.tuple #[.slice none 0 0, .int .i64 9]) ∧ Fr [] w w' := by
  have c1 := h.c1
  have HN := Lib.hid (netNone_any _ h)
  have hl := h.ls.miss keyInt (t := 49) (e := 120) Tryz.underlying49 (keyInt_of ref hr hr') hx (zeroQ _) true
  simp only [if_true] at hl
  have HX := Lib.hid hx
  clear h hx
  go_enter Tryz.func35, Tryz.ntmps35
  go_wp2_with (go_at_call 55; refine HN.out.mono ?_; rintro e w' ⟨rfl, rfl⟩)
  go_ret2
  exact ⟨rfl, (Fr.refl [] _).alloc _⟩

theorem dropL_one {L1 L2 : List LB} {x : LB} (h : ((L1 ++ x :: L2).map (·.ref)).Nodup) :
    PN.dropL ((L1 ++ x :: L2).map LB.pl) x.ref = (L1 ++ L2).map LB.pl := by
  obtain ⟨h1, h2⟩ := map_one h
  unfold PN.dropL
  have same : ∀ D : List LB, (∀ y ∈ D, y.ref ≠ x.ref) → (D.map LB.pl).filter (fun y => decide (y.ref ≠ x.ref)) = D.map LB.pl := fun D hd =>
    List.filter_eq_self.2 fun z hz => by
      obtain ⟨y, hy, rfl⟩ := List.mem_map.1 hz
      exact decide_eq_true (hd y hy)
  rw [List.map_append, List.filter_append, same L1 h1, List.map_cons, List.filter_cons, same L2 h2]
  simp [LB.pl]

theorem hangs_snoc : ∀ (l : List Int) (C : List PN.PC) (k : Int), PN.hangs C (l ++ [k]) = PN.hang (PN.hangs C l) k true
  | [], C, k => rfl
  | a :: l, C, k => by simp only [List.cons_append, PN.hangs]; exact hangs_snoc l _ k

/-- Between two hangs of Close: those of xs that are still to come, from j on, wait nowhere and are open at the end 1. -/
structure CloseR (w : World) (own : Nat → Nat) (B : NB) (L : List LB) (C0 C : List CB) (G : Nat) (xs : List Int) (j : Nat) : Prop where
  net : NetW w own B L C G
  hangs : C.map CB.pc = PN.hangs (C0.map CB.pc) (xs.take j)
  open_ : ∀ k ∈ xs.drop j, ∃ y ∈ C, (y.ref : Int) = k ∧ y.a1 = false
  sep : (xs.drop j).Nodup ∧ ∀ k ∈ xs.drop j, k ∉ qs L

theorem CloseR.next {w : World} {own : Nat → Nat} {B : NB} {L : List LB} {C0 C : List CB} {G : Nat} {xs : List Int} {j : Nat} (h : CloseR w own B L C0 C G xs j) (hj : j < xs.length) :
    ∃ C1 y C2, C = C1 ++ y :: C2 ∧ y.a1 = false ∧ (y.ref : Int) = xs[j] ∧ (y.ref : Int) ∉ qs L ∧
      ∀ w' own', NetW w' own' B L (hangAt C1 C2 y) G → CloseR w' own' B L C0 (hangAt C1 C2 y) G xs (j + 1) := by
  have hd : xs.drop j = xs[j] :: xs.drop (j + 1) := List.drop_eq_getElem_cons hj
  obtain ⟨y, hy, h1, h2⟩ := h.open_ xs[j] (by rw [hd]; exact List.mem_cons_self)
  obtain ⟨C1, C2, rfl⟩ := List.append_of_mem hy
  have hsep := h.sep
  rw [hd, List.nodup_cons] at hsep
  refine ⟨C1, y, C2, rfl, h2, h1, fun hm => hsep.2 xs[j] List.mem_cons_self (h1 ▸ hm), fun w' own' hn => ⟨hn, ?_, fun k hk => ?_, hsep.1.2, fun k hk => hsep.2 k (List.mem_cons_of_mem _ hk)⟩⟩
  · rw [List.take_succ_eq_append_getElem hj, hangs_snoc, ← h.hangs, ← h1]
    exact (hang_plain h.net.crefs (fun z hz => (h.net.cs z hz).op)).symm
  · refine qs_ne (L := L) (h.open_ k (by rw [hd]; exact List.mem_cons_of_mem _ hk)) (fun he => hsep.1.1 ?_)
    rw [← h1, ← he]
    exact hk

theorem NetW.drop {w w' : World} {own own' : Nat → Nat} {B : NB} {L1 L2 : List LB} {x : LB} {C : List CB} {G : Nat} (h : NetW w own B (L1 ++ x :: L2) C G)
    (hn : NetIs w' B.n B.r B.m B.lm B.cm ((L1 ++ L2).map LB.nm) ((L1 ++ L2).map LB.ent) (C.map CB.ent)) {S : List Nat} (hf : Fr S w w') (hE : Ext w own own') (hS : ∀ z ∈ S, z < w.heap.size ∧ (own z = 0 ∨ own z = 4 * x.ref + 2)) : NetW w' own' B (L1 ++ L2) C G := by
  obtain ⟨o1, o2, o3, o4, o5⟩ := h.on
  obtain ⟨g1, g2⟩ := map_one h.refs
  have hsub : List.Sublist (L1 ++ L2) (L1 ++ x :: L2) := List.Sublist.append (List.Sublist.refl _) (List.sublist_cons_self _ _)
  have hmem : ∀ y ∈ L1 ++ L2, y ∈ L1 ++ x :: L2 := fun y hy => hsub.subset hy
  have hqs : List.Sublist (qs (L1 ++ L2)) (qs (L1 ++ x :: L2)) := by
    rw [qs_mid, show qs (L1 ++ L2) = qs L1 ++ qs L2 by simp [qs]]
    exact List.Sublist.append (List.Sublist.refl _) (List.sublist_append_right _ _)
  refine ⟨hn, ⟨(hE _ (cell_lt h.net.c0)).trans o1, (hE _ (cell_lt h.net.reg.c0)).trans o2, (hE _ h.net.reg.map.lt).trans o3, (hE _ h.net.ls.lt).trans o4, (hE _ h.net.cs.lt).trans o5⟩, ?_, ?_, h.refs.sublist (hsub.map _), h.crefs, h.adrs.sublist hsub, fun k hk => h.queue k (hqs.subset hk), h.vals.sublist hqs, by have := hsub.length_le; have := h.nl; omega, h.nc⟩
  · intro y hy
    have hne : y.ref ≠ x.ref := by rcases List.mem_append.1 hy with hy | hy; exact g1 y hy; exact g2 y hy
    refine ((h.ls y (hmem y hy)).ext hE).keep hf (fun z hz he => ?_)
    obtain ⟨hl, h0⟩ := hS z hz
    rw [hE z hl] at he
    rcases h0 with h0 | h0 <;> omega
  · intro y hy
    refine ((h.cs y hy).ext hE).keep hf (fun z hz he => ?_)
    obtain ⟨hl, h0⟩ := hS z hz
    rw [hE z hl] at he
    rcases h0 with h0 | h0 <;> omega
end Go.Proofs.YtmdhlodafjpnmaaGreat
namespace Go.Proofs.YtmdhlodafjpnmaaGreat
open Go.RowKit
open Go.Maps (Keyed)
set_option linter.unusedVariables false
set_option maxRecDepth 100000
set_option maxHeartbeats 8000000

theorem RowOf.len {W w : World} {lo : Nat} {v : Value} {xs : List Value} (h : RowOf w lo v xs) : (Builtin.len_ #[75] 3 #[v]).run Tryz.prog W = .ok (.int .i64 xs.length) W := by
  rcases h with ⟨rfl, rfl⟩ | ⟨g, cap, rfl, _⟩
  · simp [Builtin.len_, run_underlying Tryz.underlying75, goInt]
  · simp [Builtin.len_, run_underlying Tryz.underlying75, goInt]

theorem netClose_hit {own : Nat → Nat} {B : NB} {L1 L2 : List LB} {x : LB} {C : List CB} {G : Nat} (w : World) (h : NetW w own B (L1 ++ x :: L2) C G) (hG : G < 4611686018427387904) (hr' : (x.ref : Int) ≤ 9223372036854775807) :
    Calls Tryz.prog 35 #[.pointer (some ⟨B.n, 0, none⟩), .int .i64 x.ref] w fun e w' => ∃ v own' C', e = .returned (.tuple #[v, .int .i64 0]) ∧ RowOf w' w.heap.size v (x.l.map connV64) ∧ CloseR w' own' B (L1 ++ L2) C C' G (x.l.map (·.2)) x.l.length ∧ Ext w own own' ∧ FrO own netO w w' := by
  have hx := h.ls x (by simp)
  obtain ⟨o1, o2, o3, o4, o5⟩ := h.on
  obtain ⟨x1, x2, x3, x4⟩ := hx.own
  have hn := h.net
  rw [List.map_append, List.map_cons, List.map_append, List.map_cons] at hn
  have hne := hn.ne
  have HN := Lib.hid (netNone_any _ h.net)
  have c0 := hn.c0
  have c1 := hn.c1
  have bl := cell_lt hx.back.c0
  have hlk := hn.ls.hit keyInt (t := 49) (e := 120) Tryz.underlying49 (x := .int .i64 (x.ref : Int)) (v := .agg #[.pointer (some ⟨x.b, 0, none⟩), .string x.s, .int .i64 x.p]) (by simp [LB.ent, qV]) true
  simp only [if_true] at hlk
  have fA : Fr [] w (w.alloc (.cells #[.pointer (some ⟨x.b, 0, none⟩), .string x.s, .int .i64 x.p] 120)) := (Fr.refl [] w).alloc _
  have k0 : (w.alloc (.cells #[.pointer (some ⟨x.b, 0, none⟩), .string x.s, .int .i64 x.p] 120)).cell? ⟨w.heap.size, 0, none⟩ = some (.pointer (some ⟨x.b, 0, none⟩)) := by simp
  have k1 : (w.alloc (.cells #[.pointer (some ⟨x.b, 0, none⟩), .string x.s, .int .i64 x.p] 120)).cell? ⟨w.heap.size, 1, none⟩ = some (.string x.s) := by simp
  have k2 : (w.alloc (.cells #[.pointer (some ⟨x.b, 0, none⟩), .string x.s, .int .i64 x.p] 120)).cell? ⟨w.heap.size, 2, none⟩ = some (.int .i64 x.p) := by simp
  have sA : (w.alloc (.cells #[.pointer (some ⟨x.b, 0, none⟩), .string x.s, .int .i64 x.p] 120)).heap.size = w.heap.size + 1 := by simp
  obtain ⟨wB, hrun, mB, fB⟩ := (hn.ls.keep fA (by simp)).del (T := 0) keyInt (t := 49) (e := 120) Tryz.underlying49
  have zl := hn.ls.lt
  have zm := hn.reg.map.lt
  have j0 := fB.keep k0 (by simp; omega)
  have j1 := fB.keep k1 (by simp; omega)
  have j2 := fB.keep k2 (by simp; omega)
  have fAB : Fr [B.lm] w wB := (fA.mono (fun x hx => by cases hx)).trans fB (fun x hx _ => hx)
  have q0 := fAB.keep c0 (by simp; omega)
  have q1 := fA.keep c1 (by simp)
  have rB := hn.reg.keep fAB (by simp; omega) (by simp; omega)
  have H := Lib.hid h
  have HX := Lib.hid hx
  have HNN := Lib.hid hn
  have HM := Lib.hid mB
  have HV := Lib.hid hx.adr
  have HZ := Lib.hid hx.sz
  have HL := Lib.hid hx.len
  have HMO := Lib.hid hx.most
  have HG := Lib.hid hx.g
  clear h hx hn mB
  go_enter Tryz.func35, Tryz.ntmps35
  go_wp2_with (go_at_call 55; refine HN.out.mono ?_; rintro e w' ⟨rfl, rfl⟩)
  go_cut [] from 30 to 36 (fun wc => RegIs wc B.r B.m (L1.map LB.nm ++ L2.map LB.nm) ∧ Fr [B.m] wB wc)
  case first =>
    go_region_with (go_at_call 79; refine (regRelease_hit B.r B.m (L1.map LB.nm) (L2.map LB.nm) x.s x.p x.ref _ (rB.drewN 1) HZ.out HV.out).mono ?_; rintro e w5 ⟨rfl, rg5, f5⟩)
    all_goals go_wp2
    all_goals go_meet
    case' rel => skip
    all_goals exact ⟨rg5, f5.behind⟩
  case rest =>
    obtain ⟨rC, fC⟩ := hcut
    have dif : ∀ a b, own a = 4 * x.ref + 2 → own b = 0 → a ≠ b := fun a b ha hb e => by rw [e] at ha; omega
    obtain ⟨e1, e2, e3, e4, e5, e6, e7, e8, e9⟩ := hne
    have DIF := Lib.hid dif
    have HE := Lib.hid (show B.n ≠ B.r ∧ B.n ≠ B.m ∧ B.n ≠ B.lm ∧ B.n ≠ B.cm ∧ B.r ≠ B.lm ∧ B.r ≠ B.cm ∧ B.m ≠ B.lm ∧ B.m ≠ B.cm ∧ B.lm ≠ B.cm from ⟨e1, e2, e3, e4, e5, e6, e7, e8, e9⟩)
    have rm : B.r ≠ B.m := HNN.out.reg.ne
    have fw : Fr [B.lm, B.m] w wc := (fAB.mono (fun x hx _ => by simp at hx; simp [hx])).trans fC (fun x hx _ => by simp at hx; simp [hx])
    have i0 := fC.keep j0 (by simp [Nat.ne_of_gt zm])
    have HBk := Lib.hid (HX.out.back.keep fw (by simp [dif _ _ x1 o4, dif _ _ x1 o3]) (by simp [dif _ _ x2 o4, dif _ _ x2 o3]) (by simp [dif _ _ x3 o4, dif _ _ x3 o3]) (by simp [dif _ _ x4 o4, dif _ _ x4 o3]))
    have hlen : x.l.length ≤ 100000 := by have := HL.out; have := HMO.out.2; omega
    have hgG : x.g < 4611686018427387904 := by have := HG.out; omega
    clear j0 j1 j2 k0 k1 k2 q0 q1 hlk rB dif e1 e2 e3 e4 e5 e6 e7 e8 e9
    go_wp2_with (go_at_call 85; refine (backClose_any x.b x.q x.m x.t x.most x.l x.g hgG _ HBk.out hlen).mono ?_; rintro e wD ⟨v, rfl, hrow, fD⟩; have hlv := fun W : World => hrow.len (W := W); rw [List.length_map] at hlv)
    have fwD : Fr [B.lm, B.m, x.b] w wD := (fw.mono (fun y hy _ => by simp at hy; rcases hy with rfl | rfl <;> simp)).trans fD (fun y hy _ => by simp at hy; simp [hy])
    have zr := cell_lt HNN.out.reg.c0
    have zc := HNN.out.cs.lt
    have zn := cell_lt c0
    have hnD : NetIs wD B.n B.r B.m B.lm B.cm ((L1 ++ L2).map LB.nm) ((L1 ++ L2).map LB.ent) (C.map CB.ent) := by
      rw [List.map_append, List.map_append]
      obtain ⟨e1, e2, e3, e4, e5, e6, e7, e8, e9⟩ := HE.out
      have n1 : B.n ∉ [B.lm, B.m, x.b] := by simp [e3, e2, Ne.symm (DIF.out _ _ x1 o1)]
      have n2 : B.r ∉ [x.b] := by simp [Ne.symm (DIF.out _ _ x1 o2)]
      have n3 : B.m ∉ [x.b] := by simp [Ne.symm (DIF.out _ _ x1 o3)]
      have n4 : B.lm ∉ [B.m] := by simp [Ne.symm e7]
      have n5 : B.lm ∉ [x.b] := by simp [Ne.symm (DIF.out _ _ x1 o4)]
      have n6 : B.cm ∉ [B.lm, B.m, x.b] := by simp [Ne.symm e9, Ne.symm e8, Ne.symm (DIF.out _ _ x1 o5)]
      exact ⟨fwD.keep HNN.out.c0 n1, fwD.keep HNN.out.c1 n1, fwD.keep HNN.out.c2 n1, rC.keep fD n2 n3, (HM.out.keep fC n4).keep fD n5, HNN.out.cs.keep fwD n6, HE.out⟩
    have hE := Ext.new w own 4
    have hW := NetW.drop H.out hnD fwD hE (fun z hz => by
      simp only [List.mem_cons, List.not_mem_nil, or_false] at hz
      rcases hz with rfl | rfl | rfl
      · exact ⟨zl, .inl o4⟩
      · exact ⟨zm, .inl o3⟩
      · exact ⟨bl, .inr x1⟩)
    have hCR : CloseR wD (ownNew w own 4) B (L1 ++ L2) C C G (x.l.map (·.2)) 0 := by
      have hv := H.out.vals
      rw [qs_mid] at hv
      have hq12 : qs (L1 ++ L2) = qs L1 ++ qs L2 := by simp [qs]
      refine ⟨hW, rfl, fun k hk => H.out.queue k (by rw [qs_mid]; exact List.mem_append_right _ (List.mem_append_left _ hk)), (List.nodup_append.1 (List.nodup_append.1 hv).2.1).1, fun k hk hm => ?_⟩
      rw [hq12] at hm
      rcases List.mem_append.1 hm with hm | hm
      · exact (List.nodup_append.1 hv).2.2 k hm k (List.mem_append_left _ hk) rfl
      · exact (List.nodup_append.1 (List.nodup_append.1 hv).2.1).2.2 k hk k hm rfl
    have hFO : FrO own netO w wD := FrO.of fwD (fun z hz => by
      simp only [List.mem_cons, List.not_mem_nil, or_false] at hz
      rcases hz with rfl | rfl | rfl
      · exact .inl o4
      · exact .inl o3
      · exact .inr (.inr (by rw [x1]; omega)))
    have HW := Lib.hid hCR
    have hzD : w.heap.size ≤ wD.heap.size := fwD.size
    have hzC : w.heap.size ≤ wc.heap.size := fw.size
    clear hW hCR hnD fwD hlv
    rcases hrow with ⟨hnil, rfl⟩ | ⟨g, cap, rfl, lg, lgs, hcells⟩
    · have hl0 : x.l = [] := by simpa using hnil
      have hz0 : x.l.length = 0 := by rw [hl0]; rfl
      rw [hz0]
      go_loopw [45] (fun i wr => i = .int .i64 0 ∧ wr = wD) (fun _ _ => 0)
      case atStart => exact ⟨rfl, rfl⟩
      case round =>
        obtain ⟨rfl, rfl⟩ := hrel
        go_wp2
        go_ret2
        have hz : x.l.length = 0 := by rw [hl0]; rfl
        exact ⟨_, ownNew w own 4, C, rfl, .inl ⟨by rw [hl0]; rfl, rfl⟩, hz ▸ HW.out, hE, hFO⟩
    · have hlen2 : (x.l.map connV64).length = x.l.length := by simp
      rw [hlen2]
      have og : ownNew w own 4 g = 4 := ownNew_ge (by omega)
      have HC := Lib.hid hcells
      clear hcells
      go_loopw [45] (fun i wr => ∃ (j : Nat) (own' : Nat → Nat) (C' : List CB), i = .int .i64 j ∧ j ≤ x.l.length ∧ CloseR wr own' B (L1 ++ L2) C C' G (x.l.map (·.2)) j ∧ Ext wD (ownNew w own 4) own' ∧ FrO (ownNew w own 4) netO wD wr ∧ (∀ j u, (x.l.map connV64)[j]? = some u → wr.cell? ⟨g, j, none⟩ = some u)) (fun i _ => x.l.length - (intOf i).toNat)
      case atStart => exact ⟨0, _, C, rfl, by omega, HW.out, Ext.refl _ _, FrO.new (Fr.refl _ _), HC.out⟩
      case round =>
        obtain ⟨j, own', C', rfl, hj, hR, hE2, hF2, hc2⟩ := hrel
        by_cases hlt : j < x.l.length
        · obtain ⟨C1, y, C2, rfl, hy1, hy2, hy3, hnext⟩ := hR.next (by simpa using hlt)
          have hcj : wr.cell? ⟨g, j, none⟩ = some (.int .i64 y.ref) := by
            refine hc2 j _ ?_
            rw [List.getElem?_map, List.getElem?_eq_getElem hlt]
            simp only [List.getElem_map] at hy2
            simp [connV64, hy2]
          have HH := Lib.hid (hang_w wr hR.net hy1 hy3)
          have HNx := Lib.hid hnext
          have HC2 := Lib.hid hc2
          have HE2 := Lib.hid hE2
          have HF2 := Lib.hid hF2
          have HGO := Lib.hid (show own' g = 4 from (hE2 g lgs).trans og)
          have HR := Lib.hid hR
          clear hnext hc2 hE2 hF2 hR hy1 hy2 hy3 og
          go_wp2_with (go_at_call 57; refine HH.out.mono ?_; rintro e w2 ⟨rfl, hN2, hF3⟩)
          go_roundw
          case rel =>
            have hF3' := hF3
            obtain ⟨S, f3, s3⟩ := hF3.list
            have gS : g ∉ S := fun hm => by
              have := (s3 g hm).2
              rw [HGO.out] at this
              omega
            refine ⟨j + 1, _, _, by go_num, by omega, HNx.out _ _ hN2, HE2.out.step (Ext.new wr own' _) HF2.out.size, HF2.out.trans (hF3'.mono (fun c hc => ?_)) HE2.out, fun j' u hu => f3.keep (HC2.out j' u hu) gS⟩
            · rcases hc with h0 | h0
              · exact .inl h0
              · exact .inr (.inl (by rw [h0]; omega))
          case measure => simp [intOf]; omega
        · obtain rfl : j = x.l.length := by omega
          have HR := Lib.hid hR
          have HC2 := Lib.hid hc2
          have HE2 := Lib.hid hE2
          have HF2 := Lib.hid hF2
          clear hR hc2 hE2 hF2
          go_wp2
          go_ret2
          refine ⟨.slice (some ⟨g, 0, none⟩) x.l.length cap, own', C', rfl, .inr ⟨g, cap, by rw [hlen2], Nat.le_trans hzC lg, Nat.lt_of_lt_of_le lgs HF2.out.size, HC2.out⟩, HR.out, hE.step HE2.out hzD, hFO.trans HF2.out hE⟩

theorem netClose_w {own : Nat → Nat} {B : NB} {L : List LB} {C : List CB} {G : Nat} (ref : Int) (w : World) (h : NetW w own B L C G) (hr : -9223372036854775808 ≤ ref) (hr' : ref ≤ 9223372036854775807) (hG : G < 4611686018427387904) :
    Calls Tryz.prog 35 #[.pointer (some ⟨B.n, 0, none⟩), .int .i64 ref] w fun e w' => ∃ v own' L' C',
      e = .returned (.tuple #[v, .int .i64 (PN.close (plainN L C) ref).2.2]) ∧ RowOf w' w.heap.size v ((PN.close (plainN L C) ref).2.1.map (Value.int .i64)) ∧ plainN L' C' = (PN.close (plainN L C) ref).1 ∧ NetW w' own' B L' C' G ∧ Ext w own own' ∧ FrO own netO w w' := by
  unfold PN.close
  rcases hat : PN.byRef (plainN L C).L ref with _ | z
  · refine (netClose_none ref w h.net hr hr' (by_none hat)).mono ?_
    rintro e w' ⟨rfl, hf⟩
    exact ⟨_, own, L, C, rfl, .inl ⟨rfl, rfl⟩, rfl, h.new hf, Ext.refl _ _, FrO.new hf⟩
  · obtain ⟨L1, x, L2, rfl, rfl, rfl⟩ := by_some hat
    refine (netClose_hit w h hG hr').mono ?_
    rintro e w' ⟨v, own', C', rfl, hrow, hR, hE, hF⟩
    refine ⟨v, own', L1 ++ L2, C', rfl, ?_, ?_, hR.net, hE, hF⟩
    · have : x.pl.l.map (Value.int .i64) = x.l.map connV64 := by simp [LB.pl, connV64, Function.comp_def]
      rw [this]
      exact hrow
    · have h1 := hR.hangs
      rw [List.take_of_length_le (by simp)] at h1
      show (⟨(L1 ++ L2).map LB.pl, C'.map CB.pc⟩ : PN.Net) = ⟨PN.dropL ((L1 ++ x :: L2).map LB.pl) x.ref, PN.hangs (C.map CB.pc) (x.l.map (·.2))⟩
      rw [dropL_one h.refs, h1]
end Go.Proofs.YtmdhlodafjpnmaaGreat
