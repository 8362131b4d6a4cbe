/- ChaosPlays answers true. -/
import Derived.Test.YtededfkenlhokaaDoorQ13
import Derived.Outline
namespace Go.Proofs.YtededfkenlhokaaDoor
open Go.RowKit Go.Shelf
set_option linter.unusedVariables false
set_option linter.unusedSimpArgs false
set_option maxRecDepth 100000
set_option maxHeartbeats 16000000

theorem own_parts {w w1 : World} {v : Value} {fs : List Ft} {m : Nat} (hm : fs.length = m) (h : w1.ownsRow w.heap.size 32 5 v fs.length (ftCells fs)) :
    ∃ (A : Option Addr) (C : Nat) (S : List Nat), v = .slice A m C ∧ (∀ x ∈ S, w.heap.size ≤ x ∧ x < w1.heap.size) ∧ (∀ g, A = some ⟨g, 0, none⟩ → RowB w1 g (m * 5)) ∧ (0 < m → ∃ g, A = some ⟨g, 0, none⟩ ∧ g ∈ S) := by
  rw [hm] at h
  rcases RowB.of h with ⟨rfl, h0⟩ | ⟨g, cap, rfl, h1, h2, h3⟩
  · exact ⟨none, 0, [], by rw [h0], (fun x hx => by cases hx), (fun g e => by cases e), fun h => by omega⟩
  · refine ⟨_, cap, [g], rfl, fun x hx => ?_, fun g' e => ?_, fun _ => ⟨g, rfl, by simp⟩⟩
    · rw [List.mem_singleton] at hx
      omega
    · cases e
      exact h3
theorem plays_main (v va : Value) (fs : List Ft) (l : List Ac) (x2 x3 : Int) (w : World) (he : Env w) (h : FtRow w v fs) (hn : ∀ n c, v = .slice none n c → n = 0 ∧ c = 0) (ha : AcRow w va l) (h70 : fs.length ≤ 70) (h24 : l.length ≤ 24) :
    Calls Tryd.prog 5 #[v, va, .int .i64 x2, .int .i64 x3] w fun e w' => e = .returned (.bool true) ∧ Fr [] w w' := by
  obtain ⟨a, cap, rfl⟩ := h.val
  obtain ⟨a2, cap2, rfl⟩ := acRow_val ha
  have HE := Lib.hid he
  have HNN := Lib.hid hn
  obtain ⟨n, hn'⟩ : ∃ n, l.length = n := ⟨_, rfl⟩
  obtain ⟨m, hm⟩ : ∃ n, fs.length = n := ⟨_, rfl⟩
  rw [hn'] at h24 ha ⊢
  rw [hm] at h70 h HNN ⊢
  have HR := Lib.hid h
  have HA := Lib.hid ha
  have HN := Lib.hid hn'
  have HM := Lib.hid hm
  have g1 : ¬ (70 : Int) < (m : Int) := by omega
  have g2 : ¬ (24 : Int) < (n : Int) := by omega
  clear he hn h ha hn' hm
  cases hb : planB fs with
  | false =>
    have HB := Lib.hid hb
    clear hb
    go_enter Tryd.func5, Tryd.ntmps5
    go_wp2_with (at_builtin; refine wpList_append_fts rfl _ _ rfl _ fs (by rw [HM.out]; omega) rfl rfl HR.out HNN.out ?_; intro v' w1 hown f1)
    refine (new_bad v' fs (by rw [HM.out]; omega) w1 (FtRow.of hown).1 HB.out).mono ?_
    rintro e w2 ⟨rfl, f2⟩
    have F2 := Lib.hid (f1.step f2)
    clear hown f1 f2
    go_wp2_with fail
    have hq := planL_any (.slice a m cap) fs (by rw [HM.out]; omega) w2 (HR.out.new F2.out)
    rw [HB.out] at hq
    refine hq.mono ?_
    clear hq
    rintro e w3 ⟨rfl, f3⟩
    have F3 := Lib.hid (F2.out.step f3)
    clear f3 F2
    go_wp2_with fail
    refine (known_any w3 (HE.out.new F3.out)).mono ?_
    rintro e w4 ⟨rfl, f4⟩
    go_wp2
    go_ret
    exact ⟨rfl, F3.out.step f4⟩
  | true =>
    have HB := Lib.hid hb
    clear hb
    go_enter Tryd.func5, Tryd.ntmps5
    go_wp2_with (at_builtin; refine wpList_append_fts rfl _ _ rfl _ fs (by rw [HM.out]; omega) rfl rfl HR.out HNN.out ?_; intro v' w1 hown f1)
    refine (new_ok v' fs w1 (FtRow.of hown).1 HB.out).mono ?_
    rintro e w2 ⟨p0, m0, v2, rfl, P2, f2, hp0, hm0, hg0⟩
    obtain ⟨A, C, S, hvA, hS, hA1, hA2⟩ := own_parts HM.out hown
    subst hvA
    have F1 := Lib.hid f1
    have F12 := Lib.hid f2
    have F2 := Lib.hid (f1.step f2)
    have P2' := Lib.hid P2
    have HS := Lib.hid hS
    have HA1 := Lib.hid hA1
    have HA2 := Lib.hid hA2
    have HG0 := Lib.hid hg0
    have hsz1 := f1.size
    have hsz2 := f2.size
    clear hown f1 f2 P2 hS hA1 hA2 hg0
    go_wp2_with fail
    have hq := planL_any (.slice a m cap) fs (by rw [HM.out]; omega) w2 (HR.out.new F2.out)
    rw [HB.out] at hq
    refine hq.mono ?_
    clear hq
    rintro e w3 ⟨rfl, f3⟩
    have F3 := Lib.hid (F2.out.step f3)
    have P3 := Lib.hid (P2'.out.new f3)
    have hsz3 := f3.size
    have HA3 := Lib.hid (fun g e => (show RowB w3 g (m * 5) from by
      obtain ⟨cur, h1, h2⟩ := HA1.out g e
      have hlt : g < w1.heap.size := (Array.getElem?_eq_some_iff.1 h1).1
      exact ⟨cur, (f3.block g (by omega) (by simp)).trans ((F12.out.block g hlt (by simp)).trans h1), h2⟩))
    clear f3 F2 P2' HA1 F1
    go_wp2
    go_loopw [12] (fun i wr => ∃ k : Nat, i = .int .i64 k ∧ k ≤ m ∧ Fr S w3 wr ∧ ∀ g, A = some ⟨g, 0, none⟩ → RowB wr g (m * 5)) (fun i _ => m - (intOf i).toNat)
    case atStart => exact ⟨0, rfl, by omega, Fr.refl _ _, HA3.out⟩
    case round =>
      rename_i wr
      obtain ⟨k, rfl, hk, hF, hRB⟩ := hrel
      by_cases hlt : k < m
      · obtain ⟨g, hAe, hgS⟩ := HA2.out (by omega)
        have hRg := hRB g hAe
        subst hAe
        have k0 : (0 : Int) ≤ (k : Int) := Int.natCast_nonneg _
        have k1 : (k : Int) < (m : Int) := by omega
        obtain ⟨u0, c0⟩ := hRg.at (o := k * 5) (by omega)
        obtain ⟨u1, c1⟩ := hRg.at (o := k * 5 + 1) (by omega)
        obtain ⟨u2, c2⟩ := hRg.at (o := k * 5 + 2) (by omega)
        obtain ⟨u3, c3⟩ := hRg.at (o := k * 5 + 3) (by omega)
        obtain ⟨u4, c4⟩ := hRg.at (o := k * 5 + 4) (by omega)
        have rz := hRg.fz
        have HRG := Lib.hid hRg
        have HF := Lib.hid hF
        have HGS := Lib.hid hgS
        clear hRg hRB hF hgS
        go_wp2
        go_roundw
        case rel =>
          refine ⟨k + 1, by go_num, by omega, ?_, fun g' e => ?_⟩
          · exact ((((HF.out.setCell (fun _ => HGS.out) _).setCell (fun _ => HGS.out) _).setCell (fun _ => HGS.out) _).setCell (fun _ => HGS.out) _).setCell (fun _ => HGS.out) _
          · cases e
            exact ((((HRG.out.set _ _).set _ _).set _ _).set _ _).set _ _
        case measure => simp [intOf]; omega
      · have hkm : k = m := by omega
        subst hkm
        have f4 : Fr [] w3 wr → True := fun _ => trivial
        have fr4 : Fr [] wr (wr.alloc (.cells #[.slice a k cap, .slice none 0 0] 58)) := (Fr.refl [] wr).alloc _
        have md4 := MdAt.made wr (.slice a k cap) (.slice none 0 0)
        have hsz4 := hF.size
        have P4 : PlanIs wr p0 m0 v2 fs (fun _ _ => (0, 0, 0)) := P3.out.keep hF (fun hx => by have := (HS.out _ hx).2; omega) (fun hx => by have := (HS.out _ hx).2; omega) (fun g off n c e hx => by have := (HS.out _ hx).2; have := HG0.out g off n c e; omega)
        have F4 : Fr [] w (wr.alloc (.cells #[.slice a k cap, .slice none 0 0] 58)) := (F3.out.trans hF (fun x hx hl => by have := (HS.out x hx).1; omega)).step fr4
        have M4 : Mods (wr.alloc (.cells #[.slice a k cap, .slice none 0 0] 58)) p0 m0 v2 (.slice a k cap) fs (fun _ _ => (0, 0, 0)) (.slice none 0 0) [] 0 :=
          ⟨P4.new fr4, HR.out.new F4, .inl ⟨rfl, _, _, rfl⟩, LaneFun.start, PInv.start fs (List.all_eq_true.1 P3.out.ok), Nat.le_refl _, fun hne g off n c e => by have := HR.out.low hne g off n c e; omega, fun hne => absurd rfl hne⟩
        have HV : Hid (∀ g off n c, v2 = .slice (some ⟨g, off, none⟩) n c → g ≠ wr.heap.size) := Lib.hid (fun g off n c e => by have := P4.low g off n c e; omega)
        have M4' := Lib.hid M4
        have MD4 := Lib.hid md4
        have F4' := Lib.hid F4
        have hMB : w.heap.size ≤ wr.heap.size := by omega
        have hm0w : w.heap.size ≤ m0 := by omega
        clear f4 fr4 md4 hF P4 F4 M4 hRB hlt P3 F3 HA3 HS HA2 F12
        go_wp2
        obtain ⟨W4, hW4⟩ : ∃ W, wr.alloc (.cells #[.slice a k cap, .slice none 0 0] 58) = W := ⟨_, rfl⟩
        obtain ⟨MB, hMBe⟩ : ∃ B, wr.heap.size = B := ⟨_, rfl⟩
        simp only [hW4, hMBe] at M4' MD4 F4' hMB HV ⊢
        clear hW4 hMBe hsz4
        go_loopw [10, 14] (fun pv i wr => ∃ (wz : World) (k' p' m' : Nat) (F : LF) (L : List Ft) (al : Option Addr) (nl cl : Nat), wz = wr ∧ pv = .pointer (some ⟨p', 0, none⟩) ∧ i = .int .i64 k' ∧ k' ≤ n ∧ MdAt wr MB (.slice a k cap) (.slice al nl cl) ∧ Mods wr p' m' v2 (.slice a k cap) fs F (.slice al nl cl) L k' ∧ Fr [] w wr ∧ w.heap.size ≤ m') (fun _ i _ => n - (intOf i).toNat)
        case atStart => exact ⟨_, 0, p0, m0, _, [], none, 0, 0, rfl, rfl, rfl, by omega, MD4.out, M4'.out, F4'.out, hm0w⟩
        case round =>
          obtain ⟨wr2, k', p', m', F, L, al, nl, cl, hwz, rfl, rfl, hk', hMD, hMO, hFR, hm'⟩ := hrel
          subst hwz
          clear MD4 M4' F4' hm0w
          by_cases hlt : k' < n
          · have hx := List.getElem?_eq_getElem (l := l) (i := k') (by rw [HN.out]; exact hlt)
            obtain ⟨x, hxe⟩ : ∃ x, l[k']'(by rw [HN.out]; exact hlt) = x := ⟨_, rfl⟩
            rw [hxe] at hx
            rcases HA.out with ⟨h1, _⟩ | ⟨g, off, cap', hv, hg, hcells⟩
            · rw [h1] at hx
              simp at hx
            rw [HN.out] at hv
            simp only [Value.slice.injEq] at hv
            obtain ⟨rfl, _, rfl⟩ := hv
            obtain ⟨c0, c1, c2, c3⟩ := hcells k' x hx
            have hgm : g ≠ m' := by omega
            have c0 := hFR.keep c0 (by simp)
            have c1 := hFR.keep c1 (by simp)
            have c2 := hFR.keep c2 (by simp)
            have c3 := hFR.keep c3 (by simp)
            have k0 : (0 : Int) ≤ (k' : Int) := Int.natCast_nonneg _
            have k1 : (k' : Int) < (n : Int) := by omega
            have md0 := hMD.c0
            have md1 := hMD.c1
            have mBm := (hMO.offMd hMD).2
            have hBlt := hMD.lt
            have hmlt := hMO.plan.lanes.lt
            have hsz5 := hFR.size
            obtain ⟨xw, xc, xd, xn⟩ := x
            simp only at c0 c1 c2 c3
            have HMD := Lib.hid hMD
            have HMO := Lib.hid hMO
            have HFR := Lib.hid hFR
            have HGM := Lib.hid hgm
            have HBM := Lib.hid mBm
            clear hMD hMO hFR hgm mBm hx hxe hcells
            go_wp2
            have KS := Lib.hid (fun W' (f : Fr [m'] wr2 W') => (show (fun w' => w'.cell? ⟨MB, 0, none⟩ = some (.slice a k cap) ∧ w'.cell? ⟨MB, 1, none⟩ = some (.slice al nl cl) ∧ w'.cell? ⟨g, off + k' * 4, none⟩ = some (.int .i64 xw) ∧ w'.cell? ⟨g, off + k' * 4 + 1, none⟩ = some (.int .i64 xc) ∧ w'.cell? ⟨g, off + k' * 4 + 2, none⟩ = some (.int .i64 xd) ∧ w'.cell? ⟨g, off + k' * 4 + 3, none⟩ = some (.int .i64 xn)) W' from ⟨f.keep md0 (by rw [List.mem_singleton]; exact HBM.out.symm), f.keep md1 (by rw [List.mem_singleton]; exact HBM.out.symm), f.keep c0 (by rw [List.mem_singleton]; exact HGM.out), f.keep c1 (by rw [List.mem_singleton]; exact HGM.out), f.keep c2 (by rw [List.mem_singleton]; exact HGM.out), f.keep c3 (by rw [List.mem_singleton]; exact HGM.out)⟩))
            refine wp_region_held_drew (S := fun w' => w'.cell? ⟨MB, 0, none⟩ = some (.slice a k cap) ∧ w'.cell? ⟨MB, 1, none⟩ = some (.slice al nl cl) ∧ w'.cell? ⟨g, off + k' * 4, none⟩ = some (.int .i64 xw) ∧ w'.cell? ⟨g, off + k' * 4 + 1, none⟩ = some (.int .i64 xc) ∧ w'.cell? ⟨g, off + k' * 4 + 2, none⟩ = some (.int .i64 xd) ∧ w'.cell? ⟨g, off + k' * 4 + 3, none⟩ = some (.int .i64 xn)) (by kernel_rfl) (⟨md0, md1, c0, c1, c2, c3⟩) (fun hHeld => ?_)
            refine wpAnyH_take (i := 0) (oi := _) (v := ?_) rfl (by kernel_rfl) (by kernel_rfl) (by kernel_rfl) (fun _ _ _ h => h) (Or.inl ⟨by rfl, ?_⟩) (by assumption) ?_
            rotate_left
            · intro w hSw
              try dsimp only at hSw
              go_simp
              try with_reducible rfl
            try simp only [Act.put, List.getElem_toArray, List.getElem_cons_succ, List.getElem_cons_zero, List.setIfInBounds_toArray, List.set_cons_zero, List.set_cons_succ]
            refine wpAnyH_take (i := 1) (oi := _) (v := ?_) rfl (by kernel_rfl) (by kernel_rfl) (by kernel_rfl) (fun _ _ _ h => h) (Or.inl ⟨by rfl, ?_⟩) (by assumption) ?_
            rotate_left
            · intro w hSw
              try dsimp only at hSw
              go_simp
              try with_reducible rfl
            try simp only [Act.put, List.getElem_toArray, List.getElem_cons_succ, List.getElem_cons_zero, List.setIfInBounds_toArray, List.set_cons_zero, List.set_cons_succ]
            refine wpAnyH_take (i := 2) (oi := _) (v := ?_) rfl (by kernel_rfl) (by kernel_rfl) (by kernel_rfl) (fun _ _ _ h => h) (Or.inl ⟨by rfl, ?_⟩) (by assumption) ?_
            rotate_left
            · intro w hSw
              try dsimp only at hSw
              go_simp
              try with_reducible rfl
            try simp only [Act.put, List.getElem_toArray, List.getElem_cons_succ, List.getElem_cons_zero, List.setIfInBounds_toArray, List.set_cons_zero, List.set_cons_succ]
            refine wpAnyH_take (i := 3) (oi := _) (v := ?_) rfl (by kernel_rfl) (by kernel_rfl) (by kernel_rfl) (fun _ _ _ h => h) (Or.inl ⟨by rfl, ?_⟩) (by assumption) ?_
            rotate_left
            · intro w hSw
              try dsimp only at hSw
              go_simp
              try with_reducible rfl
            try simp only [Act.put, List.getElem_toArray, List.getElem_cons_succ, List.getElem_cons_zero, List.setIfInBounds_toArray, List.set_cons_zero, List.set_cons_succ]
            refine wpAnyH_take (i := 4) (oi := _) (v := ?_) rfl (by kernel_rfl) (by kernel_rfl) (by kernel_rfl) (fun _ _ _ h => h) (Or.inl ⟨by rfl, ?_⟩) (by assumption) ?_
            rotate_left
            · intro w hSw
              try dsimp only at hSw
              go_simp
              try with_reducible rfl
            try simp only [Act.put, List.getElem_toArray, List.getElem_cons_succ, List.getElem_cons_zero, List.setIfInBounds_toArray, List.set_cons_zero, List.set_cons_succ]
            refine wpAnyH_take (i := 5) (oi := _) (v := ?_) rfl (by kernel_rfl) (by kernel_rfl) (by kernel_rfl) (fun _ _ _ h => h) (Or.inl ⟨by rfl, ?_⟩) (by assumption) ?_
            rotate_left
            · intro w hSw
              try dsimp only at hSw
              go_simp
              try with_reducible rfl
            try simp only [Act.put, List.getElem_toArray, List.getElem_cons_succ, List.getElem_cons_zero, List.setIfInBounds_toArray, List.set_cons_zero, List.set_cons_succ]
            refine wpAnyH_ready (rs := [6, 11]) (by kernel_rfl) (by simp) ?_
            refine AllReadyH.cons (o := _) rfl (fun K hK => ?_) (AllReadyH.cons (o := _) rfl (fun K hK => ?_) AllReadyH.nil)
            · skip
              go_simp
              refine (step_any a k cap (.slice al nl cl) L k' (by omega) ⟨xw, xc, xd, xn⟩ _ (HMO.out.new (Fr.refl [] wr2).drew)).mono ?_
              rintro e w7 ⟨p7, m7, F7, L7, vl7, rfl, M7, f7, hor⟩
              obtain ⟨al7, cl7, hv7⟩ := M7.row.val
              obtain ⟨nl7, hl7⟩ : ∃ n, L7.length = n := ⟨_, rfl⟩
              rw [hl7] at hv7
              subst hv7
              have f70 := f7
              replace f7 : Fr [m'] wr2 w7 := Fr.trans (((Fr.refl [] wr2).drew).mono (T := [m']) (fun _ hx => by cases hx)) f7 (fun _ hx _ => hx)
              have hm7 : w.heap.size ≤ m7 := by rcases hor with ⟨_, h⟩ | ⟨_, h⟩; (· omega); (· have h9 : Fr [] wr2 _ := (Fr.refl [] wr2).drew; have := h9.size; omega)
              have M7' := Lib.hid M7
              have F7' := Lib.hid f7
              have F70 := Lib.hid f70
              have hsz7 := f7.size
              have hsz70 := f70.size
              clear M7 f7 f70 hor hl7
              refine hK.out _ _ (KS.out _ F7'.out) (fun hHeld => ?_)
              clear hK K
              try simp only [Act.put, List.getElem_toArray, List.getElem_cons_succ, List.getElem_cons_zero, List.setIfInBounds_toArray, List.set_cons_zero, List.set_cons_succ]
              refine wpAnyH_take (i := 7) (oi := _) (v := ?_) rfl (by kernel_rfl) (by kernel_rfl) (by kernel_rfl) (fun _ _ _ h => h) (Or.inl ⟨by rfl, ?_⟩) (by assumption) ?_
              rotate_left
              · intro w hSw
                try dsimp only at hSw
                go_simp
                try with_reducible rfl
              try simp only [Act.put, List.getElem_toArray, List.getElem_cons_succ, List.getElem_cons_zero, List.setIfInBounds_toArray, List.set_cons_zero, List.set_cons_succ]
              refine wpAnyH_take (i := 8) (oi := _) (v := ?_) rfl (by kernel_rfl) (by kernel_rfl) (by kernel_rfl) (fun _ _ _ h => h) (Or.inl ⟨by rfl, ?_⟩) (by assumption) ?_
              rotate_left
              · intro w hSw
                try dsimp only at hSw
                go_simp
                try with_reducible rfl
              try simp only [Act.put, List.getElem_toArray, List.getElem_cons_succ, List.getElem_cons_zero, List.setIfInBounds_toArray, List.set_cons_zero, List.set_cons_succ]
              refine wpAnyH_take (i := 9) (oi := _) (v := ?_) rfl (by kernel_rfl) (by kernel_rfl) (by kernel_rfl) (fun _ _ _ h => h) (Or.inl ⟨by rfl, ?_⟩) (by assumption) ?_
              rotate_left
              · intro w hSw
                try dsimp only at hSw
                go_simp
                try with_reducible rfl
              try simp only [Act.put, List.getElem_toArray, List.getElem_cons_succ, List.getElem_cons_zero, List.setIfInBounds_toArray, List.set_cons_zero, List.set_cons_succ]
              refine wpAnyH_take (i := 10) (oi := _) (v := ?_) rfl (by kernel_rfl) (by kernel_rfl) (by kernel_rfl) (fun _ _ _ h => h) (Or.inl ⟨by rfl, ?_⟩) (by assumption) ?_
              rotate_left
              · intro w hSw
                try dsimp only at hSw
                go_simp
                try with_reducible rfl
              try simp only [Act.put, List.getElem_toArray, List.getElem_cons_succ, List.getElem_cons_zero, List.setIfInBounds_toArray, List.set_cons_zero, List.set_cons_succ]
              refine wpAnyH_ready (rs := [11]) (by kernel_rfl) (by simp) ?_
              refine AllReadyH.cons (o := _) rfl (fun K hK => ?_) AllReadyH.nil
              go_simp
              refine hK.out _ _ (KS.out _ (F7'.out.step ((Fr.refl [] w7).alloc _))) (fun hHeld => ?_)
              clear hK K
              try simp only [Act.put, List.getElem_toArray, List.getElem_cons_succ, List.getElem_cons_zero, List.setIfInBounds_toArray, List.set_cons_zero, List.set_cons_succ]
              refine wpAnyH_take (i := 12) (oi := _) (v := ?_) rfl (by kernel_rfl) (by kernel_rfl) (by kernel_rfl) (fun _ _ _ h => h) (Or.inl ⟨by rfl, ?_⟩) (by assumption) ?_
              rotate_left
              · intro w hSw
                try dsimp only at hSw
                go_simp
                try with_reducible rfl
              try simp only [Act.put, List.getElem_toArray, List.getElem_cons_succ, List.getElem_cons_zero, List.setIfInBounds_toArray, List.set_cons_zero, List.set_cons_succ]
              refine wpAnyH_ready (rs := [13]) (by kernel_rfl) (by simp) ?_
              refine AllReadyH.cons (o := _) rfl (fun K hK => ?_) AllReadyH.nil
              go_simp
              refine hK.out _ _ (KS.out _ (F7'.out.step ((Fr.refl [] w7).alloc _))) (fun hHeld => ?_)
              clear hK K
              try simp only [Act.put, List.getElem_toArray, List.getElem_cons_succ, List.getElem_cons_zero, List.setIfInBounds_toArray, List.set_cons_zero, List.set_cons_succ]
              refine wpAnyH_take (i := 14) (oi := _) (v := ?_) rfl (by kernel_rfl) (by kernel_rfl) (by kernel_rfl) (fun _ _ _ h => h) (Or.inl ⟨by rfl, ?_⟩) (by assumption) ?_
              rotate_left
              · intro w hSw
                try dsimp only at hSw
                go_simp
                try with_reducible rfl
              try simp only [Act.put, List.getElem_toArray, List.getElem_cons_succ, List.getElem_cons_zero, List.setIfInBounds_toArray, List.set_cons_zero, List.set_cons_succ]
              refine wpAnyH_done (by kernel_rfl) ?_ _
              have fB : Fr [] w7 (w7.alloc (.cells #[.slice a k cap, .slice al7 nl7 cl7] 58)) := (Fr.refl [] w7).alloc _
              have mdB := MdAt.made w7 (.slice a k cap) (.slice al7 nl7 cl7)
              have M8 := Lib.hid (M7'.out.new fB)
              have F8 := Lib.hid (F7'.out.step fB)
              obtain ⟨V, hV⟩ : ∃ W, w7.alloc (.cells #[.slice a k cap, .slice al7 nl7 cl7] 58) = W := ⟨_, rfl⟩
              obtain ⟨B16, hB⟩ : ∃ B, w7.heap.size = B := ⟨_, rfl⟩
              simp only [hV, hB] at mdB M8 F8 ⊢
              clear hV hB fB M7' F7' F70 hsz7 hsz70
              have b0 := mdB.c0
              have b1 := mdB.c1
              have d1 := F8.out.keep c1 (by rw [List.mem_singleton]; exact HGM.out)
              have d2 := F8.out.keep c2 (by rw [List.mem_singleton]; exact HGM.out)
              have HMB := Lib.hid mdB
              have KV := Lib.hid (fun W' (f : Fr [] V W') => (show (fun w' => w'.cell? ⟨B16, 0, none⟩ = some (.slice a k cap) ∧ w'.cell? ⟨B16, 1, none⟩ = some (.slice al7 nl7 cl7) ∧ w'.cell? ⟨g, off + k' * 4 + 1, none⟩ = some (.int .i64 xc) ∧ w'.cell? ⟨g, off + k' * 4 + 2, none⟩ = some (.int .i64 xd)) W' from ⟨f.keep b0 (by simp), f.keep b1 (by simp), f.keep d1 (by simp), f.keep d2 (by simp)⟩))
              clear mdB c0 c1 c2 c3 md0 md1 KS hHeld
              go_wp2
              refine wp_region_held_drew (S := fun w' => w'.cell? ⟨B16, 0, none⟩ = some (.slice a k cap) ∧ w'.cell? ⟨B16, 1, none⟩ = some (.slice al7 nl7 cl7) ∧ w'.cell? ⟨g, off + k' * 4 + 1, none⟩ = some (.int .i64 xc) ∧ w'.cell? ⟨g, off + k' * 4 + 2, none⟩ = some (.int .i64 xd)) (by kernel_rfl) (⟨b0, b1, d1, d2⟩) (fun hHeld => ?_)
              refine wpAnyH_take (i := 0) (oi := _) (v := ?_) rfl (by kernel_rfl) (by kernel_rfl) (by kernel_rfl) (fun _ _ _ h => h) (Or.inl ⟨by rfl, ?_⟩) (by assumption) ?_
              rotate_left
              · intro w hSw
                try dsimp only at hSw
                go_simp
                try with_reducible rfl
              try simp only [Act.put, List.getElem_toArray, List.getElem_cons_succ, List.getElem_cons_zero, List.setIfInBounds_toArray, List.set_cons_zero, List.set_cons_succ]
              refine wpAnyH_take (i := 1) (oi := _) (v := ?_) rfl (by kernel_rfl) (by kernel_rfl) (by kernel_rfl) (fun _ _ _ h => h) (Or.inl ⟨by rfl, ?_⟩) (by assumption) ?_
              rotate_left
              · intro w hSw
                try dsimp only at hSw
                go_simp
                try with_reducible rfl
              try simp only [Act.put, List.getElem_toArray, List.getElem_cons_succ, List.getElem_cons_zero, List.setIfInBounds_toArray, List.set_cons_zero, List.set_cons_succ]
              refine wpAnyH_take (i := 2) (oi := _) (v := ?_) rfl (by kernel_rfl) (by kernel_rfl) (by kernel_rfl) (fun _ _ _ h => h) (Or.inl ⟨by rfl, ?_⟩) (by assumption) ?_
              rotate_left
              · intro w hSw
                try dsimp only at hSw
                go_simp
                try with_reducible rfl
              try simp only [Act.put, List.getElem_toArray, List.getElem_cons_succ, List.getElem_cons_zero, List.setIfInBounds_toArray, List.set_cons_zero, List.set_cons_succ]
              refine wpAnyH_take (i := 3) (oi := _) (v := ?_) rfl (by kernel_rfl) (by kernel_rfl) (by kernel_rfl) (fun _ _ _ h => h) (Or.inl ⟨by rfl, ?_⟩) (by assumption) ?_
              rotate_left
              · intro w hSw
                try dsimp only at hSw
                go_simp
                try with_reducible rfl
              try simp only [Act.put, List.getElem_toArray, List.getElem_cons_succ, List.getElem_cons_zero, List.setIfInBounds_toArray, List.set_cons_zero, List.set_cons_succ]
              refine wpAnyH_take (i := 4) (oi := _) (v := ?_) rfl (by kernel_rfl) (by kernel_rfl) (by kernel_rfl) (fun _ _ _ h => h) (Or.inl ⟨by rfl, ?_⟩) (by assumption) ?_
              rotate_left
              · intro w hSw
                try dsimp only at hSw
                go_simp
                try with_reducible rfl
              try simp only [Act.put, List.getElem_toArray, List.getElem_cons_succ, List.getElem_cons_zero, List.setIfInBounds_toArray, List.set_cons_zero, List.set_cons_succ]
              refine wpAnyH_take (i := 5) (oi := _) (v := ?_) rfl (by kernel_rfl) (by kernel_rfl) (by kernel_rfl) (fun _ _ _ h => h) (Or.inl ⟨by rfl, ?_⟩) (by assumption) ?_
              rotate_left
              · intro w hSw
                try dsimp only at hSw
                go_simp
                try with_reducible rfl
              try simp only [Act.put, List.getElem_toArray, List.getElem_cons_succ, List.getElem_cons_zero, List.setIfInBounds_toArray, List.set_cons_zero, List.set_cons_succ]
              refine wpAnyH_take (i := 6) (oi := _) (v := ?_) rfl (by kernel_rfl) (by kernel_rfl) (by kernel_rfl) (fun _ _ _ h => h) (Or.inl ⟨by rfl, ?_⟩) (by assumption) ?_
              rotate_left
              · intro w hSw
                try dsimp only at hSw
                go_simp
                try with_reducible rfl
              try simp only [Act.put, List.getElem_toArray, List.getElem_cons_succ, List.getElem_cons_zero, List.setIfInBounds_toArray, List.set_cons_zero, List.set_cons_succ]
              refine wpAnyH_take (i := 7) (oi := _) (v := ?_) rfl (by kernel_rfl) (by kernel_rfl) (by kernel_rfl) (fun _ _ _ h => h) (Or.inl ⟨by rfl, ?_⟩) (by assumption) ?_
              rotate_left
              · intro w hSw
                try dsimp only at hSw
                go_simp
                try with_reducible rfl
              try simp only [Act.put, List.getElem_toArray, List.getElem_cons_succ, List.getElem_cons_zero, List.setIfInBounds_toArray, List.set_cons_zero, List.set_cons_succ]
              refine wpAnyH_take (i := 8) (oi := _) (v := ?_) rfl (by kernel_rfl) (by kernel_rfl) (by kernel_rfl) (fun _ _ _ h => h) (Or.inl ⟨by rfl, ?_⟩) (by assumption) ?_
              rotate_left
              · intro w hSw
                try dsimp only at hSw
                go_simp
                try with_reducible rfl
              try simp only [Act.put, List.getElem_toArray, List.getElem_cons_succ, List.getElem_cons_zero, List.setIfInBounds_toArray, List.set_cons_zero, List.set_cons_succ]
              refine wpAnyH_take (i := 9) (oi := _) (v := ?_) rfl (by kernel_rfl) (by kernel_rfl) (by kernel_rfl) (fun _ _ _ h => h) (Or.inl ⟨by rfl, ?_⟩) (by assumption) ?_
              rotate_left
              · intro w hSw
                try dsimp only at hSw
                go_simp
                try with_reducible rfl
              try simp only [Act.put, List.getElem_toArray, List.getElem_cons_succ, List.getElem_cons_zero, List.setIfInBounds_toArray, List.set_cons_zero, List.set_cons_succ]
              refine wpAnyH_take (i := 10) (oi := _) (v := ?_) rfl (by kernel_rfl) (by kernel_rfl) (by kernel_rfl) (fun _ _ _ h => h) (Or.inl ⟨by rfl, ?_⟩) (by assumption) ?_
              rotate_left
              · intro w hSw
                try dsimp only at hSw
                go_simp
                try with_reducible rfl
              try simp only [Act.put, List.getElem_toArray, List.getElem_cons_succ, List.getElem_cons_zero, List.setIfInBounds_toArray, List.set_cons_zero, List.set_cons_succ]
              refine wpAnyH_take (i := 11) (oi := _) (v := ?_) rfl (by kernel_rfl) (by kernel_rfl) (by kernel_rfl) (fun _ _ _ h => h) (Or.inl ⟨by rfl, ?_⟩) (by assumption) ?_
              rotate_left
              · intro w hSw
                try dsimp only at hSw
                go_simp
                try with_reducible rfl
              try simp only [Act.put, List.getElem_toArray, List.getElem_cons_succ, List.getElem_cons_zero, List.setIfInBounds_toArray, List.set_cons_zero, List.set_cons_succ]
              refine wpAnyH_take (i := 12) (oi := _) (v := ?_) rfl (by kernel_rfl) (by kernel_rfl) (by kernel_rfl) (fun _ _ _ h => h) (Or.inl ⟨by rfl, ?_⟩) (by assumption) ?_
              rotate_left
              · intro w hSw
                try dsimp only at hSw
                go_simp
                try with_reducible rfl
              try simp only [Act.put, List.getElem_toArray, List.getElem_cons_succ, List.getElem_cons_zero, List.setIfInBounds_toArray, List.set_cons_zero, List.set_cons_succ]
              refine wpAnyH_take (i := 13) (oi := _) (v := ?_) rfl (by kernel_rfl) (by kernel_rfl) (by kernel_rfl) (fun _ _ _ h => h) (Or.inl ⟨by rfl, ?_⟩) (by assumption) ?_
              rotate_left
              · intro w hSw
                try dsimp only at hSw
                go_simp
                try with_reducible rfl
              try simp only [Act.put, List.getElem_toArray, List.getElem_cons_succ, List.getElem_cons_zero, List.setIfInBounds_toArray, List.set_cons_zero, List.set_cons_succ]
              refine wpAnyH_take (i := 14) (oi := _) (v := ?_) rfl (by kernel_rfl) (by kernel_rfl) (by kernel_rfl) (fun _ _ _ h => h) (Or.inl ⟨by rfl, ?_⟩) (by assumption) ?_
              rotate_left
              · intro w hSw
                try dsimp only at hSw
                go_simp
                try with_reducible rfl
              try simp only [Act.put, List.getElem_toArray, List.getElem_cons_succ, List.getElem_cons_zero, List.setIfInBounds_toArray, List.set_cons_zero, List.set_cons_succ]
              refine wpAnyH_take (i := 15) (oi := _) (v := ?_) rfl (by kernel_rfl) (by kernel_rfl) (by kernel_rfl) (fun _ _ _ h => h) (Or.inl ⟨by rfl, ?_⟩) (by assumption) ?_
              rotate_left
              · intro w hSw
                try dsimp only at hSw
                go_simp
                try with_reducible rfl
              try simp only [Act.put, List.getElem_toArray, List.getElem_cons_succ, List.getElem_cons_zero, List.setIfInBounds_toArray, List.set_cons_zero, List.set_cons_succ]
              refine wpAnyH_take (i := 16) (oi := _) (v := ?_) rfl (by kernel_rfl) (by kernel_rfl) (by kernel_rfl) (fun _ _ _ h => h) (Or.inl ⟨by rfl, ?_⟩) (by assumption) ?_
              rotate_left
              · intro w hSw
                try dsimp only at hSw
                go_simp
                try with_reducible rfl
              try simp only [Act.put, List.getElem_toArray, List.getElem_cons_succ, List.getElem_cons_zero, List.setIfInBounds_toArray, List.set_cons_zero, List.set_cons_succ]
              refine wpAnyH_take (i := 17) (oi := _) (v := ?_) rfl (by kernel_rfl) (by kernel_rfl) (by kernel_rfl) (fun _ _ _ h => h) (Or.inl ⟨by rfl, ?_⟩) (by assumption) ?_
              rotate_left
              · intro w hSw
                try dsimp only at hSw
                go_simp
                try with_reducible rfl
              try simp only [Act.put, List.getElem_toArray, List.getElem_cons_succ, List.getElem_cons_zero, List.setIfInBounds_toArray, List.set_cons_zero, List.set_cons_succ]
              refine wpAnyH_take (i := 18) (oi := _) (v := ?_) rfl (by kernel_rfl) (by kernel_rfl) (by kernel_rfl) (fun _ _ _ h => h) (Or.inl ⟨by rfl, ?_⟩) (by assumption) ?_
              rotate_left
              · intro w hSw
                try dsimp only at hSw
                go_simp
                try with_reducible rfl
              try simp only [Act.put, List.getElem_toArray, List.getElem_cons_succ, List.getElem_cons_zero, List.setIfInBounds_toArray, List.set_cons_zero, List.set_cons_succ]
              refine wpAnyH_ready (rs := [19]) (by kernel_rfl) (by simp) ?_
              refine AllReadyH.cons (o := _) rfl (fun K hK => ?_) AllReadyH.nil
              go_simp
              refine (alike_any (.slice a k cap) (.slice al7 nl7 cl7) L7 (by have := M8.out.len; omega) xc xd _ (M8.out.plan.new (Fr.refl [] V).drew) (M8.out.row.new (Fr.refl [] V).drew) M8.out.lf).mono ?_
              rintro e w9 ⟨rfl, f9⟩
              replace f9 : Fr [] V w9 := ((Fr.refl [] V).drew).step f9
              refine hK.out _ _ (KV.out _ f9) (fun hHeld => ?_)
              clear hK K
              try simp only [Act.put, List.getElem_toArray, List.getElem_cons_succ, List.getElem_cons_zero, List.setIfInBounds_toArray, List.set_cons_zero, List.set_cons_succ]
              refine wpAnyH_take (i := 20) (oi := _) (v := ?_) rfl (by kernel_rfl) (by kernel_rfl) (by kernel_rfl) (fun _ _ _ h => h) (Or.inl ⟨by rfl, ?_⟩) (by assumption) ?_
              rotate_left
              · intro w hSw
                try dsimp only at hSw
                go_simp
                try with_reducible rfl
              try simp only [Act.put, List.getElem_toArray, List.getElem_cons_succ, List.getElem_cons_zero, List.setIfInBounds_toArray, List.set_cons_zero, List.set_cons_succ]
              refine wpAnyH_take (i := 21) (oi := _) (v := ?_) rfl (by kernel_rfl) (by kernel_rfl) (by kernel_rfl) (fun _ _ _ h => h) (Or.inl ⟨by rfl, ?_⟩) (by assumption) ?_
              rotate_left
              · intro w hSw
                try dsimp only at hSw
                go_simp
                try with_reducible rfl
              try simp only [Act.put, List.getElem_toArray, List.getElem_cons_succ, List.getElem_cons_zero, List.setIfInBounds_toArray, List.set_cons_zero, List.set_cons_succ]
              refine wpAnyH_take (i := 22) (oi := _) (v := ?_) rfl (by kernel_rfl) (by kernel_rfl) (by kernel_rfl) (fun _ _ _ h => h) (Or.inl ⟨by rfl, ?_⟩) (by assumption) ?_
              rotate_left
              · intro w hSw
                try dsimp only at hSw
                go_simp
                try with_reducible rfl
              try simp only [Act.put, List.getElem_toArray, List.getElem_cons_succ, List.getElem_cons_zero, List.setIfInBounds_toArray, List.set_cons_zero, List.set_cons_succ]
              refine wpAnyH_take (i := 23) (oi := _) (v := ?_) rfl (by kernel_rfl) (by kernel_rfl) (by kernel_rfl) (fun _ _ _ h => h) (Or.inl ⟨by rfl, ?_⟩) (by assumption) ?_
              rotate_left
              · intro w hSw
                try dsimp only at hSw
                go_simp
                try with_reducible rfl
              try simp only [Act.put, List.getElem_toArray, List.getElem_cons_succ, List.getElem_cons_zero, List.setIfInBounds_toArray, List.set_cons_zero, List.set_cons_succ]
              refine wpAnyH_take (i := 24) (oi := _) (v := ?_) rfl (by kernel_rfl) (by kernel_rfl) (by kernel_rfl) (fun _ _ _ h => h) (Or.inl ⟨by rfl, ?_⟩) (by assumption) ?_
              rotate_left
              · intro w hSw
                try dsimp only at hSw
                go_simp
                try with_reducible rfl
              try simp only [Act.put, List.getElem_toArray, List.getElem_cons_succ, List.getElem_cons_zero, List.setIfInBounds_toArray, List.set_cons_zero, List.set_cons_succ]
              refine wpAnyH_take (i := 25) (oi := _) (v := ?_) rfl (by kernel_rfl) (by kernel_rfl) (by kernel_rfl) (fun _ _ _ h => h) (Or.inl ⟨by rfl, ?_⟩) (by assumption) ?_
              rotate_left
              · intro w hSw
                try dsimp only at hSw
                go_simp
                try with_reducible rfl
              try simp only [Act.put, List.getElem_toArray, List.getElem_cons_succ, List.getElem_cons_zero, List.setIfInBounds_toArray, List.set_cons_zero, List.set_cons_succ]
              refine wpAnyH_take (i := 26) (oi := _) (v := ?_) rfl (by kernel_rfl) (by kernel_rfl) (by kernel_rfl) (fun _ _ _ h => h) (Or.inl ⟨by rfl, ?_⟩) (by assumption) ?_
              rotate_left
              · intro w hSw
                try dsimp only at hSw
                go_simp
                try with_reducible rfl
              try simp only [Act.put, List.getElem_toArray, List.getElem_cons_succ, List.getElem_cons_zero, List.setIfInBounds_toArray, List.set_cons_zero, List.set_cons_succ]
              refine wpAnyH_ready (rs := [27]) (by kernel_rfl) (by simp) ?_
              refine AllReadyH.cons (o := _) rfl (fun K hK => ?_) AllReadyH.nil
              go_simp
              refine (alike_any (.slice a k cap) (.slice al7 nl7 cl7) L7 (by have := M8.out.len; omega) x2 x3 _ (M8.out.plan.new f9) (M8.out.row.new f9) M8.out.lf).mono ?_
              rintro e w10 ⟨rfl, f10⟩
              replace f10 : Fr [] V w10 := f9.step f10
              refine hK.out _ _ (KV.out _ f10) (fun hHeld => ?_)
              clear hK K
              try simp only [Act.put, List.getElem_toArray, List.getElem_cons_succ, List.getElem_cons_zero, List.setIfInBounds_toArray, List.set_cons_zero, List.set_cons_succ]
              refine wpAnyH_take (i := 28) (oi := _) (v := ?_) rfl (by kernel_rfl) (by kernel_rfl) (by kernel_rfl) (fun _ _ _ h => h) (Or.inl ⟨by rfl, ?_⟩) (by assumption) ?_
              rotate_left
              · intro w hSw
                try dsimp only at hSw
                go_simp
                try with_reducible rfl
              try simp only [Act.put, List.getElem_toArray, List.getElem_cons_succ, List.getElem_cons_zero, List.setIfInBounds_toArray, List.set_cons_zero, List.set_cons_succ]
              refine wpAnyH_take (i := 29) (oi := _) (v := ?_) rfl (by kernel_rfl) (by kernel_rfl) (by kernel_rfl) (fun _ _ _ h => h) (Or.inl ⟨by rfl, ?_⟩) (by assumption) ?_
              rotate_left
              · intro w hSw
                try dsimp only at hSw
                go_simp
                try with_reducible rfl
              try simp only [Act.put, List.getElem_toArray, List.getElem_cons_succ, List.getElem_cons_zero, List.setIfInBounds_toArray, List.set_cons_zero, List.set_cons_succ]
              refine wpAnyH_done (by kernel_rfl) ?_ _
              have md10 := (HMD.out.keep F8.out (by rw [List.mem_singleton]; exact HBM.out.symm)).keep f10 (by simp)
              have mb10 := HMB.out.keep f10 (by simp)
              have b0' := mb10.c0
              have b1' := mb10.c1
              have q0 := md10.c0
              have q1 := md10.c1
              have qz := md10.fz
              have F10 := Lib.hid f10
              have M10 := Lib.hid (M8.out.new f10)
              have MD10 := Lib.hid md10
              clear hHeld KV b0 b1 d1 d2 f9 f10 md10 mb10
              go_wp2
              go_region
              go_wp2
              go_roundw
              case rel =>
                have fR := fr_two (R := MB) w10 (.slice a k cap) (.slice al7 nl7 cl7)
                have fZ : Fr [] w w10 := (HFR.out.trans F8.out (fun x hx hl => by rw [List.mem_singleton] at hx; omega)).step F10.out
                exact ⟨_, k' + 1, p7, m7, F7, L7, al7, nl7, cl7, rfl, rfl, by go_num, by omega, (MD10.out.set0 _).set1 _, M10.out.stored HV.out MD10.out fR, fZ.trans fR (fun x hx hl => by rw [List.mem_singleton] at hx; omega), hm7⟩
              case measure => simp [intOf]; omega
            · skip
              go_simp
              refine hK.out _ _ (KS.out _ (((Fr.refl [m'] wr2).alloc _).drew)) (fun hHeld => ?_)
              clear hK K
              try simp only [Act.put, List.getElem_toArray, List.getElem_cons_succ, List.getElem_cons_zero, List.setIfInBounds_toArray, List.set_cons_zero, List.set_cons_succ]
              refine wpAnyH_ready (rs := [6]) (by kernel_rfl) (by simp) ?_
              refine AllReadyH.cons (o := _) rfl (fun K hK => ?_) AllReadyH.nil
              go_simp
              refine (step_any a k cap (.slice al nl cl) L k' (by omega) ⟨xw, xc, xd, xn⟩ _ (HMO.out.new ((Fr.refl [] wr2).alloc (.cells #[.slice none 0 0, .slice none 0 0] 58)).drew)).mono ?_
              rintro e w7 ⟨p7, m7, F7, L7, vl7, rfl, M7, f7, hor⟩
              obtain ⟨al7, cl7, hv7⟩ := M7.row.val
              obtain ⟨nl7, hl7⟩ : ∃ n, L7.length = n := ⟨_, rfl⟩
              rw [hl7] at hv7
              subst hv7
              have f70 := f7
              replace f7 : Fr [m'] wr2 w7 := Fr.trans ((((Fr.refl [] wr2).alloc (.cells #[.slice none 0 0, .slice none 0 0] 58)).drew).mono (T := [m']) (fun _ hx => by cases hx)) f7 (fun _ hx _ => hx)
              have hm7 : w.heap.size ≤ m7 := by rcases hor with ⟨_, h⟩ | ⟨_, h⟩; (· omega); (· have h9 : Fr [] wr2 _ := ((Fr.refl [] wr2).alloc (.cells #[.slice none 0 0, .slice none 0 0] 58)).drew; have := h9.size; omega)
              have M7' := Lib.hid M7
              have F7' := Lib.hid f7
              have F70 := Lib.hid f70
              have hsz7 := f7.size
              have hsz70 := f70.size
              clear M7 f7 f70 hor hl7
              have mdZ : MdAt w7 wr2.heap.size (.slice none 0 0) (.slice none 0 0) := MdAt.keep (W := (wr2.alloc (.cells #[.slice none 0 0, .slice none 0 0] 58)).drew) (show MdAt (wr2.alloc (.cells #[.slice none 0 0, .slice none 0 0] 58)).drew wr2.heap.size (.slice none 0 0) (.slice none 0 0) from MdAt.made wr2 _ _) F70.out (show wr2.heap.size ∉ [m'] by rw [List.mem_singleton]; omega)
              have z0 := mdZ.c0
              have z1 := mdZ.c1
              have zz := mdZ.fz
              refine hK.out _ _ (KS.out _ F7'.out) (fun hHeld => ?_)
              clear hK K
              try simp only [Act.put, List.getElem_toArray, List.getElem_cons_succ, List.getElem_cons_zero, List.setIfInBounds_toArray, List.set_cons_zero, List.set_cons_succ]
              refine wpAnyH_take (i := 7) (oi := _) (v := ?_) rfl (by kernel_rfl) (by kernel_rfl) (by kernel_rfl) (fun _ _ _ h => h) (Or.inl ⟨by rfl, ?_⟩) (by assumption) ?_
              rotate_left
              · intro w hSw
                try dsimp only at hSw
                go_simp
                try with_reducible rfl
              try simp only [Act.put, List.getElem_toArray, List.getElem_cons_succ, List.getElem_cons_zero, List.setIfInBounds_toArray, List.set_cons_zero, List.set_cons_succ]
              refine wpAnyH_take (i := 8) (oi := _) (v := ?_) rfl (by kernel_rfl) (by kernel_rfl) (by kernel_rfl) (fun _ _ _ h => h) (Or.inl ⟨by rfl, ?_⟩) (by assumption) ?_
              rotate_left
              · intro w hSw
                try dsimp only at hSw
                go_simp
                try with_reducible rfl
              try simp only [Act.put, List.getElem_toArray, List.getElem_cons_succ, List.getElem_cons_zero, List.setIfInBounds_toArray, List.set_cons_zero, List.set_cons_succ]
              refine wpAnyH_take (i := 9) (oi := _) (v := ?_) rfl (by kernel_rfl) (by kernel_rfl) (by kernel_rfl) (fun _ _ _ h => h) (Or.inl ⟨by rfl, ?_⟩) (by assumption) ?_
              rotate_left
              · intro w hSw
                try dsimp only at hSw
                go_simp
                try with_reducible rfl
              try simp only [Act.put, List.getElem_toArray, List.getElem_cons_succ, List.getElem_cons_zero, List.setIfInBounds_toArray, List.set_cons_zero, List.set_cons_succ]
              refine wpAnyH_take (i := 10) (oi := _) (v := ?_) rfl (by kernel_rfl) (by kernel_rfl) (by kernel_rfl) (fun _ _ _ h => h) (Or.inl ⟨by rfl, ?_⟩) (by assumption) ?_
              rotate_left
              · intro w hSw
                try dsimp only at hSw
                go_simp
                try with_reducible rfl
              try simp only [Act.put, List.getElem_toArray, List.getElem_cons_succ, List.getElem_cons_zero, List.setIfInBounds_toArray, List.set_cons_zero, List.set_cons_succ]
              refine wpAnyH_take (i := 12) (oi := _) (v := ?_) rfl (by kernel_rfl) (by kernel_rfl) (by kernel_rfl) (fun _ _ _ h => h) (Or.inl ⟨by rfl, ?_⟩) (by assumption) ?_
              rotate_left
              · intro w hSw
                try dsimp only at hSw
                go_simp
                try with_reducible rfl
              try simp only [Act.put, List.getElem_toArray, List.getElem_cons_succ, List.getElem_cons_zero, List.setIfInBounds_toArray, List.set_cons_zero, List.set_cons_succ]
              refine wpAnyH_ready (rs := [13]) (by kernel_rfl) (by simp) ?_
              refine AllReadyH.cons (o := _) rfl (fun K hK => ?_) AllReadyH.nil
              go_simp
              refine hK.out _ _ (KS.out _ (F7'.out.sing (fr_two0 w7 _ _) (Nat.le_refl _))) (fun hHeld => ?_)
              clear hK K
              try simp only [Act.put, List.getElem_toArray, List.getElem_cons_succ, List.getElem_cons_zero, List.setIfInBounds_toArray, List.set_cons_zero, List.set_cons_succ]
              refine wpAnyH_take (i := 14) (oi := _) (v := ?_) rfl (by kernel_rfl) (by kernel_rfl) (by kernel_rfl) (fun _ _ _ h => h) (Or.inl ⟨by rfl, ?_⟩) (by assumption) ?_
              rotate_left
              · intro w hSw
                try dsimp only at hSw
                go_simp
                try with_reducible rfl
              try simp only [Act.put, List.getElem_toArray, List.getElem_cons_succ, List.getElem_cons_zero, List.setIfInBounds_toArray, List.set_cons_zero, List.set_cons_succ]
              refine wpAnyH_done (by kernel_rfl) ?_ _
              have fB := fr_two0 (R := wr2.heap.size) w7 (.slice a k cap) (.slice al7 nl7 cl7)
              have mdB : MdAt ((w7.setCell ⟨wr2.heap.size, 0, none⟩ (.slice a k cap)).setCell ⟨wr2.heap.size, 1, none⟩ (.slice al7 nl7 cl7)) wr2.heap.size (.slice a k cap) (.slice al7 nl7 cl7) := (mdZ.set0 _).set1 _
              have M8 := Lib.hid (M7'.out.stored (fun g off n c e => by have := HMO.out.plan.low g off n c e; omega) mdZ fB)
              have F8 := Lib.hid (F7'.out.sing fB (Nat.le_refl _))
              obtain ⟨V, hV⟩ : ∃ W, ((w7.setCell ⟨wr2.heap.size, 0, none⟩ (.slice a k cap)).setCell ⟨wr2.heap.size, 1, none⟩ (.slice al7 nl7 cl7)) = W := ⟨_, rfl⟩
              obtain ⟨B16, hB⟩ : ∃ B, wr2.heap.size = B := ⟨_, rfl⟩
              simp only [hB] at hV mdB M8 F8 ⊢
              simp only [hV] at mdB M8 F8 ⊢
              clear hV fB M7' F7' F70 mdZ z0 z1 zz hsz7 hsz70
              have b0 := mdB.c0
              have b1 := mdB.c1
              have d1 := F8.out.keep c1 (by rw [List.mem_singleton]; exact HGM.out)
              have d2 := F8.out.keep c2 (by rw [List.mem_singleton]; exact HGM.out)
              have HMB := Lib.hid mdB
              have KV := Lib.hid (fun W' (f : Fr [] V W') => (show (fun w' => w'.cell? ⟨B16, 0, none⟩ = some (.slice a k cap) ∧ w'.cell? ⟨B16, 1, none⟩ = some (.slice al7 nl7 cl7) ∧ w'.cell? ⟨g, off + k' * 4 + 1, none⟩ = some (.int .i64 xc) ∧ w'.cell? ⟨g, off + k' * 4 + 2, none⟩ = some (.int .i64 xd)) W' from ⟨f.keep b0 (by simp), f.keep b1 (by simp), f.keep d1 (by simp), f.keep d2 (by simp)⟩))
              clear mdB c0 c1 c2 c3 md0 md1 KS hHeld
              go_wp2
              refine wp_region_held_drew (S := fun w' => w'.cell? ⟨B16, 0, none⟩ = some (.slice a k cap) ∧ w'.cell? ⟨B16, 1, none⟩ = some (.slice al7 nl7 cl7) ∧ w'.cell? ⟨g, off + k' * 4 + 1, none⟩ = some (.int .i64 xc) ∧ w'.cell? ⟨g, off + k' * 4 + 2, none⟩ = some (.int .i64 xd)) (by kernel_rfl) (⟨b0, b1, d1, d2⟩) (fun hHeld => ?_)
              refine wpAnyH_take (i := 0) (oi := _) (v := ?_) rfl (by kernel_rfl) (by kernel_rfl) (by kernel_rfl) (fun _ _ _ h => h) (Or.inl ⟨by rfl, ?_⟩) (by assumption) ?_
              rotate_left
              · intro w hSw
                try dsimp only at hSw
                go_simp
                try with_reducible rfl
              try simp only [Act.put, List.getElem_toArray, List.getElem_cons_succ, List.getElem_cons_zero, List.setIfInBounds_toArray, List.set_cons_zero, List.set_cons_succ]
              refine wpAnyH_take (i := 1) (oi := _) (v := ?_) rfl (by kernel_rfl) (by kernel_rfl) (by kernel_rfl) (fun _ _ _ h => h) (Or.inl ⟨by rfl, ?_⟩) (by assumption) ?_
              rotate_left
              · intro w hSw
                try dsimp only at hSw
                go_simp
                try with_reducible rfl
              try simp only [Act.put, List.getElem_toArray, List.getElem_cons_succ, List.getElem_cons_zero, List.setIfInBounds_toArray, List.set_cons_zero, List.set_cons_succ]
              refine wpAnyH_take (i := 2) (oi := _) (v := ?_) rfl (by kernel_rfl) (by kernel_rfl) (by kernel_rfl) (fun _ _ _ h => h) (Or.inl ⟨by rfl, ?_⟩) (by assumption) ?_
              rotate_left
              · intro w hSw
                try dsimp only at hSw
                go_simp
                try with_reducible rfl
              try simp only [Act.put, List.getElem_toArray, List.getElem_cons_succ, List.getElem_cons_zero, List.setIfInBounds_toArray, List.set_cons_zero, List.set_cons_succ]
              refine wpAnyH_take (i := 3) (oi := _) (v := ?_) rfl (by kernel_rfl) (by kernel_rfl) (by kernel_rfl) (fun _ _ _ h => h) (Or.inl ⟨by rfl, ?_⟩) (by assumption) ?_
              rotate_left
              · intro w hSw
                try dsimp only at hSw
                go_simp
                try with_reducible rfl
              try simp only [Act.put, List.getElem_toArray, List.getElem_cons_succ, List.getElem_cons_zero, List.setIfInBounds_toArray, List.set_cons_zero, List.set_cons_succ]
              refine wpAnyH_take (i := 4) (oi := _) (v := ?_) rfl (by kernel_rfl) (by kernel_rfl) (by kernel_rfl) (fun _ _ _ h => h) (Or.inl ⟨by rfl, ?_⟩) (by assumption) ?_
              rotate_left
              · intro w hSw
                try dsimp only at hSw
                go_simp
                try with_reducible rfl
              try simp only [Act.put, List.getElem_toArray, List.getElem_cons_succ, List.getElem_cons_zero, List.setIfInBounds_toArray, List.set_cons_zero, List.set_cons_succ]
              refine wpAnyH_take (i := 5) (oi := _) (v := ?_) rfl (by kernel_rfl) (by kernel_rfl) (by kernel_rfl) (fun _ _ _ h => h) (Or.inl ⟨by rfl, ?_⟩) (by assumption) ?_
              rotate_left
              · intro w hSw
                try dsimp only at hSw
                go_simp
                try with_reducible rfl
              try simp only [Act.put, List.getElem_toArray, List.getElem_cons_succ, List.getElem_cons_zero, List.setIfInBounds_toArray, List.set_cons_zero, List.set_cons_succ]
              refine wpAnyH_take (i := 6) (oi := _) (v := ?_) rfl (by kernel_rfl) (by kernel_rfl) (by kernel_rfl) (fun _ _ _ h => h) (Or.inl ⟨by rfl, ?_⟩) (by assumption) ?_
              rotate_left
              · intro w hSw
                try dsimp only at hSw
                go_simp
                try with_reducible rfl
              try simp only [Act.put, List.getElem_toArray, List.getElem_cons_succ, List.getElem_cons_zero, List.setIfInBounds_toArray, List.set_cons_zero, List.set_cons_succ]
              refine wpAnyH_take (i := 7) (oi := _) (v := ?_) rfl (by kernel_rfl) (by kernel_rfl) (by kernel_rfl) (fun _ _ _ h => h) (Or.inl ⟨by rfl, ?_⟩) (by assumption) ?_
              rotate_left
              · intro w hSw
                try dsimp only at hSw
                go_simp
                try with_reducible rfl
              try simp only [Act.put, List.getElem_toArray, List.getElem_cons_succ, List.getElem_cons_zero, List.setIfInBounds_toArray, List.set_cons_zero, List.set_cons_succ]
              refine wpAnyH_take (i := 8) (oi := _) (v := ?_) rfl (by kernel_rfl) (by kernel_rfl) (by kernel_rfl) (fun _ _ _ h => h) (Or.inl ⟨by rfl, ?_⟩) (by assumption) ?_
              rotate_left
              · intro w hSw
                try dsimp only at hSw
                go_simp
                try with_reducible rfl
              try simp only [Act.put, List.getElem_toArray, List.getElem_cons_succ, List.getElem_cons_zero, List.setIfInBounds_toArray, List.set_cons_zero, List.set_cons_succ]
              refine wpAnyH_take (i := 9) (oi := _) (v := ?_) rfl (by kernel_rfl) (by kernel_rfl) (by kernel_rfl) (fun _ _ _ h => h) (Or.inl ⟨by rfl, ?_⟩) (by assumption) ?_
              rotate_left
              · intro w hSw
                try dsimp only at hSw
                go_simp
                try with_reducible rfl
              try simp only [Act.put, List.getElem_toArray, List.getElem_cons_succ, List.getElem_cons_zero, List.setIfInBounds_toArray, List.set_cons_zero, List.set_cons_succ]
              refine wpAnyH_take (i := 10) (oi := _) (v := ?_) rfl (by kernel_rfl) (by kernel_rfl) (by kernel_rfl) (fun _ _ _ h => h) (Or.inl ⟨by rfl, ?_⟩) (by assumption) ?_
              rotate_left
              · intro w hSw
                try dsimp only at hSw
                go_simp
                try with_reducible rfl
              try simp only [Act.put, List.getElem_toArray, List.getElem_cons_succ, List.getElem_cons_zero, List.setIfInBounds_toArray, List.set_cons_zero, List.set_cons_succ]
              refine wpAnyH_take (i := 11) (oi := _) (v := ?_) rfl (by kernel_rfl) (by kernel_rfl) (by kernel_rfl) (fun _ _ _ h => h) (Or.inl ⟨by rfl, ?_⟩) (by assumption) ?_
              rotate_left
              · intro w hSw
                try dsimp only at hSw
                go_simp
                try with_reducible rfl
              try simp only [Act.put, List.getElem_toArray, List.getElem_cons_succ, List.getElem_cons_zero, List.setIfInBounds_toArray, List.set_cons_zero, List.set_cons_succ]
              refine wpAnyH_take (i := 12) (oi := _) (v := ?_) rfl (by kernel_rfl) (by kernel_rfl) (by kernel_rfl) (fun _ _ _ h => h) (Or.inl ⟨by rfl, ?_⟩) (by assumption) ?_
              rotate_left
              · intro w hSw
                try dsimp only at hSw
                go_simp
                try with_reducible rfl
              try simp only [Act.put, List.getElem_toArray, List.getElem_cons_succ, List.getElem_cons_zero, List.setIfInBounds_toArray, List.set_cons_zero, List.set_cons_succ]
              refine wpAnyH_take (i := 13) (oi := _) (v := ?_) rfl (by kernel_rfl) (by kernel_rfl) (by kernel_rfl) (fun _ _ _ h => h) (Or.inl ⟨by rfl, ?_⟩) (by assumption) ?_
              rotate_left
              · intro w hSw
                try dsimp only at hSw
                go_simp
                try with_reducible rfl
              try simp only [Act.put, List.getElem_toArray, List.getElem_cons_succ, List.getElem_cons_zero, List.setIfInBounds_toArray, List.set_cons_zero, List.set_cons_succ]
              refine wpAnyH_take (i := 14) (oi := _) (v := ?_) rfl (by kernel_rfl) (by kernel_rfl) (by kernel_rfl) (fun _ _ _ h => h) (Or.inl ⟨by rfl, ?_⟩) (by assumption) ?_
              rotate_left
              · intro w hSw
                try dsimp only at hSw
                go_simp
                try with_reducible rfl
              try simp only [Act.put, List.getElem_toArray, List.getElem_cons_succ, List.getElem_cons_zero, List.setIfInBounds_toArray, List.set_cons_zero, List.set_cons_succ]
              refine wpAnyH_take (i := 15) (oi := _) (v := ?_) rfl (by kernel_rfl) (by kernel_rfl) (by kernel_rfl) (fun _ _ _ h => h) (Or.inl ⟨by rfl, ?_⟩) (by assumption) ?_
              rotate_left
              · intro w hSw
                try dsimp only at hSw
                go_simp
                try with_reducible rfl
              try simp only [Act.put, List.getElem_toArray, List.getElem_cons_succ, List.getElem_cons_zero, List.setIfInBounds_toArray, List.set_cons_zero, List.set_cons_succ]
              refine wpAnyH_take (i := 16) (oi := _) (v := ?_) rfl (by kernel_rfl) (by kernel_rfl) (by kernel_rfl) (fun _ _ _ h => h) (Or.inl ⟨by rfl, ?_⟩) (by assumption) ?_
              rotate_left
              · intro w hSw
                try dsimp only at hSw
                go_simp
                try with_reducible rfl
              try simp only [Act.put, List.getElem_toArray, List.getElem_cons_succ, List.getElem_cons_zero, List.setIfInBounds_toArray, List.set_cons_zero, List.set_cons_succ]
              refine wpAnyH_take (i := 17) (oi := _) (v := ?_) rfl (by kernel_rfl) (by kernel_rfl) (by kernel_rfl) (fun _ _ _ h => h) (Or.inl ⟨by rfl, ?_⟩) (by assumption) ?_
              rotate_left
              · intro w hSw
                try dsimp only at hSw
                go_simp
                try with_reducible rfl
              try simp only [Act.put, List.getElem_toArray, List.getElem_cons_succ, List.getElem_cons_zero, List.setIfInBounds_toArray, List.set_cons_zero, List.set_cons_succ]
              refine wpAnyH_take (i := 18) (oi := _) (v := ?_) rfl (by kernel_rfl) (by kernel_rfl) (by kernel_rfl) (fun _ _ _ h => h) (Or.inl ⟨by rfl, ?_⟩) (by assumption) ?_
              rotate_left
              · intro w hSw
                try dsimp only at hSw
                go_simp
                try with_reducible rfl
              try simp only [Act.put, List.getElem_toArray, List.getElem_cons_succ, List.getElem_cons_zero, List.setIfInBounds_toArray, List.set_cons_zero, List.set_cons_succ]
              refine wpAnyH_ready (rs := [19]) (by kernel_rfl) (by simp) ?_
              refine AllReadyH.cons (o := _) rfl (fun K hK => ?_) AllReadyH.nil
              go_simp
              refine (alike_any (.slice a k cap) (.slice al7 nl7 cl7) L7 (by have := M8.out.len; omega) xc xd _ (M8.out.plan.new (Fr.refl [] V).drew) (M8.out.row.new (Fr.refl [] V).drew) M8.out.lf).mono ?_
              rintro e w9 ⟨rfl, f9⟩
              replace f9 : Fr [] V w9 := ((Fr.refl [] V).drew).step f9
              refine hK.out _ _ (KV.out _ f9) (fun hHeld => ?_)
              clear hK K
              try simp only [Act.put, List.getElem_toArray, List.getElem_cons_succ, List.getElem_cons_zero, List.setIfInBounds_toArray, List.set_cons_zero, List.set_cons_succ]
              refine wpAnyH_take (i := 20) (oi := _) (v := ?_) rfl (by kernel_rfl) (by kernel_rfl) (by kernel_rfl) (fun _ _ _ h => h) (Or.inl ⟨by rfl, ?_⟩) (by assumption) ?_
              rotate_left
              · intro w hSw
                try dsimp only at hSw
                go_simp
                try with_reducible rfl
              try simp only [Act.put, List.getElem_toArray, List.getElem_cons_succ, List.getElem_cons_zero, List.setIfInBounds_toArray, List.set_cons_zero, List.set_cons_succ]
              refine wpAnyH_take (i := 21) (oi := _) (v := ?_) rfl (by kernel_rfl) (by kernel_rfl) (by kernel_rfl) (fun _ _ _ h => h) (Or.inl ⟨by rfl, ?_⟩) (by assumption) ?_
              rotate_left
              · intro w hSw
                try dsimp only at hSw
                go_simp
                try with_reducible rfl
              try simp only [Act.put, List.getElem_toArray, List.getElem_cons_succ, List.getElem_cons_zero, List.setIfInBounds_toArray, List.set_cons_zero, List.set_cons_succ]
              refine wpAnyH_take (i := 22) (oi := _) (v := ?_) rfl (by kernel_rfl) (by kernel_rfl) (by kernel_rfl) (fun _ _ _ h => h) (Or.inl ⟨by rfl, ?_⟩) (by assumption) ?_
              rotate_left
              · intro w hSw
                try dsimp only at hSw
                go_simp
                try with_reducible rfl
              try simp only [Act.put, List.getElem_toArray, List.getElem_cons_succ, List.getElem_cons_zero, List.setIfInBounds_toArray, List.set_cons_zero, List.set_cons_succ]
              refine wpAnyH_take (i := 23) (oi := _) (v := ?_) rfl (by kernel_rfl) (by kernel_rfl) (by kernel_rfl) (fun _ _ _ h => h) (Or.inl ⟨by rfl, ?_⟩) (by assumption) ?_
              rotate_left
              · intro w hSw
                try dsimp only at hSw
                go_simp
                try with_reducible rfl
              try simp only [Act.put, List.getElem_toArray, List.getElem_cons_succ, List.getElem_cons_zero, List.setIfInBounds_toArray, List.set_cons_zero, List.set_cons_succ]
              refine wpAnyH_take (i := 24) (oi := _) (v := ?_) rfl (by kernel_rfl) (by kernel_rfl) (by kernel_rfl) (fun _ _ _ h => h) (Or.inl ⟨by rfl, ?_⟩) (by assumption) ?_
              rotate_left
              · intro w hSw
                try dsimp only at hSw
                go_simp
                try with_reducible rfl
              try simp only [Act.put, List.getElem_toArray, List.getElem_cons_succ, List.getElem_cons_zero, List.setIfInBounds_toArray, List.set_cons_zero, List.set_cons_succ]
              refine wpAnyH_take (i := 25) (oi := _) (v := ?_) rfl (by kernel_rfl) (by kernel_rfl) (by kernel_rfl) (fun _ _ _ h => h) (Or.inl ⟨by rfl, ?_⟩) (by assumption) ?_
              rotate_left
              · intro w hSw
                try dsimp only at hSw
                go_simp
                try with_reducible rfl
              try simp only [Act.put, List.getElem_toArray, List.getElem_cons_succ, List.getElem_cons_zero, List.setIfInBounds_toArray, List.set_cons_zero, List.set_cons_succ]
              refine wpAnyH_take (i := 26) (oi := _) (v := ?_) rfl (by kernel_rfl) (by kernel_rfl) (by kernel_rfl) (fun _ _ _ h => h) (Or.inl ⟨by rfl, ?_⟩) (by assumption) ?_
              rotate_left
              · intro w hSw
                try dsimp only at hSw
                go_simp
                try with_reducible rfl
              try simp only [Act.put, List.getElem_toArray, List.getElem_cons_succ, List.getElem_cons_zero, List.setIfInBounds_toArray, List.set_cons_zero, List.set_cons_succ]
              refine wpAnyH_ready (rs := [27]) (by kernel_rfl) (by simp) ?_
              refine AllReadyH.cons (o := _) rfl (fun K hK => ?_) AllReadyH.nil
              go_simp
              refine (alike_any (.slice a k cap) (.slice al7 nl7 cl7) L7 (by have := M8.out.len; omega) x2 x3 _ (M8.out.plan.new f9) (M8.out.row.new f9) M8.out.lf).mono ?_
              rintro e w10 ⟨rfl, f10⟩
              replace f10 : Fr [] V w10 := f9.step f10
              refine hK.out _ _ (KV.out _ f10) (fun hHeld => ?_)
              clear hK K
              try simp only [Act.put, List.getElem_toArray, List.getElem_cons_succ, List.getElem_cons_zero, List.setIfInBounds_toArray, List.set_cons_zero, List.set_cons_succ]
              refine wpAnyH_take (i := 28) (oi := _) (v := ?_) rfl (by kernel_rfl) (by kernel_rfl) (by kernel_rfl) (fun _ _ _ h => h) (Or.inl ⟨by rfl, ?_⟩) (by assumption) ?_
              rotate_left
              · intro w hSw
                try dsimp only at hSw
                go_simp
                try with_reducible rfl
              try simp only [Act.put, List.getElem_toArray, List.getElem_cons_succ, List.getElem_cons_zero, List.setIfInBounds_toArray, List.set_cons_zero, List.set_cons_succ]
              refine wpAnyH_take (i := 29) (oi := _) (v := ?_) rfl (by kernel_rfl) (by kernel_rfl) (by kernel_rfl) (fun _ _ _ h => h) (Or.inl ⟨by rfl, ?_⟩) (by assumption) ?_
              rotate_left
              · intro w hSw
                try dsimp only at hSw
                go_simp
                try with_reducible rfl
              try simp only [Act.put, List.getElem_toArray, List.getElem_cons_succ, List.getElem_cons_zero, List.setIfInBounds_toArray, List.set_cons_zero, List.set_cons_succ]
              refine wpAnyH_done (by kernel_rfl) ?_ _
              have md10 := (HMD.out.keep F8.out (by rw [List.mem_singleton]; exact HBM.out.symm)).keep f10 (by simp)
              have mb10 := HMB.out.keep f10 (by simp)
              have b0' := mb10.c0
              have b1' := mb10.c1
              have q0 := md10.c0
              have q1 := md10.c1
              have qz := md10.fz
              have F10 := Lib.hid f10
              have M10 := Lib.hid (M8.out.new f10)
              have MD10 := Lib.hid md10
              clear hHeld KV b0 b1 d1 d2 f9 f10 md10 mb10
              go_wp2
              go_region
              go_wp2
              go_roundw
              case rel =>
                have fR := fr_two (R := MB) w10 (.slice a k cap) (.slice al7 nl7 cl7)
                have fZ : Fr [] w w10 := (HFR.out.trans F8.out (fun x hx hl => by rw [List.mem_singleton] at hx; omega)).step F10.out
                exact ⟨_, k' + 1, p7, m7, F7, L7, al7, nl7, cl7, rfl, rfl, by go_num, by omega, (MD10.out.set0 _).set1 _, M10.out.stored HV.out MD10.out fR, fZ.trans fR (fun x hx hl => by rw [List.mem_singleton] at hx; omega), hm7⟩
              case measure => simp [intOf]; omega
          · have hkn : k' = n := by omega
            subst hkn
            have HK := Lib.hid (known_any wr2 (HE.out.new hFR))
            have HFR := Lib.hid hFR
            clear hMD hMO hFR hlt
            go_wp2_with (go_at_call 7; refine HK.out.mono ?_; rintro e w9 ⟨rfl, f9⟩)
            go_ret
            exact ⟨rfl, HFR.out.step f9⟩
end Go.Proofs.YtededfkenlhokaaDoor
