/- Contract of slices.Compact over addresses. -/
import Derived.Test.YtbilaapikclhlaaDoorEq
import Derived.Laws.IdiomCopy
namespace Go.Proofs.YtbilaapikclhlaaDoor
open Go.RowKit Go.Sort Go.Proofs Go.Shelf Go.Lib
set_option linter.unusedVariables false
set_option maxRecDepth 100000
set_option maxHeartbeats 4000000

theorem fr_setCells (g : Nat) : ∀ (vs : List Value) (o : Nat) (w : World), Fr [g] w (w.setCells g o vs)
  | [], _, w => Fr.refl _ w
  | v :: r, o, w => ((Fr.refl [g] w).setCell (fun _ => by simp) v).trans (fr_setCells g r (o + 1) _) (fun x hx _ => hx)

/-- 'clear' of a row of addresses. -/
theorem clear_any (w : World) (g o n c : Nat) (hn : 0 < n) (hc : ∀ j, j < n * 2 → (w.cell? ⟨g, o + j, none⟩).isSome = true) (hf : ∀ j, j < n * 2 → w.frozen? ⟨g, o + j, none⟩ = false) :
    ∃ vs : List Value, ∀ ty, (Builtin.clear_ #[35] ty #[.slice (some ⟨g, o, none⟩) n c]).run Tryd.prog w = .ok (.tuple #[]) (w.setCells g o vs) := by
  obtain ⟨m, rfl⟩ : ∃ m, n = m + 1 := ⟨n - 1, by omega⟩
  have hl : (Builtin.zeroCells #[.string ⟨#[]⟩, .int .i64 0] (m + 1)).toList.length = (m + 1) * 2 := by simp [Builtin.zeroCells]
  have h1 : ∀ v ∈ (Builtin.zeroCells #[.string ⟨#[]⟩, .int .i64 0] (m + 1)).toList, v.oneCell' = true := by
    intro v hv
    simp [Builtin.zeroCells] at hv
    obtain ⟨i, _, rfl⟩ := hv
    rcases Nat.mod_two_eq_zero_or_one i with e | e <;> simp [e, Value.oneCell']
  have hst := run_storeCells_cells (P := Tryd.prog) g o (Builtin.zeroCells #[.string ⟨#[]⟩, .int .i64 0] (m + 1)).toList 0 w (by rw [hl]; simpa using hc) (by rw [hl]; simpa using hf) h1
  simp only [Nat.add_zero] at hst
  refine ⟨(Builtin.zeroCells #[.string ⟨#[]⟩, .int .i64 0] (m + 1)).toList, fun ty => ?_⟩
  simp [Builtin.clear_, run_underlying Tryd.underlying35, Tryd.zeroValue23, Value.cells, hst]

theorem all_kept (d : Array Ad) (n m : Nat) (fk : Nat → Ad) (h : ∀ j, j < n → keeps d j = true) (hm : (compactUpTo d n).length = m) (hC : ∀ i, i < m → (compactUpTo d n)[i]? = some (fk i)) : m = n ∧ ∀ i, i < n → fk i = d[i]! := by
  rw [compactUpTo_all d n h] at hm hC
  have hmn : m = n := by simpa using hm.symm
  subst hmn
  refine ⟨rfl, fun i hi => ?_⟩
  have := hC i hi
  simpa [hi] using this.symm

theorem compact_any (g n cap m : Nat) (d : Array Ad) (fk : Nat → Ad) (w : World) (hn : d.size = n) (hcap : n ≤ cap) (hlen : n ≤ 100000) (hH : HoldsK encA 2 w g 0 d) (hm : (compactUpTo d n).length = m) (hC : ∀ i, i < m → (compactUpTo d n)[i]? = some (fk i)) :
    Calls Tryd.prog 32 #[.slice (some ⟨g, 0, none⟩) n cap] w fun e w' =>
      (∃ c, e = .returned (.slice (some ⟨g, 0, none⟩) m c)) ∧ RowA w' g 0 m fk ∧ Fr [g] w w' := by
  have HM := Lib.hid (And.intro hm hC)
  clear hm hC
  have R := RowA.of_holds hH
  have F := frozen_holds hH
  rw [hn] at R F
  simp only [Nat.zero_add] at F
  by_cases h2 : n < 2
  · have h2' : (n : Int) < 2 := by omega
    have RR := Lib.hid R
    clear R F hH
    go_enter Tryd.func32, Tryd.ntmps32
    go_wp2
    go_ret
    obtain ⟨e1, e2⟩ := all_kept d n m fk (fun j hj => keeps_lt_one d j (by omega)) HM.out.1 HM.out.2
    subst e1
    exact ⟨⟨cap, rfl⟩, ⟨fun i hi => by rw [e2 i hi]; exact RR.out.s i hi, fun i hi => by rw [e2 i hi]; exact RR.out.p i hi⟩, Fr.refl _ _⟩
  · have h2' : ¬ (n : Int) < 2 := by omega
    have RR := Lib.hid R
    have FF := Lib.hid F
    have HH := Lib.hid hH
    clear R F hH
    go_enter Tryd.func32, Tryd.ntmps32
    go_wp2
    go_loopw [3] (fun s3 wr => ∃ k q : Nat, s3 = .int .i64 k ∧ 1 ≤ k ∧ k ≤ n ∧ wr = w.drewN q ∧ ∀ j, j < k → keeps d j = true) (fun s3 _ => n - (intOf s3).toNat)
    case atStart => exact ⟨1, 0, rfl, by omega, by omega, rfl, keeps_lt_one d⟩
    case round =>
      obtain ⟨k, q, rfl, hk1, hk, rfl, hall⟩ := hrel
      have A := Lib.hid hall
      clear hall
      by_cases hl : k < n
      · have hl' : (k : Int) < (n : Int) := by omega
        have c0 := RR.out.s k hl
        have c1 := RR.out.p k hl
        have c2 := RR.out.s (k - 1) (by omega)
        have c3 := RR.out.p (k - 1) (by omega)
        simp only [Nat.zero_add] at c0 c1 c2 c3
        generalize hx : d[k]! = x at c0 c1
        generalize hy : d[k - 1]! = y at c2 c3
        have B := Lib.hid (And.intro hx hy)
        clear hx hy
        by_cases hxy : x = y
        · subst hxy
          have hr : ∀ W, (Op.equalIn 10000 23 (.agg #[.string x.1, .int .i64 x.2]) (.agg #[.string x.1, .int .i64 x.2])).run Tryd.prog W = .ok true W := fun W => by rw [eqRaw]; simp
          go_wp2_with fail
          go_quiet (fail)
          have hck : ¬ cap = k := by omega
          clear c0 c1 c2 c3 hr
          go_wp2_with fail
          go_loopw [3, 5] (fun s3 s5 wr => ∃ (kk k2 : Nat) (dk : Array Ad), s3 = .int .i64 kk ∧ s5 = .int .i64 k2 ∧ 1 ≤ k2 ∧ k + k2 ≤ n ∧ HoldsK encA 2 wr g 0 dk ∧ CompInv d (k + k2) kk dk ∧ Fr [g] w wr) (fun _ s5 _ => n - (intOf s5).toNat)
          case atStart => exact ⟨k, 1, d, rfl, rfl, by omega, by omega, holdsK_ahead encA 2 w _ g 0 d HH.out, CompInv.start A.out (keeps_neg (by omega) (by rw [B.out.1, B.out.2])), (Fr.refl _ _).drewN _⟩
          case round =>
            obtain ⟨kk, k2, dk, rfl, rfl, h1, hle, hHk, hI, fr⟩ := hrel
            have hkk := hI.lt
            have hds := hI.size
            have Rk := RowA.of_holds hHk
            have Fk := frozen_holds hHk
            rw [hds, hn] at Rk Fk
            simp only [Nat.zero_add] at Fk
            by_cases hl2 : k2 < n - k
            · have hl2' : (k2 : Int) < ((n - k : Nat) : Int) := by omega
              have c0 := Rk.s (k + k2) (by omega)
              have c1 := Rk.p (k + k2) (by omega)
              have c2 := Rk.s (k + (k2 - 1)) (by omega)
              have c3 := Rk.p (k + (k2 - 1)) (by omega)
              have c4 := Rk.s kk (by omega)
              have c5 := Rk.p kk (by omega)
              have f4 := (Fk kk (by omega)).1
              have f5 := (Fk kk (by omega)).2
              rw [hI.high (k + k2) (by omega)] at c0 c1
              rw [hI.high (k + (k2 - 1)) (by omega)] at c2 c3
              simp only [Nat.zero_add, Nat.add_mul] at c0 c1 c2 c3 c4 c5
              generalize hu : d[k + k2]! = u at c0 c1
              generalize hv : d[k + (k2 - 1)]! = v at c2 c3
              have C := Lib.hid (And.intro hu hv)
              have HK := Lib.hid (And.intro hHk hI)
              clear hu hv hHk hI Rk Fk
              by_cases huv : u = v
              · subst huv
                have hr : ∀ W, (Op.equalIn 10000 23 (.agg #[.string u.1, .int .i64 u.2]) (.agg #[.string u.1, .int .i64 u.2])).run Tryd.prog W = .ok true W := fun W => by rw [eqRaw]; simp
                go_wp2_with fail
                go_quiet (fail)
                go_wp2_with fail
                go_roundw
                case rel => exact ⟨kk, k2 + 1, dk, rfl, by go_num, by omega, by omega, holdsK_ahead encA 2 wr _ g 0 dk HK.out.1, HK.out.2.skip (keeps_neg (by omega) (by rw [C.out.1, show k + k2 - 1 = k + (k2 - 1) by omega, C.out.2])), fr.drewN _⟩
                case measure => simp [intOf]; omega
              · have hr : ∀ W, (Op.equalIn 10000 23 (.agg #[.string u.1, .int .i64 u.2]) (.agg #[.string v.1, .int .i64 v.2])).run Tryd.prog W = .ok false W := fun W => by rw [eqRaw]; simp [huv]
                go_wp2_with fail
                go_quiet (fail)
                go_wp2_with fail
                go_roundw
                case rel =>
                  refine ⟨kk + 1, k2 + 1, dk.setIfInBounds kk u, by go_num, by go_num, by omega, by omega, ?_, ?_, ((fr.drewN _).setCell (fun _ => by simp) _).setCell (fun _ => by simp) _⟩
                  · have := holds_set (holdsK_ahead encA 2 wr nq g 0 dk HK.out.1) kk (by omega) u
                    simp only [Nat.zero_add] at this
                    exact this
                  · have := HK.out.2.keep (by omega) (keeps_pos (by rw [C.out.1, show k + k2 - 1 = k + (k2 - 1) by omega, C.out.2]; exact huv))
                    rwa [C.out.1] at this
                case measure => simp [intOf]; omega
            · have hl2' : ¬ (k2 : Int) < ((n - k : Nat) : Int) := by omega
              have hend : k + k2 = n := by omega
              rw [hend] at hI
              have hkm : kk = m := hI.len.symm.trans HM.out.1
              subst hkm
              obtain ⟨vs, hcl⟩ := clear_any wr g (kk * 2) (n - kk) (cap - kk) (by omega)
                (fun j hj => by
                  have := (hHk (kk * 2 + j) (by rw [size_flatK]; omega)).1
                  rw [Nat.zero_add] at this
                  rw [this]
                  rfl)
                (fun j hj => by
                  have := (hHk (kk * 2 + j) (by rw [size_flatK]; omega)).2
                  rwa [Nat.zero_add] at this)
              have hck : ¬ cap = kk := by omega
              have HK := Lib.hid (And.intro Rk hI)
              clear Rk hI hHk Fk
              go_wp2_with fail
              go_ret
              refine ⟨⟨cap, rfl⟩, ⟨fun i hi => ?_, fun i hi => ?_⟩, fr.trans (fr_setCells g vs _ _) (fun x hx _ => hx)⟩
              · rw [World.cell?_setCells_out g vs _ _ _ (fun _ _ => .inl (by show 0 + i * 2 < _; omega)), HK.out.1.s i (by omega)]
                have h3 := HK.out.2.low i (by omega)
                rw [HM.out.2 i hi] at h3
                rw [Option.some.inj h3]
              · rw [World.cell?_setCells_out g vs _ _ _ (fun _ _ => .inl (by show 0 + i * 2 + 1 < _; omega)), HK.out.1.p i (by omega)]
                have h3 := HK.out.2.low i (by omega)
                rw [HM.out.2 i hi] at h3
                rw [Option.some.inj h3]
        · have hr : ∀ W, (Op.equalIn 10000 23 (.agg #[.string x.1, .int .i64 x.2]) (.agg #[.string y.1, .int .i64 y.2])).run Tryd.prog W = .ok false W := fun W => by rw [eqRaw]; simp [hxy]
          go_wp2_with fail
          go_quiet (fail)
          go_wp2
          go_roundw
          case rel =>
            refine ⟨k + 1, _, by go_num, by omega, by omega, rfl, fun j hj => ?_⟩
            by_cases e : j = k
            · subst e
              exact keeps_pos (by rw [B.out.1, B.out.2]; exact hxy)
            · exact A.out j (by omega)
          case measure => simp [intOf]; omega
      · have hl' : ¬ (k : Int) < (n : Int) := by omega
        go_wp2
        go_ret
        have hkn : k = n := by omega
        obtain ⟨e1, e2⟩ := all_kept d n m fk (hkn ▸ A.out) HM.out.1 HM.out.2
        subst e1
        exact ⟨⟨cap, rfl⟩, ⟨fun i hi => by rw [e2 i hi]; exact RR.out.s i hi, fun i hi => by rw [e2 i hi]; exact RR.out.p i hi⟩, (Fr.refl _ _).drewN _⟩
end Go.Proofs.YtbilaapikclhlaaDoor
