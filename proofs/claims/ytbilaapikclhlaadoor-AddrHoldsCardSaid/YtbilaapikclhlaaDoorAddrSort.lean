/- Contracts of addr.Sort. -/
import Derived.Test.YtbilaapikclhlaaDoorCompact
namespace Go.Proofs.YtbilaapikclhlaaDoor
open Go.RowKit Go.Sort Go.Proofs Go.Shelf Go.Lib
set_option linter.unusedVariables false
set_option maxRecDepth 100000
set_option maxHeartbeats 4000000

def okA (x : Ad) : Bool := addrB x.1.data.toList x.2
theorem bad_any (x : Ad) (hs : x.1.size ≤ 1000000) (w : World) :
    Calls Tryd.prog 31 #[.agg #[.string x.1, .int .i64 x.2]] w fun e w' => e = .returned (.bool (!okA x)) ∧ Fr [] w w' := by
  have f0 : Fr [] w (w.alloc (.cells #[.string x.1, .int .i64 x.2] 23)) := (Fr.refl [] w).alloc _
  have hV := fun W => valid_any x.1 x.2 hs W
  unfold okA
  generalize addrB x.1.data.toList x.2 = r at hV ⊢
  have HV := Lib.hid hV
  clear hV
  go_enter Tryd.func31, Tryd.ntmps31
  go_wp2_with (go_at_call 11; refine (HV.out _).mono ?_; rintro e w1 ⟨rfl, f1⟩)
  go_ret
  exact ⟨rfl, f0.step f1⟩

theorem indexBad (b off len cap k : Nat) (f : Nat → Ad) (w : World) (hk : k ≤ len) (hlen : len ≤ 100000) (hR : RowA w b off len f) (hs : ∀ i, i < len → (f i).1.size ≤ 1000000)
    (hlow : ∀ i, i < k → okA (f i) = true) (hat : k < len → okA (f k) = false) :
    Calls Tryd.prog 40 #[.slice (some ⟨b, off, none⟩) len cap, .func (.func 31) #[] #[]] w fun e w' => e = .returned (.int .i64 (if k < len then (k : Int) else -1)) ∧ Fr [] w w' := by
  have HR := Lib.hid hR
  have HS := Lib.hid hs
  have HL := Lib.hid hlow
  have HA := Lib.hid hat
  clear hR hs hlow hat
  go_enter Tryd.func40, Tryd.ntmps40
  go_wp2
  go_loopw [8] (fun i wr => ∃ j : Nat, i = .int .i64 j ∧ j ≤ k ∧ Fr [] w wr) (fun i _ => k - (intOf i).toNat)
  case atStart => exact ⟨0, rfl, by omega, Fr.refl _ _⟩
  case round =>
    obtain ⟨j, rfl, hj, fr⟩ := hrel
    by_cases hl : j < len
    · have hl' : (j : Int) < (len : Int) := by omega
      have c0 := fr.keep (HR.out.s j hl) (by simp)
      have c1 := fr.keep (HR.out.p j hl) (by simp)
      by_cases hjk : j < k
      · have hb := bad_any (f j) (HS.out j hl) wr
        rw [HL.out j hjk] at hb
        have HB := Lib.hid hb
        clear hb
        go_wp2_with (go_at_call 31; refine HB.out.mono ?_; rintro e w1 ⟨rfl, f1⟩)
        go_roundw
        case rel => exact ⟨j + 1, by go_num, by omega, fr.step f1⟩
        case measure => simp [intOf]; omega
      · obtain rfl : j = k := by omega
        have hb := bad_any (f j) (HS.out j hl) wr
        rw [HA.out hl] at hb
        have HB := Lib.hid hb
        clear hb
        go_wp2_with (go_at_call 31; refine HB.out.mono ?_; rintro e w1 ⟨rfl, f1⟩)
        go_ret
        exact ⟨by simp, fr.step f1⟩
    · have hl' : ¬ (j : Int) < (len : Int) := by omega
      go_wp2
      go_ret
      exact ⟨rfl, fr⟩

theorem containsBad (b off len cap k : Nat) (f : Nat → Ad) (w : World) (hk : k ≤ len) (hlen : len ≤ 100000) (hR : RowA w b off len f) (hs : ∀ i, i < len → (f i).1.size ≤ 1000000)
    (hlow : ∀ i, i < k → okA (f i) = true) (hat : k < len → okA (f k) = false) :
    Calls Tryd.prog 30 #[.slice (some ⟨b, off, none⟩) len cap, .func (.func 31) #[] #[]] w fun e w' => e = .returned (.bool (decide (k < len))) ∧ Fr [] w w' := by
  have HI := Lib.hid (indexBad b off len cap k f w hk hlen hR hs hlow hat)
  clear hR hs hlow hat
  by_cases h : k < len
  · rw [if_pos h] at HI
    have h0 : (0 : Int) ≤ (k : Int) := by omega
    go_enter Tryd.func30, Tryd.ntmps30
    go_wp2_with (go_at_call 40; refine HI.out.mono ?_; rintro e w' ⟨rfl, f1⟩)
    go_ret
    exact ⟨by simp [h], f1⟩
  · rw [if_neg h] at HI
    go_enter Tryd.func30, Tryd.ntmps30
    go_wp2_with (go_at_call 40; refine HI.out.mono ?_; rintro e w' ⟨rfl, f1⟩)
    go_ret
    exact ⟨by simp [h], f1⟩

/-- Too many, or one that is not valid. -/
theorem sort_bad (b off len cap k : Nat) (f : Nat → Ad) (w : World) (hk : k ≤ len) (hlen : len ≤ 100000) (hR : RowA w b off len f) (hs : ∀ i, i < len → (f i).1.size ≤ 1000000)
    (hlow : ∀ i, i < k → okA (f i) = true) (hat : k < len → okA (f k) = false) (hbad : 1000 < len ∨ k < len) :
    Calls Tryd.prog 19 #[.slice (some ⟨b, off, none⟩) len cap] w fun e w' => e = .returned (.tuple #[.slice none 0 0, .int .i64 2]) ∧ Fr [] w w' := by
  by_cases h : 1000 < len
  · have h' : 1000 < (len : Int) := by omega
    clear hR hs hlow hat
    go_enter Tryd.func19, Tryd.ntmps19
    go_wp2
    go_ret2
    exact ⟨rfl, Fr.refl _ _⟩
  · have h' : ¬ 1000 < (len : Int) := by omega
    have hkl : k < len := by omega
    have hC := containsBad b off len cap k f w hk hlen hR hs hlow hat
    rw [decide_eq_true hkl] at hC
    have HC := Lib.hid hC
    clear hR hs hlow hat hC
    go_enter Tryd.func19, Tryd.ntmps19
    go_wp2_with (go_at_call 30; refine HC.out.mono ?_; rintro e w' ⟨rfl, f1⟩)
    go_ret2
    exact ⟨rfl, f1⟩

/-- The different ones of some addresses, in order. -/
def csA (l : List Ad) : List Ad := compactUpTo (sortA l).toArray l.length

theorem sort_ok (b off len cap : Nat) (f : Nat → Ad) (w : World) (h0 : 0 < len) (hlen : len ≤ 1000) (hR : RowA w b off len f) (hs : ∀ i, i < len → (f i).1.size ≤ 1000000)
    (hok : ∀ i, i < len → okA (f i) = true) :
    Calls Tryd.prog 19 #[.slice (some ⟨b, off, none⟩) len cap] w fun e w' => ∃ g c, e = .returned (.tuple #[.slice (some ⟨g, 0, none⟩) (csA (upto f len)).length c, .int .i64 0]) ∧ RowA w' g 0 (csA (upto f len)).length (fun i => (csA (upto f len))[i]!) ∧ w.heap.size ≤ g ∧ Fr [] w w' := by
  have h' : ¬ 1000 < (len : Int) := by omega
  have hblt := cell_lt (hR.s 0 h0)
  have hC := containsBad b off len cap len f w (by omega) (by omega) hR hs hok (fun h => absurd h (by omega))
  rw [decide_eq_false (by omega : ¬ len < len)] at hC
  have HC := Lib.hid hC
  have HR := Lib.hid hR
  clear hR hs hok hC
  go_enter Tryd.func19, Tryd.ntmps19
  go_wp2_with fail
  refine HC.out.mono ?_
  rintro e w1 ⟨rfl, f1⟩
  have hz := f1.size
  go_wp2_with fail
  refine (values_any _ _ _ _).mono ?_
  rintro e w2 ⟨rfl, rfl⟩
  have f2 : Fr [] w1 (w1.alloc (.cells #[.slice (some ⟨b, off, none⟩) len cap] 35)) := (Fr.refl [] w1).alloc _
  have R2 := Lib.hid ((HR.out.new f1).new f2)
  have hz2 := f2.size
  go_wp2_with fail
  refine (sortedFunc_any w1.heap.size b off len cap f (by omega) h0 _ (by simp) (by omega) (by simp) (fun j hj => ⟨R2.out.s j hj, R2.out.p j hj⟩)).mono ?_
  rintro e w3 ⟨g, c, rfl, hcap, hg, hH, f3⟩
  have hsz : (sortA (upto f len)).toArray.size = len := by simp [sortA_length, upto_length]
  have hcs : csA (upto f len) = compactUpTo (sortA (upto f len)).toArray len := by unfold csA; rw [upto_length]
  have HCS := Lib.hid hcs
  clear hcs
  have hz3 := f3.size
  have hgl : w.heap.size ≤ g := by omega
  go_wp2_with fail
  refine (compact_any g len c (csA (upto f len)).length (sortA (upto f len)).toArray (fun i => (csA (upto f len))[i]!) w3 hsz hcap (by omega) hH (by rw [HCS.out]) (fun i hi => by rw [← HCS.out]; simp [hi])).mono ?_
  rintro e w4 ⟨⟨c', rfl⟩, hRow, f4⟩
  go_wp2_with fail
  go_ret2
  exact ⟨g, c', rfl, hRow, hgl, (((f1.step f2).step f3).trans f4 (fun x hx hlt => by simp at hx; omega))⟩
end Go.Proofs.YtbilaapikclhlaaDoor
