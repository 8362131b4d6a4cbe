/- Contracts of addr.Text and addr.Parse. -/
import Derived.Test.YtbilaapikclhlaaDoorEnv
namespace Go.Proofs.YtbilaapikclhlaaDoor
open Go.RowKit Go.Sort Go.Lib
set_option linter.unusedVariables false
set_option maxRecDepth 100000
set_option maxHeartbeats 4000000

theorem toList_ne {s t : ByteArray} (h : ¬ s = t) : ¬ s.toList = t.toList := by
  rw [ByteArray.toList_eq, ByteArray.toList_eq]
  intro e
  apply h
  obtain ⟨⟨a⟩⟩ := s
  obtain ⟨⟨b⟩⟩ := t
  simp only at e
  rw [e]

theorem Text_bad (s : ByteArray) (p : Int) (hs : s.size ≤ 1000000) (hv : addrB s.data.toList p = false) (w : World) :
    Calls Tryd.prog 13 #[.agg #[.string s, .int .i64 p]] w fun e w' => e = .returned (.tuple #[.string ⟨#[]⟩, .int .i64 2]) ∧ Fr [] w w' := by
  have f0 : Fr [] w (w.alloc (.cells #[.string s, .int .i64 p] 23)) := (Fr.refl [] w).alloc _
  have hV := fun W => valid_any s p hs W
  rw [hv] at hV
  have HV := Lib.hid hV
  clear hV hv
  go_enter Tryd.func13, Tryd.ntmps13
  go_wp2_with (go_at_call 11; refine (HV.out _).mono ?_; rintro e w1 ⟨rfl, f1⟩)
  go_ret2
  exact ⟨rfl, f0.step f1⟩
theorem Text_ok (s : ByteArray) (u : Nat) (hs : s.size ≤ 1000000) (hu : u ≤ 65535) (hv : addrB s.data.toList u = true) (w : World) (he : Env w) :
    Calls Tryd.prog 13 #[.agg #[.string s, .int .i64 u]] w fun e w' => e = .returned (.tuple #[.string (textB s u), .int .i64 0]) ∧ Fr [] w w' := by
  have f0 : Fr [] w (w.alloc (.cells #[.string s, .int .i64 u] 23)) := (Fr.refl [] w).alloc _
  have hV := fun W => valid_any s u hs W
  rw [hv] at hV
  have HV := Lib.hid hV
  have HT := Lib.hid (fun W he' => text_any s u hs hu W he')
  have HE := Lib.hid he
  clear hV hv he
  generalize textB s u = t at HT ⊢
  go_enter Tryd.func13, Tryd.ntmps13
  go_wp2_with fail
  refine (HV.out _).mono ?_
  rintro e w1 ⟨rfl, f1⟩
  have k0 : w1.cell? ⟨w.heap.size, 0, none⟩ = some (.string s) := f1.keep (by simp) (by simp)
  have k1 : w1.cell? ⟨w.heap.size, 1, none⟩ = some (.int .i64 u) := f1.keep (by simp) (by simp)
  go_wp2_with fail
  refine (HT.out _ (HE.out.new (f0.step f1))).mono ?_
  rintro e w2 ⟨rfl, f2⟩
  go_wp2_with fail
  go_ret2
  exact ⟨rfl, (f0.step f1).step f2⟩

def nameOf (s : ByteArray) : ByteArray := ⟨(Lib.cut s.data.toList [58]).1.toArray⟩
def portOf (s : ByteArray) : Int := atoiN (Lib.cut s.data.toList [58]).2.1
def goodP (s : ByteArray) : Bool := addrB (nameOf s).data.toList (portOf s) && decide (textB (nameOf s) (portOf s).toNat = s)
/-- What Parse returns. -/
def parsedA (s : ByteArray) : Ad := if goodP s then (nameOf s, portOf s) else (⟨#[]⟩, 0)
def parsedE (s : ByteArray) : Int := if goodP s then 0 else 6

theorem cut_sizes (l : List UInt8) : (Lib.cut l [58]).1.length ≤ l.length ∧ (Lib.cut l [58]).2.1.length ≤ l.length := by
  unfold Lib.cut
  split
  · simp only [List.length_take, List.length_drop]
    omega
  · simp

theorem parse_any (s : ByteArray) (hs : s.size ≤ 1000000) (w : World) (he : Env w) :
    Calls Tryd.prog 22 #[.string s] w fun e w' => e = .returned (.tuple #[.agg #[.string (parsedA s).1, .int .i64 (parsedA s).2], .int .i64 (parsedE s)]) ∧ Fr [] w w' := by
  have hz := cut_sizes s.data.toList
  rw [len_size] at hz
  have f0 : Fr [] w (w.alloc (.cells #[.string ⟨#[]⟩, .int .i64 0] 23)) := (Fr.refl [] w).alloc _
  have hC := fun W he' => cut_any s hs W he'
  have hA := fun W he' => atoi_any ⟨(Lib.cut s.data.toList [58]).2.1.toArray⟩ (by simpa [ByteArray.size] using (by omega : (Lib.cut s.data.toList [58]).2.1.length ≤ 1000000)) W he'
  have hns : (nameOf s).size ≤ 1000000 := by unfold nameOf; simpa [ByteArray.size] using (by omega : (Lib.cut s.data.toList [58]).1.length ≤ 1000000)
  have hV := fun W => valid_any (nameOf s) (portOf s) hns W
  have hA' : ∀ W, Env W → Calls Tryd.prog 36 #[.string ⟨(Lib.cut s.data.toList [58]).2.1.toArray⟩] W fun e w' => (∃ v, e = .returned (.tuple #[.int .i64 (portOf s), v])) ∧ Fr [] W w' := hA
  have hC' : ∀ W, Env W → Calls Tryd.prog 35 #[.string s, .string ⟨#[58]⟩] W fun e w' => e = .returned (.tuple #[.string (nameOf s), .string ⟨(Lib.cut s.data.toList [58]).2.1.toArray⟩, .bool (Lib.cut s.data.toList [58]).2.2]) ∧ Fr [] W w' := hC
  clear hA hC
  generalize (⟨(Lib.cut s.data.toList [58]).2.1.toArray⟩ : ByteArray) = rest at hA' hC'
  generalize (Lib.cut s.data.toList [58]).2.2 = found at hC'
  unfold parsedA parsedE goodP
  generalize nameOf s = nm at *
  generalize portOf s = p at *
  have HC := Lib.hid hC'
  have HA := Lib.hid hA'
  have HE := Lib.hid he
  clear hC' hA' he
  cases hv : addrB nm.data.toList p
  · rw [hv] at hV
    have HV := Lib.hid hV
    clear hV hv
    go_enter Tryd.func22, Tryd.ntmps22
    go_wp2_with fail
    refine (HC.out _ (HE.out.new f0)).mono ?_
    rintro e w1 ⟨rfl, f1⟩
    go_wp2_with fail
    refine (HA.out _ ((HE.out.new f0).new f1)).mono ?_
    rintro e w2 ⟨⟨v, rfl⟩, f2⟩
    have f3 : Fr [] w2 (w2.alloc (.cells #[.string nm, .int .i64 p] 23)) := (Fr.refl [] w2).alloc _
    go_wp2_with fail
    refine (HV.out _).mono ?_
    rintro e w3 ⟨rfl, f4⟩
    have g2 := ((f1.step f2).step f3).step f4
    have k0 : w3.cell? ⟨w.heap.size, 0, none⟩ = some (.string ⟨#[]⟩) := g2.keep (by simp) (by simp)
    have k1 : w3.cell? ⟨w.heap.size, 1, none⟩ = some (.int .i64 0) := g2.keep (by simp) (by simp)
    have fz : ∀ o, w3.frozen? ⟨w.heap.size, o, none⟩ = false := fun o => by rw [g2.frozen (by simp) (by simp)]; simp
    have G := f0.step g2
    clear f0 f1 f2 f3 f4 g2
    go_wp2_with fail
    refine bodyPost_ret (v := .tuple #[.agg #[.string ⟨#[]⟩, .int .i64 0], .int .i64 6]) (by simp [results, Tryd.results22, go_sem, k0, k1]) rfl ⟨by simp, ?_⟩
    exact (G.setCell (by simp) _).setCell (by simp) _
  · rw [hv] at hV
    have HV := Lib.hid hV
    have hp : 0 ≤ p ∧ p ≤ 65535 := by
      simp only [addrB, Bool.and_eq_true, decide_eq_true_eq] at hv
      omega
    obtain ⟨u, rfl⟩ := Int.eq_ofNat_of_zero_le hp.1
    have hT := fun W he' => text_any nm u hns (by omega) W he'
    clear hV hv
    have e1 : ((u : Int)).toNat = u := by simp
    rw [e1]
    generalize textB nm u = t at hT ⊢
    have HT := Lib.hid hT
    clear hT
    by_cases hts : t = s
    · subst hts
      go_enter Tryd.func22, Tryd.ntmps22
      go_wp2_with fail
      refine (HC.out _ (HE.out.new f0)).mono ?_
      rintro e w1 ⟨rfl, f1⟩
      go_wp2_with fail
      refine (HA.out _ ((HE.out.new f0).new f1)).mono ?_
      rintro e w2 ⟨⟨v, rfl⟩, f2⟩
      have f3 : Fr [] w2 (w2.alloc (.cells #[.string nm, .int .i64 u] 23)) := (Fr.refl [] w2).alloc _
      go_wp2_with fail
      refine (HV.out _).mono ?_
      rintro e w3 ⟨rfl, f4⟩
      have j0 : w3.cell? ⟨w2.heap.size, 0, none⟩ = some (.string nm) := f4.keep (by simp) (by simp)
      have j1 : w3.cell? ⟨w2.heap.size, 1, none⟩ = some (.int .i64 u) := f4.keep (by simp) (by simp)
      have E3 := ((HE.out.new f0).new f1).new ((f2.step f3).step f4)
      go_wp2_with fail
      refine (HT.out _ E3).mono ?_
      rintro e w4 ⟨rfl, f5⟩
      have i0 := f5.keep j0 (by simp)
      have i1 := f5.keep j1 (by simp)
      have g2 := (((f1.step f2).step f3).step f4).step f5
      have k0 : w4.cell? ⟨w.heap.size, 0, none⟩ = some (.string ⟨#[]⟩) := g2.keep (by simp) (by simp)
      have k1 : w4.cell? ⟨w.heap.size, 1, none⟩ = some (.int .i64 0) := g2.keep (by simp) (by simp)
      have fz : ∀ o, w4.frozen? ⟨w.heap.size, o, none⟩ = false := fun o => by rw [g2.frozen (by simp) (by simp)]; simp
      have G := f0.step g2
      have hne : w2.heap.size ≠ w.heap.size := by have := f1.size; have := f2.size; simp at *; omega
      clear f0 f1 f2 f3 f4 f5 g2 E3 j0 j1
      go_wp2_with fail
      refine bodyPost_ret (v := .tuple #[.agg #[.string nm, .int .i64 u], .int .i64 0]) (by simp [results, Tryd.results22, go_sem, k0, k1]) rfl ⟨by simp, ?_⟩
      exact (G.setCell (by simp) _).setCell (by simp) _
    · have hne' : ¬ t.toList = s.toList := toList_ne hts
      have hd : decide (t = s) = false := by simp [hts]
      have hne2 : (t.toList == s.toList) = false := by simp [hne']
      rw [hd]
      simp only [Bool.and_false, Bool.false_eq_true, if_false]
      clear hne' hd hts
      go_enter Tryd.func22, Tryd.ntmps22
      go_wp2_with fail
      refine (HC.out _ (HE.out.new f0)).mono ?_
      rintro e w1 ⟨rfl, f1⟩
      go_wp2_with fail
      refine (HA.out _ ((HE.out.new f0).new f1)).mono ?_
      rintro e w2 ⟨⟨v, rfl⟩, f2⟩
      have f3 : Fr [] w2 (w2.alloc (.cells #[.string nm, .int .i64 u] 23)) := (Fr.refl [] w2).alloc _
      go_wp2_with fail
      refine (HV.out _).mono ?_
      rintro e w3 ⟨rfl, f4⟩
      have j0 : w3.cell? ⟨w2.heap.size, 0, none⟩ = some (.string nm) := f4.keep (by simp) (by simp)
      have j1 : w3.cell? ⟨w2.heap.size, 1, none⟩ = some (.int .i64 u) := f4.keep (by simp) (by simp)
      have E3 := ((HE.out.new f0).new f1).new ((f2.step f3).step f4)
      go_wp2_with fail
      refine (HT.out _ E3).mono ?_
      rintro e w4 ⟨rfl, f5⟩
      have g2 := (((f1.step f2).step f3).step f4).step f5
      have k0 : w4.cell? ⟨w.heap.size, 0, none⟩ = some (.string ⟨#[]⟩) := g2.keep (by simp) (by simp)
      have k1 : w4.cell? ⟨w.heap.size, 1, none⟩ = some (.int .i64 0) := g2.keep (by simp) (by simp)
      have fz : ∀ o, w4.frozen? ⟨w.heap.size, o, none⟩ = false := fun o => by rw [g2.frozen (by simp) (by simp)]; simp
      have G := f0.step g2
      clear f0 f1 f2 f3 f4 f5 g2 E3 j0 j1
      go_wp2_with fail
      refine bodyPost_ret (v := .tuple #[.agg #[.string ⟨#[]⟩, .int .i64 0], .int .i64 6]) (by simp [results, Tryd.results22, go_sem, k0, k1]) rfl ⟨rfl, ?_⟩
      exact (G.setCell (by simp) _).setCell (by simp) _
end Go.Proofs.YtbilaapikclhlaaDoor
