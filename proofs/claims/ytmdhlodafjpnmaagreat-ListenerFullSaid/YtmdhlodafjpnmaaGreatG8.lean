/- The reference's nets in memory: the places of connections and listeners, who waits. -/
import Derived.Test.YtmdhlodafjpnmaaGreatG7
import Derived.Test.YtmdhlodafjpnmaaGreatLInv
import Derived.Test.YtmdhlodafjpnmaaGreatSlc
import Derived.Laws.StructEq
import Derived.BigQuiet
namespace Go.Proofs.YtmdhlodafjpnmaaGreat
open Go.RowKit
set_option linter.unusedVariables false
set_option linter.unusedSimpArgs false
set_option maxRecDepth 100000
set_option maxHeartbeats 8000000

def place {α : Type} : Option (Nat × α) → Int
  | none => -1
  | some (i, _) => i
theorem take_more {α : Type} {p : α → Bool} {D : List α} {q : Nat} {y : α} (h : ∀ x ∈ D.take q, p x = false) (hy : D[q]? = some y) (hp : p y = false) : ∀ x ∈ D.take (q + 1), p x = false := fun x hx => by
  rw [List.take_add_one, hy] at hx
  rcases List.mem_append.1 hx with hx | hx
  · exact h x hx
  · rw [Option.toList_some, List.mem_singleton] at hx
    rw [hx]
    exact hp
def refG (r : Int) (y : PG) : Bool := decide ((y.ref : Int) = r)
theorem IntRow.ofV {w : World} {v : Value} {l : List Int} (h : RowV w v l.length 1 (intsV l)) (hl : l.length ≤ 100000) : IntRow w v l := by
  rcases h.2 with ⟨h0, a, c, rfl⟩ | ⟨g, off, c, rfl, hg, hc⟩
  · exact .inl ⟨List.eq_nil_of_length_eq_zero h0, a, c, rfl⟩
  · refine .inr ⟨g, off, c, rfl, by unfold maxLen; omega, fun i x hx => hc i _ ?_⟩
    simp [intsV, hx]
theorem IntRow.valR {w : World} {v : Value} {l : List Int} (h : IntRow w v l) : ∃ a c, v = .slice a l.length c := by
  rcases h with ⟨rfl, a, c, rfl⟩ | ⟨g, off, cap, rfl, h1, h2⟩
  · exact ⟨a, c, rfl⟩
  · exact ⟨_, _, rfl⟩
theorem IntRow.at {w : World} {v : Value} {l : List Int} (h : IntRow w v l) {i : Nat} {x : Int} (hx : l[i]? = some x) : ∃ g off cap, v = .slice (some ⟨g, off, none⟩) l.length cap ∧ w.cell? ⟨g, off + i, none⟩ = some (.int .i64 x) := by
  rcases h with ⟨rfl, _⟩ | ⟨g, off, cap, rfl, h1, h2⟩
  · simp at hx
  · exact ⟨g, off, cap, rfl, h2 i x hx⟩
theorem has_any (v : Value) (l : List Int) (r : Int) (w : World) (h : IntRow w v l) (hn : l.length ≤ 100000) :
    Calls Tryz.prog 93 #[v, .int .i64 r] w fun e w' => e = .returned (.bool (decide (r ∈ l))) ∧ w' = w := by
  obtain ⟨a, c, rfl⟩ := h.valR
  obtain ⟨n, hnl⟩ : ∃ n, l.length = n := ⟨_, rfl⟩
  have HN := Lib.hid hnl
  have HR := Lib.hid h
  rw [hnl] at HR hn ⊢
  clear h hnl
  go_enter Tryz.func93, Tryz.ntmps93
  go_wp2
  go_loopw [5] (fun i wr => ∃ (wz : World) (q : Nat), wz = wr ∧ i = .int .i64 q ∧ q ≤ n ∧ (∀ x ∈ l.take q, decide (x = r) = false) ∧ w = wr) (fun i _ => n - (intOf i).toNat)
  case atStart => exact ⟨_, 0, rfl, rfl, by omega, (fun x hx => by simp at hx), rfl⟩
  case round =>
    obtain ⟨wr, q, hwz, rfl, hq, hs, rfl⟩ := hrel
    subst hwz
    have HS := Lib.hid hs
    clear hs
    by_cases hlt : q < n
    · have hlt' : (q : Int) < (n : Int) := by omega
      have hy := List.getElem?_eq_getElem (l := l) (i := q) (by rw [HN.out]; exact hlt)
      obtain ⟨y, hye⟩ : ∃ y, l[q]'(by rw [HN.out]; exact hlt) = y := ⟨_, rfl⟩
      rw [hye] at hy
      obtain ⟨g, off, cap, hv, hc⟩ := HR.out.at hy
      rw [HN.out] at hv
      simp only [Value.slice.injEq] at hv
      obtain ⟨rfl, _, rfl⟩ := hv
      by_cases hr : y = r
      · have d0 : (y == r) = true := beq_iff_eq.2 hr
        have d1 : decide (y = r) = true := decide_eq_true hr
        have HP := Lib.hid (show decide (r ∈ l) = true from decide_eq_true (by rw [← hr]; exact List.mem_of_getElem? hy))
        clear hy hye
        go_wp2
        go_ret
        exact ⟨by rw [HP.out] <;> rfl, rfl⟩
      · have d0 : (y == r) = false := beq_eq_false_iff_ne.2 hr
        have d1 : decide (y = r) = false := decide_eq_false hr
        have HT := Lib.hid (take_more HS.out hy (decide_eq_false hr))
        clear hy hye
        go_wp2
        go_roundw
        case rel => exact ⟨_, q + 1, rfl, by go_num, by omega, HT.out, by first | trivial | rfl⟩
        case measure => simp [intOf]; omega
    · have hqn : q = n := by omega
      subst hqn
      have HP := Lib.hid (show decide (r ∈ l) = false from decide_eq_false (fun hm => by
        have := HS.out r (by rw [List.take_of_length_le (by rw [HN.out]; exact Nat.le_refl _)]; exact hm)
        simp at this))
      go_wp2
      go_ret
      exact ⟨by rw [HP.out] <;> rfl, rfl⟩

theorem lisAtG (vL vC : Value) (D : List PN.PL) (r : Int) (w : World) (h : LRow w vL D) (hn : D.length ≤ 100000) :
    Calls Tryz.prog 48 #[.agg #[vL, vC], .int .i64 r] w fun e w' => e = .returned (.int .i64 (place (PN.pick (PN.refP r) D 0))) ∧ Fr [] w w' := by
  obtain ⟨a, c, rfl⟩ := h.val
  obtain ⟨n, hnl⟩ : ∃ n, D.length = n := ⟨_, rfl⟩
  have HN := Lib.hid hnl
  rw [hnl] at h hn ⊢
  obtain ⟨B, hB⟩ : ∃ B, w.heap.size = B := ⟨_, rfl⟩
  have HB := Lib.hid hB
  obtain ⟨wb, hwb⟩ : ∃ z, w.alloc (.cells #[.slice a n c, vC] 34) = z := ⟨_, rfl⟩
  have hb : Blk wb B 34 [.slice a n c, vC] := by
    rw [← hwb, ← hB]
    exact Blk.made w 34 [.slice a n c, vC]
  have hf : Fr [] w wb := by rw [← hwb]; exact (Fr.refl [] w).alloc _
  have HF := Lib.hid hf
  have HWB := Lib.hid hwb
  have HR := Lib.hid (LRow.next h hf)
  have hc1 : wb.cell? ⟨B, 0, none⟩ = some (.slice a n c) := hb.at 0 _ rfl
  clear hb hf hwb hB h hnl
  go_enter Tryz.func48, Tryz.ntmps48
  go_wp2
  rw [HWB.out]
  simp only [HB.out]
  go_loopw [5] (fun i wr => ∃ (wz : World) (q : Nat), wz = wr ∧ i = .int .i64 q ∧ q ≤ n ∧ (∀ x ∈ D.take q, PN.refP r x = false) ∧ wb = wr) (fun i _ => n - (intOf i).toNat)
  case atStart => exact ⟨_, 0, rfl, rfl, by omega, (fun x hx => by simp at hx), rfl⟩
  case round =>
    obtain ⟨wr, q, hwz, rfl, hq, hs, rfl⟩ := hrel
    subst hwz
    have HS := Lib.hid hs
    clear hs
    by_cases hlt : q < n
    · have hlt' : (q : Int) < (n : Int) := by omega
      have hy := List.getElem?_eq_getElem (l := D) (i := q) (by rw [HN.out]; exact hlt)
      obtain ⟨y, hye⟩ : ∃ y, D[q]'(by rw [HN.out]; exact hlt) = y := ⟨_, rfl⟩
      rw [hye] at hy
      obtain ⟨g, off, cap, X, hv, hg, _, hl, q0, rfl, _⟩ := HR.out.lies hy
      rw [HN.out] at hv
      simp only [Value.slice.injEq] at hv
      obtain ⟨rfl, _, rfl⟩ := hv
      have c0 := hl 0 _ rfl
      rw [Nat.add_zero] at c0
      by_cases hr : (y.ref : Int) = r
      · have d0 : ((y.ref : Int) == r) = true := beq_iff_eq.2 hr
        have d1 : decide ((y.ref : Int) = r) = true := decide_eq_true hr
        have HP := Lib.hid (show place (PN.pick (PN.refP r) D 0) = (q : Int) from by rw [PN.pick_at hy HS.out (decide_eq_true hr)]; rfl)
        clear hy hye hl
        go_wp2
        go_ret
        exact ⟨by rw [HP.out] <;> rfl, HF.out⟩
      · have d0 : ((y.ref : Int) == r) = false := beq_eq_false_iff_ne.2 hr
        have d1 : decide ((y.ref : Int) = r) = false := decide_eq_false hr
        have HT := Lib.hid (take_more HS.out hy (decide_eq_false hr))
        clear hy hye hl
        go_wp2
        go_roundw
        case rel => exact ⟨_, q + 1, rfl, by go_num, by omega, HT.out, by first | trivial | rfl⟩
        case measure => simp [intOf]; omega
    · have hqn : q = n := by omega
      subst hqn
      have HP := Lib.hid (show place (PN.pick (PN.refP r) D 0) = -1 from by
        rw [PN.pick_end (fun x hx => HS.out x (by rw [List.take_of_length_le (by rw [HN.out]; exact Nat.le_refl _)]; exact hx))]
        rfl)
      go_wp2
      go_ret
      exact ⟨by rw [HP.out] <;> rfl, HF.out⟩
theorem connAtG (vL vC : Value) (D : List PG) (r : Int) (w : World) (h : CRow w vC D) (hn : D.length ≤ 100000) :
    Calls Tryz.prog 50 #[.agg #[vL, vC], .int .i64 r] w fun e w' => e = .returned (.int .i64 (place (PN.pick (refG r) D 0))) ∧ Fr [] w w' := by
  obtain ⟨a, c, rfl⟩ := h.val
  obtain ⟨n, hnl⟩ : ∃ n, D.length = n := ⟨_, rfl⟩
  have HN := Lib.hid hnl
  rw [hnl] at h hn ⊢
  obtain ⟨B, hB⟩ : ∃ B, w.heap.size = B := ⟨_, rfl⟩
  have HB := Lib.hid hB
  obtain ⟨wb, hwb⟩ : ∃ z, w.alloc (.cells #[vL, .slice a n c] 34) = z := ⟨_, rfl⟩
  have hb : Blk wb B 34 [vL, .slice a n c] := by
    rw [← hwb, ← hB]
    exact Blk.made w 34 [vL, .slice a n c]
  have hf : Fr [] w wb := by rw [← hwb]; exact (Fr.refl [] w).alloc _
  have HBB := Lib.hid hb
  have HF := Lib.hid hf
  have HWB := Lib.hid hwb
  have HR := Lib.hid (CRow.next h hf)
  have hc1 : wb.cell? ⟨B, 1, none⟩ = some (.slice a n c) := hb.at 1 _ rfl
  clear hb hf hwb hB h hnl
  go_enter Tryz.func50, Tryz.ntmps50
  go_wp2
  rw [HWB.out]
  simp only [HB.out]
  go_loopw [5] (fun i wr => ∃ (wz : World) (q : Nat), wz = wr ∧ i = .int .i64 q ∧ q ≤ n ∧ (∀ x ∈ D.take q, refG r x = false) ∧ wb = wr) (fun i _ => n - (intOf i).toNat)
  case atStart => exact ⟨_, 0, rfl, rfl, by omega, (fun x hx => by simp at hx), rfl⟩
  case round =>
    obtain ⟨wr, q, hwz, rfl, hq, hs, rfl⟩ := hrel
    subst hwz
    have HS := Lib.hid hs
    clear hs
    by_cases hlt : q < n
    · have hlt' : (q : Int) < (n : Int) := by omega
      have hy := List.getElem?_eq_getElem (l := D) (i := q) (by rw [HN.out]; exact hlt)
      obtain ⟨y, hye⟩ : ∃ y, D[q]'(by rw [HN.out]; exact hlt) = y := ⟨_, rfl⟩
      rw [hye] at hy
      obtain ⟨g, off, cap, X, hv, hg, _, hl, q0, rfl, _⟩ := HR.out.lies hy
      rw [HN.out] at hv
      simp only [Value.slice.injEq] at hv
      obtain ⟨rfl, _, rfl⟩ := hv
      have c0 := hl 0 _ rfl
      rw [Nat.add_zero] at c0
      by_cases hr : (y.ref : Int) = r
      · have d0 : ((y.ref : Int) == r) = true := beq_iff_eq.2 hr
        have d1 : decide ((y.ref : Int) = r) = true := decide_eq_true hr
        have HP := Lib.hid (show place (PN.pick (refG r) D 0) = (q : Int) from by rw [PN.pick_at hy HS.out (decide_eq_true hr)]; rfl)
        clear hy hye hl
        go_wp2
        go_ret
        exact ⟨by rw [HP.out] <;> rfl, HF.out⟩
      · have d0 : ((y.ref : Int) == r) = false := beq_eq_false_iff_ne.2 hr
        have d1 : decide ((y.ref : Int) = r) = false := decide_eq_false hr
        have HT := Lib.hid (take_more HS.out hy (decide_eq_false hr))
        clear hy hye hl
        go_wp2
        go_roundw
        case rel => exact ⟨_, q + 1, rfl, by go_num, by omega, HT.out, by first | trivial | rfl⟩
        case measure => simp [intOf]; omega
    · have hqn : q = n := by omega
      subst hqn
      have HP := Lib.hid (show place (PN.pick (refG r) D 0) = -1 from by
        rw [PN.pick_end (fun x hx => HS.out x (by rw [List.take_of_length_le (by rw [HN.out]; exact Nat.le_refl _)]; exact hx))]
        rfl)
      go_wp2
      go_ret
      exact ⟨by rw [HP.out] <;> rfl, HF.out⟩
theorem waits_none {D : List PN.PL} {r : Int} (h : ∀ x ∈ D, decide (r ∈ x.l) = false) : decide (r ∈ PN.waitsOf D) = false := decide_eq_false (fun hm => by
  obtain ⟨x, hx, hr⟩ := List.mem_flatMap.1 hm
  have := h x hx
  rw [decide_eq_true hr] at this
  cases this)
theorem waitsG (vL vC : Value) (D : List PN.PL) (r : Int) (w : World) (h : LRow w vL D) (hn : D.length ≤ 100000) (hq : ∀ x ∈ D, x.l.length ≤ 100000) :
    Calls Tryz.prog 53 #[.agg #[vL, vC], .int .i64 r] w fun e w' => e = .returned (.bool (decide (r ∈ PN.waitsOf D))) ∧ Fr [] w w' := by
  obtain ⟨a, c, rfl⟩ := h.val
  obtain ⟨n, hnl⟩ : ∃ n, D.length = n := ⟨_, rfl⟩
  have HN := Lib.hid hnl
  have HQ := Lib.hid hq
  rw [hnl] at h hn ⊢
  obtain ⟨B, hB⟩ : ∃ B, w.heap.size = B := ⟨_, rfl⟩
  have HB := Lib.hid hB
  obtain ⟨wb, hwb⟩ : ∃ z, w.alloc (.cells #[.slice a n c, vC] 34) = z := ⟨_, rfl⟩
  have hb : Blk wb B 34 [.slice a n c, vC] := by
    rw [← hwb, ← hB]
    exact Blk.made w 34 [.slice a n c, vC]
  have hf : Fr [] w wb := by rw [← hwb]; exact (Fr.refl [] w).alloc _
  have HF := Lib.hid hf
  have HWB := Lib.hid hwb
  have HR := Lib.hid (LRow.next h hf)
  have hc1 : wb.cell? ⟨B, 0, none⟩ = some (.slice a n c) := hb.at 0 _ rfl
  clear hb hf hwb hB h hnl hq
  go_enter Tryz.func53, Tryz.ntmps53
  go_wp2
  rw [HWB.out]
  simp only [HB.out]
  go_loopw [5] (fun i wr => ∃ (wz : World) (q : Nat), wz = wr ∧ i = .int .i64 q ∧ q ≤ n ∧ (∀ x ∈ D.take q, decide (r ∈ x.l) = false) ∧ wb = wr) (fun i _ => n - (intOf i).toNat)
  case atStart => exact ⟨_, 0, rfl, rfl, by omega, (fun x hx => by simp at hx), rfl⟩
  case round =>
    obtain ⟨wr, q, hwz, rfl, hq, hs, rfl⟩ := hrel
    subst hwz
    have HS := Lib.hid hs
    clear hs
    by_cases hlt : q < n
    · have hlt' : (q : Int) < (n : Int) := by omega
      have hy := List.getElem?_eq_getElem (l := D) (i := q) (by rw [HN.out]; exact hlt)
      obtain ⟨y, hye⟩ : ∃ y, D[q]'(by rw [HN.out]; exact hlt) = y := ⟨_, rfl⟩
      rw [hye] at hy
      obtain ⟨g, off, cap, X, hv, hg, _, hl, q0, rfl, hrow⟩ := HR.out.lies hy
      rw [HN.out] at hv
      simp only [Value.slice.injEq] at hv
      obtain ⟨rfl, _, rfl⟩ := hv
      have c4 := hl 4 _ rfl
      have HH := Lib.hid (has_any (slv q0) y.l r _ (IntRow.ofV hrow (HQ.out y (List.mem_of_getElem? hy))) (HQ.out y (List.mem_of_getElem? hy)))
      have HY := Lib.hid hy
      clear hy hye hl hrow hg
      go_wp2_with fail
      refine HH.out.mono ?_
      rintro e w' ⟨rfl, hw'⟩
      subst hw'
      obtain ⟨b, hb⟩ : ∃ b, decide (r ∈ y.l) = b := ⟨_, rfl⟩
      rw [hb]
      have HBB := Lib.hid hb
      clear hb c4
      cases b with
      | true =>
        have HP := Lib.hid (show decide (r ∈ PN.waitsOf D) = true from decide_eq_true (List.mem_flatMap.2 ⟨y, List.mem_of_getElem? HY.out, of_decide_eq_true HBB.out⟩))
        go_wp2
        go_ret
        exact ⟨by rw [HP.out] <;> rfl, HF.out⟩
      | false =>
        have HT := Lib.hid (take_more (p := fun x : PN.PL => decide (r ∈ x.l)) HS.out HY.out HBB.out)
        go_wp2
        go_roundw
        case rel => exact ⟨_, q + 1, rfl, by go_num, by omega, HT.out, by first | trivial | rfl⟩
        case measure => simp [intOf]; omega
    · have hqn : q = n := by omega
      subst hqn
      have HP := Lib.hid (show decide (r ∈ PN.waitsOf D) = false from waits_none (fun x hx => HS.out x (by rw [List.take_of_length_le (by rw [HN.out]; exact Nat.le_refl _)]; exact hx)))
      go_wp2
      go_ret
      exact ⟨by rw [HP.out] <;> rfl, HF.out⟩
theorem bytes_eq (a b : ByteArray) : (a.toList == b.toList) = decide (a = b) := by
  by_cases e : a = b
  · subst e
    simp
  · rw [decide_eq_false e]
    refine beq_eq_false_iff_ne.2 (fun h => e ?_)
    rw [ByteArray.toList_eq, ByteArray.toList_eq] at h
    exact ByteArray.ext (Array.toList_inj.1 h)
theorem eqAdrRaw (s1 s2 : ByteArray) (p1 p2 : Int) (w : World) : (Op.equalIn 10000 28 (.agg #[.string s1, .int .i64 p1]) (.agg #[.string s2, .int .i64 p2])).run Tryz.prog w = .ok (decide (s1 = s2 ∧ p1 = p2)) w := by
  have u1 := Tryz.underlying3
  have a1 := Tryz.isAgg3
  have z1 := Tryz.sizeOf3
  have u2 := Tryz.underlying9
  have a2 := Tryz.isAgg9
  have z2 := Tryz.sizeOf9
  have hS : Tryz.prog.underlying 28 = some (.struct (Tryz.prog.fieldsOf 28)) := by kernel_rfl
  have hp : Tryz.prog.stoodInHeld 28 = false := by kernel_rfl
  rw [show (10000 : Nat) = 9999 + 1 from rfl, run_equalIn_agg w 9999 28 _ _ hS hp]
  simp only [Program.fieldsOf, Tryz.underlying28]
  have hb := bytes_eq s1 s2
  go_simp
  by_cases h1 : s1 = s2 <;> by_cases h2 : p1 = p2 <;> simp [h1, h2, bytes_eq]
theorem eqAdr (s1 s2 : ByteArray) (p1 p2 : Int) (w : World) : (binOp .eql 28 (.agg #[.string s1, .int .i64 p1]) (.agg #[.string s2, .int .i64 p2])).run Tryz.prog w = .ok (.bool (decide (s1 = s2 ∧ p1 = p2))) w := by
  rw [run_eql_struct, eqAdrRaw]
  rfl
theorem atG (vL vC : Value) (D : List PN.PL) (s : ByteArray) (p : Int) (w : World) (h : LRow w vL D) (hn : D.length ≤ 100000) :
    Calls Tryz.prog 51 #[.agg #[vL, vC], .agg #[.string s, .int .i64 p]] w fun e w' => e = .returned (.int .i64 (place (PN.pick (PN.atP s p) D 0))) ∧ Fr [] w w' := by
  obtain ⟨a, c, rfl⟩ := h.val
  obtain ⟨n, hnl⟩ : ∃ n, D.length = n := ⟨_, rfl⟩
  have HN := Lib.hid hnl
  rw [hnl] at h hn ⊢
  obtain ⟨B, hB⟩ : ∃ B, w.heap.size = B := ⟨_, rfl⟩
  have HB := Lib.hid hB
  obtain ⟨wb, hwb⟩ : ∃ z, (w.alloc (.cells #[.slice a n c, vC] 34)).alloc (.cells #[.string s, .int .i64 p] 28) = z := ⟨_, rfl⟩
  have hb : Blk wb B 34 [.slice a n c, vC] := by
    rw [← hwb, ← hB]
    exact (Blk.made w 34 [.slice a n c, vC]).keep ((Fr.refl [] _).alloc _) (by simp)
  have hb2 : Blk wb (B + 1) 28 [.string s, .int .i64 p] := by
    have h := Blk.made (w.alloc (.cells #[.slice a n c, vC] 34)) 28 [.string s, .int .i64 p]
    rw [show (w.alloc (.cells #[.slice a n c, vC] 34)).heap.size = B + 1 from by rw [← hB]; simp] at h
    rw [← hwb]
    exact h
  have hf : Fr [] w wb := by rw [← hwb]; exact ((Fr.refl [] w).alloc _).alloc _
  have HF := Lib.hid hf
  have HWB := Lib.hid hwb
  have HR := Lib.hid (LRow.next h hf)
  have HC := Lib.hid hb
  have HC2 := Lib.hid hb2
  clear hb hb2 hf hwb hB h hnl
  go_enter Tryz.func51, Tryz.ntmps51
  go_wp2
  rw [HWB.out]
  simp only [HB.out]
  go_loopw [5] (fun i wr => ∃ (wz : World) (q : Nat), wz = wr ∧ i = .int .i64 q ∧ q ≤ n ∧ (∀ x ∈ D.take q, PN.atP s p x = false) ∧ Fr [] wb wr) (fun i _ => n - (intOf i).toNat)
  case atStart => exact ⟨_, 0, rfl, rfl, by omega, (fun x hx => by simp at hx), Fr.refl _ _⟩
  case round =>
    obtain ⟨wr, q, hwz, rfl, hq, hs, hF⟩ := hrel
    subst hwz
    have HS := Lib.hid hs
    have HW := Lib.hid hF
    have b0 : wr.cell? ⟨B, 0, none⟩ = some (.slice a n c) := (HC.out.keep hF (by simp)).at 0 _ rfl
    have e0 : wr.cell? ⟨B + 1, 0, none⟩ = some (.string s) := (HC2.out.keep hF (by simp)).at 0 _ rfl
    have e1 : wr.cell? ⟨B + 1, 1, none⟩ = some (.int .i64 p) := (HC2.out.keep hF (by simp)).at 1 _ rfl
    clear hs hF
    by_cases hlt : q < n
    · have hlt' : (q : Int) < (n : Int) := by omega
      have hq0 : (0 : Int) ≤ (q : Int) := by omega
      have hy := List.getElem?_eq_getElem (l := D) (i := q) (by rw [HN.out]; exact hlt)
      obtain ⟨y, hye⟩ : ∃ y, D[q]'(by rw [HN.out]; exact hlt) = y := ⟨_, rfl⟩
      rw [hye] at hy
      obtain ⟨g, off, cap, X, hv, hg, _, hl, q0, rfl, _⟩ := (LRow.next HR.out HW.out).lies hy
      rw [HN.out] at hv
      simp only [Value.slice.injEq] at hv
      obtain ⟨rfl, _, rfl⟩ := hv
      have x1 := hl 1 _ rfl
      have x2 := hl 2 _ rfl
      have heq := fun W => eqAdr y.s s y.p p W
      have HY := Lib.hid hy
      clear hy hye hl hg
      by_cases hr : y.s = s ∧ y.p = p
      · rw [decide_eq_true hr] at heq
        have HP := Lib.hid (show place (PN.pick (PN.atP s p) D 0) = (q : Int) from by rw [PN.pick_at HY.out HS.out (decide_eq_true hr)]; rfl)
        clear hr
        go_upto_region 4 with fail
        go_quiet (fail)
        go_wp2
        go_ret
        exact ⟨by rw [HP.out] <;> rfl, (HF.out.step HW.out).drewN _⟩
      · rw [decide_eq_false hr] at heq
        have HT := Lib.hid (take_more HS.out HY.out (decide_eq_false hr))
        clear hr
        go_upto_region 4 with fail
        go_quiet (fail)
        go_wp2
        go_roundw
        case rel => exact ⟨_, q + 1, rfl, by go_num, by omega, HT.out, HW.out.drewN _⟩
        case measure => simp [intOf]; omega
    · have hqn : q = n := by omega
      subst hqn
      have HP := Lib.hid (show place (PN.pick (PN.atP s p) D 0) = -1 from by
        rw [PN.pick_end (fun x hx => HS.out x (by rw [List.take_of_length_le (by rw [HN.out]; exact Nat.le_refl _)]; exact hx))]
        rfl)
      go_wp2
      go_ret
      exact ⟨by rw [HP.out] <;> rfl, HF.out.step HW.out⟩
end Go.Proofs.YtmdhlodafjpnmaaGreat
