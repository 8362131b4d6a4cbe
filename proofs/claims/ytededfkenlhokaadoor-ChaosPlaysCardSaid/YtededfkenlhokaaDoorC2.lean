/- A plan of faults in memory: its faults, its lanes; contracts of chaos's none, may, New, Calls, Bytes, Moved, Copy. -/
import Derived.Test.YtededfkenlhokaaDoorC1
import Derived.Test.YtededfkenlhokaaDoorMap
import Derived.DeepKeys4
import Derived.Deep.OwnRows
import Derived.RegionCalls
import Derived.Deep.RegionWith
import Derived.Deep.RegionHeld3
import Derived.Laws.Externs
namespace Go.Proofs.YtededfkenlhokaaDoor
open Go.RowKit
open Go.Maps (Keyed)
set_option linter.unusedVariables false
set_option maxRecDepth 100000
set_option maxHeartbeats 4000000

theorem rowLane : (93 : TypeId) < Tryd.prog.types.size := of_decide_eq_true (by kernel_rfl)
theorem cellsLane : Tryd.prog.cellsOf 93 = 2 := by kernel_rfl
theorem laidOutP : laidOutB Tryd.prog = true := by kernel_rfl
theorem wideLane : (match Tryd.prog.underlying 93 with | some (.array _ _) | some (.struct _) => true | _ => false) = true := by rw [Tryd.underlying93]
theorem keyLane : Keyed Tryd.prog 93 := Keyed.of_law (deep_law_laid laidOutP (m := 2) (by omega) rowLane (by kernel_rfl) wideLane)
theorem keyTypeLane : Tryd.prog.keyType 93 = true := by kernel_rfl
def laneV (c d : Int) : Value := .agg #[.int .i64 c, .int .i64 d]
def stV (x : Int × Int × Int) : Value := .agg #[.int .i64 x.1, .int .i64 x.2.1, .int .i64 x.2.2]
theorem size1 : ∃ n, Tryd.prog.types.size + 1 = n + 2 := ⟨Tryd.prog.types.size - 1, by have h : (1 : Nat) < Tryd.prog.types.size := Nat.lt_of_le_of_lt (by decide) rowLane; omega⟩
theorem cellsInt : Tryd.prog.cellsOf 3 = 1 := by kernel_rfl
theorem cellsDir : Tryd.prog.cellsOf 30 = 1 := by kernel_rfl
def I64 (x : Int) : Prop := -9223372036854775808 ≤ x ∧ x ≤ 9223372036854775807
theorem keyLane_of (c d : Int) (hc : I64 c) (hd : I64 d) : ∃ l, keyOf Tryd.prog 93 (laneV c d) = some l := by
  obtain ⟨n, hn⟩ := size1
  unfold I64 at hc hd
  have hwf : (Lit.int .i64 c).wf = true := by simp [Lit.wf, IntKind.min, IntKind.max, IntKind.signed, IntKind.bits]; omega
  have hwd : (Lit.int .i64 d).wf = true := by simp [Lit.wf, IntKind.min, IntKind.max, IntKind.signed, IntKind.bits]; omega
  unfold keyOf
  rw [Tryd.underlying93]
  simp only [keyTypeLane, hn]
  simp [laneV, Value.formed, Tryd.underlying93, cellsLane, Value.cells, Program.keyLits, Tryd.underlying30, Tryd.underlying3, cellsDir, cellsInt, hwf, hwd]
theorem zeroSt (w : World) : (zeroValue 91).run Tryd.prog w = .ok (stV (0, 0, 0)) w := by kernel_rfl
theorem laneV_inj {c d c' d' : Int} (h : laneV c d = laneV c' d') : c = c' ∧ d = d' := by
  unfold laneV at h
  simp only [Value.agg.injEq, Array.mk.injEq, List.cons.injEq, Value.int.injEq, and_true, true_and] at h
  exact h

abbrev LF := Int → Int → Int × Int × Int
/-- A lane has turned. -/
def LF.upd (F : LF) (c d : Int) (x : Int × Int × Int) : LF := fun c' d' => if c' = c ∧ d' = d then x else F c' d'
/-- Block m is the map of the lanes F. -/
def LanesIs (w : World) (m : Nat) (F : LF) : Prop :=
  ∃ f, MapIs Tryd.prog 93 w m f ∧ (∀ p ∈ f, ∃ c d, p = (laneV c d, stV (F c d))) ∧ ∀ c d, (∀ p ∈ f, p.1 ≠ laneV c d) → F c d = (0, 0, 0)
section
variable {w w' : World} {m : Nat} {F : LF}
theorem LanesIs.keep {S : List Nat} (h : LanesIs w m F) (hf : Fr S w w') (hn : m ∉ S) : LanesIs w' m F := by
  obtain ⟨f, h1, h2, h3⟩ := h
  exact ⟨f, h1.keep hf hn, h2, h3⟩
theorem LanesIs.lt (h : LanesIs w m F) : m < w.heap.size := by
  obtain ⟨f, h1, h2, h3⟩ := h
  exact h1.lt
theorem LanesIs.made (w : World) : LanesIs (w.alloc (.map #[] 0)) w.heap.size (fun _ _ => (0, 0, 0)) :=
  ⟨[], MapIs.made _ _ _, (fun p hp => by cases hp), fun _ _ _ => rfl⟩
theorem LanesIs.look (h : LanesIs w m F) (c d : Int) (hc : I64 c) (hd : I64 d) : (Instr.lookup 63 (.map (some m)) (laneV c d) false).run Tryd.prog w = .ok (stV (F c d)) w := by
  obtain ⟨f, h1, h2, h3⟩ := h
  by_cases hx : ∃ p ∈ f, p.1 = laneV c d
  · obtain ⟨p, hp, he⟩ := hx
    obtain ⟨c', d', rfl⟩ := h2 p hp
    obtain ⟨rfl, rfl⟩ := laneV_inj he
    exact h1.hit keyLane (t := 63) (e := 91) Tryd.underlying63 hp false
  · have hx' : ∀ p ∈ f, p.1 ≠ laneV c d := fun p hp he => hx ⟨p, hp, he⟩
    obtain ⟨l, hl⟩ := keyLane_of c d hc hd
    rw [h3 c d hx']
    exact h1.miss keyLane (t := 63) (e := 91) Tryd.underlying63 hl hx' (zeroSt w) false
theorem LanesIs.put (h : LanesIs w m F) (c d : Int) (hc : I64 c) (hd : I64 d) (x : Int × Int × Int) :
    ∃ w', (Instr.mapUpdate 63 (.map (some m)) (laneV c d) (stV x)).run Tryd.prog w = .ok () w' ∧ LanesIs w' m (F.upd c d x) ∧ Fr [m] w w' := by
  obtain ⟨f, h1, h2, h3⟩ := h
  by_cases hx : ∃ p ∈ f, p.1 = laneV c d
  · obtain ⟨p, hp, he⟩ := hx
    obtain ⟨f1, f2, rfl⟩ := List.append_of_mem hp
    obtain ⟨k, v⟩ := p
    simp only at he
    subst he
    have hnd := h1.nodup
    obtain ⟨w', hr, hm, hf⟩ := h1.set keyLane (t := 63) (e := 91) Tryd.underlying63 (stV x)
    refine ⟨w', hr, ⟨_, hm, fun q hq => ?_, fun c' d' hq => ?_⟩, hf⟩
    · simp only [List.map_append, List.map_cons, List.nodup_append, List.nodup_cons] at hnd
      obtain ⟨_, ⟨n2, _⟩, n3⟩ := hnd
      simp only [List.mem_append, List.mem_cons] at hq
      rcases hq with hq | rfl | hq
      · obtain ⟨c', d', rfl⟩ := h2 q (by simp [hq])
        have hne : ¬ (c' = c ∧ d' = d) := fun he => n3 _ (List.mem_map.2 ⟨_, hq, rfl⟩) _ List.mem_cons_self (by rw [he.1, he.2])
        exact ⟨c', d', by unfold LF.upd; rw [if_neg hne]⟩
      · exact ⟨c, d, by unfold LF.upd; rw [if_pos ⟨rfl, rfl⟩]⟩
      · obtain ⟨c', d', rfl⟩ := h2 q (by simp [hq])
        have hne : ¬ (c' = c ∧ d' = d) := fun he => n2 (List.mem_map.2 ⟨_, hq, by rw [he.1, he.2]⟩)
        exact ⟨c', d', by unfold LF.upd; rw [if_neg hne]⟩
    · have hne : ¬ (c' = c ∧ d' = d) := fun he => hq (laneV c d, stV x) (by simp) (by rw [he.1, he.2])
      unfold LF.upd
      rw [if_neg hne]
      refine h3 c' d' fun q hq' => ?_
      simp only [List.mem_append, List.mem_cons] at hq'
      rcases hq' with hq' | rfl | hq'
      · exact hq q (by simp [hq'])
      · exact hq (laneV c d, stV x) (by simp)
      · exact hq q (by simp [hq'])
  · have hx' : ∀ p ∈ f, p.1 ≠ laneV c d := fun p hp he => hx ⟨p, hp, he⟩
    obtain ⟨l, hl⟩ := keyLane_of c d hc hd
    obtain ⟨w', hr, hm, hf⟩ := h1.put keyLane (t := 63) (e := 91) Tryd.underlying63 hl hx' (stV x)
    refine ⟨w', hr, ⟨_, hm, fun q hq => ?_, fun c' d' hq => ?_⟩, hf⟩
    · simp only [List.mem_append, List.mem_singleton] at hq
      rcases hq with hq | rfl
      · obtain ⟨c', d', rfl⟩ := h2 q hq
        have hne : ¬ (c' = c ∧ d' = d) := fun he => hx' _ hq (by rw [he.1, he.2])
        exact ⟨c', d', by unfold LF.upd; rw [if_neg hne]⟩
      · exact ⟨c, d, by unfold LF.upd; rw [if_pos ⟨rfl, rfl⟩]⟩
    · have hne : ¬ (c' = c ∧ d' = d) := fun he => hq (laneV c d, stV x) (by simp) (by rw [he.1, he.2])
      unfold LF.upd
      rw [if_neg hne]
      exact h3 c' d' fun q hq' => hq q (by simp [hq'])
end

/-- A slice of faults that can be read. -/
def FtRow (w : World) (v : Value) (fs : List Ft) : Prop :=
  (fs = [] ∧ ∃ a c, v = .slice a 0 c) ∨ ∃ g off cap, v = .slice (some ⟨g, off, none⟩) fs.length cap ∧ g < w.heap.size ∧ ∀ (i : Nat) x, fs[i]? = some x →
    w.cell? ⟨g, off + i * 5, none⟩ = some (.int .i64 x.k) ∧ w.cell? ⟨g, off + i * 5 + 1, none⟩ = some (.int .i64 x.c) ∧ w.cell? ⟨g, off + i * 5 + 2, none⟩ = some (.int .i64 x.d) ∧ w.cell? ⟨g, off + i * 5 + 3, none⟩ = some (.int .i64 x.a) ∧ w.cell? ⟨g, off + i * 5 + 4, none⟩ = some (.int .i64 x.g)
theorem FtRow.keep {S : List Nat} {w w' : World} {v : Value} {fs : List Ft} (h : FtRow w v fs) (hf : Fr S w w') (hS : ∀ g off n c, v = .slice (some ⟨g, off, none⟩) n c → g ∉ S) : FtRow w' v fs := by
  rcases h with h | ⟨g, off, cap, rfl, h1, h2⟩
  · exact .inl h
  · have := hS _ _ _ _ rfl
    refine .inr ⟨g, off, cap, rfl, Nat.lt_of_lt_of_le h1 hf.size, fun i x hx => ?_⟩
    obtain ⟨c0, c1, c2, c3, c4⟩ := h2 i x hx
    exact ⟨hf.keep c0 this, hf.keep c1 this, hf.keep c2 this, hf.keep c3 this, hf.keep c4 this⟩
theorem FtRow.new {w w' : World} {v : Value} {fs : List Ft} (h : FtRow w v fs) (hf : Fr [] w w') : FtRow w' v fs := h.keep hf (fun _ _ _ _ _ => by simp)
theorem FtRow.val {w : World} {v : Value} {fs : List Ft} (h : FtRow w v fs) : ∃ a c, v = .slice a fs.length c := by
  rcases h with ⟨rfl, a, c, rfl⟩ | ⟨g, off, cap, rfl, h1, h2⟩
  · exact ⟨a, c, rfl⟩
  · exact ⟨_, _, rfl⟩

def allOk (fs : List Ft) : Bool := fs.all Ft.ok
theorem indexBad_any (v : Value) (fs : List Ft) (hl : fs.length ≤ 100000) (w : World) (h : FtRow w v fs) :
    Calls Tryd.prog 61 #[v, .func (.func 45) #[] #[]] w fun e w' => (∃ i : Int, e = .returned (.int .i64 i) ∧ decide (0 ≤ i) = !allOk fs) ∧ Fr [] w w' := by
  rcases h with ⟨rfl, a, c, rfl⟩ | ⟨g, off, cap, rfl, h1, h2⟩
  · go_enter Tryd.func61, Tryd.ntmps61
    go_wp2
    refine wp_loop_rounds 1 ?_
    rw [rounds_succ]
    go_wp2
    go_ret
    exact ⟨⟨-1, rfl, rfl⟩, Fr.refl _ _⟩
  · obtain ⟨n, hn⟩ : ∃ n, fs.length = n := ⟨_, rfl⟩
    rw [hn] at hl ⊢
    have HN := Lib.hid hn
    have H2 := Lib.hid h2
    clear h2 hn
    go_enter Tryd.func61, Tryd.ntmps61
    go_wp2
    go_loopw [8] (fun j wr => ∃ q : Nat, j = .int .i64 q ∧ q ≤ n ∧ allOk (fs.take q) = true ∧ Fr [] w wr) (fun j _ => n - (intOf j).toNat)
    case atStart => exact ⟨0, rfl, by omega, rfl, Fr.refl _ _⟩
    case round =>
      rename_i wr
      obtain ⟨q, rfl, hq, hno, fr⟩ := hrel
      have HNO := Lib.hid hno
      have FR := Lib.hid fr
      clear hno fr
      by_cases hlt : q < n
      · have hx := List.getElem?_eq_getElem (l := fs) (i := q) (by rw [HN.out]; exact hlt)
        obtain ⟨c0, c1, c2, c3, c4⟩ := H2.out q _ hx
        generalize fs[q]'(by rw [HN.out]; exact hlt) = y at hx c0 c1 c2 c3 c4
        have k0 := FR.out.keep c0 (by simp)
        have k1 := FR.out.keep c1 (by simp)
        have k2 := FR.out.keep c2 (by simp)
        have k3 := FR.out.keep c3 (by simp)
        have k4 := FR.out.keep c4 (by simp)
        have HX := Lib.hid hx
        have HP := Lib.hid (planBad_any y)
        unfold ftV at HP
        clear hx c0 c1 c2 c3 c4
        have hstep : allOk (fs.take (q + 1)) = y.ok := by
          have ht : fs.take (q + 1) = fs.take q ++ [y] := by rw [List.take_add_one, HX.out]; rfl
          have h0 := HNO.out
          unfold allOk at h0 ⊢
          rw [ht, List.all_append, h0]
          simp
        have HST := Lib.hid hstep
        clear hstep
        cases hy : y.ok
        · have HY := Lib.hid hy
          rw [hy] at HP
          clear hy
          go_wp2_with (go_at_call 45; refine (HP.out _).mono ?_; rintro e w1 ⟨rfl, f1⟩)
          go_ret
          refine ⟨⟨q, rfl, ?_⟩, FR.out.step f1⟩
          have hb : allOk fs = false := by
            unfold allOk
            rw [List.all_eq_false]
            exact ⟨y, List.mem_of_getElem? HX.out, by rw [HY.out]; simp⟩
          rw [hb]
          simp
        · have HY := Lib.hid hy
          rw [hy] at HP
          clear hy
          go_wp2_with (go_at_call 45; refine (HP.out _).mono ?_; rintro e w1 ⟨rfl, f1⟩)
          go_roundw
          case rel => exact ⟨q + 1, by go_num, by omega, HST.out.trans HY.out, FR.out.step f1⟩
          case measure => simp [intOf]; omega
      · go_wp2
        go_ret
        refine ⟨⟨-1, rfl, ?_⟩, FR.out⟩
        have : allOk fs = true := by
          have := HNO.out
          rwa [List.take_of_length_le (by rw [HN.out]; omega)] at this
        rw [this]
        rfl
theorem plan_any (v : Value) (fs : List Ft) (hl : fs.length ≤ 100000) (w : World) (h : FtRow w v fs) :
    Calls Tryd.prog 25 #[v] w fun e w' => e = .returned (.bool (decide (fs.length ≤ 64) && allOk fs)) ∧ Fr [] w w' := by
  obtain ⟨a, c, hv⟩ := h.val
  have HI := Lib.hid (indexBad_any v fs hl w h)
  clear h
  subst hv
  by_cases h64 : fs.length ≤ 64
  · have hb : decide (fs.length ≤ 64) = true := decide_eq_true h64
    rw [hb]
    cases hk : allOk fs
    all_goals
      rw [hk] at HI
      have h64' : ((fs.length : Nat) : Int) ≤ 64 := by omega
      go_enter Tryd.func25, Tryd.ntmps25
      go_wp2_with (first
        | (go_at_call 61; refine HI.out.mono ?_; rintro e w1 ⟨⟨i, rfl, hi⟩, f1⟩)
        | go_in)
      go_ret
      exact ⟨rfl, f1⟩
  · have hb : decide (fs.length ≤ 64) = false := decide_eq_false h64
    rw [hb]
    have h64' : ¬ ((fs.length : Nat) : Int) ≤ 64 := by omega
    go_enter Tryd.func25, Tryd.ntmps25
    go_wp2_with fail
    go_ret
    exact ⟨rfl, Fr.refl _ _⟩
end Go.Proofs.YtededfkenlhokaaDoor
