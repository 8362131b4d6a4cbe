/- Contracts of the iterator over the faults of a kind of a lane. -/
import Derived.RangeFuncNested
import Derived.RangeFuncBound
import Derived.RangeFuncCalls
import Derived.RangeFuncLeaves
import Derived.Shelf.Abstract
import Derived.Shelf.RegionOpen
import Derived.OwnWalkIn
import Derived.TacticsInMore
import Derived.LoopNIn
import Derived.LoopIn
import Derived.Test.YtededfkenlhokaaDoorC4
namespace Go.Proofs.YtededfkenlhokaaDoor
open Go.RowKit Go.Shelf
open Go.Maps (Keyed)
set_option linter.unusedVariables false
set_option maxRecDepth 100000
set_option maxHeartbeats 4000000

theorem Fr.of_belowN {B : Nat} {w w' : World} (h : Below B w w') : ∃ S, Fr S w w' ∧ ∀ x ∈ S, B ≤ x :=
  ⟨(List.range w.heap.size).filter (fun x => decide (B ≤ x)), ⟨h.os, h.tape, h.output, h.size, fun k hk hn => by
    rcases Nat.lt_or_ge k B with h1 | h1
    · exact h.block k h1
    · exact absurd (List.mem_filter.2 ⟨List.mem_range.2 hk, by simpa using h1⟩) hn⟩, fun x hx => by
    have := (List.mem_filter.1 hx).2
    simpa using this⟩
/-- Of what was there below N, only block X may have turned. -/
def Kx (X N : Nat) (w w' : World) : Prop := ∃ S, Fr S w w' ∧ ∀ x ∈ S, x = X ∨ N ≤ x
theorem Kx.trans {X N : Nat} {a b c : World} (h : Kx X N a b) (k : Kx X N b c) : Kx X N a c := by
  obtain ⟨S, h1, h2⟩ := h
  obtain ⟨T, k1, k2⟩ := k
  exact ⟨S ++ T, (h1.mono (fun x hx _ => List.mem_append_left _ hx)).trans k1 (fun x hx _ => List.mem_append_right _ hx), fun x hx => (List.mem_append.1 hx).elim (h2 x) (k2 x)⟩
theorem Kx.new {X N : Nat} {a b : World} (h : Fr [] a b) : Kx X N a b := ⟨[], h, fun x hx => by cases hx⟩
theorem grownFr {w w' : World} {row : Option Nat} {S : List Nat} (h : w.grownBy w' row) (hs : ∀ k, row = some k → k ∈ S) : Fr S w w' :=
  ⟨h.os, h.tape, h.output, h.size, fun k hk hn => h.block k hk (fun he => hn (hs k he.symm))⟩
theorem Kx.put {X N : Nat} {w : World} (hn : N ≤ w.heap.size) (W : World) (l : Nat) (o o' : Obj) (hl : w.heap.size ≤ l) (h : W.heap[l]? = some o) (_ : o.isCells = false) (_ : o.isWalk = false) : Kx X N W (W.putObj l o') :=
  ⟨[l], grownFr (grownBy_putObj' W l o') (fun k e => by cases e; simp), fun x hx => by simp at hx; omega⟩

/-- The faults of a kind of a lane. -/
def mt (k c d : Int) (f : Ft) : Bool := f.k == k && (f.c == c && f.d == d)
theorem of_any (p : Nat) (k c d : Int) (w : World) :
    Calls Tryd.prog 59 #[.pointer (some ⟨p, 0, none⟩), .int .i64 k, .agg #[.int .i64 c, .int .i64 d]] w fun e w' => e = .returned (.func (.func 70) #[] #[.pointer (some ⟨w.heap.size, 0, none⟩), .pointer (some ⟨w.heap.size + 1, 0, none⟩), .pointer (some ⟨w.heap.size + 1 + 1, 0, none⟩)]) ∧
      (w'.cell? ⟨w.heap.size, 0, none⟩ = some (.pointer (some ⟨p, 0, none⟩)) ∧ w'.cell? ⟨w.heap.size + 1, 0, none⟩ = some (.int .i64 k) ∧ w'.cell? ⟨w.heap.size + 1 + 1, 0, none⟩ = some (.int .i64 c) ∧ w'.cell? ⟨w.heap.size + 1 + 1, 1, none⟩ = some (.int .i64 d)) ∧ Fr [] w w' ∧ w'.heap.size = w.heap.size + 3 := by
  have hmf : ∀ (fn : Fn) (first cap : Array Value) (w : World), (Instr.makeFunc fn first cap).run Tryd.prog w = .ok (.func fn first cap) w := fun _ _ _ _ => rfl
  go_enter Tryd.func59, Tryd.ntmps59
  go_wp2
  go_ret
  have f3 : Fr [] (w.alloc (.cells #[.pointer (some ⟨p, 0, none⟩)] 40)) (((w.alloc (.cells #[.pointer (some ⟨p, 0, none⟩)] 40)).alloc (.cells #[.int .i64 k] 29)).alloc (.cells #[.int .i64 c, .int .i64 d] 93)) := ((Fr.refl [] _).alloc _).alloc _
  have f2 : Fr [] ((w.alloc (.cells #[.pointer (some ⟨p, 0, none⟩)] 40)).alloc (.cells #[.int .i64 k] 29)) (((w.alloc (.cells #[.pointer (some ⟨p, 0, none⟩)] 40)).alloc (.cells #[.int .i64 k] 29)).alloc (.cells #[.int .i64 c, .int .i64 d] 93)) := (Fr.refl [] _).alloc _
  exact ⟨rfl, ⟨f3.keep (newCell _ _ _ 0 rfl rfl rfl) (by simp), f2.keep (newCell _ _ _ 0 rfl (by simp) rfl) (by simp), newCell _ _ _ 0 rfl (by simp) rfl, newCell _ _ _ 1 rfl (by simp) rfl⟩, (((Fr.refl [] w).alloc _).alloc _).alloc _, by simp⟩

attribute [local go_sem] Oper.semAt_some

/-- What the iterator reads. -/
structure OfIs (W : World) (B1 B2 B3 p : Nat) (v : Value) (fs : List Ft) (k c d : Int) : Prop where
  b1 : W.cell? ⟨B1, 0, none⟩ = some (.pointer (some ⟨p, 0, none⟩))
  b2 : W.cell? ⟨B2, 0, none⟩ = some (.int .i64 k)
  c : W.cell? ⟨B3, 0, none⟩ = some (.int .i64 c)
  d : W.cell? ⟨B3, 1, none⟩ = some (.int .i64 d)
  p0 : W.cell? ⟨p, 0, none⟩ = some v
  row : FtRow W v fs
/-- .. lies apart from X and below N. -/
def Apart (X N B1 B2 B3 p : Nat) (v : Value) : Prop := (B1 < N ∧ B1 ≠ X) ∧ (B2 < N ∧ B2 ≠ X) ∧ (B3 < N ∧ B3 ≠ X) ∧ (p < N ∧ p ≠ X) ∧ ∀ g off n c, v = .slice (some ⟨g, off, none⟩) n c → g < N ∧ g ≠ X
theorem OfIs.keep {X N : Nat} {W W' : World} {B1 B2 B3 p : Nat} {v : Value} {fs : List Ft} {k c d : Int} (h : OfIs W B1 B2 B3 p v fs k c d) (hk : Kx X N W W') (ha : Apart X N B1 B2 B3 p v) : OfIs W' B1 B2 B3 p v fs k c d := by
  obtain ⟨S, f, hS⟩ := hk
  obtain ⟨a1, a2, a3, a4, a5⟩ := ha
  have nS : ∀ x, x < N ∧ x ≠ X → x ∉ S := fun x hx hm => by have := hS x hm; omega
  exact ⟨f.keep h.b1 (nS _ a1), f.keep h.b2 (nS _ a2), f.keep h.c (nS _ a3), f.keep h.d (nS _ a3), f.keep h.p0 (nS _ a4), h.row.keep f (fun g off n c he => nS _ (a5 g off n c he))⟩

theorem of1_in (F : Fence) (n : Nat) (h6 : F.fn 70) (hro : F.round = none) (hn : 1 ≤ n) (lp B1 B2 B3 X N p : Nat) (v : Value) (fs : List Ft) (k c d : Int) (hl : fs.length ≤ 64) (J Jx : List Ft → World → Prop)
    (hY : ∀ pre x W, J pre W → pre.length < fs.length → YieldAt F (n - 1) Tryd.prog lp #[ftV x] W fun e W' =>
      (e = .returned (.bool true) ∧ J (pre ++ [x]) W' ∧ Kx X N W W') ∨ (e = .returned (.bool false) ∧ Jx (pre ++ [x]) W'))
    (W : World) (hJ : AbidesFrom W.heap.size J) (hO : OfIs W B1 B2 B3 p v fs k c d) (hA : Apart X N B1 B2 B3 p v) (h0 : J [] W) :
    CallsIn F n Tryd.prog 70 #[.func (.yield lp) #[] #[], .pointer (some ⟨B1, 0, none⟩), .pointer (some ⟨B2, 0, none⟩), .pointer (some ⟨B3, 0, none⟩)] W fun e W' => (∃ v, e = .returned v) ∧
      ((∃ ys, ys = fs.filter (mt k c d) ∧ J ys W') ∨ (∃ pre, pre <+: fs.filter (mt k c d) ∧ Jx pre W')) := by
  obtain ⟨a, cap, rfl⟩ := hO.row.val
  have b1 := hO.b1
  have p0 := hO.p0
  have HO := Lib.hid hO
  obtain ⟨m, hm⟩ : ∃ m, fs.length = m := ⟨_, rfl⟩
  rw [hm] at hl p0 hY hA
  have HM := Lib.hid hm
  clear hm hO
  refine callsIn_of_wp Tryd.func70 rfl h6 ?_ hro
  simp only [Tryd.ntmps70, List.size_toArray, List.length_cons, List.length_nil, Nat.reduceAdd, Nat.reduceSub, Array.replicate_succ, Array.replicate_zero, List.push_toArray, List.append_toArray, List.nil_append, List.cons_append]
  gi_wp2
  gi_loopw [12] (fun t wr => ∃ q : Nat, t = .int .i64 q ∧ q ≤ m ∧ OfIs wr B1 B2 B3 p (.slice a m cap) fs k c d ∧ J ((fs.take q).filter (mt k c d)) wr)
    (fun t _ => m - (intOf t).toNat)
  case atStart =>
    exact ⟨0, rfl, by omega, by rw [← HM.out]; exact HO.out, h0⟩
  case round =>
    rename_i wr
    obtain ⟨q, rfl, hq, ho, hJs⟩ := hrel
    by_cases hlt : q < m
    · have hx := List.getElem?_eq_getElem (l := fs) (i := q) (by rw [HM.out]; exact hlt)
      obtain ⟨x, hxe⟩ : ∃ x, fs[q]'(by rw [HM.out]; exact hlt) = x := ⟨_, rfl⟩
      rw [hxe] at hx
      rcases ho.row with ⟨h1, _⟩ | ⟨g, off, cap', hv, hg, hcells⟩
      · rw [h1] at hx
        simp at hx
      rw [HM.out] at hv
      simp only [Value.slice.injEq] at hv
      obtain ⟨rfl, _, rfl⟩ := hv
      obtain ⟨c0, c1, c2, c3, c4⟩ := hcells q x hx
      have hstep : (fs.take (q + 1)).filter (mt k c d) = (fs.take q).filter (mt k c d) ++ if mt k c d x = true then [x] else [] := by
        rw [List.take_add_one, hx, List.filter_append]
        simp [List.filter_cons]
      have hJl : ((fs.take q).filter (mt k c d)).length < m := by
        have h1 := List.length_filter_le (mt k c d) (fs.take q)
        rw [List.length_take, HM.out] at h1
        omega
      have hJ1 : J ((fs.take q).filter (mt k c d)) (wr.alloc (.cells #[.int .i64 x.k, .int .i64 x.c, .int .i64 x.d, .int .i64 x.a, .int .i64 x.g] 32)) := hJ _ _ _ _ hJs (World.grownBy_alloc wr _ none) (by simp)
      have f1 : Fr [] wr (wr.alloc (.cells #[.int .i64 x.k, .int .i64 x.c, .int .i64 x.d, .int .i64 x.a, .int .i64 x.g] 32)) := (Fr.refl [] _).alloc _
      have ho1 := ho.keep (Kx.new f1) hA
      have HS := Lib.hid hstep
      have HX := Lib.hid hx
      have HO1 := Lib.hid ho1
      have HJ1 := Lib.hid hJ1
      have HY := Lib.hid hY
      have b2 := ho1.b2
      have kc := ho1.c
      have kd := ho1.d
      clear hstep hx ho ho1 hcells hJ1 hY hxe
      obtain ⟨xk, xc, xd, xa, xg⟩ := x
      simp only at c0 c1 c2 c3 c4 b2 kc kd
      by_cases h1 : xk = k
      · subst h1
        by_cases h2 : xc = c
        · subst h2
          by_cases h3 : xd = d
          · subst h3
            have hmt : mt xk xc xd ⟨xk, xc, xd, xa, xg⟩ = true := by simp [mt]
            have HMT := Lib.hid hmt
            clear hmt
            obtain ⟨fn, tmps, assign, body, hy, hR⟩ := HY.out _ ⟨xk, xc, xd, xa, xg⟩ _ HJ1.out hJl
            unfold ftV at hy
            have e1 : (xk == xk) = true := by simp
            have e2 : (xc == xc) = true := by simp
            have e3 : (xd == xd) = true := by simp
            gi_wp2
            refine hR.mono ?_
            rintro e W3 (⟨rfl, hJ3, hk3⟩ | ⟨rfl, hJx3⟩)
            · have HO3 := Lib.hid (HO1.out.keep hk3 hA)
              gi_wp2
              go_roundw
              case rel => exact ⟨q + 1, by go_num, by omega, HO3.out, by rw [HS.out, if_pos HMT.out]; exact hJ3⟩
              case measure => simp [intOf]; omega
            · gi_wp2
              refine bodyPost_ret (results_none rfl _ _ _) rfl ?_
              refine ⟨⟨_, rfl⟩, .inr ⟨_, ?_, hJx3⟩⟩
              have h1 := HS.out
              rw [if_pos HMT.out] at h1
              rw [← h1]
              exact (List.take_prefix _ _).filter _
          · have e1 : (xk == xk) = true := by simp
            have e2 : (xc == xc) = true := by simp
            have e3 : (xd == d) = false := by rw [beq_eq_false_iff_ne]; exact h3
            gi_wp2
            refine ⟨fun _ h => (by cases h), ?_⟩
            gi_wp2
            go_roundw
            case rel => exact ⟨q + 1, by go_num, by omega, HO1.out, by rw [HS.out]; simpa [mt, h3] using HJ1.out⟩
            case measure => simp [intOf]; omega
        · have e1 : (xk == xk) = true := by simp
          have e2 : (xc == c) = false := by rw [beq_eq_false_iff_ne]; exact h2
          gi_wp2
          refine ⟨fun _ h => (by cases h), ?_⟩
          gi_wp2
          go_roundw
          case rel => exact ⟨q + 1, by go_num, by omega, HO1.out, by rw [HS.out]; simpa [mt, h2] using HJ1.out⟩
          case measure => simp [intOf]; omega
      · have e1 : (xk == k) = false := by rw [beq_eq_false_iff_ne]; exact h1
        gi_wp2
        refine ⟨fun _ h => (by cases h), ?_⟩
        gi_wp2
        go_roundw
        case rel => exact ⟨q + 1, by go_num, by omega, HO1.out, by rw [HS.out]; simpa [mt, h1] using HJ1.out⟩
        case measure => simp [intOf]; omega
    · gi_wp2
      go_end0
      refine ⟨⟨_, rfl⟩, .inl ⟨_, rfl, ?_⟩⟩
      have : fs.take q = fs := List.take_of_length_le (by rw [HM.out]; omega)
      rw [this] at hJs
      exact hJs
theorem of_stops (F : Fence) (n : Nat) (h6 : F.fn 70) (hro : F.round = none) (hn : 1 ≤ n) (B1 B2 B3 X N p : Nat) (v : Value) (fs : List Ft) (k c d : Int) (hl : fs.length ≤ 64) (w : World)
    (hO : OfIs w B1 B2 B3 p v fs k c d) (hA : Apart X N B1 B2 B3 p v) (hN : N ≤ w.heap.size) :
    SeqStopsK F n Tryd.prog 70 #[.pointer (some ⟨B1, 0, none⟩), .pointer (some ⟨B2, 0, none⟩), .pointer (some ⟨B3, 0, none⟩)] (fun x : Ft => #[ftV x]) (Kx X N) (fun ys => ys = fs.filter (mt k c d)) (fun pre => pre <+: fs.filter (mt k c d)) fs.length w := fun lp J Jx W hW hJ _ hY h0 => by
  obtain ⟨S, f3, s3⟩ := Fr.of_belowN hW
  exact of1_in F n h6 hro hn lp B1 B2 B3 X N p v fs k c d hl J Jx hY W hJ (hO.keep ⟨S, f3, fun x hx => .inr (Nat.le_trans hN (s3 x hx))⟩ hA) hA h0
end Go.Proofs.YtededfkenlhokaaDoor
