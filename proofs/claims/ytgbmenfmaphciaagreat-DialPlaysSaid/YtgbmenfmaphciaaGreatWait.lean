/- Contracts of fifo's Copy and All, and of the function that All hands back, for every queue. -/
/- Contracts of backlog's Waiting and Close. -/
import Derived.RangeFuncNested
import Derived.RangeFuncBound
import Derived.RangeFuncCalls
import Derived.RangeFuncLeaves
import Derived.Shelf.Abstract
import Derived.Shelf.RegionOpen
import Derived.OwnWalkIn
import Derived.TacticsInMore
import Derived.LoopNIn
import Derived.LoopIn
import Derived.Laws.Externs
import Derived.Deep.RegionWith
import Derived.Test.YtgbmenfmaphciaaGreatBacklog2
import Derived.Maps.AppendAt
namespace Go.Proofs.YtgbmenfmaphciaaGreat
set_option linter.unusedVariables false
set_option linter.unusedSimpArgs false
set_option linter.unusedSectionVars false
open Go.RowKit Go.Shelf
open Go.Maps (Keyed)
set_option linter.unusedVariables false
set_option maxRecDepth 100000
set_option maxHeartbeats 4000000
theorem Fr.of_belowN {B : Nat} {w w' : World} (h : Below B w w') : ∃ S, Fr S w w' ∧ ∀ x ∈ S, B ≤ x :=
 ⟨(List.range w.heap.size).filter (fun x => decide (B ≤ x)), ⟨h.os, h.tape, h.output, h.size, fun k hk hn => by
  rcases Nat.lt_or_ge k B with h1 | h1
  ·exact h.block k h1
  ·exact absurd (List.mem_filter.2 ⟨List.mem_range.2 hk, by simpa using h1⟩) hn⟩, fun x hx => by
  have := (List.mem_filter.1 hx).2
  simpa using this⟩
def Kx (X N : Nat) (w w' : World) : Prop := ∃ S, Fr S w w' ∧ ∀ x ∈ S, x = X ∨ N ≤ x
theorem Kx.trans {X N : Nat} {a b c : World} (h : Kx X N a b) (k : Kx X N b c) : Kx X N a c := by
 obtain ⟨S, h1, h2⟩ := h
 obtain ⟨T, k1, k2⟩ := k
 exact ⟨S ++ T, (h1.mono (fun x hx _ => List.mem_append_left _ hx)).trans k1 (fun x hx _ => List.mem_append_right _ hx), fun x hx => (List.mem_append.1 hx).elim (h2 x) (k2 x)⟩
theorem grownFr {w w' : World} {row : Option Nat} {S : List Nat} (h : w.grownBy w' row) (hs : ∀ k, row = some k → k ∈ S) : Fr S w w' :=
 ⟨h.os, h.tape, h.output, h.size, fun k hk hn => h.block k hk (fun he => hn (hs k he.symm))⟩
theorem Kx.put {X N : Nat} {w : World} (hn : N ≤ w.heap.size) (W : World) (l : Nat) (o o' : Obj) (hl : w.heap.size ≤ l) (h : W.heap[l]? = some o) (_ : o.isCells = false) (_ : o.isWalk = false) : Kx X N W (W.putObj l o') :=
 ⟨[l], grownFr (grownBy_putObj' W l o') (fun k e => by cases e; simp), fun x hx => by simp at hx; omega⟩
theorem clone_run {r : Nat} {es : Array MapEntry} {clock : Nat} (t : TypeId) (w : World) (hb : w.heap[r]? = some (.map es clock)) :
  (Extern.MapsClone.clone #[.iface t (.map (some r))]).run Tryz.prog w = .ok (.iface t (.map (some w.heap.size))) (w.alloc (.map es clock)) := by
 have e : Extern.MapsClone.clone #[.iface t (.map (some r))] = (getObj r >>= fun o => match o with
   | .map entries clock => (newObj (.map entries clock) >>= fun n => pure (.iface t (.map (some n))))
   | _ => stuck "maps.clone: a map expected") := rfl
 rw [e]
 simp [MapKept.run_getObj_map hb, Result.andThen, go_sem]
theorem mapsClone_any (m : Nat) (f : List (Value × Value)) (w : World) (h : MapIs Tryz.prog 37 w m f) :
  Calls Tryz.prog 144 #[.map (some m)] w fun e w' => e = .returned (.map (some w.heap.size)) ∧ MapIs Tryz.prog 37 w' w.heap.size f ∧ Fr [] w w' := by
 obtain ⟨es, clock, hb, hs, hk, hf⟩ := h
 have hq : ∀ W : World, (binOp .eql 210 (.map (some m)) (.map none)).run Tryz.prog W = .ok (.bool false) W := fun W => by kernel_rfl
 have hta : ∀ (W : World) (r : Nat), (Instr.typeAssert (.iface 210 (.map (some r))) 20 210 false).run Tryz.prog W = .ok (.map (some r)) W := fun W r => by kernel_rfl
 have HC := Lib.hid (clone_run 210 w hb)
 go_enter Tryz.func144, Tryz.ntmps144
 go_wp2
 rw [run_callFunc_extern Tryz.func158 (by kernel_rfl) (by kernel_rfl) (by kernel_rfl) (e := Extern.MapsClone.clone) (by kernel_rfl), HC.out]
 simp only [Result.andThen]
 rw [Oper.upon_value]
 go_wp2
 go_ret
 exact ⟨rfl, ⟨es, clock, (MapKept.heap_alloc w _).1, hs, hk, hf⟩, (Fr.refl [] w).alloc _⟩
theorem fifoCopy_any (b m : Nat) (l : List (Nat × Int)) (g : Nat) (w : World) (h : FifoIs w b m l g) :
  Calls Tryz.prog 125 #[.pointer (some ⟨b, 0, none⟩)] w fun e w' => ∃ b' m', e = .returned (.pointer (some ⟨b', 0, none⟩)) ∧ FifoIs w' b' m' l g ∧ Fr [] w w' ∧ w.heap.size ≤ b' ∧ w.heap.size ≤ m' := by
 have c0 := h.c0
 have c1 := h.c1
 have c2 := h.c2
 have c3 := h.c3
 have HB := Lib.hid h
 obtain ⟨f, hm, hp⟩ := h.nodes
 have HM := Lib.hid hm
 have HP := Lib.hid hp
 have ht := Lib.hid h.tickets
 have hso := Lib.hid h.sorted
 clear h hp hm
 go_enter Tryz.func125, Tryz.ntmps125
 go_wp2_with (go_at_call 135; refine (fifoZero_any b m l g _ HB.out).mono ?_; rintro e w' ⟨rfl, rfl⟩)
 go_region_with (go_at_call 144; refine (mapsClone_any m f _ (HM.out.drewN 1)).mono ?_; rintro e w1 ⟨rfl, m1, f1⟩; have d0 := f1.keep (w := w.drewN 1) c0 (by simp); have d1 := f1.keep (w := w.drewN 1) c1 (by simp); have d2 := f1.keep (w := w.drewN 1) c2 (by simp); have d3 := f1.keep (w := w.drewN 1) c3 (by simp))
 all_goals go_wp2
 all_goals go_ret
 all_goals (
  have g1 : Fr [] w w1 := ⟨f1.os, f1.tape, f1.output, f1.size, f1.block⟩
  have z1 := g1.size
  have z2 := m1.lt
  have z3 : (w.drewN 1).heap.size = w.heap.size := rfl
  refine ⟨w1.heap.size, w.heap.size, rfl, ⟨by simp, by simp, by simp, by simp, by simp, by simp, by simp, by omega, ⟨f, m1.keep ((Fr.refl [] _).alloc _) (by simp), HP.out⟩, ht.out, hso.out⟩, g1.alloc _, z1, Nat.le_refl _⟩)
theorem fifoAll_any (b m : Nat) (l : List (Nat × Int)) (g : Nat) (w : World) (h : FifoIs w b m l g) :
  Calls Tryz.prog 103 #[.pointer (some ⟨b, 0, none⟩)] w fun e w' => ∃ B b' m', e = .returned (.func (.func 126) #[] #[.pointer (some ⟨B, 0, none⟩)]) ∧ w'.cell? ⟨B, 0, none⟩ = some (.pointer (some ⟨b', 0, none⟩)) ∧ FifoIs w' b' m' l g ∧ Fr [] w w' ∧ w.heap.size ≤ B ∧ w.heap.size ≤ b' ∧ w.heap.size ≤ m' := by
 have hmf : ∀ (fn : Fn) (first cap : Array Value) (w : World), (Instr.makeFunc fn first cap).run Tryz.prog w = .ok (.func fn first cap) w := fun _ _ _ _ => rfl
 have H := Lib.hid (fifoCopy_any b m l g w h)
 clear h
 go_enter Tryz.func103, Tryz.ntmps103
 go_wp2_with (go_at_call 125; refine H.out.mono ?_; rintro e w1 ⟨b', m', rfl, q1, f1, l1, l2⟩)
 go_ret
 exact ⟨w1.heap.size, b', m', rfl, by simp, q1.keep ((Fr.refl [] _).alloc _) (by simp) (by simp), f1.alloc _, f1.size, l1, l2⟩
theorem nodes_mid : ∀ (pre rest : List (Nat × Int)) (p t : Nat) (v : Int), (.int .u64 (t : Int), nodeV v (lastT p pre) (headT rest)) ∈ nodesOf p (pre ++ (t, v) :: rest)
 | [], rest, p, t, v => by simp [nodesOf, lastT]
 | (t0, v0) :: pre, rest, p, t, v => by
  simp only [List.cons_append, nodesOf, lastT, List.mem_cons]
  exact .inr (nodes_mid pre rest t0 t v)
def tMeas (g : Nat) (z : Int) : Nat := if z = 0 then 0 else ((g : Int) + 1 - z).toNat
theorem tMeas_lt {a t g : Nat} (h : a = 0 ∨ t < a ∧ a ≤ g) (ht : 1 ≤ t ∧ t ≤ g) : tMeas g a < tMeas g t := by
 unfold tMeas
 split <;> split <;> omega
attribute [local go_sem] Oper.semAt_some
theorem all1_in (F : Fence) (n : Nat) (h6 : F.fn 126) (hro : F.round = none) (hn : 1 ≤ n) (lp Bn X n₀ b m g : Nat) (l : List (Nat × Int)) (hg : g < 4611686018427387904) (J Jx : List (Nat × Int) → World → Prop)
  (hY : ∀ pre x W, J pre W → pre.length < l.length → YieldAt F (n - 1) Tryz.prog lp #[.int .u64 (x : Nat × Int).1, .int .i64 x.2] W fun e W' =>
   (e = .returned (.bool true) ∧ J (pre ++ [x]) W' ∧ Kx X n₀ W W') ∨ (e = .returned (.bool false) ∧ Jx (pre ++ [x]) W'))
  (W : World) (hB : W.cell? ⟨Bn, 0, none⟩ = some (.pointer (some ⟨b, 0, none⟩))) (hBl : Bn < n₀ ∧ Bn ≠ X) (hbl : b < n₀ ∧ b ≠ X) (hml : m < n₀ ∧ m ≠ X) (hQ : FifoIs W b m l g) (h0 : J [] W) :
  CallsIn F n Tryz.prog 126 #[.func (.yield lp) #[] #[], .pointer (some ⟨Bn, 0, none⟩)] W fun e W' => (∃ v, e = .returned v) ∧
   ((∃ ys, ys = l ∧ J ys W') ∨ (∃ pre, pre <+: l ∧ Jx pre W')) := by
 have c0 := hQ.c0
 obtain ⟨hd, hhd⟩ : ∃ hd, headT l = hd := ⟨_, rfl⟩
 rw [hhd] at c0
 have HH := Lib.hid hhd
 clear hhd
 have hf0 : ∀ (W : World) (x y z : Int), (Instr.field 222 (.agg #[.int .i64 x, .int .u64 y, .int .u64 z]) 0).run Tryz.prog W = .ok (.int .i64 x) W := fun W x y z => by kernel_rfl
 have hf2 : ∀ (W : World) (x y z : Int), (Instr.field 222 (.agg #[.int .i64 x, .int .u64 y, .int .u64 z]) 2).run Tryz.prog W = .ok (.int .u64 z) W := fun W x y z => by kernel_rfl
 refine callsIn_of_wp Tryz.func126 rfl h6 ?_ hro
 simp only [Tryz.ntmps126, List.size_toArray, List.length_cons, List.length_nil, Nat.reduceAdd, Nat.reduceSub, Array.replicate_succ, Array.replicate_zero, List.push_toArray, List.append_toArray, List.nil_append, List.cons_append]
 gi_wp2
 gi_loopw [3] (fun t wr => ∃ (pre rest : List (Nat × Int)), t = .int .u64 (headT rest) ∧ l = pre ++ rest ∧ wr.cell? ⟨Bn, 0, none⟩ = some (.pointer (some ⟨b, 0, none⟩)) ∧ FifoIs wr b m l g ∧ J pre wr)
  (fun t _ => tMeas g (intOf t))
 case atStart =>
  exact ⟨[], l, by rw [HH.out], rfl, hB, hQ, h0⟩
 case round =>
  obtain ⟨pre, rest, rfl, hx, hc, hq, hJs⟩ := hrel
  cases rest with
  | nil =>
   simp only [headT, show ((0 : Nat) : Int) = 0 from rfl]
   gi_wp2
   go_end0
   exact ⟨⟨_, rfl⟩, .inl ⟨pre, by simp [hx], hJs⟩⟩
  | cons x rest =>
   obtain ⟨t, v⟩ := x
   have ht := hq.tickets (t, v) (by rw [hx]; simp)
   have hs := hq.sorted
   have hnx : headT rest = 0 ∨ (t < headT rest ∧ headT rest ≤ g) := by
    cases rest with
    | nil => exact .inl rfl
    | cons y r =>
     obtain ⟨t', v'⟩ := y
     refine .inr ⟨?_, (hq.tickets (t', v') (by rw [hx]; simp)).2⟩
     rw [hx, List.map_append, List.pairwise_append] at hs
     have := hs.2.1
     simp only [List.map_cons, List.pairwise_cons] at this
     exact this.1 t' (by simp)
   obtain ⟨f, hm, hp⟩ := hq.nodes
   have hmem : (.int .u64 (t : Int), nodeV v (lastT 0 pre) (headT rest)) ∈ f := hp.mem_iff.2 (by rw [hx]; exact nodes_mid pre rest 0 t v)
   have hl0 := hm.hit key64 (t := 210) (e := 222) Tryz.underlying210 hmem false
   simp only [Bool.false_eq_true, if_false, nodeV] at hl0
   have c3 := hq.c3
   obtain ⟨fn, tmps, assign, body, hy, hR⟩ := hY pre (t, v) wr hJs (by rw [hx]; simp)
   have HX := Lib.hid hx
   have HQ := Lib.hid hq
   have ht0 : ((t : Int) == 0) = false := by rw [beq_eq_false_iff_ne]; omega
   have ht1 : ((t : Int) != 0) = true := by rw [bne, ht0]; rfl
   simp only [headT]
   clear hx hq hs hmem hp hm
   gi_wp2
   refine hR.mono ?_
   rintro e W3 (⟨rfl, hJ3, hk3⟩ | ⟨rfl, hJx3⟩)
   ·obtain ⟨S, f3, s3⟩ := hk3
    have nS : ∀ x, x < n₀ ∧ x ≠ X → x ∉ S := fun x hx hm => by have := s3 x hm; omega
    have hc3 := f3.keep hc (nS _ hBl)
    have hq3 := HQ.out.keep f3 (nS _ hbl) (nS _ hml)
    obtain ⟨f', hm', hp'⟩ := hq3.nodes
    have hmem' : (.int .u64 (t : Int), nodeV v (lastT 0 pre) (headT rest)) ∈ f' := hp'.mem_iff.2 (by rw [HX.out]; exact nodes_mid pre rest 0 t v)
    have hl3 := hm'.hit key64 (t := 210) (e := 222) Tryz.underlying210 hmem' false
    simp only [Bool.false_eq_true, if_false, nodeV] at hl3
    have c33 := hq3.c3
    have HQ3 := Lib.hid hq3
    clear hq3 hmem' hp' hm'
    gi_wp2
    go_roundw
    case rel => exact ⟨pre ++ [(t, v)], rest, rfl, by simp [HX.out], hc3, HQ3.out, hJ3⟩
    case measure => exact tMeas_lt hnx ht
   ·gi_wp2
    refine bodyPost_ret (results_none rfl _ _ _) rfl ?_
    exact ⟨⟨_, rfl⟩, .inr ⟨pre ++ [(t, v)], ⟨rest, by simp [HX.out]⟩, hJx3⟩⟩
theorem all_stops (F : Fence) (n : Nat) (h6 : F.fn 126) (hro : F.round = none) (hn : 1 ≤ n) (Bn X n₀ b m g : Nat) (l : List (Nat × Int)) (hg : g < 4611686018427387904) (w : World)
  (hB : w.cell? ⟨Bn, 0, none⟩ = some (.pointer (some ⟨b, 0, none⟩))) (hBl : Bn < n₀ ∧ Bn ≠ X) (hbl : b < n₀ ∧ b ≠ X) (hml : m < n₀ ∧ m ≠ X) (hn₀ : n₀ ≤ w.heap.size) (hQ : FifoIs w b m l g) :
  SeqStopsK F n Tryz.prog 126 #[.pointer (some ⟨Bn, 0, none⟩)] (fun x : Nat × Int => #[Value.int .u64 x.1, .int .i64 x.2]) (Kx X n₀) (fun ys => ys = l) (fun pre => pre <+: l) l.length w := fun lp J Jx W hW _ _ hY h0 => by
 obtain ⟨S, f3, s3⟩ := Fr.of_belowN hW
 have nS : ∀ x, x < n₀ ∧ x ≠ X → x ∉ S := fun x hx hm => by have := s3 x hm; omega
 exact all1_in F n h6 hro hn lp Bn X n₀ b m g l hg J Jx hY W (f3.keep hB (nS _ hBl)) hBl hbl hml (hQ.keep f3 (nS _ hbl) (nS _ hml)) h0
attribute [local go_sem] Oper.semAt_some
theorem map_lt {w : World} {q m : Nat} {l : List (Nat × Int)} {g : Nat} (h : FifoIs w q m l g) : m < w.heap.size := by
 obtain ⟨f, h1, _⟩ := h.nodes
 exact h1.lt
theorem rowMono {w : World} {base base' : Nat} {e : TypeId} {size : Nat} {v : Value} {n : Nat} {xs : List Value} (h : w.ownsRow base e size v n xs) (hb : base' ≤ base) : w.ownsRow base' e size v n xs :=
 ⟨h.1, h.2.imp id fun ⟨g, cap, cur, h1, h2, h3⟩ => ⟨g, cap, cur, h1, Nat.le_trans hb h2, h3⟩⟩
theorem infoInt : (Tryz.prog.info? 3).map (fun i => (i.zero, i.size, i.bytes)) = some (some (.int .i64 0), 1, 8) := by kernel_rfl
def connV64 (x : Nat × Int) : Value := .int .i64 x.2
theorem waiting_any (b q m t : Nat) (most : Int) (closed : Bool) (l : List (Nat × Int)) (g : Nat) (hg : g < 4611686018427387904) (w : World) (h : BackIs w b q m t most closed l g) (hlen : l.length ≤ 100000) :
  Calls Tryz.prog 68 #[.pointer (some ⟨b, 0, none⟩)] w fun e W' => ∃ v, e = .returned v ∧ W'.ownsRow w.heap.size 3 1 v l.length (l.map connV64) ∧ Fr [] w W' := by
 obtain ⟨i0, hi, hz0, hz1, hz2⟩ := info_parts infoInt
 have HN := Lib.hid (backNone_any w h)
 have c0 := h.c0
 have HQ := Lib.hid h.queue
 have hro : Fence.wide.round = none := rfl
 have h1 : (1 : Nat) ≤ 4 := by omega
 clear h
 refine (callsIn_wide (n := 4)).1 ?_
 refine callsIn_of_wp_marks Tryz.func68 rfl trivial ?_ hro
 simp only [Tryz.ntmps68, List.size_toArray, List.length_cons, List.length_nil, Nat.reduceAdd, Nat.reduceSub, Array.replicate_succ, Array.replicate_zero, List.push_toArray, List.append_toArray, List.nil_append, List.cons_append]
 have g0 : Fr [] w (w.alloc (.cells #[.slice none 0 0] 64)) := (Fr.refl [] w).alloc _
 have d0 := g0.keep c0 (by simp)
 gi_wp2_with (first
  | (refine ⟨trivial, ?_⟩; gi_at_call 90; refine (callsIn_wide.2 HN.out).mono ?_; rintro e w' ⟨rfl, rfl⟩)
  | (refine ⟨trivial, ?_⟩; gi_at_call 103; refine (callsIn_wide.2 (fifoAll_any q m l g _ (HQ.out.keep g0 (by simp) (by simp)))).mono ?_; rintro e w1 ⟨Bn, b', m', rfl, hBn, hq1, f1, l1, l2, l3⟩))
 have bO : Boxed (w.alloc (.cells #[.slice none 0 0] 64)) w.heap.size 64 (.slice none 0 0) := Boxed.new w _ _
 have bO1 : Boxed w1 w.heap.size 64 (.slice none 0 0) := (f1.block _ (by simp) (by simp)).trans bO
 have hB1 : Below w.heap.size w w1 := (g0.step f1).below0
 have z1 : w.heap.size + 1 ≤ w1.heap.size := by simpa using f1.size
 have y1 := cell_lt hBn
 have y2 := cell_lt hq1.c0
 have y3 := map_lt hq1
 simp only [World.size_alloc] at l1 l2 l3
 obtain ⟨B, hBe⟩ : ∃ B, w.heap.size = B := ⟨_, rfl⟩
 rw [hBe] at bO1 hB1 z1 l1 l2 l3 ⊢
 refine wpIn_rangeFunc_ownG hro h1 (gf := 126) (lb := #[.pointer (some ⟨Bn, 0, none⟩)]) rfl trivial (enters_of Tryz.func126 (by kernel_rfl) rfl)
  (all_stops Fence.wide 3 trivial hro (by omega) Bn B w1.heap.size b' m' g l hg w1 hBn ⟨by omega, by omega⟩ ⟨by omega, by omega⟩ ⟨by omega, by omega⟩ (Nat.le_refl _) hq1) Kx.trans (Kx.put (Nat.le_refl _)) (Below.refl _ _) (fun _ => rfl)
  (fun pre W => (∃ v, Boxed W B 64 v ∧ W.ownsRow w1.heap.size 3 1 v pre.length (pre.map connV64) ∧ True) ∧ Below B w W ∧ w1.heap.size ≤ W.heap.size)
  (fun _ _ _ => False)
  (OwnFrom.and (Own.from (holdsRow_own w1.heap.size B 64 3 1 (fun pre : List (Nat × Int) => pre.length) (fun pre : List (Nat × Int) => pre.map connV64) (fun _ _ => True)) _) (OwnFrom.and (ownFrom_below (by omega) (by omega)) (fun _ _ _ _ hs hg _ => Nat.le_trans hs hg.size)))
  (fun _ _ _ _ _ hs _ _ => hs)
  ⟨⟨_, bO1, World.ownsRow_nil _ _ _ _, trivial⟩, hB1, Nat.le_refl _⟩
  (fun x => { tmps := #[.pointer (some ⟨b, 0, none⟩), undef, .slice none 0 0, .pointer (some ⟨B, 0, none⟩), undef, .int .i64 x.2, .pointer (some ⟨b, 0, none⟩), .bool false, .pointer (some ⟨b, 0, none⟩), .pointer (some ⟨b, 0, none⟩), .pointer (some ⟨b, 0, none⟩), .pointer (some ⟨q, 0, none⟩), .func (.func 126) #[] #[.pointer (some ⟨Bn, 0, none⟩)], .int .u64 x.1, .int .i64 x.2, undef, undef, undef, undef, undef], defers := [] }) ?assign ?body ?done ?stop
 case assign =>
  intro l x W K hK
  gi_wp2
  exact hK
 case body =>
  rintro lp pre x W ⟨⟨v, hv, hrow, _⟩, hB, hNW⟩ hlt
  have hc := hv.cell
  have hBs := hB.size
  have hrow0 := rowMono (base' := B) hrow (by omega)
  gi_wp2_with (gi_at_builtin; refine wpListIn_append_own _ rfl _ _ 64 rfl w1.heap.size 3 i0 (.int .i64 0) 1 8 Tryz.underlying64 hi hz0 hz1 hz2 rfl (by decide) _ _ _ rfl (hrow.alloc _) ⟨W.heap.size, 0, none⟩ 1 1 [.int .i64 x.2] rfl rfl (cell_one_new _ _ _) (by simp [Value.oneCell']) (by simp only [maxLen]; omega) (by omega) (by simp; omega) ?_; intro v' w2 hown' hgrow _; obtain ⟨g', cap', rfl⟩ := ownsRow_succ hown'; obtain ⟨hv1, hv2, hr2, hk2, hb2⟩ := hv.appended (by decide) hrow0 (by omega) (Nat.le_refl _) (rowMono (base' := B) hown' (by omega)) hgrow; have hc1 := hv1.cell; have hf1 := hv1.frozen)
  have hr3 := hown'.kept (grownBy_setCell' w2 B (.slice (some ⟨g', 0, none⟩) (pre.length + 1) cap')) (.inr (hv1.not_row (by decide) hown').symm)
  have hKx : Kx B w1.heap.size W (w2.setCell ⟨B, 0, none⟩ (.slice (some ⟨g', 0, none⟩) (pre.length + 1) cap')) := by
   refine Kx.trans (b := w2) ⟨v.ownBlock.toList, ?_, fun y hy => .inr ?_⟩ ⟨[B], (Fr.refl _ _).setCell (fun _ => by simp) _, fun y hy => .inl (by simpa using hy)⟩
   ·exact (((Fr.refl [] W).alloc _).mono (fun x hx => by cases hx)).trans (grownFr hgrow (fun k hk => by have hk' : v.ownBlock = some k := hk; simp [hk'])) (fun x hx _ => hx)
   ·rcases hrow.2 with ⟨rfl, _⟩ | ⟨g1, c1, cur, rfl, hb, _, _⟩
    ·simp [Value.ownBlock] at hy
    ·simp [Value.ownBlock] at hy
     omega
  refine ⟨hk2.from _, hKx, ⟨⟨_, hv2, by simpa [connV64] using hr3, trivial⟩, hB.trans hb2, Nat.le_trans hNW ?_⟩⟩
  exact hb2.size
 case done =>
  rintro D ys W hD rfl ⟨⟨v, hv, hrow, _⟩, hB, hNW⟩ hK
  have hc := hv.cell
  gi_wp2
  refine ⟨by simp, .inl ⟨_, _, rfl, run_takeDeferred hK, ?_⟩⟩
  exact ⟨_, results_tmp rfl _ _ _, v, rfl, ownsRow_putObj (rowMono hrow (by omega)) _ hK rfl, Fr.of_below (hBe ▸ hB.trans (belowK_b (w := w) (by omega) W D _ _ (by omega) hK rfl rfl))⟩
 case stop =>
  rintro D c pre W _ _ h _
  exact h.elim
def RowOf (w : World) (lo : Nat) (v : Value) (xs : List Value) : Prop :=
 (xs = [] ∧ v = .slice none 0 0) ∨ ∃ g cap, v = .slice (some ⟨g, 0, none⟩) xs.length cap ∧ lo ≤ g ∧ g < w.heap.size ∧ ∀ j u, xs[j]? = some u → w.cell? ⟨g, j, none⟩ = some u
theorem RowOf.keep {S : List Nat} {w w' : World} {lo : Nat} {v : Value} {xs : List Value} (h : RowOf w lo v xs) (hf : Fr S w w') (hS : ∀ x ∈ S, x < lo) : RowOf w' lo v xs := by
 rcases h with h | ⟨g, cap, h1, h2, h3, h4⟩
 ·exact .inl h
 ·exact .inr ⟨g, cap, h1, h2, Nat.lt_of_lt_of_le h3 hf.size, fun j u hj => hf.keep (h4 j u hj) (fun hm => by have := hS g hm; omega)⟩
theorem RowOf.of {w : World} {lo n : Nat} {e : TypeId} {v : Value} {xs : List Value} (h : w.ownsRow lo e 1 v n xs) : RowOf w lo v xs := by
 obtain ⟨h0, h1 | ⟨g, cap, cur, h1, h2, h3, h4, h5, h6, h7⟩⟩ := h
 ·refine .inl ⟨?_, h1.1⟩
  rw [h1.2] at h0
  exact List.eq_nil_of_length_eq_zero (by simpa using h0)
 ·obtain rfl : xs.length = n := by omega
  refine .inr ⟨g, cap, h1, h2, (Array.getElem?_eq_some_iff.1 h3).1, fun j u hj => ?_⟩
  have hj' : j < xs.length := (List.getElem?_eq_some_iff.1 hj).1
  rw [← h7, List.getElem?_take_of_lt (by omega), Array.getElem?_toList] at hj
  simp [World.cell?, h3, hj]
theorem backClose_any (b q m t : Nat) (most : Int) (l : List (Nat × Int)) (g : Nat) (hg : g < 4611686018427387904) (w : World) (h : BackIs w b q m t most false l g) (hlen : l.length ≤ 100000) :
  Calls Tryz.prog 55 #[.pointer (some ⟨b, 0, none⟩)] w fun e W' => ∃ v, e = .returned (.tuple #[v, .int .i64 0]) ∧ RowOf W' w.heap.size v (l.map connV64) ∧ Fr [b] w W' := by
 have hmm := @run_makeMap Tryz.prog
 have HN := Lib.hid (backNone_any w h)
 have HW := Lib.hid (waiting_any b q m t most false l g hg w h hlen)
 have c0 := h.c0
 have c2 := h.c2
 have c3 := h.c3
 have hf := h.free
 have hb := cell_lt c0
 have HB := Lib.hid h
 clear h
 go_enter Tryz.func55, Tryz.ntmps55
 go_wp2_with (first
  | (go_at_call 90; refine HN.out.mono ?_; rintro e w' ⟨rfl, rfl⟩)
  | (go_at_call 68; refine HW.out.mono ?_; rintro e w1 ⟨v, rfl, hrow, f1⟩; have k0 := f1.keep c0 (by simp); have k2 := f1.keep c2 (by simp); have k3 := f1.keep c3 (by simp); have kf : ∀ o, w1.frozen? ⟨b, o, none⟩ = false := (fun o => by rw [f1.frozen hb (by simp)]; exact hf o))
  | (go_at_call 86; refine (fifoNew_any _).mono ?_; rintro e w2 ⟨rfl, q2, f2⟩; have j0 := f2.keep k0 (by simp); have j2 := f2.keep k2 (by simp); have j3 := f2.keep k3 (by simp); have jf : ∀ o, w2.frozen? ⟨b, o, none⟩ = false := (fun o => by rw [f2.frozen (Nat.lt_of_lt_of_le hb f1.size) (by simp)]; exact kf o); have hb2 : b < w2.heap.size := Nat.lt_of_lt_of_le (Nat.lt_of_lt_of_le hb f1.size) f2.size))
 go_ret2
 have hr2 : RowOf w2 w.heap.size v (l.map connV64) := (RowOf.of hrow).keep f2 (by simp)
 have fE : Fr [b] w2 ((((w2.setCell ⟨b, 0, none⟩ (.pointer (some ⟨w1.heap.size + 1, 0, none⟩))).setCell ⟨b, 3, none⟩ (.map (some w2.heap.size))).setCell ⟨b, 2, none⟩ (.bool true)).alloc (.map #[] 0)) := ((((Fr.refl [b] w2).setCell (p := ⟨b, 0, none⟩) (fun _ => by simp) _).setCell (p := ⟨b, 3, none⟩) (fun _ => by simp) _).setCell (p := ⟨b, 2, none⟩) (fun _ => by simp) _).alloc _
 refine ⟨v, rfl, hr2.keep fE (fun x hx => ?_), (((f1.step f2).mono (fun x hx => by cases hx)).trans fE (fun x hx _ => hx))⟩
 rw [List.mem_singleton] at hx
 omega
end Go.Proofs.YtgbmenfmaphciaaGreat
