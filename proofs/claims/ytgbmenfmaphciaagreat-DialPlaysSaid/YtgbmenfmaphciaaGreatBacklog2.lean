/- Contracts of fifo's Front, Remove at the head, and Pop, at whatever queue. -/
/- Contracts of fifo's Pop, and of Push at a queue that is not empty. -/
/- Contracts of backlog's Pop, and of Push at whatever backlog. -/
import Derived.Test.YtgbmenfmaphciaaGreatBacklog
import Derived.Deep.CutRange
import Derived.Deep.RegionHeld3
import Derived.OwnWalk
namespace Go.Proofs.YtgbmenfmaphciaaGreat
open Go.RowKit
open Go.Maps (Keyed)
set_option linter.unusedVariables false
set_option maxRecDepth 100000
set_option maxHeartbeats 4000000
theorem headT_cons (t : Nat) (v : Int) (l : List (Nat × Int)) : headT ((t, v) :: l) = t := rfl
theorem lastT_cons (p t : Nat) (v : Int) (l : List (Nat × Int)) : lastT p ((t, v) :: l) = lastT t l := rfl
theorem fifoFront_empty (b m g : Nat) (w : World) (h : FifoIs w b m [] g) :
  Calls Tryz.prog 115 #[.pointer (some ⟨b, 0, none⟩)] w fun e w' => e = .returned (.tuple #[.int .i64 0, .int .u64 0, .int .i64 9]) ∧ w' = w := by
 have c0 := h.c0
 simp only [headT, show ((0 : Nat) : Int) = 0 from rfl] at c0
 go_enter Tryz.func115, Tryz.ntmps115
 go_wp2_with (go_at_call 135; refine (fifoZero_any b m [] g _ h).mono ?_; rintro e w' ⟨rfl, rfl⟩)
 go_ret3
 exact ⟨rfl, rfl⟩
theorem fifoFront_hit (b m t : Nat) (v : Int) (l : List (Nat × Int)) (g : Nat) (hg : g < 4611686018427387904) (w : World) (h : FifoIs w b m ((t, v) :: l) g) :
  Calls Tryz.prog 115 #[.pointer (some ⟨b, 0, none⟩)] w fun e w' => e = .returned (.tuple #[.int .i64 v, .int .u64 t, .int .i64 0]) ∧ ∃ n, w' = w.drewN n := by
 obtain ⟨f, hm, hp⟩ := h.nodes
 have c0 := h.c0
 have c3 := h.c3
 obtain ⟨ht1, ht2⟩ := h.tickets (t, v) List.mem_cons_self
 simp only [headT] at c0 ht1 ht2
 have hin : (Value.int .u64 t, nodeV v 0 (headT l)) ∈ f := hp.symm.subset (by simp [nodesOf])
 have hlk : ∀ n, (Instr.lookup 210 (.map (some m)) (.int .u64 t) false).run Tryz.prog (w.drewN n) = .ok (nodeV v 0 (headT l)) (w.drewN n) := fun n => by
  have := (hm.drewN n).hit key64 (t := 210) (e := 222) Tryz.underlying210 hin false
  simpa using this
 have hfl : ∀ W, (Instr.field 222 (nodeV v 0 (headT l)) 0).run Tryz.prog W = .ok (.int .i64 v) W := fun W => by kernel_rfl
 have ht0 : ((t : Int) == 0) = false := by rw [beq_eq_false_iff_ne]; omega
 have hz := fifoZero_any b m ((t, v) :: l) g w h
 have HZ := Lib.hid hz
 clear hz h hm hp hin
 generalize nodeV v 0 (headT l) = nv at hlk hfl
 go_enter Tryz.func115, Tryz.ntmps115
 go_wp2_with (go_at_call 135; refine HZ.out.mono ?_; rintro e w' ⟨rfl, rfl⟩)
 go_quiet (fail)
 go_wp2
 go_ret3
 exact ⟨rfl, _, rfl⟩
theorem fifoRemove_head (b m t : Nat) (v : Int) (l : List (Nat × Int)) (g : Nat) (hg : g < 4611686018427387904) (w : World) (h : FifoIs w b m ((t, v) :: l) g) :
  Calls Tryz.prog 116 #[.pointer (some ⟨b, 0, none⟩), .int .u64 t] w fun e w' => e = .returned (.tuple #[.int .i64 v, .int .i64 0]) ∧ FifoIs w' b m l g ∧ Fr [b, m] w w' := by
 obtain ⟨f, hm, hp⟩ := h.nodes
 have c0 := h.c0
 have c1 := h.c1
 have c2 := h.c2
 have c3 := h.c3
 have z0 := h.z0
 have z1 := h.z1
 have z2 := h.z2
 have hne := h.ne
 obtain ⟨ht1, ht2⟩ := h.tickets (t, v) List.mem_cons_self
 simp only at ht1 ht2
 have htk := fun x hx => h.tickets x (List.mem_cons_of_mem _ hx)
 have hso : (l.map (·.1)).Pairwise (· < ·) := by have := h.sorted; simp only [List.map_cons] at this; exact (List.pairwise_cons.1 this).2
 have hin : (Value.int .u64 t, nodeV v 0 (headT l)) ∈ f := hp.symm.subset (by simp [nodesOf])
 obtain ⟨f1, f2, rfl⟩ := List.append_of_mem hin
 have hp2 : (f1 ++ f2).Perm (nodesOf t l) := by
  have h1 := List.perm_middle.symm.trans hp
  simp only [nodesOf] at h1
  exact List.Perm.cons_inv h1
 have HZ := Lib.hid (fifoZero_any b m ((t, v) :: l) g w h)
 have hlk : (Instr.lookup 210 (.map (some m)) (.int .u64 t) true).run Tryz.prog w = .ok (.tuple #[.agg #[.int .i64 v, .int .u64 0, .int .u64 (headT l)], .bool true]) w := by
  have := hm.hit key64 (t := 210) (e := 222) Tryz.underlying210 hin true
  simpa [nodeV] using this
 have zb := cell_lt c0
 have zm := hm.lt
 have fa : Fr [] w (w.alloc (.cells #[.int .i64 v, .int .u64 0, .int .u64 (headT l)] 222)) := (Fr.refl [] w).alloc _
 obtain ⟨w2, hdel, hm2, fd⟩ := (hm.keep fa (by simp)).del (T := 0) key64 (t := 210) (e := 222) Tryz.underlying210
 have bm : b ∉ [m] := by simp; omega
 have F2 : Fr [m] w w2 := (fa.mono (T := [m]) (fun x hx => by cases hx)).trans fd (fun x hx _ => hx)
 have x0 : w2.cell? ⟨w.heap.size, 0, none⟩ = some (.int .i64 v) := fd.keep (by simp) (by simp; omega)
 have x1 : w2.cell? ⟨w.heap.size, 1, none⟩ = some (.int .u64 0) := fd.keep (by simp) (by simp; omega)
 have x2 : w2.cell? ⟨w.heap.size, 2, none⟩ = some (.int .u64 (headT l)) := fd.keep (by simp) (by simp; omega)
 have d0 := F2.keep c0 bm
 have d1 := F2.keep c1 bm
 have d2 := F2.keep c2 bm
 have d3 := F2.keep c3 bm
 have y0 : w2.frozen? ⟨b, 0, none⟩ = false := by rw [F2.frozen zb bm]; exact z0
 have y1 : w2.frozen? ⟨b, 1, none⟩ = false := by rw [F2.frozen zb bm]; exact z1
 have y2 : w2.frozen? ⟨b, 2, none⟩ = false := by rw [F2.frozen zb bm]; exact z2
 have zx : w.heap.size < w2.heap.size := cell_lt x0
 have hz2 : w2.heap.size = w2.heap.size := rfl
 clear hm h hp hin hz2
 cases l with
 | nil =>
  simp only [headT, lastT, show ((0 : Nat) : Int) = 0 from rfl] at *
  have HM := Lib.hid (And.intro hm2 hp2)
  have HD := Lib.hid (And.intro d2 (And.intro d3 (And.intro y2 (And.intro d0 d1))))
  clear hm2 hp2 hso htk
  go_enter Tryz.func116, Tryz.ntmps116
  go_wp2_with (go_at_call 135; refine HZ.out.mono ?_; rintro e w' ⟨rfl, rfl⟩)
  go_ret2
  have f3 : Fr [b] w2 ((w2.setCell ⟨b, 0, none⟩ (.int .u64 0)).setCell ⟨b, 1, none⟩ (.int .u64 0)) := ((Fr.refl _ _).setCell (fun _ => by simp) _).setCell (fun _ => by simp) _
  refine ⟨rfl, ⟨?_, ?_, ?_, ?_, ?_, ?_, ?_, hne, ⟨_, HM.out.1.keep f3 (by simp; omega), HM.out.2⟩, (fun x hx => by cases hx), (by simp)⟩, ?_⟩
  ·simp [headT, World.cell?_setCell_other, World.cell?_setCell_same _ _ _ HD.out.2.2.2.1]
  ·simp [lastT, World.cell?_setCell_same _ _ _ (show (w2.setCell ⟨b, 0, none⟩ (.int .u64 0)).cell? ⟨b, 1, none⟩ = _ from by rw [World.cell?_setCell_other _ _ _ _ (by simp)]; exact HD.out.2.2.2.2)]
  ·simp [World.cell?_setCell_other, HD.out.1]
  ·simp [World.cell?_setCell_other, HD.out.2.1]
  ·simp [y0]
  ·simp [y1]
  ·simp [HD.out.2.2.1]
  ·exact (F2.mono (T := [b, m]) (fun x hx _ => by simp at hx; simp [hx])).trans f3 (fun x hx _ => by simp at hx; simp [hx])
 | cons p l2 =>
  obtain ⟨t2, v2⟩ := p
  obtain ⟨hs1, hs2⟩ := htk (t2, v2) List.mem_cons_self
  simp only at hs1 hs2
  simp only [headT_cons, lastT_cons, nodesOf] at *
  have hnz : ((t2 : Int) == 0) = false := by rw [beq_eq_false_iff_ne]; omega
  have hin2 : (Value.int .u64 t2, nodeV v2 t (headT l2)) ∈ f1 ++ f2 := hp2.symm.subset (by simp)
  obtain ⟨g1, g2, hg12⟩ := List.append_of_mem hin2
  rw [hg12] at hm2 hp2
  have hp3 : (g1 ++ g2).Perm (nodesOf t2 l2) := List.Perm.cons_inv (List.perm_middle.symm.trans hp2)
  have f3 : Fr [b] w2 (w2.setCell ⟨b, 0, none⟩ (.int .u64 t2)) := (Fr.refl _ _).setCell (fun _ => by simp) _
  have e0 : (w2.setCell ⟨b, 0, none⟩ (.int .u64 t2)).cell? ⟨b, 0, none⟩ = some (.int .u64 t2) := World.cell?_setCell_same _ _ _ d0
  have e1 : (w2.setCell ⟨b, 0, none⟩ (.int .u64 t2)).cell? ⟨b, 1, none⟩ = some (.int .u64 (lastT t2 l2)) := by rw [World.cell?_setCell_other _ _ _ _ (by simp)]; exact d1
  have e2 : (w2.setCell ⟨b, 0, none⟩ (.int .u64 t2)).cell? ⟨b, 2, none⟩ = some (.int .u64 g) := by rw [World.cell?_setCell_other _ _ _ _ (by simp)]; exact d2
  have e3 : (w2.setCell ⟨b, 0, none⟩ (.int .u64 t2)).cell? ⟨b, 3, none⟩ = some (.map (some m)) := by rw [World.cell?_setCell_other _ _ _ _ (by simp)]; exact d3
  have q0 : (w2.setCell ⟨b, 0, none⟩ (.int .u64 t2)).frozen? ⟨b, 0, none⟩ = false := by simp [y0]
  have q1 : (w2.setCell ⟨b, 0, none⟩ (.int .u64 t2)).frozen? ⟨b, 1, none⟩ = false := by simp [y1]
  have q2 : (w2.setCell ⟨b, 0, none⟩ (.int .u64 t2)).frozen? ⟨b, 2, none⟩ = false := by simp [y2]
  have u0 := f3.keep x0 (by simp; omega)
  have u1 := f3.keep x1 (by simp; omega)
  have u2 := f3.keep x2 (by simp; omega)
  have hm3 := hm2.keep f3 (by simp; omega)
  have hHE := Lib.hid (And.intro (And.intro e0 (And.intro e1 (And.intro e2 e3))) (And.intro q0 (And.intro q1 q2)))
  have hHM := Lib.hid (And.intro hm3 hp3)
  have F3 := Lib.hid ((F2.mono (T := [b, m]) (fun x hx _ => by simp at hx; simp [hx])).trans f3 (fun x hx _ => by simp at hx; simp [hx]))
  clear hp2 hp3 hm2 hm3 hin2 hg12 e1 e2 q0 q1 q2 d1 d2 y1 y2 F2
  go_enter Tryz.func116, Tryz.ntmps116
  go_wp2_with (first | (go_at_call 135; refine HZ.out.mono ?_; rintro e w' ⟨rfl, rfl⟩))
  clear hdel hlk d0 d3 y0 c0 c1 c2 c3 z0 z1 z2 x0 x1 x2
  have zm3 := hHM.out.1.lt
  generalize w2.setCell ⟨b, 0, none⟩ (.int .u64 t2) = w3 at e0 e3 u0 u1 u2 f3 zm3 hHE hHM F3 ⊢
  have zb3 := cell_lt e0
  have zx3 := cell_lt u0
  have HK := Lib.hid (fun (W : World) (fr : Fr [] w3 W) => And.intro (fr.keep e3 (by simp)) (And.intro (fr.keep u2 (by simp)) (by
   have := (hHM.out.1.keep fr (by simp)).hit key64 (t := 210) (e := 222) Tryz.underlying210 (x := .int .u64 t2) (v := nodeV v2 t (headT l2)) (by simp) false
   simp only [Bool.false_eq_true, if_false, nodeV] at this
   exact this : (Instr.lookup 210 (.map (some m)) (.int .u64 t2) false).run Tryz.prog W = .ok (.agg #[.int .i64 v2, .int .u64 t, .int .u64 (headT l2)]) W)))
  go_cut [9] from 63 to 69 (fun s wc => s = .pointer (some ⟨w3.heap.size, 0, none⟩) ∧ wc.cell? ⟨w3.heap.size, 0, none⟩ = some (.int .i64 v2) ∧ wc.cell? ⟨w3.heap.size, 1, none⟩ = some (.int .u64 t) ∧ wc.cell? ⟨w3.heap.size, 2, none⟩ = some (.int .u64 (headT l2)) ∧ wc.frozen? ⟨w3.heap.size, 1, none⟩ = false ∧ Fr [] w3 wc)
  case first =>
   go_region_held3 (fun w' => w'.cell? ⟨b, 3, none⟩ = some (.map (some m)) ∧ w'.cell? ⟨w.heap.size, 2, none⟩ = some (.int .u64 t2) ∧ (Instr.lookup 210 (.map (some m)) (.int .u64 t2) false).run Tryz.prog w' = .ok (.agg #[.int .i64 v2, .int .u64 t, .int .u64 (headT l2)]) w')
    (first
     | exact HK.out _ ((Fr.refl [] _).drew)
     | exact HK.out _ (((Fr.refl [] _).drew).alloc _)
     | exact HK.out _ ((((Fr.refl [] _).alloc _).drew))
     | (refine HK.out _ ?_; repeat (first | exact Fr.refl [] _ | apply Fr.drew | apply Fr.alloc | (refine Fr.setCell ?_ (fun h => absurd h (by simp)) _))))
    (fail)
   all_goals go_wp2
   all_goals go_meet
   case' rel => skip
   all_goals refine ⟨rfl, by simp, by simp, by simp, by simp, ?_⟩
   all_goals first
    | exact ((Fr.refl [] _).drew).alloc _
    | exact ((Fr.refl [] _).alloc _).drew
    | exact ((Fr.refl [] _).drewN _).alloc _
    | (repeat (first | exact Fr.refl [] _ | apply Fr.drew | apply Fr.alloc | (refine Fr.setCell ?_ (fun h => absurd h (by simp)) _)))
  case rest =>
   obtain ⟨rfl, r0, r1, r2, rz, f4⟩ := hcut
   have a0 := f4.keep e0 (by simp)
   have a3 := f4.keep e3 (by simp)
   have v0 := f4.keep u0 (by simp)
   have v1 := f4.keep u1 (by simp)
   have v2' := f4.keep u2 (by simp)
   have zy := cell_lt r0
   have hxy : w.heap.size ≠ w3.heap.size := by omega
   have hby : b ≠ w3.heap.size := by omega
   have hmy : m ≠ w3.heap.size := by omega
   have f5 : Fr [w3.heap.size] wc (wc.setCell ⟨w3.heap.size, 1, none⟩ (.int .u64 0)) := (Fr.refl _ _).setCell (fun _ => by simp) _
   have k0 : (wc.setCell ⟨w3.heap.size, 1, none⟩ (.int .u64 0)).cell? ⟨w3.heap.size, 0, none⟩ = some (.int .i64 v2) := by rw [World.cell?_setCell_other _ _ _ _ (by simp)]; exact r0
   have k1 : (wc.setCell ⟨w3.heap.size, 1, none⟩ (.int .u64 0)).cell? ⟨w3.heap.size, 1, none⟩ = some (.int .u64 0) := World.cell?_setCell_same _ _ _ r1
   have k2 : (wc.setCell ⟨w3.heap.size, 1, none⟩ (.int .u64 0)).cell? ⟨w3.heap.size, 2, none⟩ = some (.int .u64 (headT l2)) := by rw [World.cell?_setCell_other _ _ _ _ (by simp)]; exact r2
   have k3 := f5.keep a3 (by simpa using hby)
   have k4 := f5.keep v2' (by simpa using hxy)
   have hm5 : MapIs Tryz.prog 37 (wc.setCell ⟨w3.heap.size, 1, none⟩ (.int .u64 0)).drew m _ := (hHM.out.1.keep f4 (by simp)).keep f5.drew (by simpa using hmy)
   obtain ⟨w6, hrun, hm6, f6⟩ := hm5.set key64 (t := 210) (e := 222) Tryz.underlying210 (nodeV v2 0 (headT l2))
   simp only [nodeV, show ((0 : Nat) : Int) = 0 from rfl] at hrun
   have f56 : Fr [w3.heap.size, m] wc w6 := ((f5.drew).mono (T := [w3.heap.size, m]) (fun x hx _ => by simp at hx; simp [hx])).trans f6 (fun x hx _ => by simp at hx; simp [hx])
   have j0 := f56.keep v0 (by simp; omega)
   have HM6 := Lib.hid (And.intro hm6 hHM.out.2)
   clear hm5 hm6 a0
   go_wp2
   go_region
   go_wp2
   go_ret2
   have hsm : ∀ x ∈ [w3.heap.size, m], x < w3.heap.size → x ∈ [b, m] := fun x hx hlt => by
    simp at hx
    rcases hx with rfl | rfl
    ·omega
    ·simp
   have F6 : Fr [b, m] w3 w6 := (f4.mono (T := [b, m]) (fun x hx => by cases hx)).trans f56 hsm
   have G : Fr [m] w3 w6 := (f4.mono (T := [m]) (fun x hx => by cases hx)).trans f56 (fun x hx hlt => by
    simp at hx
    rcases hx with rfl | rfl
    ·omega
    ·simp)
   have zb3' : b < w3.heap.size := zb3
   have hbm : b ∉ [m] := bm
   refine ⟨rfl, ⟨G.keep hHE.out.1.1 hbm, G.keep hHE.out.1.2.1 hbm, G.keep hHE.out.1.2.2.1 hbm, G.keep hHE.out.1.2.2.2 hbm, by rw [G.frozen zb3' hbm]; exact hHE.out.2.1, by rw [G.frozen zb3' hbm]; exact hHE.out.2.2.1, by rw [G.frozen zb3' hbm]; exact hHE.out.2.2.2, hne, ⟨_, HM6.out.1, ?_⟩, htk, hso⟩, F3.out.trans F6 (fun x hx _ => hx)⟩
   simp only [nodesOf]
   exact List.perm_middle.trans (List.Perm.cons _ HM6.out.2)
theorem fifoPop_empty (b m g : Nat) (w : World) (h : FifoIs w b m [] g) :
  Calls Tryz.prog 91 #[.pointer (some ⟨b, 0, none⟩)] w fun e w' => e = .returned (.tuple #[.int .i64 0, .int .u64 0, .int .i64 9]) ∧ w' = w := by
 have H := Lib.hid (fifoFront_empty b m g w h)
 go_enter Tryz.func91, Tryz.ntmps91
 go_wp2_with (go_at_call 115; refine H.out.mono ?_; rintro e w' ⟨rfl, rfl⟩)
 go_ret3
 exact ⟨rfl, rfl⟩
theorem fifoPop_hit (b m t : Nat) (v : Int) (l : List (Nat × Int)) (g : Nat) (hg : g < 4611686018427387904) (w : World) (h : FifoIs w b m ((t, v) :: l) g) :
  Calls Tryz.prog 91 #[.pointer (some ⟨b, 0, none⟩)] w fun e w' => e = .returned (.tuple #[.int .i64 v, .int .u64 t, .int .i64 0]) ∧ FifoIs w' b m l g ∧ Fr [b, m] w w' := by
 have H := Lib.hid (fifoFront_hit b m t v l g hg w h)
 have HR := Lib.hid (fun n => fifoRemove_head b m t v l g hg (w.drewN n) (by exact ⟨h.c0, h.c1, h.c2, h.c3, h.z0, h.z1, h.z2, h.ne, h.nodes, h.tickets, h.sorted⟩))
 go_enter Tryz.func91, Tryz.ntmps91
 go_wp2_with fail
 refine H.out.mono ?_
 rintro e w1 ⟨rfl, n, rfl⟩
 go_wp2_with fail
 refine (HR.out n).mono ?_
 rintro e w2 ⟨rfl, h2, f2⟩
 go_wp2_with fail
 go_ret3
 exact ⟨rfl, h2, ⟨f2.os, f2.tape, f2.output, f2.size, f2.block⟩⟩
theorem fifoPush_more (b m t0 : Nat) (v v0 : Int) (l0 : List (Nat × Int)) (g : Nat) (hg : g < 4611686018427387904) (w : World) (h : FifoIs w b m (l0 ++ [(t0, v0)]) g) (hlen : (l0 ++ [(t0, v0)]).length < 4096) :
  Calls Tryz.prog 134 #[.pointer (some ⟨b, 0, none⟩), .int .i64 v] w fun e w' => e = .returned (.tuple #[.int .u64 (g + 1), .int .i64 0]) ∧ FifoIs w' b m (l0 ++ [(t0, v0)] ++ [(g + 1, v)]) (g + 1) ∧ Fr [b, m] w w' := by
 obtain ⟨f, hm, hp⟩ := h.nodes
 have c0 := h.c0
 have c1 := h.c1
 have c2 := h.c2
 have c3 := h.c3
 have z0 := h.z0
 have z1 := h.z1
 have z2 := h.z2
 have hne := h.ne
 obtain ⟨ht1, ht2⟩ := h.tickets (t0, v0) (by simp)
 simp only at ht1 ht2
 rw [lastT_snoc] at c1
 have HTK := Lib.hid h.tickets
 have HSO := Lib.hid h.sorted
 have HZ := Lib.hid (fifoZero_any b m _ g w h)
 obtain ⟨A, pr, hA1, hA2⟩ := nodes_snoc l0 0 (g + 1) v t0 v0
 have hnew : ∀ p ∈ f, p.1 ≠ .int .u64 ((g : Int) + 1) := fun p hp' => by
  have h1 : p.1 ∈ (nodesOf 0 (l0 ++ [(t0, v0)])).map (·.1) := List.mem_map.2 ⟨p, hp.subset hp', rfl⟩
  rw [keys_nodes] at h1
  obtain ⟨x, hx, hxe⟩ := List.mem_map.1 h1
  have := (HTK.out x hx).2
  rw [← hxe]
  intro e
  injection e with _ e
  omega
 have hlf : f.length < 4096 := by rw [hp.length_eq, nodesOf_length]; exact hlen
 rw [hA1] at hp
 have hin : (Value.int .u64 t0, nodeV v0 pr 0) ∈ f := hp.symm.subset (by simp)
 obtain ⟨f1, f2, rfl⟩ := List.append_of_mem hin
 have hp2 : (f1 ++ f2).Perm A := by
  have h1 := List.perm_middle.symm.trans (hp.trans List.perm_append_comm)
  exact List.Perm.cons_inv h1
 have hl := hm.len (e := 222) (t := 210) Tryz.underlying210
 have hge : ¬ (4096 ≤ ((f1 ++ (Value.int .u64 t0, nodeV v0 pr 0) :: f2).length : Int)) := by omega
 generalize (f1 ++ (Value.int .u64 t0, nodeV v0 pr 0) :: f2).length = fl at hl hge hlf
 have hnz : ((t0 : Int) == 0) = false := by rw [beq_eq_false_iff_ne]; omega
 have fs : Fr [b] w (w.setCell ⟨b, 2, none⟩ (.int .u64 (g + 1))).drew := ((Fr.refl _ _).setCell (fun _ => by simp) _).drew
 have hm1 := hm.keep fs (by simp; omega)
 obtain ⟨w2, hrun, hm2, fp⟩ := hm1.put key64 (t := 210) (e := 222) Tryz.underlying210 (x := .int .u64 (g + 1)) (key64_of _ (by omega) (by omega)) hnew (nodeV v t0 0)
 simp only [nodeV, show ((0 : Nat) : Int) = 0 from rfl] at hrun
 rw [List.append_assoc, List.cons_append] at hm2
 have zb := cell_lt c0
 have hbm : b ∉ [m] := by simpa using hne
 have d0 : w2.cell? ⟨b, 0, none⟩ = some (.int .u64 (headT (l0 ++ [(t0, v0)]))) := fp.keep (by rw [World.cell?_drew, World.cell?_setCell_other _ _ _ _ (by simp)]; exact c0) hbm
 have d1 : w2.cell? ⟨b, 1, none⟩ = some (.int .u64 t0) := fp.keep (by rw [World.cell?_drew, World.cell?_setCell_other _ _ _ _ (by simp)]; exact c1) hbm
 have d2 : w2.cell? ⟨b, 2, none⟩ = some (.int .u64 (g + 1)) := fp.keep (by rw [World.cell?_drew]; exact World.cell?_setCell_same _ _ _ c2) hbm
 have d3 : w2.cell? ⟨b, 3, none⟩ = some (.map (some m)) := fp.keep (by rw [World.cell?_drew, World.cell?_setCell_other _ _ _ _ (by simp)]; exact c3) hbm
 have y : ∀ o, w2.frozen? ⟨b, o, none⟩ = w.frozen? ⟨b, o, none⟩ := fun o => by
  rw [fp.frozen (by simpa using zb) hbm]
  simp
 have y0 : w2.frozen? ⟨b, 0, none⟩ = false := by rw [y]; exact z0
 have y1 : w2.frozen? ⟨b, 1, none⟩ = false := by rw [y]; exact z1
 have y2 : w2.frozen? ⟨b, 2, none⟩ = false := by rw [y]; exact z2
 have F2 := Lib.hid ((fs.mono (T := [b, m]) (fun x hx _ => by simp at hx; simp [hx])).trans fp (fun x hx _ => by simp at hx; simp [hx]))
 have HHead := Lib.hid (And.intro hA2 hp2)
 have HM2 := Lib.hid hm2
 clear y h hm hm1 hp hin hA1 hA2 hp2 hm2 hnew
 go_enter Tryz.func134, Tryz.ntmps134
 go_wp2_with (go_at_call 135; refine HZ.out.mono ?_; rintro e w' ⟨rfl, rfl⟩)
 go_region
 clear hrun hl c0 c1 c2 c3 z0 z1 z2 fs fp
 go_wp2_with fail
 have zm2 := HM2.out.lt
 have zb2 := cell_lt d0
 have HK := Lib.hid (fun (W : World) (fr : Fr [] w2 W) => And.intro (fr.keep d3 (by simp)) (And.intro (fr.keep d1 (by simp)) (by
  have := (HM2.out.keep fr (by simp)).hit key64 (t := 210) (e := 222) Tryz.underlying210 (x := .int .u64 t0) (v := nodeV v0 pr 0) (by simp) false
  simp only [Bool.false_eq_true, if_false, nodeV, show ((0 : Nat) : Int) = 0 from rfl] at this
  exact this : (Instr.lookup 210 (.map (some m)) (.int .u64 t0) false).run Tryz.prog W = .ok (.agg #[.int .i64 v0, .int .u64 pr, .int .u64 0]) W)))
 go_cut [6] from 57 to 66 (fun s wc => s = .pointer (some ⟨w2.heap.size, 0, none⟩) ∧ wc.cell? ⟨w2.heap.size, 0, none⟩ = some (.int .i64 v0) ∧ wc.cell? ⟨w2.heap.size, 1, none⟩ = some (.int .u64 pr) ∧ wc.cell? ⟨w2.heap.size, 2, none⟩ = some (.int .u64 0) ∧ wc.frozen? ⟨w2.heap.size, 2, none⟩ = false ∧ Fr [] w2 wc)
 case first =>
  go_region_held3 (fun w' => w'.cell? ⟨b, 3, none⟩ = some (.map (some m)) ∧ w'.cell? ⟨b, 1, none⟩ = some (.int .u64 t0) ∧ (Instr.lookup 210 (.map (some m)) (.int .u64 t0) false).run Tryz.prog w' = .ok (.agg #[.int .i64 v0, .int .u64 pr, .int .u64 0]) w')
   (first
    | exact HK.out _ ((Fr.refl [] _).drew)
    | exact HK.out _ (((Fr.refl [] _).drew).alloc _)
    | exact HK.out _ ((((Fr.refl [] _).alloc _).drew)))
   (fail)
  all_goals go_wp2
  all_goals go_meet
  case' rel => skip
  all_goals refine ⟨rfl, by simp, by simp, by simp, by simp, ?_⟩
  all_goals first
   | exact ((Fr.refl [] _).drew).alloc _
   | exact ((Fr.refl [] _).alloc _).drew
   | exact ((Fr.refl [] _).drewN _).alloc _
 case rest =>
  obtain ⟨rfl, r0, r1, r2, rz, f4⟩ := hcut
  have a0 := f4.keep d0 (by simp)
  have a1 := f4.keep d1 (by simp)
  have a2 := f4.keep d2 (by simp)
  have a3 := f4.keep d3 (by simp)
  have zy := cell_lt r0
  have hby : b ≠ w2.heap.size := by omega
  have hmy : m ≠ w2.heap.size := by omega
  have f5 : Fr [w2.heap.size] wc (wc.setCell ⟨w2.heap.size, 2, none⟩ (.int .u64 (g + 1))) := (Fr.refl _ _).setCell (fun _ => by simp) _
  have k0 : (wc.setCell ⟨w2.heap.size, 2, none⟩ (.int .u64 (g + 1))).cell? ⟨w2.heap.size, 0, none⟩ = some (.int .i64 v0) := by rw [World.cell?_setCell_other _ _ _ _ (by simp)]; exact r0
  have k1 : (wc.setCell ⟨w2.heap.size, 2, none⟩ (.int .u64 (g + 1))).cell? ⟨w2.heap.size, 1, none⟩ = some (.int .u64 pr) := by rw [World.cell?_setCell_other _ _ _ _ (by simp)]; exact r1
  have k2 : (wc.setCell ⟨w2.heap.size, 2, none⟩ (.int .u64 (g + 1))).cell? ⟨w2.heap.size, 2, none⟩ = some (.int .u64 (g + 1)) := World.cell?_setCell_same _ _ _ r2
  have k3 := f5.keep a3 (by simpa using hby)
  have k4 := f5.keep a1 (by simpa using hby)
  have hm5 : MapIs Tryz.prog 37 (wc.setCell ⟨w2.heap.size, 2, none⟩ (.int .u64 (g + 1))).drew m _ := (HM2.out.keep f4 (by simp)).keep f5.drew (by simpa using hmy)
  obtain ⟨w6, hrun, hm6, f6⟩ := hm5.set key64 (t := 210) (e := 222) Tryz.underlying210 (nodeV v0 pr (g + 1))
  simp only [nodeV, show (((g + 1 : Nat)) : Int) = (g : Int) + 1 from by omega] at hrun
  have f56 : Fr [w2.heap.size, m] wc w6 := ((f5.drew).mono (T := [w2.heap.size, m]) (fun x hx _ => by simp at hx; simp [hx])).trans f6 (fun x hx _ => by simp at hx; simp [hx])
  have hbx : b ∉ [w2.heap.size, m] := by simp; omega
  have j0 := f56.keep a0 hbx
  have j1 := f56.keep a1 hbx
  have j2 := f56.keep a2 hbx
  have j3 := f56.keep a3 hbx
  have jz : ∀ o, w6.frozen? ⟨b, o, none⟩ = w2.frozen? ⟨b, o, none⟩ := fun o => by
   rw [f56.frozen (by have := f4.size; omega) hbx, f4.frozen zb2 (by simp)]
  have q0 : w6.frozen? ⟨b, 0, none⟩ = false := by rw [jz]; exact y0
  have q1 : w6.frozen? ⟨b, 1, none⟩ = false := by rw [jz]; exact y1
  have q2 : w6.frozen? ⟨b, 2, none⟩ = false := by rw [jz]; exact y2
  have HM6 := Lib.hid hm6
  clear hm5 hm6 jz
  go_wp2
  go_region
  go_wp2
  go_ret2
  have f7 : Fr [b] w6 (w6.setCell ⟨b, 1, none⟩ (.int .u64 (g + 1))) := (Fr.refl _ _).setCell (fun _ => by simp) _
  have F6 : Fr [b, m] w2 w6 := (f4.mono (T := [b, m]) (fun x hx => by cases hx)).trans f56 (fun x hx hlt => by
   simp at hx
   rcases hx with rfl | rfl
   ·omega
   ·simp)
  refine ⟨rfl, ⟨?_, ?_, ?_, ?_, ?_, ?_, ?_, hne, ⟨_, HM6.out.keep f7 (by simp; omega), ?_⟩, ?_, ?_⟩, (F2.out.trans F6 (fun x hx _ => hx)).trans f7 (fun x hx _ => by simp at hx; simp [hx])⟩
  ·rw [World.cell?_setCell_other _ _ _ _ (by simp), headT_snoc _ _ _ (by simp)]; exact j0
  ·rw [lastT_snoc]; exact World.cell?_setCell_same _ _ _ j1
  ·rw [World.cell?_setCell_other _ _ _ _ (by simp)]; exact j2
  ·rw [World.cell?_setCell_other _ _ _ _ (by simp)]; exact j3
  ·simp [q0]
  ·simp [q1]
  ·simp [q2]
  ·rw [HHead.out.1]
   have e1 : (f1 ++ (Value.int .u64 t0, nodeV v0 pr (g + 1)) :: (f2 ++ [(Value.int .u64 (g + 1), nodeV v t0 0)])) = (f1 ++ (Value.int .u64 t0, nodeV v0 pr (g + 1)) :: f2) ++ [(Value.int .u64 (g + 1), nodeV v t0 0)] := by simp
   have e2 : A ++ [(Value.int .u64 t0, nodeV v0 pr (g + 1)), (Value.int .u64 ((g + 1 : Nat) : Int), nodeV v t0 0)] = (A ++ [(Value.int .u64 t0, nodeV v0 pr (g + 1))]) ++ [(Value.int .u64 ((g : Int) + 1), nodeV v t0 0)] := by simp
   rw [e1, e2]
   refine List.Perm.append_right _ ?_
   exact (List.perm_middle.trans (List.Perm.cons _ HHead.out.2)).trans (List.perm_append_comm (l₁ := [_]))
  ·intro x hx
   rcases List.mem_append.1 hx with q | q
   ·have := HTK.out x q
    omega
   ·simp at q
    subst q
    simp
  ·rw [List.map_append, List.pairwise_append]
   refine ⟨HSO.out, by simp, fun x hx z hz => ?_⟩
   obtain ⟨y, hy, rfl⟩ := List.mem_map.1 hx
   have := (HTK.out y hy).2
   simp at hz
   omega
theorem backNone_any {b q m t : Nat} {most : Int} {closed : Bool} {l : List (Nat × Int)} {g : Nat} (w : World) (h : BackIs w b q m t most closed l g) :
  Calls Tryz.prog 90 #[.pointer (some ⟨b, 0, none⟩)] w fun e w' => e = .returned (.bool false) ∧ w = w' := by
 have c0 := h.c0
 go_enter Tryz.func90, Tryz.ntmps90
 go_wp2
 go_ret
 exact ⟨rfl, rfl⟩
theorem backPop_empty (b q m t : Nat) (most : Int) (g : Nat) (w : World) (h : BackIs w b q m t most false [] g) :
  Calls Tryz.prog 54 #[.pointer (some ⟨b, 0, none⟩)] w fun e w' => e = .returned (.tuple #[.int .i64 0, .int .i64 16]) ∧ w' = w := by
 have c0 := h.c0
 have c2 := h.c2
 have H := Lib.hid (fifoPop_empty q m g w h.queue)
 have HN := Lib.hid (backNone_any w h)
 clear h
 go_enter Tryz.func54, Tryz.ntmps54
 go_wp2_with (first
  | (go_at_call 90; refine HN.out.mono ?_; rintro e w' ⟨rfl, rfl⟩)
  | (go_at_call 91; refine H.out.mono ?_; rintro e w' ⟨rfl, rfl⟩))
 go_ret2
 exact ⟨rfl, rfl⟩
theorem backPop_hit (b q m t tk : Nat) (most v : Int) (l : List (Nat × Int)) (g : Nat) (hg : g < 4611686018427387904) (w : World) (h : BackIs w b q m t most false ((tk, v) :: l) g) :
  Calls Tryz.prog 54 #[.pointer (some ⟨b, 0, none⟩)] w fun e w' => e = .returned (.tuple #[.int .i64 v, .int .i64 0]) ∧ BackIs w' b q m t most false l g ∧ Fr [q, m, t] w w' := by
 have c0 := h.c0
 have c2 := h.c2
 have c3 := h.c3
 obtain ⟨n1, n2, n3, n4, n5⟩ := h.ne
 obtain ⟨f, hmt, hp⟩ := h.tickets
 have hin : (Value.int .i64 v, Value.int .u64 tk) ∈ f := hp.symm.subset (by simp [tickV])
 obtain ⟨f1, f2, rfl⟩ := List.append_of_mem hin
 have hp2 : (f1 ++ f2).Perm (l.map tickV) := by
  have h1 := List.perm_middle.symm.trans hp
  simp only [List.map_cons, tickV] at h1
  exact List.Perm.cons_inv h1
 have H := Lib.hid (fifoPop_hit q m tk v l g hg w h.queue)
 have HN := Lib.hid (backNone_any w h)
 have HB := Lib.hid h
 clear h hp hin
 go_enter Tryz.func54, Tryz.ntmps54
 go_wp2_with (go_at_call 90; refine HN.out.mono ?_; rintro e w' ⟨rfl, rfl⟩)
 refine H.out.mono ?_
 rintro e w2 ⟨rfl, hq2, fq⟩
 have e3 := fq.keep c3 (by simp; omega)
 obtain ⟨w3, hdel, hm3, fd⟩ := (hmt.keep fq (by simp; omega)).del (T := 0) keyInt (t := 176) (e := 37) Tryz.underlying176
 have HM := Lib.hid (And.intro hm3 hp2)
 have f4 : Fr [q, m, t] w w3 := (fq.mono (T := [q, m, t]) (fun x hx _ => by simp at hx; simp; omega)).trans fd (fun x hx _ => by simp at hx; simp [hx])
 clear hm3 hp2 hmt
 go_wp2
 go_ret2
 have hb : b ∉ [q, m, t] := by simp; omega
 exact ⟨rfl, ⟨f4.keep HB.out.c0 hb, f4.keep HB.out.c1 hb, f4.keep HB.out.c2 hb, f4.keep HB.out.c3 hb, fun o => by rw [f4.frozen (cell_lt HB.out.c0) hb]; exact HB.out.free o, HB.out.ne, hq2.keep fd (by simp; omega) (by simp; omega), ⟨_, HM.out.1, HM.out.2⟩⟩, f4⟩
theorem fifoPush_any (b m : Nat) (v : Int) (l : List (Nat × Int)) (g : Nat) (hg : g < 4611686018427387904) (w : World) (h : FifoIs w b m l g) (hlen : l.length < 4096) :
  Calls Tryz.prog 134 #[.pointer (some ⟨b, 0, none⟩), .int .i64 v] w fun e w' => e = .returned (.tuple #[.int .u64 (g + 1), .int .i64 0]) ∧ FifoIs w' b m (l ++ [(g + 1, v)]) (g + 1) ∧ Fr [b, m] w w' := by
 rcases List.eq_nil_or_concat l with rfl | ⟨l0, x, rfl⟩
 ·exact fifoPush_empty b m v g hg w h
 ·rw [List.concat_eq_append] at h hlen ⊢
  exact fifoPush_more b m x.1 v x.2 l0 g hg w h hlen
theorem backPush_any (b q m t : Nat) (most : Int) (l : List (Nat × Int)) (g : Nat) (conn : Int) (w : World) (h : BackIs w b q m t most false l g) (hlen : (l.length : Int) < most) (hm' : most ≤ 128) (hg : g < 4611686018427387904) (hc : 0 ≤ conn) (hc' : conn ≤ 1000000) (hnew : ∀ x ∈ l, x.2 ≠ conn) :
  Calls Tryz.prog 113 #[.pointer (some ⟨b, 0, none⟩), .int .i64 conn] w fun e w' => e = .returned (.int .i64 0) ∧ BackIs w' b q m t most false (l ++ [(g + 1, conn)]) (g + 1) ∧ Fr [q, m, t] w w' := by
 have c0 := h.c0
 have c1 := h.c1
 have c2 := h.c2
 have c3 := h.c3
 have hq := h.queue
 obtain ⟨n1, n2, n3, n4, n5⟩ := h.ne
 obtain ⟨f, hmt, hp⟩ := h.tickets
 have hx : ∀ p ∈ f, p.1 ≠ .int .i64 conn := fun p hp' => by
  obtain ⟨x, hx, rfl⟩ := List.mem_map.1 (hp.subset hp')
  intro e
  simp only [tickV] at e
  injection e with _ e
  exact hnew x hx e
 have hlk := hmt.miss keyInt (t := 176) (e := 37) Tryz.underlying176 (x := .int .i64 conn) (keyInt_of conn (by omega) (by omega)) hx (zeroU64 w) true
 simp only [if_true] at hlk
 have hq0 : ((l.length : Int) == most) = false := by rw [beq_eq_false_iff_ne]; omega
 have hln := hlen
 generalize hll : l.length = ll at hq0 hln
 have HLL := Lib.hid hll
 have HQ := Lib.hid hq
 have HB := Lib.hid h
 have HMT := Lib.hid (And.intro hmt (And.intro hp hx))
 have HL := Lib.hid (fun n => by have := fifoLen_any q m l g _ (hq.drewN n); rw [HLL.out] at this; exact this)
 clear hll hq h hmt hp hx hlen hnew
 go_enter Tryz.func113, Tryz.ntmps113
 go_wp2
 go_quiet ((go_at_call 132; exact Calls.quiet_of_same (HL.out _)))
 go_wp2_with fail
 refine (fifoPush_any q m conn l g hg _ (HQ.out.drewN nq) (by rw [HLL.out]; omega)).mono ?_
 rintro e w2 ⟨rfl, hq2, f2⟩
 have c3' := f2.keep (w := w.drewN nq) c3 (by simp; omega)
 obtain ⟨w3, hrun, hmt3, f3⟩ := ((HMT.out.1.drewN nq).keep f2 (by simp; omega)).put keyInt (t := 176) (e := 37) Tryz.underlying176 (x := .int .i64 conn) (keyInt_of conn (by omega) (by omega)) HMT.out.2.2 (.int .u64 (g + 1))
 have HM3 := Lib.hid hmt3
 clear hmt3
 go_wp2
 go_ret
 have fd : Fr [] w (w.drewN nq) := (Fr.refl [] w).drewN nq
 have f4 : Fr [q, m, t] w w3 := ((fd.mono (T := [q, m, t]) (fun x hx => by cases hx)).trans f2 (fun x hx _ => by simp at hx; simp; omega)).trans f3 (fun x hx _ => by simp at hx; simp [hx])
 have hb : b ∉ [q, m, t] := by simp; omega
 exact ⟨rfl, ⟨f4.keep HB.out.c0 hb, f4.keep HB.out.c1 hb, f4.keep HB.out.c2 hb, f4.keep HB.out.c3 hb, fun o => by rw [f4.frozen (cell_lt HB.out.c0) hb]; exact HB.out.free o, HB.out.ne, hq2.keep f3 (by simp; omega) (by simp; omega), ⟨_, HM3.out, by rw [List.map_append]; exact HMT.out.2.1.append_right _⟩⟩, f4⟩
end Go.Proofs.YtgbmenfmaphciaaGreat
