/- Contracts of fifo's Pop, and of Push at a queue that is not empty. -/
import Derived.Test.YtmdhlodafjpnmaaGreatFifo2
namespace Go.Proofs.YtmdhlodafjpnmaaGreat
open Go.RowKit
open Go.Maps (Keyed)
set_option linter.unusedVariables false
set_option maxRecDepth 100000
set_option maxHeartbeats 4000000

theorem fifoPop_empty (b m g : Nat) (w : World) (h : FifoIs w b m [] g) :
    Calls Tryz.prog 128 #[.pointer (some ⟨b, 0, none⟩)] w fun e w' => e = .returned (.tuple #[.int .i64 0, .int .u64 0, .int .i64 9]) ∧ w' = w := by
  have H := Lib.hid (fifoFront_empty b m g w h)
  go_enter Tryz.func128, Tryz.ntmps128
  go_wp2_with (go_at_call 157; refine H.out.mono ?_; rintro e w' ⟨rfl, rfl⟩)
  go_ret3
  exact ⟨rfl, rfl⟩
theorem fifoPop_hit (b m t : Nat) (v : Int) (l : List (Nat × Int)) (g : Nat) (hg : g < 4611686018427387904) (w : World) (h : FifoIs w b m ((t, v) :: l) g) :
    Calls Tryz.prog 128 #[.pointer (some ⟨b, 0, none⟩)] w fun e w' => e = .returned (.tuple #[.int .i64 v, .int .u64 t, .int .i64 0]) ∧ FifoIs w' b m l g ∧ Fr [b, m] w w' := by
  have H := Lib.hid (fifoFront_hit b m t v l g hg w h)
  have HR := Lib.hid (fun n => fifoRemove_head b m t v l g hg (w.drewN n) (by exact ⟨h.c0, h.c1, h.c2, h.c3, h.z0, h.z1, h.z2, h.ne, h.nodes, h.tickets, h.sorted⟩))
  go_enter Tryz.func128, Tryz.ntmps128
  go_wp2_with fail
  refine H.out.mono ?_
  rintro e w1 ⟨rfl, n, rfl⟩
  go_wp2_with fail
  refine (HR.out n).mono ?_
  rintro e w2 ⟨rfl, h2, f2⟩
  go_wp2_with fail
  go_ret3
  exact ⟨rfl, h2, ⟨f2.os, f2.tape, f2.output, f2.size, f2.block⟩⟩

theorem fifoPush_more (b m t0 : Nat) (v v0 : Int) (l0 : List (Nat × Int)) (g : Nat) (hg : g < 4611686018427387904) (w : World) (h : FifoIs w b m (l0 ++ [(t0, v0)]) g) (hlen : (l0 ++ [(t0, v0)]).length < 4096) :
    Calls Tryz.prog 124 #[.pointer (some ⟨b, 0, none⟩), .int .i64 v] w fun e w' => e = .returned (.tuple #[.int .u64 (g + 1), .int .i64 0]) ∧ FifoIs w' b m (l0 ++ [(t0, v0)] ++ [(g + 1, v)]) (g + 1) ∧ Fr [b, m] w w' := by
  obtain ⟨f, hm, hp⟩ := h.nodes
  have c0 := h.c0
  have c1 := h.c1
  have c2 := h.c2
  have c3 := h.c3
  have z0 := h.z0
  have z1 := h.z1
  have z2 := h.z2
  have hne := h.ne
  obtain ⟨ht1, ht2⟩ := h.tickets (t0, v0) (by simp)
  simp only at ht1 ht2
  rw [lastT_snoc] at c1
  have HTK := Lib.hid h.tickets
  have HSO := Lib.hid h.sorted
  have HZ := Lib.hid (fifoZero_any b m _ g w h)
  obtain ⟨A, pr, hA1, hA2⟩ := nodes_snoc l0 0 (g + 1) v t0 v0
  have hnew : ∀ p ∈ f, p.1 ≠ .int .u64 ((g : Int) + 1) := fun p hp' => by
    have h1 : p.1 ∈ (nodesOf 0 (l0 ++ [(t0, v0)])).map (·.1) := List.mem_map.2 ⟨p, hp.subset hp', rfl⟩
    rw [keys_nodes] at h1
    obtain ⟨x, hx, hxe⟩ := List.mem_map.1 h1
    have := (HTK.out x hx).2
    rw [← hxe]
    intro e
    injection e with _ e
    omega
  have hlf : f.length < 4096 := by rw [hp.length_eq, nodesOf_length]; exact hlen
  rw [hA1] at hp
  have hin : (Value.int .u64 t0, nodeV v0 pr 0) ∈ f := hp.symm.subset (by simp)
  obtain ⟨f1, f2, rfl⟩ := List.append_of_mem hin
  have hp2 : (f1 ++ f2).Perm A := by
    have h1 := List.perm_middle.symm.trans (hp.trans List.perm_append_comm)
    exact List.Perm.cons_inv h1
  have hl := hm.len (e := 230) (t := 226) Tryz.underlying226
  have hge : ¬ (4096 ≤ ((f1 ++ (Value.int .u64 t0, nodeV v0 pr 0) :: f2).length : Int)) := by omega
  generalize (f1 ++ (Value.int .u64 t0, nodeV v0 pr 0) :: f2).length = fl at hl hge hlf
  have hnz : ((t0 : Int) == 0) = false := by rw [beq_eq_false_iff_ne]; omega
  have fs : Fr [b] w (w.setCell ⟨b, 2, none⟩ (.int .u64 (g + 1))).drew := ((Fr.refl _ _).setCell (fun _ => by simp) _).drew
  have hm1 := hm.keep fs (by simp; omega)
  obtain ⟨w2, hrun, hm2, fp⟩ := hm1.put key64 (t := 226) (e := 230) Tryz.underlying226 (x := .int .u64 (g + 1)) (key64_of _ (by omega) (by omega)) hnew (nodeV v t0 0)
  simp only [nodeV, show ((0 : Nat) : Int) = 0 from rfl] at hrun
  rw [List.append_assoc, List.cons_append] at hm2
  have zb := cell_lt c0
  have hbm : b ∉ [m] := by simpa using hne
  have d0 : w2.cell? ⟨b, 0, none⟩ = some (.int .u64 (headT (l0 ++ [(t0, v0)]))) := fp.keep (by rw [World.cell?_drew, World.cell?_setCell_other _ _ _ _ (by simp)]; exact c0) hbm
  have d1 : w2.cell? ⟨b, 1, none⟩ = some (.int .u64 t0) := fp.keep (by rw [World.cell?_drew, World.cell?_setCell_other _ _ _ _ (by simp)]; exact c1) hbm
  have d2 : w2.cell? ⟨b, 2, none⟩ = some (.int .u64 (g + 1)) := fp.keep (by rw [World.cell?_drew]; exact World.cell?_setCell_same _ _ _ c2) hbm
  have d3 : w2.cell? ⟨b, 3, none⟩ = some (.map (some m)) := fp.keep (by rw [World.cell?_drew, World.cell?_setCell_other _ _ _ _ (by simp)]; exact c3) hbm
  have y : ∀ o, w2.frozen? ⟨b, o, none⟩ = w.frozen? ⟨b, o, none⟩ := fun o => by
    rw [fp.frozen (by simpa using zb) hbm]
    simp
  have y0 : w2.frozen? ⟨b, 0, none⟩ = false := by rw [y]; exact z0
  have y1 : w2.frozen? ⟨b, 1, none⟩ = false := by rw [y]; exact z1
  have y2 : w2.frozen? ⟨b, 2, none⟩ = false := by rw [y]; exact z2
  have F2 := Lib.hid ((fs.mono (T := [b, m]) (fun x hx _ => by simp at hx; simp [hx])).trans fp (fun x hx _ => by simp at hx; simp [hx]))
  have HHead := Lib.hid (And.intro hA2 hp2)
  have HM2 := Lib.hid hm2
  clear y h hm hm1 hp hin hA1 hA2 hp2 hm2 hnew
  go_enter Tryz.func124, Tryz.ntmps124
  go_wp2_with (go_at_call 155; refine HZ.out.mono ?_; rintro e w' ⟨rfl, rfl⟩)
  go_region
  clear hrun hl c0 c1 c2 c3 z0 z1 z2 fs fp
  go_wp2_with fail
  have zm2 := HM2.out.lt
  have zb2 := cell_lt d0
  have HK := Lib.hid (fun (W : World) (fr : Fr [] w2 W) => And.intro (fr.keep d3 (by simp)) (And.intro (fr.keep d1 (by simp)) (by
    have := (HM2.out.keep fr (by simp)).hit key64 (t := 226) (e := 230) Tryz.underlying226 (x := .int .u64 t0) (v := nodeV v0 pr 0) (by simp) false
    simp only [Bool.false_eq_true, if_false, nodeV, show ((0 : Nat) : Int) = 0 from rfl] at this
    exact this : (Instr.lookup 226 (.map (some m)) (.int .u64 t0) false).run Tryz.prog W = .ok (.agg #[.int .i64 v0, .int .u64 pr, .int .u64 0]) W)))
  go_cut [6] from 57 to 66 (fun s wc => s = .pointer (some ⟨w2.heap.size, 0, none⟩) ∧ wc.cell? ⟨w2.heap.size, 0, none⟩ = some (.int .i64 v0) ∧ wc.cell? ⟨w2.heap.size, 1, none⟩ = some (.int .u64 pr) ∧ wc.cell? ⟨w2.heap.size, 2, none⟩ = some (.int .u64 0) ∧ wc.frozen? ⟨w2.heap.size, 2, none⟩ = false ∧ Fr [] w2 wc)
  case first =>
    go_region_held3 (fun w' => w'.cell? ⟨b, 3, none⟩ = some (.map (some m)) ∧ w'.cell? ⟨b, 1, none⟩ = some (.int .u64 t0) ∧ (Instr.lookup 226 (.map (some m)) (.int .u64 t0) false).run Tryz.prog w' = .ok (.agg #[.int .i64 v0, .int .u64 pr, .int .u64 0]) w')
      (first
        | exact HK.out _ ((Fr.refl [] _).drew)
        | exact HK.out _ (((Fr.refl [] _).drew).alloc _)
        | exact HK.out _ ((((Fr.refl [] _).alloc _).drew)))
      (fail)
    all_goals go_wp2
    all_goals go_meet
    case' rel => skip
    all_goals refine ⟨rfl, by simp, by simp, by simp, by simp, ?_⟩
    all_goals first
      | exact ((Fr.refl [] _).drew).alloc _
      | exact ((Fr.refl [] _).alloc _).drew
      | exact ((Fr.refl [] _).drewN _).alloc _
  case rest =>
    obtain ⟨rfl, r0, r1, r2, rz, f4⟩ := hcut
    have a0 := f4.keep d0 (by simp)
    have a1 := f4.keep d1 (by simp)
    have a2 := f4.keep d2 (by simp)
    have a3 := f4.keep d3 (by simp)
    have zy := cell_lt r0
    have hby : b ≠ w2.heap.size := by omega
    have hmy : m ≠ w2.heap.size := by omega
    have f5 : Fr [w2.heap.size] wc (wc.setCell ⟨w2.heap.size, 2, none⟩ (.int .u64 (g + 1))) := (Fr.refl _ _).setCell (fun _ => by simp) _
    have k0 : (wc.setCell ⟨w2.heap.size, 2, none⟩ (.int .u64 (g + 1))).cell? ⟨w2.heap.size, 0, none⟩ = some (.int .i64 v0) := by rw [World.cell?_setCell_other _ _ _ _ (by simp)]; exact r0
    have k1 : (wc.setCell ⟨w2.heap.size, 2, none⟩ (.int .u64 (g + 1))).cell? ⟨w2.heap.size, 1, none⟩ = some (.int .u64 pr) := by rw [World.cell?_setCell_other _ _ _ _ (by simp)]; exact r1
    have k2 : (wc.setCell ⟨w2.heap.size, 2, none⟩ (.int .u64 (g + 1))).cell? ⟨w2.heap.size, 2, none⟩ = some (.int .u64 (g + 1)) := World.cell?_setCell_same _ _ _ r2
    have k3 := f5.keep a3 (by simpa using hby)
    have k4 := f5.keep a1 (by simpa using hby)
    have hm5 : MapIs Tryz.prog 181 (wc.setCell ⟨w2.heap.size, 2, none⟩ (.int .u64 (g + 1))).drew m _ := (HM2.out.keep f4 (by simp)).keep f5.drew (by simpa using hmy)
    obtain ⟨w6, hrun, hm6, f6⟩ := hm5.set key64 (t := 226) (e := 230) Tryz.underlying226 (nodeV v0 pr (g + 1))
    simp only [nodeV, show (((g + 1 : Nat)) : Int) = (g : Int) + 1 from by omega] at hrun
    have f56 : Fr [w2.heap.size, m] wc w6 := ((f5.drew).mono (T := [w2.heap.size, m]) (fun x hx _ => by simp at hx; simp [hx])).trans f6 (fun x hx _ => by simp at hx; simp [hx])
    have hbx : b ∉ [w2.heap.size, m] := by simp; omega
    have j0 := f56.keep a0 hbx
    have j1 := f56.keep a1 hbx
    have j2 := f56.keep a2 hbx
    have j3 := f56.keep a3 hbx
    have jz : ∀ o, w6.frozen? ⟨b, o, none⟩ = w2.frozen? ⟨b, o, none⟩ := fun o => by
      rw [f56.frozen (by have := f4.size; omega) hbx, f4.frozen zb2 (by simp)]
    have q0 : w6.frozen? ⟨b, 0, none⟩ = false := by rw [jz]; exact y0
    have q1 : w6.frozen? ⟨b, 1, none⟩ = false := by rw [jz]; exact y1
    have q2 : w6.frozen? ⟨b, 2, none⟩ = false := by rw [jz]; exact y2
    have HM6 := Lib.hid hm6
    clear hm5 hm6 jz
    go_wp2
    go_region
    go_wp2
    go_ret2
    have f7 : Fr [b] w6 (w6.setCell ⟨b, 1, none⟩ (.int .u64 (g + 1))) := (Fr.refl _ _).setCell (fun _ => by simp) _
    have F6 : Fr [b, m] w2 w6 := (f4.mono (T := [b, m]) (fun x hx => by cases hx)).trans f56 (fun x hx hlt => by
      simp at hx
      rcases hx with rfl | rfl
      · omega
      · simp)
    refine ⟨rfl, ⟨?_, ?_, ?_, ?_, ?_, ?_, ?_, hne, ⟨_, HM6.out.keep f7 (by simp; omega), ?_⟩, ?_, ?_⟩, (F2.out.trans F6 (fun x hx _ => hx)).trans f7 (fun x hx _ => by simp at hx; simp [hx])⟩
    · rw [World.cell?_setCell_other _ _ _ _ (by simp), headT_snoc _ _ _ (by simp)]; exact j0
    · rw [lastT_snoc]; exact World.cell?_setCell_same _ _ _ j1
    · rw [World.cell?_setCell_other _ _ _ _ (by simp)]; exact j2
    · rw [World.cell?_setCell_other _ _ _ _ (by simp)]; exact j3
    · simp [q0]
    · simp [q1]
    · simp [q2]
    · rw [HHead.out.1]
      have e1 : (f1 ++ (Value.int .u64 t0, nodeV v0 pr (g + 1)) :: (f2 ++ [(Value.int .u64 (g + 1), nodeV v t0 0)])) = (f1 ++ (Value.int .u64 t0, nodeV v0 pr (g + 1)) :: f2) ++ [(Value.int .u64 (g + 1), nodeV v t0 0)] := by simp
      have e2 : A ++ [(Value.int .u64 t0, nodeV v0 pr (g + 1)), (Value.int .u64 ((g + 1 : Nat) : Int), nodeV v t0 0)] = (A ++ [(Value.int .u64 t0, nodeV v0 pr (g + 1))]) ++ [(Value.int .u64 ((g : Int) + 1), nodeV v t0 0)] := by simp
      rw [e1, e2]
      refine List.Perm.append_right _ ?_
      exact (List.perm_middle.trans (List.Perm.cons _ HHead.out.2)).trans (List.perm_append_comm (l₁ := [_]))
    · intro x hx
      rcases List.mem_append.1 hx with q | q
      · have := HTK.out x q
        omega
      · simp at q
        subst q
        simp
    · rw [List.map_append, List.pairwise_append]
      refine ⟨HSO.out, by simp, fun x hx z hz => ?_⟩
      obtain ⟨y, hy, rfl⟩ := List.mem_map.1 hx
      have := (HTK.out y hy).2
      simp at hz
      omega
end Go.Proofs.YtmdhlodafjpnmaaGreat
