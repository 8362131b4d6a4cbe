/- Contracts of backlog's Pop, and of Push at whatever backlog. -/
import Derived.Test.YtmdhlodafjpnmaaGreatBacklog
import Derived.Test.YtmdhlodafjpnmaaGreatFifo3
namespace Go.Proofs.YtmdhlodafjpnmaaGreat
open Go.RowKit
open Go.Maps (Keyed)
set_option linter.unusedVariables false
set_option maxRecDepth 100000
set_option maxHeartbeats 4000000

theorem backNone_any {b q m t : Nat} {most : Int} {closed : Bool} {l : List (Nat × Int)} {g : Nat} (w : World) (h : BackIs w b q m t most closed l g) :
    Calls Tryz.prog 106 #[.pointer (some ⟨b, 0, none⟩)] w fun e w' => e = .returned (.bool false) ∧ w = w' := by
  have c0 := h.c0
  go_enter Tryz.func106, Tryz.ntmps106
  go_wp2
  go_ret
  exact ⟨rfl, rfl⟩
theorem backPop_empty (b q m t : Nat) (most : Int) (g : Nat) (w : World) (h : BackIs w b q m t most false [] g) :
    Calls Tryz.prog 84 #[.pointer (some ⟨b, 0, none⟩)] w fun e w' => e = .returned (.tuple #[.int .i64 0, .int .i64 16]) ∧ w' = w := by
  have c0 := h.c0
  have c2 := h.c2
  have H := Lib.hid (fifoPop_empty q m g w h.queue)
  have HN := Lib.hid (backNone_any w h)
  clear h
  go_enter Tryz.func84, Tryz.ntmps84
  go_wp2_with (first
    | (go_at_call 106; refine HN.out.mono ?_; rintro e w' ⟨rfl, rfl⟩)
    | (go_at_call 128; refine H.out.mono ?_; rintro e w' ⟨rfl, rfl⟩))
  go_ret2
  exact ⟨rfl, rfl⟩
theorem backPop_hit (b q m t tk : Nat) (most v : Int) (l : List (Nat × Int)) (g : Nat) (hg : g < 4611686018427387904) (w : World) (h : BackIs w b q m t most false ((tk, v) :: l) g) :
    Calls Tryz.prog 84 #[.pointer (some ⟨b, 0, none⟩)] w fun e w' => e = .returned (.tuple #[.int .i64 v, .int .i64 0]) ∧ BackIs w' b q m t most false l g ∧ Fr [q, m, t] w w' := by
  have c0 := h.c0
  have c2 := h.c2
  have c3 := h.c3
  obtain ⟨n1, n2, n3, n4, n5⟩ := h.ne
  obtain ⟨f, hmt, hp⟩ := h.tickets
  have hin : (Value.int .i64 v, Value.int .u64 tk) ∈ f := hp.symm.subset (by simp [tickV])
  obtain ⟨f1, f2, rfl⟩ := List.append_of_mem hin
  have hp2 : (f1 ++ f2).Perm (l.map tickV) := by
    have h1 := List.perm_middle.symm.trans hp
    simp only [List.map_cons, tickV] at h1
    exact List.Perm.cons_inv h1
  have H := Lib.hid (fifoPop_hit q m tk v l g hg w h.queue)
  have HN := Lib.hid (backNone_any w h)
  have HB := Lib.hid h
  clear h hp hin
  go_enter Tryz.func84, Tryz.ntmps84
  go_wp2_with (go_at_call 106; refine HN.out.mono ?_; rintro e w' ⟨rfl, rfl⟩)
  refine H.out.mono ?_
  rintro e w2 ⟨rfl, hq2, fq⟩
  have e3 := fq.keep c3 (by simp; omega)
  obtain ⟨w3, hdel, hm3, fd⟩ := (hmt.keep fq (by simp; omega)).del (T := 0) keyInt (t := 175) (e := 181) Tryz.underlying175
  have HM := Lib.hid (And.intro hm3 hp2)
  have f4 : Fr [q, m, t] w w3 := (fq.mono (T := [q, m, t]) (fun x hx _ => by simp at hx; simp; omega)).trans fd (fun x hx _ => by simp at hx; simp [hx])
  clear hm3 hp2 hmt
  go_wp2
  go_ret2
  have hb : b ∉ [q, m, t] := by simp; omega
  exact ⟨rfl, ⟨f4.keep HB.out.c0 hb, f4.keep HB.out.c1 hb, f4.keep HB.out.c2 hb, f4.keep HB.out.c3 hb, fun o => by rw [f4.frozen (cell_lt HB.out.c0) hb]; exact HB.out.free o, HB.out.ne, hq2.keep fd (by simp; omega) (by simp; omega), ⟨_, HM.out.1, HM.out.2⟩⟩, f4⟩

theorem fifoPush_any (b m : Nat) (v : Int) (l : List (Nat × Int)) (g : Nat) (hg : g < 4611686018427387904) (w : World) (h : FifoIs w b m l g) (hlen : l.length < 4096) :
    Calls Tryz.prog 124 #[.pointer (some ⟨b, 0, none⟩), .int .i64 v] w fun e w' => e = .returned (.tuple #[.int .u64 (g + 1), .int .i64 0]) ∧ FifoIs w' b m (l ++ [(g + 1, v)]) (g + 1) ∧ Fr [b, m] w w' := by
  rcases List.eq_nil_or_concat l with rfl | ⟨l0, x, rfl⟩
  · exact fifoPush_empty b m v g hg w h
  · rw [List.concat_eq_append] at h hlen ⊢
    exact fifoPush_more b m x.1 v x.2 l0 g hg w h hlen
theorem backPush_any (b q m t : Nat) (most : Int) (l : List (Nat × Int)) (g : Nat) (conn : Int) (w : World) (h : BackIs w b q m t most false l g) (hlen : (l.length : Int) < most) (hm' : most ≤ 128) (hg : g < 4611686018427387904) (hc : 0 ≤ conn) (hc' : conn ≤ 1000000) (hnew : ∀ x ∈ l, x.2 ≠ conn) :
    Calls Tryz.prog 76 #[.pointer (some ⟨b, 0, none⟩), .int .i64 conn] w fun e w' => e = .returned (.int .i64 0) ∧ BackIs w' b q m t most false (l ++ [(g + 1, conn)]) (g + 1) ∧ Fr [q, m, t] w w' := by
  have c0 := h.c0
  have c1 := h.c1
  have c2 := h.c2
  have c3 := h.c3
  have hq := h.queue
  obtain ⟨n1, n2, n3, n4, n5⟩ := h.ne
  obtain ⟨f, hmt, hp⟩ := h.tickets
  have hx : ∀ p ∈ f, p.1 ≠ .int .i64 conn := fun p hp' => by
    obtain ⟨x, hx, rfl⟩ := List.mem_map.1 (hp.subset hp')
    intro e
    simp only [tickV] at e
    injection e with _ e
    exact hnew x hx e
  have hlk := hmt.miss keyInt (t := 175) (e := 181) Tryz.underlying175 (x := .int .i64 conn) (keyInt_of conn (by omega) (by omega)) hx (zeroU64 w) true
  simp only [if_true] at hlk
  have hq0 : ((l.length : Int) == most) = false := by rw [beq_eq_false_iff_ne]; omega
  have hln := hlen
  generalize hll : l.length = ll at hq0 hln
  have HLL := Lib.hid hll
  have HQ := Lib.hid hq
  have HB := Lib.hid h
  have HMT := Lib.hid (And.intro hmt (And.intro hp hx))
  have HL := Lib.hid (fun n => by have := fifoLen_any q m l g _ (hq.drewN n); rw [HLL.out] at this; exact this)
  clear hll hq h hmt hp hx hlen hnew
  go_enter Tryz.func76, Tryz.ntmps76
  go_wp2
  go_quiet ((go_at_call 123; exact Calls.quiet_of_same (HL.out _)))
  go_wp2_with fail
  refine (fifoPush_any q m conn l g hg _ (HQ.out.drewN nq) (by rw [HLL.out]; omega)).mono ?_
  rintro e w2 ⟨rfl, hq2, f2⟩
  have c3' := f2.keep (w := w.drewN nq) c3 (by simp; omega)
  obtain ⟨w3, hrun, hmt3, f3⟩ := ((HMT.out.1.drewN nq).keep f2 (by simp; omega)).put keyInt (t := 175) (e := 181) Tryz.underlying175 (x := .int .i64 conn) (keyInt_of conn (by omega) (by omega)) HMT.out.2.2 (.int .u64 (g + 1))
  have HM3 := Lib.hid hmt3
  clear hmt3
  go_wp2
  go_ret
  have fd : Fr [] w (w.drewN nq) := (Fr.refl [] w).drewN nq
  have f4 : Fr [q, m, t] w w3 := ((fd.mono (T := [q, m, t]) (fun x hx => by cases hx)).trans f2 (fun x hx _ => by simp at hx; simp; omega)).trans f3 (fun x hx _ => by simp at hx; simp [hx])
  have hb : b ∉ [q, m, t] := by simp; omega
  exact ⟨rfl, ⟨f4.keep HB.out.c0 hb, f4.keep HB.out.c1 hb, f4.keep HB.out.c2 hb, f4.keep HB.out.c3 hb, fun o => by rw [f4.frozen (cell_lt HB.out.c0) hb]; exact HB.out.free o, HB.out.ne, hq2.keep f3 (by simp; omega) (by simp; omega), ⟨_, HM3.out, by rw [List.map_append]; exact HMT.out.2.1.append_right _⟩⟩, f4⟩
end Go.Proofs.YtmdhlodafjpnmaaGreat
