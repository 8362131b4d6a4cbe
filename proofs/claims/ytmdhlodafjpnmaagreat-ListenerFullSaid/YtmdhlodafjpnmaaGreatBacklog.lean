/- Contracts of backlog's New, Room and Push over a backlog's cells, its queue and its map of tickets. -/
import Derived.Test.YtmdhlodafjpnmaaGreatFifo
namespace Go.Proofs.YtmdhlodafjpnmaaGreat
open Go.RowKit
open Go.Maps (Keyed)
set_option linter.unusedVariables false

theorem keyInt : Keyed Tryz.prog 3 := Maps.int_keyed Tryz.underlying3
theorem keyInt_of (x : Int) (h0 : -9223372036854775808 ≤ x) (h1 : x ≤ 9223372036854775807) : keyOf Tryz.prog 3 (.int .i64 x) = some (.int .i64 x) :=
  Maps.keyOf_int_mk Tryz.underlying3 (by simp [Lit.wf, IntKind.min, IntKind.max, IntKind.signed, IntKind.bits]; omega)
theorem zeroU64 (w : World) : (zeroValue 181).run Tryz.prog w = .ok (.int .u64 0) w := by kernel_rfl

theorem retI {k : IntKind} {a b : Int} (h : a = b) : Ending.returned (.int k a) = .returned (.int k b) := by rw [h]
theorem FifoIs.drewN {w : World} {b m : Nat} {l : List (Nat × Int)} {g : Nat} (h : FifoIs w b m l g) (n : Nat) : FifoIs (w.drewN n) b m l g :=
  ⟨h.c0, h.c1, h.c2, h.c3, h.z0, h.z1, h.z2, h.ne, h.nodes, h.tickets, h.sorted⟩

def tickV (x : Nat × Int) : Value × Value := (.int .i64 x.2, .int .u64 x.1)
/-- A backlog in block b: its queue in q with nodes in m, its tickets in t. -/
structure BackIs (w : World) (b q m t : Nat) (most : Int) (closed : Bool) (l : List (Nat × Int)) (g : Nat) : Prop where
  c0 : w.cell? ⟨b, 0, none⟩ = some (.pointer (some ⟨q, 0, none⟩))
  c1 : w.cell? ⟨b, 1, none⟩ = some (.int .i64 most)
  c2 : w.cell? ⟨b, 2, none⟩ = some (.bool closed)
  c3 : w.cell? ⟨b, 3, none⟩ = some (.map (some t))
  free : ∀ o, w.frozen? ⟨b, o, none⟩ = false
  ne : b ≠ q ∧ b ≠ m ∧ b ≠ t ∧ q ≠ t ∧ m ≠ t
  queue : FifoIs w q m l g
  tickets : ∃ f, MapIs Tryz.prog 3 w t f ∧ f.Perm (l.map tickV)
theorem BackIs.keep {S : List Nat} {w w' : World} {b q m t : Nat} {most : Int} {closed : Bool} {l : List (Nat × Int)} {g : Nat} (h : BackIs w b q m t most closed l g) (hf : Fr S w w') (hb : b ∉ S) (hq : q ∉ S) (hm : m ∉ S) (ht : t ∉ S) : BackIs w' b q m t most closed l g := by
  obtain ⟨f, h1, h2⟩ := h.tickets
  exact ⟨hf.keep h.c0 hb, hf.keep h.c1 hb, hf.keep h.c2 hb, hf.keep h.c3 hb, fun o => by rw [hf.frozen (cell_lt h.c0) hb]; exact h.free o, h.ne, h.queue.keep hf hq hm, ⟨f, h1.keep hf ht, h2⟩⟩
theorem BackIs.drewN {w : World} {b q m t : Nat} {most : Int} {closed : Bool} {l : List (Nat × Int)} {g : Nat} (h : BackIs w b q m t most closed l g) (n : Nat) : BackIs (w.drewN n) b q m t most closed l g :=
  ⟨h.c0, h.c1, h.c2, h.c3, h.free, h.ne, h.queue.drewN n, h.tickets⟩

set_option maxRecDepth 100000 in
set_option maxHeartbeats 400000 in
theorem backNew_bad (most : Int) (w : World) (h : most < 1 ∨ 128 < most) :
    Calls Tryz.prog 74 #[.int .i64 most] w fun e w' => e = .returned (.tuple #[.pointer none, .int .i64 2]) ∧ w = w' := by
  rcases h with h | h
  · go_enter Tryz.func74, Tryz.ntmps74
    go_wp2
    go_ret2
    exact ⟨rfl, rfl⟩
  · have h' : ¬ most < 1 := by omega
    go_enter Tryz.func74, Tryz.ntmps74
    go_wp2
    go_ret2
    exact ⟨rfl, rfl⟩
set_option maxRecDepth 100000 in
set_option maxHeartbeats 400000 in
theorem backNew_ok (most : Int) (w : World) (h : ¬ most < 1) (h' : ¬ 128 < most) :
    Calls Tryz.prog 74 #[.int .i64 most] w fun e w' => ∃ b q m t, e = .returned (.tuple #[.pointer (some ⟨b, 0, none⟩), .int .i64 0]) ∧ BackIs w' b q m t most false [] 0 ∧ Fr [] w w' ∧ w.heap.size ≤ b ∧ w.heap.size ≤ q ∧ w.heap.size ≤ m ∧ w.heap.size ≤ t := by
  have hmm := @run_makeMap Tryz.prog
  go_enter Tryz.func74, Tryz.ntmps74
  go_wp2_with (go_at_call 121; refine (fifoNew_any _).mono ?_; rintro e w1 ⟨rfl, q1, f1⟩)
  go_ret2
  have hlt := cell_lt q1.c0
  have f2 : Fr [] w1 ((w1.alloc (.map #[] 0)).alloc (.cells #[.pointer (some ⟨w.heap.size + 1, 0, none⟩), .int .i64 most, .bool false, .map (some w1.heap.size)] 177)) := ((Fr.refl [] w1).alloc _).alloc _
  refine ⟨w1.heap.size + 1, w.heap.size + 1, w.heap.size, w1.heap.size, rfl, ⟨by simp, by simp, by simp, by simp, fun o => by simp, ⟨by omega, by omega, by omega, by omega, by omega⟩, q1.keep f2 (by simp) (by simp), ⟨[], ?_, by simp⟩⟩, f1.step f2, by omega, by omega, by omega, by omega⟩
  exact (MapIs.made Tryz.prog 3 w1).keep ((Fr.refl [] _).alloc _) (by simp)

set_option maxRecDepth 100000 in
set_option maxHeartbeats 400000 in
theorem backRoom_any (b q m t : Nat) (most : Int) (l : List (Nat × Int)) (g : Nat) (w : World) (h : BackIs w b q m t most false l g) (hm : 0 ≤ most) (hm' : most ≤ 128) (hl : l.length ≤ 128) :
    Calls Tryz.prog 81 #[.pointer (some ⟨b, 0, none⟩)] w fun e w' => e = .returned (.int .i64 (most - l.length)) ∧ ∃ n, w' = w.drewN n := by
  have c0 := h.c0
  have c1 := h.c1
  have c2 := h.c2
  have hq := h.queue
  go_enter Tryz.func81, Tryz.ntmps81
  go_wp2
  go_quiet ((go_at_call 123; exact Calls.quiet_of_same (fifoLen_any q m l g _ (hq.drewN _))))
  go_wp2
  go_ret
  exact ⟨retI (IntWalk.i64_in _ ⟨by omega, by omega⟩), _, rfl⟩

set_option maxRecDepth 100000 in
set_option maxHeartbeats 1000000 in
theorem backPush_empty (b q m t : Nat) (most : Int) (g : Nat) (conn : Int) (w : World) (h : BackIs w b q m t most false [] g) (hm : 1 ≤ most) (hm' : most ≤ 128) (hg : g < 4611686018427387904) (hc : 0 ≤ conn) (hc' : conn ≤ 1000000) :
    Calls Tryz.prog 76 #[.pointer (some ⟨b, 0, none⟩), .int .i64 conn] w fun e w' => e = .returned (.int .i64 0) ∧ BackIs w' b q m t most false [(g + 1, conn)] (g + 1) ∧ Fr [q, m, t] w w' := by
  have c0 := h.c0
  have c1 := h.c1
  have c2 := h.c2
  have c3 := h.c3
  have hq := h.queue
  obtain ⟨n1, n2, n3, n4, n5⟩ := h.ne
  obtain ⟨f, hmt, hp⟩ := h.tickets
  have hf : f = [] := by simpa using hp
  subst hf
  have hlk := hmt.miss keyInt (t := 175) (e := 181) Tryz.underlying175 (x := .int .i64 conn) (keyInt_of conn (by omega) (by omega)) (by simp) (zeroU64 w) true
  simp only [if_true] at hlk
  have hq0 : ((0 : Int) == most) = false := by rw [beq_eq_false_iff_ne]; omega
  go_enter Tryz.func76, Tryz.ntmps76
  go_wp2
  go_quiet ((go_at_call 123; exact Calls.quiet_of_same (fifoLen_any q m [] g _ (hq.drewN _))))
  go_wp2_with fail
  refine (fifoPush_empty q m conn g hg _ (hq.drewN nq)).mono ?_
  rintro e w2 ⟨rfl, hq2, f2⟩
  have hb2 := (h.drewN nq).keep (S := [q, m]) f2
  have c3' := f2.keep (w := w.drewN nq) c3 (by simp; omega)
  obtain ⟨w3, hrun, hmt3, f3⟩ := ((hmt.drewN nq).keep f2 (by simp; omega)).put keyInt (t := 175) (e := 181) Tryz.underlying175 (x := .int .i64 conn) (keyInt_of conn (by omega) (by omega)) (by simp) (.int .u64 (g + 1))
  clear hb2
  go_wp2
  go_ret
  have fd : Fr [] w (w.drewN nq) := (Fr.refl [] w).drewN nq
  have f4 : Fr [q, m, t] w w3 := ((fd.mono (T := [q, m, t]) (fun x hx => by cases hx)).trans f2 (fun x hx _ => by simp at hx; simp; omega)).trans f3 (fun x hx _ => by simp at hx; simp [hx])
  have hb : b ∉ [q, m, t] := by simp; omega
  exact ⟨rfl, ⟨f4.keep h.c0 hb, f4.keep h.c1 hb, f4.keep h.c2 hb, f4.keep h.c3 hb, fun o => by rw [f4.frozen (cell_lt h.c0) hb]; exact h.free o, h.ne, hq2.keep f3 (by simp; omega) (by simp; omega), ⟨_, hmt3, by simp [tickV]⟩⟩, f4⟩
end Go.Proofs.YtmdhlodafjpnmaaGreat
