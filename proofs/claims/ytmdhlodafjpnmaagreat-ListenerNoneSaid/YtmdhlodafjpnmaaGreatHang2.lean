/- Contract of listener's hang at the end 1: it is closed, and the connection is forgotten if both ends are. -/
import Derived.Test.YtmdhlodafjpnmaaGreatHang
import Derived.Recover
import Derived.Deep.CutRange
namespace Go.Proofs.YtmdhlodafjpnmaaGreat
open Go.RowKit
open Go.Maps (Keyed)
set_option linter.unusedVariables false
set_option maxRecDepth 100000
set_option maxHeartbeats 4000000

/-- What hang leaves: the ends that are closed; the connection is forgotten if both are. -/
def HangPost (P : Nat → Prop) (cm d c : Nat) (conn : Int) (f1 f2 : List (Value × Value)) (b0 b1 : Bool) (w : World) (e : Ending) (w' : World) : Prop :=
  e = .returned (.int .i64 0) ∧ MapIs Tryz.prog 3 w' cm (if b0 && b1 then f1 ++ f2 else f1 ++ (.int .i64 conn, .pointer (some ⟨d, 0, none⟩)) :: f2) ∧ ((b0 && b1) = false → DupS w' (fun x => P x ∨ w.heap.size ≤ x) d c b0 b1) ∧ ∃ S, Fr S w w' ∧ ∀ x ∈ S, P x ∨ x = cm

section
variable {P : Nat → Prop} {n cm d c : Nat} {conn : Int} {f1 f2 : List (Value × Value)} (w : World)

theorem hang_open1 {a0 : Bool} (h2 : w.cell? ⟨n, 2, none⟩ = some (.map (some cm))) (hm : MapIs Tryz.prog 3 w cm (f1 ++ (.int .i64 conn, .pointer (some ⟨d, 0, none⟩)) :: f2)) (hd : DupS w P d c a0 false) (hn : ¬ P n) (hcm : ¬ P cm) :
    Calls Tryz.prog 57 #[.pointer (some ⟨n, 0, none⟩), .int .i64 conn, .int .i64 1] w (HangPost P cm d c conn f1 f2 a0 true w) := by
  have hmf : ∀ (fn : Fn) (first cap : Array Value) (w : World), (Instr.makeFunc fn first cap).run Tryz.prog w = .ok (.func fn first cap) w := fun _ _ _ _ => rfl
  have nl := cell_lt h2
  have cl := hm.lt
  have gB : Fr [] w ((w.alloc (.cells #[.pointer (some ⟨n, 0, none⟩)] 24)).alloc (.cells #[.int .i64 conn] 3)) := ((Fr.refl [] w).alloc _).alloc _
  have k2 := gB.keep h2 (by simp)
  have hlk : ∀ W, MapIs Tryz.prog 3 W cm (f1 ++ (.int .i64 conn, .pointer (some ⟨d, 0, none⟩)) :: f2) → (Instr.lookup 51 (.map (some cm)) (.int .i64 conn) false).run Tryz.prog W = .ok (.pointer (some ⟨d, 0, none⟩)) W := fun W hW => hW.hit keyInt (t := 51) (e := 55) Tryz.underlying51 (by simp) false
  have mB := hm.keep gB (by simp)
  have l0 := hlk _ mB
  have l1 := hlk _ (show MapIs Tryz.prog 3 (((w.alloc (.cells #[.pointer (some ⟨n, 0, none⟩)] 24)).alloc (.cells #[.int .i64 conn] 3)).drew) cm _ from mB)
  have gC : Fr [] w ((((w.alloc (.cells #[.pointer (some ⟨n, 0, none⟩)] 24)).alloc (.cells #[.int .i64 conn] 3)).alloc (.cells #[.pointer none] 55)).drew) := (gB.alloc _).drew
  have k3 := gC.keep h2 (by simp)
  have l2 := hlk _ (hm.keep gC (by simp))
  have HD := Lib.hid (hd.ext (Q := fun x => P x ∧ x < w.heap.size) (fun x hx hp => ⟨hp, hx⟩))
  have HM := Lib.hid hm
  clear hlk hm hd mB
  go_enter_defers Tryz.func57, Tryz.ntmps57
  go_wp2
  go_cut [7] from 8 to 13 (fun s7 wc => ∃ D, s7 = .pointer (some ⟨D, 0, none⟩) ∧ w.heap.size ≤ D ∧ wc.cell? ⟨D, 0, none⟩ = some (.pointer (some ⟨d, 0, none⟩)) ∧ Fr [] ((w.alloc (.cells #[.pointer (some ⟨n, 0, none⟩)] 24)).alloc (.cells #[.int .i64 conn] 3)) wc)
  case first =>
    go_region
    all_goals go_wp2
    all_goals go_meet
    case' rel => skip
    all_goals exact ⟨_, rfl, by first | omega | (simp; omega), by first | exact netCell _ _ _ 0 rfl (by simp) rfl | exact (World.cell?_drew _ _).trans (netCell _ _ _ 0 rfl (by simp) rfl), by first | exact ((Fr.refl [] _).alloc _).drew | exact (((Fr.refl [] _).alloc _).setCell (by simp) _).drew⟩
  case rest =>
    obtain ⟨D, rfl, dD, kD, gC⟩ := hcut
    have hD := HD.out.new (gB.step gC)
    have HCl := Lib.hid (dupClose_1 wc hD)
    have kN : wc.cell? ⟨w.heap.size, 0, none⟩ = some (.pointer (some ⟨n, 0, none⟩)) := gC.keep (by simp) (by simp)
    have kK : wc.cell? ⟨w.heap.size + 1, 0, none⟩ = some (.int .i64 conn) := gC.keep (by simp) (by simp)
    have kn := (gB.step gC).keep h2 (by simp)
    have mC := HM.out.keep (gB.step gC) (by simp)
    clear hD l0 l1 l2
    go_wp2_with (go_at_call 103; refine HCl.out.mono ?_; rintro e w1 ⟨rfl, d1, S, g1, p1⟩)
    have gA := gB.step gC
    have z1 := gA.size
    have zB : w.heap.size + 2 ≤ wc.heap.size := by simpa using gC.size
    have hS : ∀ x, w.heap.size ≤ x → x ∉ S := fun x hx hm => by have := (p1 x hm).2; omega
    have gT : Fr S w w1 := (gA.mono (fun x hx => by cases hx)).trans g1 (fun x hx _ => hx)
    have kD1 := g1.keep kD (hS _ dD)
    have kN1 := g1.keep kN (hS _ (Nat.le_refl _))
    have kK1 := g1.keep kK (hS _ (by omega))
    have nS : n ∉ S := fun hx => hn (p1 _ hx).1
    have cS : cm ∉ S := fun hx => hcm (p1 _ hx).1
    have kn1 := g1.keep kn nS
    have mC1 := mC.keep g1 cS
    have d2 : DupS w1 (fun x => P x ∨ w.heap.size ≤ x) d c a0 true := d1.wide (fun x hx => hx.imp (fun h => h.1) (fun h => by omega))
    cases a0
    · refine leaves_cons (f := 102) (args := #[.pointer (some ⟨D, 0, none⟩), .pointer (some ⟨w.heap.size, 0, none⟩), .pointer (some ⟨w.heap.size + 1, 0, none⟩)]) (by simp) (by simp [go_sem]) ?_
      refine (hangEnd_no w1 .returning d2 rfl kD1).mono ?_
      rintro e u' w'' ⟨rfl, rfl, rfl⟩
      exact ⟨_, results_tmp rfl _ _ _, rfl, mC1, fun _ => d2, S, gT, fun x hx => .inl (p1 x hx).1⟩
    · refine leaves_cons (f := 102) (args := #[.pointer (some ⟨D, 0, none⟩), .pointer (some ⟨w.heap.size, 0, none⟩), .pointer (some ⟨w.heap.size + 1, 0, none⟩)]) (by simp) (by simp [go_sem]) ?_
      refine (hangEnd_yes w1 .returning d2 kD1 kN1 kK1 kn1 mC1).mono ?_
      rintro e u' w'' ⟨rfl, rfl, m2, f2⟩
      exact ⟨_, results_tmp rfl _ _ _, rfl, m2, (fun h => by cases h), S ++ [cm], (gT.mono (fun x hx _ => List.mem_append_left _ hx)).trans f2 (fun x hx _ => List.mem_append_right _ hx), fun x hx => by
        rcases List.mem_append.1 hx with hx | hx
        · exact .inl (p1 x hx).1
        · simp at hx; exact .inr hx⟩
end
end Go.Proofs.YtmdhlodafjpnmaaGreat
