/- The listed variable of the snapshot laws, a world in which it lies as listed; their arguments opened; the law of the sums. -/
import Derived.Test.YtemihaijhcpnfaaGreatDoorCards
import Derived.Test.YtemihaijhcpnfaaGreatDoorTie
import Derived.Test.YtemihaijhcpnfaaGreatDoorLaw
import Derived.Test.YtemihaijhcpnfaaGreatDoorRows
import Derived.Test.YtemihaijhcpnfaaGreatDoorE15
import Derived.ProofKit
import Derived.OpenShut
import Derived.FnData
import Derived.Deep.DeepHandedRow
import Derived.Deep.DeepWitnessRowRef
namespace Go.Proofs.YtemihaijhcpnfaaGreatDoor
open Go.ChangeShapes Go.WideShapes Go.ChangeAt Go.RowKit
set_option linter.unusedVariables false
set_option linter.unusedSimpArgs false
set_option maxRecDepth 100000
set_option maxHeartbeats 4000000

theorem own : ownKnob Tryz.prog.godebug = none := by kernel_rfl
theorem gNow : Tryz.prog.globalNamed "aqueduct/engine.nowhere" = some 0 := by kernel_rfl
theorem gNowType : (Tryz.prog.globals[0]?).map (·.type) = some 87 := by kernel_rfl
theorem cellsSpot : Tryz.prog.cellsOf 87 = 2 := by kernel_rfl
theorem cellsInt : Tryz.prog.cellsOf 3 = 1 := by kernel_rfl
theorem cellsDir : Tryz.prog.cellsOf 82 = 1 := by kernel_rfl
theorem cellsB : Tryz.prog.cellsOf 5 = 1 := by kernel_rfl
theorem env_of {W : World} (hL : laidMetH Tryz.prog Rows.snapshotSumsRow.laid W) : EnvE W := by
  have h : laidMet Tryz.prog Rows.snapshotSumsRow.laid W := hL
  obtain ⟨ps, ⟨g, t, cs, fuel, p, q, hg, ht, hv, hd, _, _⟩, _⟩ := h
  obtain rfl := Option.some.inj (gNow.symm.trans hg)
  obtain rfl := Option.some.inj (gNowType.symm.trans ht)
  obtain ⟨xs, m, _, hx, hlen, hxs, hf⟩ := DataW.trod_struct Tryz.underlying87 hd
  obtain ⟨l⟩ := cs
  rw [cellsSpot] at hlen
  match l, hlen with
  | [c0, c1], _ =>
    match xs, hxs with
    | [z0, z1], _ =>
      have f0 : DataW.trod (fun _ => ()) Tryz.prog W 0 (fun _ => true) false m 3 [c0] = some z0 := by have := hf 0 _ rfl; simpa [cellsInt, cellsDir] using this
      have f1 : DataW.trod (fun _ => ()) Tryz.prog W 0 (fun _ => true) false m 82 [c1] = some z1 := by have := hf 1 _ rfl; simpa [cellsInt, cellsDir] using this
      obtain ⟨x0, e0, d0, _⟩ := DataW.trod_int Tryz.underlying3 f0
      obtain ⟨x1, e1, d1, _⟩ := DataW.trod_int Tryz.underlying82 f1
      simp only [List.cons.injEq, and_true] at e0 e1
      subst e0 e1
      have hq : (DataW.agg [.lit (.int .i64 (-1)), .lit (.int .i64 0)] : DataW Unit) = .agg [z0.1, z1.1] := congrArg Prod.fst hx
      rw [d0, d1] at hq
      simp only [DataW.agg.injEq, List.cons.injEq, DataW.lit.injEq, Lit.int.injEq, true_and, and_true] at hq
      obtain ⟨h0, h1⟩ := hq
      subst h0 h1
      intro j u hj
      have hc := World.var?_cell gNow hv (0 + j)
      rw [hc, Nat.zero_add]
      simpa using hj
noncomputable def setVar (w : World) (g : Nat) (cs : Array Value) : World :=
  { w with heap := w.heap.modify g fun
      | .cells _ t frozen => .cells cs t frozen
      | o => o }
noncomputable def laidWorld (os : Os) : World := setVar (World.holding Tryz.prog os ⟨#[], #[], []⟩) 0 #[.int .i64 (-1), .int .i64 0]
theorem laid_met (os : Os) (args : Array Value) : laidMet Tryz.prog Rows.snapshotSumsRow.laid ((laidWorld os).forCall (fun _ _ => 0) ⟨#[], args, []⟩).memory :=
  laidMet_of_run' 16 (by kernel_rfl) (by kernel_rfl)
theorem u8_bd {x : Int} (h : (Lit.int .u8 x).wf = true) : 0 ≤ x ∧ x ≤ 255 := by
  simpa [Lit.wf, IntKind.min, IntKind.max, IntKind.signed, IntKind.bits] using h
theorem choose_bytes {p : Nat → UInt8 → Prop} : ∀ n : Nat, (∀ i, i < n → ∃ x, p i x) → ∃ l : List UInt8, l.length = n ∧ ∀ i x, l[i]? = some x → p i x
  | 0, _ => ⟨[], rfl, fun i x h => by simp at h⟩
  | n + 1, h => by
    obtain ⟨l, hl, hp⟩ := choose_bytes n (fun i hi => h i (by omega))
    obtain ⟨x, hx⟩ := h n (by omega)
    refine ⟨l ++ [x], by simp [hl], fun i y hy => ?_⟩
    by_cases hi : i < n
    · rw [List.getElem?_append_left (by omega)] at hy
      exact hp i y hy
    · rw [List.getElem?_append_right (by omega)] at hy
      obtain ⟨j, hj⟩ : ∃ j, i - l.length = j := ⟨_, rfl⟩
      rw [hj] at hy
      match j, hy with
      | 0, hy =>
        simp only [List.getElem?_cons_zero, Option.some.injEq] at hy
        subst hy
        rw [show i = n from by omega]
        exact hx
theorem bytes_of {H : Type} {enc : TypeId × Value → H} {w : World} {fuel : Nat} {sa : Option Addr} {n c : Nat} {x : DataW H × List MemPlace} (h : DataW.trod enc Tryz.prog w 0 (fun _ => true) true fuel 22 [.slice sa n c] = some x) :
    ∃ l : List UInt8, l.length = n ∧ RowV w (.slice sa n c) l.length 1 (bsV l) := by
  rcases laws.open_rows Tryz.underlying22 cellsB (by omega) h with ⟨rfl, rfl, rfl⟩ | ⟨hl, hm, a, rfl, hz | ⟨b, off, rfl, hrows⟩⟩
  · exact ⟨[], rfl, RowV.nil _ _ _ _⟩
  · subst hz
    exact ⟨[], rfl, RowV.nil _ _ _ _⟩
  · have hx : ∀ i, i < n → ∃ x : UInt8, w.cell? ⟨b, off + i, none⟩ = some (byteV x) := fun i hi => by
      obtain ⟨cs, m, y, hlen, hcell, hy⟩ := hrows i hi
      match cs, hlen with
      | [c0], _ =>
        obtain ⟨x0, e0, _, w0⟩ := DataW.trod_int Tryz.underlying5 hy
        simp only [List.cons.injEq, and_true] at e0
        subst e0
        have hb := u8_bd w0
        refine ⟨UInt8.ofNat x0.toNat, ?_⟩
        have h1 := hcell 0 (by omega)
        rw [show off + i * 1 + 0 = off + i from by omega] at h1
        rw [h1]
        have h2 : (UInt8.ofNat x0.toNat).toNat = x0.toNat := by rw [UInt8.toNat_ofNat']; omega
        simp only [byteV, h2, List.getElem?_cons_zero, Option.some.injEq, Value.int.injEq, true_and]
        omega
    obtain ⟨l, hlen, hp⟩ := choose_bytes n hx
    refine ⟨l, hlen, ?_⟩
    by_cases h0 : n = 0
    · subst h0
      obtain rfl := List.length_eq_zero_iff.1 hlen
      exact RowV.nil _ _ _ _
    · obtain ⟨x0, hx0⟩ := hx 0 (by omega)
      refine ⟨by rw [bsV_len], .inr ⟨b, off, c, by rw [hlen], cell_lt hx0, fun j u hj => ?_⟩⟩
      unfold bsV at hj
      rw [List.getElem?_map] at hj
      obtain ⟨y, hy, rfl⟩ := Option.map_eq_some_iff.1 hj
      exact hp j y hy
theorem sums_any (a : Option Addr) (n c : Nat) (l : List UInt8) (w : World) (hE : EnvE w) (hl : l.length = n) (h : RowV w (.slice a n c) l.length 1 (bsV l)) :
    Calls Tryz.prog 3 #[.slice a n c] w fun e w' => e = .returned (.bool true) ∧ Fr [] w w' := by
  have HK := Lib.hid (known_true w hE)
  clear hE
  by_cases hn : 2000 < n
  · have hn' : (2000 : Int) < (n : Int) := by omega
    clear h hl
    go_enter Tryz.func3, Tryz.ntmps3
    go_wp2_with fail
    refine HK.out.mono ?_
    rintro e w' ⟨rfl, f1⟩
    go_wp2
    go_ret
    exact ⟨rfl, f1⟩
  · have hn' : ¬ (2000 : Int) < (n : Int) := by omega
    have h1 := sum_any l (.slice a n c) w h (by omega)
    have h2 := refSum_any l (.slice a n c) w h (by omega)
    obtain ⟨k, hk⟩ : ∃ k, sumI l = k := ⟨_, rfl⟩
    rw [hk] at h1 h2
    have H1 := Lib.hid h1
    have H2 := Lib.hid h2
    clear h1 h2 hk h hl
    go_enter Tryz.func3, Tryz.ntmps3
    go_wp2_with fail
    refine H1.out.mono ?_
    rintro e w' ⟨rfl, rfl⟩
    go_wp2_with fail
    refine H2.out.mono ?_
    rintro e w' ⟨rfl, rfl⟩
    go_wp2_with fail
    refine HK.out.mono ?_
    rintro e w' ⟨rfl, f1⟩
    go_wp2
    go_ret
    exact ⟨rfl, f1⟩
end Go.Proofs.YtemihaijhcpnfaaGreatDoor
