/- Contract of listener's waits: whether a connection waits for a listener of a net in memory. -/
import Derived.Test.YtmdhlodafjpnmaaGreatHang3
import Derived.Test.YtmdhlodafjpnmaaGreatSlc
import Derived.Test.YtmdhlodafjpnmaaGreatRange
namespace Go.Proofs.YtmdhlodafjpnmaaGreat
open Go.RowKit
open Go.Maps (Keyed)
set_option linter.unusedVariables false
set_option maxRecDepth 100000
set_option maxHeartbeats 8000000

theorem IntRow.of {w : World} {lo n : Nat} {v : Value} {l : List (Nat × Int)} (h : w.ownsRow lo 3 1 v n (l.map connV64)) (hl : l.length ≤ maxLen) : IntRow w v (l.map (·.2)) := by
  rcases RowOf.of h with ⟨h1, rfl⟩ | ⟨g, cap, rfl, h2, h3, h4⟩
  · exact .inl ⟨by simpa using h1, _, _, rfl⟩
  · refine .inr ⟨g, 0, cap, by simp, by simpa using hl, fun i x hx => ?_⟩
    rw [Nat.zero_add]
    refine h4 i _ ?_
    rw [List.getElem?_map] at hx ⊢
    obtain ⟨y, hy, rfl⟩ := Option.map_eq_some_iff.1 hx
    rw [hy]
    rfl
/-- What has come has not k. -/
def NoK (L : List LB) (done : List (Value × Value)) (k : Int) : Prop := ∀ x ∈ L, x.ent ∈ done → k ∉ x.l.map (·.2)
theorem ent_inj {L : List LB} (hr : (L.map (·.ref)).Nodup) {x y : LB} (hx : x ∈ L) (hy : y ∈ L) (h : x.ent = y.ent) : x = y := by
  have e : x.ref = y.ref := by
    simp only [LB.ent, Prod.mk.injEq] at h
    exact i64_inj h.1
  obtain ⟨L1, L2, rfl⟩ := List.append_of_mem hx
  obtain ⟨h1, h2⟩ := map_one hr
  rcases List.mem_append.1 hy with hy | hy
  · exact absurd e.symm (h1 y hy)
  · rcases List.mem_cons.1 hy with rfl | hy
    · rfl
    · exact absurd e.symm (h2 y hy)
theorem netWaits_w {own : Nat → Nat} {B : NB} {L : List LB} {C : List CB} {G : Nat} (k : Int) (w : World) (h : NetW w own B L C G) (hG : G < 4611686018427387904) :
    Calls Tryz.prog 56 #[.pointer (some ⟨B.n, 0, none⟩), .int .i64 k] w fun e w' => e = .returned (.bool (decide (k ∈ qs L))) ∧ Fr [] w w' := by
  have c1 := h.net.c1
  have hM := h.net.ls
  have HH := Lib.hid h
  clear h
  obtain ⟨f, hf⟩ : ∃ f, L.map LB.ent = f := ⟨_, rfl⟩
  rw [hf] at hM
  have HF := Lib.hid hf
  clear hf
  go_enter Tryz.func56, Tryz.ntmps56
  go_wp2_with (first
    | (at_range; refine wpList_range_l _ rfl _ 49 rfl 120 Tryz.underlying49 rfl hM ?_; intro w0 hrg0 hg0 hs0)
    | go_in)
  go_frame
  have HRG0 := Lib.hid hrg0
  clear hrg0 hM
  go_loopw [6] (fun _ wr => ∃ done, RangeL Tryz.prog 3 wr B.lm w.heap.size f done ∧ NoK L done k ∧ Fr [] w wr) (fun _ wr => wr.rangeLeft B.lm w.heap.size)
  case atStart => exact ⟨[], HRG0.out, (fun x _ hx => absurd hx List.not_mem_nil), hg0⟩
  case round =>
    obtain ⟨done, hrg, hno, fr⟩ := hrel
    have HNO := Lib.hid hno
    have FR := Lib.hid fr
    clear hno fr
    go_wp2_with (first
      | (at_next; refine wpList_next_l _ rfl _ rfl rfl hrg ?_ ?_)
      | go_in)
    · intro hall
      have HA := Lib.hid hall
      clear hall
      go_wp2
      go_ret
      refine ⟨?_, FR.out⟩
      have : k ∉ qs L := fun hk => by
        obtain ⟨x, hx, hkx⟩ := List.mem_flatMap.1 hk
        exact HNO.out x hx (HA.out _ _ (by rw [← HF.out]; exact List.mem_map.2 ⟨x, hx, rfl⟩)) hkx
      simp [this]
    · intro kk vv w1 hin hnd hrg1 hf1 hs1 hlt hen
      rw [← HF.out] at hin
      obtain ⟨x, hx, he⟩ := List.mem_map.1 hin
      have he' := he
      simp only [LB.ent, Prod.mk.injEq] at he
      obtain ⟨rfl, rfl⟩ := he
      have F1 : Fr [] w w1 := FR.out.trans hf1 (fun z hz hl => by simp at hz; omega)
      have hq := (HH.out.ls x hx).back.keep (F1.alloc (.cells #[.pointer (some ⟨x.b, 0, none⟩), .string x.s, .int .i64 x.p] 120)) (by simp) (by simp) (by simp) (by simp)
      have HQ := Lib.hid hq
      have HEN := Lib.hid (And.intro hin (And.intro hnd (And.intro hx he')))
      have HL := Lib.hid (HH.out.ls x hx)
      have xg := (HH.out.ls x hx).g
      have xl : x.l.length ≤ 128 := by have := (HH.out.ls x hx).len; have := (HH.out.ls x hx).most; omega
      clear hq hin hnd hx he'
      unfold qV at hrg1 hen ⊢
      go_wp2_with (first
        | (go_at_call 60; refine (waiting_any x.b x.q x.m x.t x.most false x.l x.g (by omega) _ HQ.out (by omega)).mono ?_; rintro e w2 ⟨v, rfl, hv, f2⟩)
        | (go_at_call 101; refine (sliceContains_any k v _ _ (IntRow.of hv (by unfold maxLen; omega))).mono ?_; rintro e w' ⟨rfl, rfl⟩)
        | go_in)
      · go_ret
        obtain ⟨_, _, hx, he'⟩ := HEN.out
        refine ⟨?_, (F1.alloc _).step f2⟩
        have hk : k ∈ x.l.map (·.2) := by first | assumption | exact of_decide_eq_true (by assumption) | simpa using ‹∃ _, _›
        have : k ∈ qs L := List.mem_flatMap.2 ⟨x, hx, hk⟩
        simp [this]
      · obtain ⟨_, _, hx, he'⟩ := HEN.out
        have hk : k ∉ x.l.map (·.2) := by first | assumption | exact of_decide_eq_false (by assumption)
        have hno' : NoK L (x.ent :: done) k := fun y hy hm => by
          rcases List.mem_cons.1 hm with hm | hm
          · rw [ent_inj HH.out.refs hy hx hm]
            exact hk
          · exact HNO.out y hy hm
        have F2 : Fr [] w w2 := (F1.alloc _).step f2
        have hg2 : Fr [] w1 w2 := ((Fr.refl [] w1).alloc _).step f2
        have hrg2 := hrg1.keep hg2 (by simp) (by simp)
        have hle : w2.rangeLeft B.lm w.heap.size < wr.rangeLeft B.lm w.heap.size := by
          have e : w2.rangeLeft B.lm w.heap.size = w1.rangeLeft B.lm w.heap.size := by
            unfold World.rangeLeft
            rw [hg2.block _ hrg1.map.lt (by simp), hg2.block _ hrg1.lt (by simp)]
          omega
        go_roundw
        case rel => exact ⟨_, hrg2, hno', F2⟩
        case measure => exact hle
end Go.Proofs.YtmdhlodafjpnmaaGreat
