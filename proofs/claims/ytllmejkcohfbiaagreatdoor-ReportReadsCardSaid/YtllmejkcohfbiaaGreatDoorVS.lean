/- Report: tasks and codes compared. -/
/- Plain: a line without its commas and colons. -/
/- The library's Once: its parts, in a world of one goroutine. -/
/- The library's Replacer of two bytes by nothing: how it is built. -/
/- The library's Replacer of two bytes by nothing: Replace. -/
/- The library's Replacer of two bytes by nothing, whole: NewReplacer and its Replace. -/
/- Report: strings, added and compared. -/
import Derived.Test.YtllmejkcohfbiaaGreatDoorR18Tk
import Derived.Test.YtllmejkcohfbiaaGreatDoorR18Cd
import Derived.Laws.StructEq
import Derived.Test.YtllmejkcohfbiaaGreatDoorRPlain
import Derived.Test.YtllmejkcohfbiaaGreatDoorFr
import Derived.Test.YtllmejkcohfbiaaGreatDoorProg
import Derived.WalkKit
import Derived.Lib.Hide
import Derived.Tactics
import Derived.Tactics2
import Derived.Defers
import Derived.Laws.Pointers
import Derived.Laws.LoneSync
import Derived.RegionTactic
import Derived.RegionCalls
import Derived.ChangeAlike
import Derived.Outline
import Derived.Deep.Cut
import Derived.Deep.CutRange
import Derived.BigQuiet
import Derived.IntWalk
import Derived.Deep.AppendLies
import Derived.RangeFuncRecord
import Derived.Laws.IdiomStrings
import Derived.Lib.Builder
import Derived.Shelf.RegionOpen
import Derived.Deep.RegionHeld3
import Derived.Test.YtllmejkcohfbiaaGreatDoorShelf
import Derived.Test.YtllmejkcohfbiaaGreatDoorBox
namespace Go.Proofs.YtllmejkcohfbiaaGreatDoor
open Go.RowKit Go.Maps Go.Shelf Go.Sort Go.Lib
set_option linter.unusedVariables false
set_option linter.unusedSimpArgs false
set_option maxRecDepth 100000
set_option maxHeartbeats 32000000

theorem eqTkRaw (x y : Tk) (w : World) : (Op.equalIn 10000 58 (tkV x) (tkV y)).run Tryz.prog w = .ok (decide (x = y)) w := by
  have u1 := Tryz.underlying3
  have a1 := Tryz.isAgg3
  have z1 := Tryz.sizeOf3
  have hS : Tryz.prog.underlying 58 = some (.struct (Tryz.prog.fieldsOf 58)) := by kernel_rfl
  have hp : Tryz.prog.stoodInHeld 58 = false := by kernel_rfl
  unfold tkV
  rw [show (10000 : Nat) = 9999 + 1 from rfl, run_equalIn_agg w 9999 58 _ _ hS hp]
  simp only [Program.fieldsOf, Tryz.underlying58]
  go_simp
  obtain ⟨a, b, c, d, e, f, g, h⟩ := x
  obtain ⟨a', b', c', d', e', f', g', h'⟩ := y
  simp only [Tk.mk.injEq]
  by_cases h1 : a = a'
  · by_cases h2 : b = b'
    · by_cases h3 : c = c'
      · by_cases h4 : d = d'
        · by_cases h5 : e = e'
          · by_cases h6 : f = f'
            · by_cases h7 : g = g'
              · by_cases h8 : h = h' <;> simp [h1, h2, h3, h4, h5, h6, h7, h8]
              · simp [h1, h2, h3, h4, h5, h6, h7]
            · simp [h1, h2, h3, h4, h5, h6]
          · simp [h1, h2, h3, h4, h5]
        · simp [h1, h2, h3, h4]
      · simp [h1, h2, h3]
    · simp [h1, h2]
  · simp [h1]
theorem eqTk (x y : Tk) (w : World) : (binOp .eql 58 (.agg #[.int .i64 x.t, .int .i64 x.calls, .int .i64 x.refused, .int .i64 x.steps, .int .i64 x.ended, .int .i64 x.failed, .int .i64 x.read, .int .i64 x.written]) (.agg #[.int .i64 y.t, .int .i64 y.calls, .int .i64 y.refused, .int .i64 y.steps, .int .i64 y.ended, .int .i64 y.failed, .int .i64 y.read, .int .i64 y.written])).run Tryz.prog w = .ok (.bool (decide (x = y))) w := by
  have h := eqTkRaw x y w
  unfold tkV at h
  rw [run_eql_struct, h]
  rfl
theorem neTk (x y : Tk) (w : World) : (binOp .neq 58 (.agg #[.int .i64 x.t, .int .i64 x.calls, .int .i64 x.refused, .int .i64 x.steps, .int .i64 x.ended, .int .i64 x.failed, .int .i64 x.read, .int .i64 x.written]) (.agg #[.int .i64 y.t, .int .i64 y.calls, .int .i64 y.refused, .int .i64 y.steps, .int .i64 y.ended, .int .i64 y.failed, .int .i64 y.read, .int .i64 y.written])).run Tryz.prog w = .ok (.bool (!decide (x = y))) w := by
  have h := eqTkRaw x y w
  unfold tkV at h
  rw [run_neq_struct, h]
  rfl
theorem eqCdRaw (x y : Cd) (w : World) : (Op.equalIn 10000 62 (.agg #[.int .i64 x.call, .int .i64 x.err, .int .i64 x.n]) (.agg #[.int .i64 y.call, .int .i64 y.err, .int .i64 y.n])).run Tryz.prog w = .ok (decide (x = y)) w := by
  have u1 := Tryz.underlying3
  have a1 := Tryz.isAgg3
  have z1 := Tryz.sizeOf3
  have u2 := Tryz.underlying29
  have a2 := Tryz.isAgg29
  have z2 := Tryz.sizeOf29
  have u3 := Tryz.underlying28
  have a3 := Tryz.isAgg28
  have z3 := Tryz.sizeOf28
  have hS : Tryz.prog.underlying 62 = some (.struct (Tryz.prog.fieldsOf 62)) := by kernel_rfl
  have hp : Tryz.prog.stoodInHeld 62 = false := by kernel_rfl
  rw [show (10000 : Nat) = 9999 + 1 from rfl, run_equalIn_agg w 9999 62 _ _ hS hp]
  simp only [Program.fieldsOf, Tryz.underlying62]
  go_simp
  obtain ⟨a, b, c⟩ := x
  obtain ⟨a', b', c'⟩ := y
  simp only [Cd.mk.injEq]
  by_cases h1 : a = a' <;> by_cases h2 : b = b' <;> by_cases h3 : c = c' <;> simp [h1, h2, h3]
theorem eqCd (x y : Cd) (w : World) : (binOp .eql 62 (.agg #[.int .i64 x.call, .int .i64 x.err, .int .i64 x.n]) (.agg #[.int .i64 y.call, .int .i64 y.err, .int .i64 y.n])).run Tryz.prog w = .ok (.bool (decide (x = y))) w := by
  rw [run_eql_struct, eqCdRaw]
  rfl
theorem neCd (x y : Cd) (w : World) : (binOp .neq 62 (.agg #[.int .i64 x.call, .int .i64 x.err, .int .i64 x.n]) (.agg #[.int .i64 y.call, .int .i64 y.err, .int .i64 y.n])).run Tryz.prog w = .ok (.bool (!decide (x = y))) w := by
  rw [run_neq_struct, eqCdRaw]
  rfl
end Go.Proofs.YtllmejkcohfbiaaGreatDoor
namespace Go.Proofs.YtllmejkcohfbiaaGreatDoor
set_option linter.unusedVariables false
set_option linter.unusedSimpArgs false

/-- The bytes that the Replacer leaves out. -/
def delB (c : UInt8) : Bool := c == 44 || c == 58
/-- A line without its commas and colons. -/
def remB (l : List UInt8) : List UInt8 := l.filter fun c => !delB c
theorem remB_app (a b : List UInt8) : remB (a ++ b) = remB a ++ remB b := List.filter_append ..
theorem remB_len (l : List UInt8) : (remB l).length + l.countP delB = l.length := by
  unfold remB
  rw [← List.countP_eq_length_filter, Nat.add_comm]
  have h := List.length_eq_countP_add_countP (l := l) (p := delB)
  have e : l.countP (fun a => decide ¬(delB a = true)) = l.countP (fun c => !delB c) := by
    congr 1
    funext a
    cases delB a <;> rfl
  rw [h, e]
theorem remB_none (l : List UInt8) (h : l.countP delB = 0) : remB l = l := by
  unfold remB
  rw [List.filter_eq_self]
  intro c hc
  rw [List.countP_eq_zero] at h
  simpa using h c hc
theorem del_count (l : List UInt8) : l.count 58 + l.count 44 = l.countP delB := by
  induction l with
  | nil => rfl
  | cons c r ih =>
    rw [List.count_cons, List.count_cons, List.countP_cons, ← ih]
    unfold delB
    by_cases h1 : c = 44
    · subst h1
      simp
      omega
    · by_cases h2 : c = 58
      · subst h2
        simp
        omega
      · have e1 : (c == 44) = false := by simpa using h1
        have e2 : (c == 58) = false := by simpa using h2
        rw [e1, e2]
        simp
theorem rem_succ (l : List UInt8) (q : Nat) (c : UInt8) (h : l[q]? = some c) : remB (l.take (q + 1)) = remB (l.take q) ++ if delB c = true then [] else [c] := by
  rw [List.take_add_one, h, remB_app]
  congr 1
  unfold remB
  cases hd : delB c <;> simp [hd]
theorem delN_succ (l : List UInt8) (q : Nat) (c : UInt8) (h : l[q]? = some c) : (l.take (q + 1)).countP delB = (l.take q).countP delB + if delB c = true then 1 else 0 := by
  rw [List.take_add_one, h, List.countP_append, Option.toList_some, List.countP_singleton]
end Go.Proofs.YtllmejkcohfbiaaGreatDoor
namespace Go.Proofs.YtllmejkcohfbiaaGreatDoor
open Go.RowKit
set_option linter.unusedVariables false
set_option linter.unusedSimpArgs false
set_option maxRecDepth 100000
set_option maxHeartbeats 4000000

theorem raceOff (w : World) : (callFunc 214 #[]).run Tryz.prog w = .ok (.value (.tuple #[])) w := run_call_mark0 Tryz.func214 (by kernel_rfl) (by kernel_rfl) (by kernel_rfl) .disable (by kernel_rfl) w
theorem raceOn (w : World) : (callFunc 216 #[]).run Tryz.prog w = .ok (.value (.tuple #[])) w := run_call_mark0 Tryz.func216 (by kernel_rfl) (by kernel_rfl) (by kernel_rfl) .enable (by kernel_rfl) w
theorem raceTake (a : Addr) (w : World) : (callFunc 217 #[.pointer (some a)]).run Tryz.prog w = .ok (.value (.tuple #[])) w := run_call_marked Tryz.func217 (by kernel_rfl) (by kernel_rfl) (by kernel_rfl) .acquire (by kernel_rfl) a w
theorem raceMerge (a : Addr) (w : World) : (callFunc 219 #[.pointer (some a)]).run Tryz.prog w = .ok (.value (.tuple #[])) w := run_call_marked Tryz.func219 (by kernel_rfl) (by kernel_rfl) (by kernel_rfl) .releaseMerge (by kernel_rfl) a w
theorem store_deferred (a : Addr) (x : Value) (u : FrameMode) (w : World) (hc : w.cell? a = some x) (hz : w.frozen? a = false) :
    CallsD Tryz.prog 186 #[.pointer (some a), .bool true] u w fun e u' w' => u' = u ∧ (e = .returned (.tuple #[]) ∧ w' = w.drew.setCell a (.int .u32 1)) := by
  have hc' : w.drew.cell? a = some x := by go_simp
  have hz' : w.drew.frozen? a = false := by go_simp
  have hst := run_call_store (P := Tryz.prog) Tryz.func206 (by kernel_rfl) (by kernel_rfl) (by kernel_rfl) (by kernel_rfl) (k := .u32) (y := 1) hc' hz'
  go_enter_d Tryz.func186, Tryz.ntmps186
  go_wp2
  go_region_calls
  all_goals (go_end0; exact ⟨rfl, rfl⟩)
theorem unlock_deferred (a : Addr) (u : FrameMode) (w : World) (hc : w.cell? a = some (.int .i32 1)) (hz : w.frozen? a = false) :
    CallsD Tryz.prog 185 #[.pointer (some a)] u w fun e u' w' => u' = u ∧ (e = .returned (.tuple #[]) ∧ w' = w.setCell a (.int .i32 0)) := by
  have hd := raceOff
  have he := raceOn
  have hr := raceMerge
  have hadd := run_call_add (P := Tryz.prog) Tryz.func220 (by kernel_rfl) (by kernel_rfl) (by kernel_rfl) .i32 (by kernel_rfl) (y := -1) (s := 0) hc hz (by simp [go_sem]; rfl)
  have hcv := run_convert_to_unsafe (P := Tryz.prog) (src := 306) (dst := 224) Tryz.underlying306 Tryz.underlying224 (by kernel_rfl) hc
  go_enter_d Tryz.func185, Tryz.ntmps185
  go_wp2
  go_end0
  go_wp2
  go_end0
  exact ⟨rfl, rfl⟩
theorem lock_free (a : Addr) (w : World) (hc : w.cell? a = some (.int .i32 0)) (hz : w.frozen? a = false) :
    Calls Tryz.prog 184 #[.pointer (some a)] w fun e w' => e = .returned (.tuple #[]) ∧ w' = w.setCell a (.int .i32 1) := by
  have hd := raceOff
  have he := raceOn
  have ha := raceTake
  have hcas := run_call_cas_hit (P := Tryz.prog) Tryz.func215 (by kernel_rfl) (by kernel_rfl) (by kernel_rfl) .i32 (by kernel_rfl) (y := 1) hc hz
  have hc' : (w.setCell a (.int .i32 1)).cell? a = some (.int .i32 1) := World.cell?_setCell_same w a _ hc
  have hcv := run_convert_to_unsafe (P := Tryz.prog) (src := 306) (dst := 224) Tryz.underlying306 Tryz.underlying224 (by kernel_rfl) hc'
  go_enter Tryz.func184, Tryz.ntmps184
  go_wp2
  first | go_end0 | (simp only [Exit.inBlock, Exit.then]; refine bodyPost_ret (results_none rfl _ _ _) rfl ?_) | refine bodyPost_ret (results_none rfl _ _ _) rfl ?_
  go_wp2
  go_end0
  exact ⟨rfl, rfl⟩
/-- Five cells of a Replacer in a block of its own. -/
def RpAt (W : World) (B : Nat) (d : Int) (m : Int) (r v : Value) : Prop := W.heap[B]? = some (.cells #[.int .u32 d, .int .i32 m, .int .u32 0, r, v] 209)
theorem RpAt.c0 {W : World} {B : Nat} {d m : Int} {r v : Value} (h : RpAt W B d m r v) : W.cell? ⟨B, 0, none⟩ = some (.int .u32 d) := by simp [World.cell?, show W.heap[B]? = _ from h]
theorem RpAt.c1 {W : World} {B : Nat} {d m : Int} {r v : Value} (h : RpAt W B d m r v) : W.cell? ⟨B, 1, none⟩ = some (.int .i32 m) := by simp [World.cell?, show W.heap[B]? = _ from h]
theorem RpAt.c3 {W : World} {B : Nat} {d m : Int} {r v : Value} (h : RpAt W B d m r v) : W.cell? ⟨B, 3, none⟩ = some r := by simp [World.cell?, show W.heap[B]? = _ from h]
theorem RpAt.c4 {W : World} {B : Nat} {d m : Int} {r v : Value} (h : RpAt W B d m r v) : W.cell? ⟨B, 4, none⟩ = some v := by simp [World.cell?, show W.heap[B]? = _ from h]
theorem RpAt.fz {W : World} {B : Nat} {d m : Int} {r v : Value} (h : RpAt W B d m r v) (o : Nat) : W.frozen? ⟨B, o, none⟩ = false := by simp [World.frozen?, show W.heap[B]? = _ from h]
theorem RpAt.lt {W : World} {B : Nat} {d m : Int} {r v : Value} (h : RpAt W B d m r v) : B < W.heap.size := (Array.getElem?_eq_some_iff.1 h).1
theorem RpAt.keep {S : List Nat} {W W' : World} {B : Nat} {d m : Int} {r v : Value} (h : RpAt W B d m r v) (f : Fr S W W') (hn : B ∉ S) : RpAt W' B d m r v := (f.block B h.lt hn).trans h
theorem RpAt.set0 {W : World} {B : Nat} {d m : Int} {r v : Value} (h : RpAt W B d m r v) (x : Int) : RpAt (W.setCell ⟨B, 0, none⟩ (.int .u32 x)) B x m r v := by
  unfold RpAt at *
  show (W.heap.modify B _)[B]? = _
  rw [Array.getElem?_modify, if_pos rfl, h]
  rfl
theorem RpAt.set1 {W : World} {B : Nat} {d m : Int} {r v : Value} (h : RpAt W B d m r v) (x : Int) : RpAt (W.setCell ⟨B, 1, none⟩ (.int .i32 x)) B d x r v := by
  unfold RpAt at *
  show (W.heap.modify B _)[B]? = _
  rw [Array.getElem?_modify, if_pos rfl, h]
  rfl
theorem RpAt.set3 {W : World} {B : Nat} {d m : Int} {r v : Value} (h : RpAt W B d m r v) (x : Value) : RpAt (W.setCell ⟨B, 3, none⟩ x) B d m x v := by
  unfold RpAt at *
  show (W.heap.modify B _)[B]? = _
  rw [Array.getElem?_modify, if_pos rfl, h]
  rfl
theorem RpAt.set4 {W : World} {B : Nat} {d m : Int} {r v : Value} (h : RpAt W B d m r v) (x : Value) : RpAt (W.setCell ⟨B, 4, none⟩ x) B d m r x := by
  unfold RpAt at *
  show (W.heap.modify B _)[B]? = _
  rw [Array.getElem?_modify, if_pos rfl, h]
  rfl
theorem fr_one {B : Nat} (w : World) (o : Nat) (u : Value) : Fr [B] w (w.setCell ⟨B, o, none⟩ u) := (Fr.refl [B] w).setCell (fun _ => by simp) _
/-- 'o.doSlow(r.buildOnce)'. -/
theorem slow_any (B : Nat) (v : Value) (w : World) (Q : Value → World → Prop) (hQ : ∀ r W W', Q r W → Fr [B] W W' → Q r W') (h : RpAt w B 0 0 .nilIface v)
    (hf : ∀ W, RpAt W B 0 1 .nilIface v → Fr [B] w W → Calls Tryz.prog 124 #[.pointer (some ⟨B, 0, none⟩)] W fun e w' => e = .returned (.tuple #[]) ∧ ∃ r, RpAt w' B 0 1 r (.slice none 0 0) ∧ Q r w' ∧ Fr [B] W w') :
    Calls Tryz.prog 150 #[.pointer (some ⟨B, 0, none⟩), .func (.func 124) #[.pointer (some ⟨B, 0, none⟩)] #[]] w fun e w' => e = .returned (.tuple #[]) ∧ ∃ r, RpAt w' B 1 0 r (.slice none 0 0) ∧ Q r w' ∧ Fr [B] w w' := by
  have h1 := h.set1 1
  have f1 : Fr [B] w (w.setCell ⟨B, 1, none⟩ (.int .i32 1)) := fr_one w 1 _
  have HF := Lib.hid (hf _ h1 f1)
  have H1 := Lib.hid h1
  have HQ := Lib.hid hQ
  have F1 := Lib.hid f1
  have c1 := h.c1
  have z1 := h.fz 1
  have hl := run_call_load (P := Tryz.prog) Tryz.func183 (by kernel_rfl) (by kernel_rfl) (by kernel_rfl) .u32 (by kernel_rfl) (w := w.setCell ⟨B, 1, none⟩ (.int .i32 1)) (a := ⟨B, 0, none⟩) (x := 0) H1.out.c0
  have hnot : ∀ (x : Bool) (w : World), (Op.unary .not (.bool x)).run Tryz.prog w = .ok (.bool (!x)) w := fun _ _ => rfl
  clear h hf hQ h1 f1
  go_enter_defers Tryz.func150, Tryz.ntmps150
  go_wp2_with (first
    | (go_at_call 184; refine (lock_free ⟨B, 1, none⟩ _ c1 z1).mono ?_; rintro e w' ⟨rfl, rfl⟩)
    | (go_at_call 124; refine HF.out.mono ?_; rintro e w' ⟨rfl, r, hr, hq, hfr⟩)
    | (go_at_call 149; go_in))
  refine leaves_cons (f := 186) (args := #[.pointer (some ⟨B, 0, none⟩), .bool true]) (by simp) (by simp [go_sem]) ?_
  refine (store_deferred ⟨B, 0, none⟩ (.int .u32 0) .returning _ hr.c0 (hr.fz 0)).mono ?_
  rintro e u' w'' ⟨rfl, rfl, rfl⟩
  have h2 : RpAt (w'.drew.setCell ⟨B, 0, none⟩ (.int .u32 1)) B 1 1 r (.slice none 0 0) := RpAt.set0 (W := w'.drew) hr 1
  have f2 : Fr [B] w' (w'.drew.setCell ⟨B, 0, none⟩ (.int .u32 1)) := ((Fr.refl [B] w').drew).setCell (fun _ => by simp) _
  refine leaves_cons (f := 185) (args := #[.pointer (some ⟨B, 1, none⟩)]) (by simp [settle]) (by simp [go_sem]) ?_
  refine (unlock_deferred ⟨B, 1, none⟩ _ _ h2.c1 (h2.fz 1)).mono ?_
  rintro e u' w'' ⟨rfl, rfl, rfl⟩
  have h3 := h2.set1 0
  have f3 := fr_one (B := B) (w'.drew.setCell ⟨B, 0, none⟩ (.int .u32 1)) 1 (.int .i32 0)
  have hend := And.intro h3 (And.intro (HQ.out r _ _ hq (f2.trans f3 (fun _ h _ => h))) (((F1.out.trans hfr (fun _ h _ => h)).trans f2 (fun _ h _ => h)).trans f3 (fun _ h _ => h)))
  have HEND := Lib.hid hend
  clear hend h2 h3 f2 f3 hq hr hfr
  simp [Leaves, settle, results, Tryz.results150]
  exact ⟨r, HEND.out⟩
/-- 'o.Do(r.buildOnce)', not yet done. -/
theorem do_first (B : Nat) (v : Value) (w : World) (Q : Value → World → Prop) (hQ : ∀ r W W', Q r W → Fr [B] W W' → Q r W') (h : RpAt w B 0 0 .nilIface v)
    (hf : ∀ W, RpAt W B 0 1 .nilIface v → Fr [B] w W → Calls Tryz.prog 124 #[.pointer (some ⟨B, 0, none⟩)] W fun e w' => e = .returned (.tuple #[]) ∧ ∃ r, RpAt w' B 0 1 r (.slice none 0 0) ∧ Q r w' ∧ Fr [B] W w') :
    Calls Tryz.prog 123 #[.pointer (some ⟨B, 0, none⟩), .func (.func 124) #[.pointer (some ⟨B, 0, none⟩)] #[]] w fun e w' => e = .returned (.tuple #[]) ∧ ∃ r, RpAt w' B 1 0 r (.slice none 0 0) ∧ Q r w' ∧ Fr [B] w w' := by
  have HS := Lib.hid (slow_any B v w Q hQ h hf)
  have hl := run_call_load (P := Tryz.prog) Tryz.func183 (by kernel_rfl) (by kernel_rfl) (by kernel_rfl) .u32 (by kernel_rfl) h.c0
  have hnot : ∀ (x : Bool) (w : World), (Op.unary .not (.bool x)).run Tryz.prog w = .ok (.bool (!x)) w := fun _ _ => rfl
  clear h hf hQ
  go_enter Tryz.func123, Tryz.ntmps123
  go_wp2_with (first | (go_at_call 150; refine HS.out.mono ?_; rintro e w' ⟨rfl, r, hr⟩) | go_in)
  go_end0
  exact ⟨rfl, r, hr⟩
end Go.Proofs.YtllmejkcohfbiaaGreatDoor
namespace Go.Proofs.YtllmejkcohfbiaaGreatDoor
open Go.RowKit Go.Lib
set_option linter.unusedVariables false
set_option linter.unusedSimpArgs false
set_option maxRecDepth 100000
set_option maxHeartbeats 8000000

/-- The four texts. -/
structure OldNew (W : World) (A : Nat) : Prop where
  c0 : W.cell? ⟨A, 0, none⟩ = some (.string ⟨#[44]⟩)
  c1 : W.cell? ⟨A, 1, none⟩ = some (.string ⟨#[]⟩)
  c2 : W.cell? ⟨A, 2, none⟩ = some (.string ⟨#[58]⟩)
  c3 : W.cell? ⟨A, 3, none⟩ = some (.string ⟨#[]⟩)
section
variable {P : Program} {ops : Array Oper} {rest : List Oper} {o : Oper} {a : Act} {w w' : World} {Q : Exit → Act → World → Prop}
theorem wpListVal (hg : o.guard = none) {v : Value} (hrun : (execOp a.eval o).run P w = .ok (.value v) w') (hK : wpList P ops Q rest (a.put o.dst v) w') : wpList P ops Q (o :: rest) a w := by
  refine wpList_plain hg fun K hK' => ?_
  unfold Oper.wp
  rw [hrun]
  exact hK' _ _ hK
theorem wpListSkp (hg : o.guard = none) (hrun : (execOp a.eval o).run P w = .ok .skip w') (hK : wpList P ops Q rest (a.put o.dst undef) w') : wpList P ops Q (o :: rest) a w := by
  refine wpList_plain hg fun K hK' => ?_
  unfold Oper.wp
  rw [hrun]
  exact hK' _ _ hK
end
theorem run_make2 (W : World) : (Instr.makeSlice 34 (.int .i64 0) (.int .i64 2)).run Tryz.prog W = .ok (.slice (some ⟨W.heap.size, 0, none⟩) 0 2) (W.alloc (.cells #[.string ⟨#[]⟩, .string ⟨#[]⟩] 9)) := by kernel_rfl
theorem run_allocSb (W : World) : (Instr.alloc 269 true (.tuple #[])).run Tryz.prog W = .ok (.pointer (some ⟨W.heap.size, 0, none⟩)) (W.alloc (.cells Tryz.zeroCells269 269)) := by kernel_rfl
def sbF (x y : Value) (k : Nat) : Value := if k = 44 then x else if k = 58 then y else .slice none 0 0
def sbL (x y v : Value) : List Value := (List.range 256).map (sbF x y) ++ [v]
def SbAt (W : World) (R : Nat) (x y v : Value) : Prop := W.heap[R]? = some (.cells (sbL x y v).toArray 269)
theorem sb_zero : Tryz.zeroCells269 = (sbL (.slice none 0 0) (.slice none 0 0) (.slice none 0 0)).toArray := by kernel_rfl
theorem run_build (X : Nat) (W : World) : (Instr.build 269 #[(1, .slice (some ⟨X, 0, none⟩) 0 2)]).run Tryz.prog W = .ok (.agg (sbL (.slice none 0 0) (.slice none 0 0) (.slice (some ⟨X, 0, none⟩) 0 2)).toArray) W := by kernel_rfl
theorem sbL_len (x y v : Value) : (sbL x y v).length = 257 := by simp [sbL]
theorem sbL_one {x y v : Value} (hx : x.oneCell' = true) (hy : y.oneCell' = true) (hv : v.oneCell' = true) : ∀ u ∈ sbL x y v, u.oneCell' = true := by
  intro u hu
  unfold sbL at hu
  rcases List.mem_append.1 hu with hu | hu
  · obtain ⟨k, _, rfl⟩ := List.mem_map.1 hu
    unfold sbF
    split
    · exact hx
    · split
      · exact hy
      · rfl
  · rw [List.mem_singleton] at hu
    rw [hu]
    exact hv
theorem sbL_at (x y v : Value) (k : Nat) (hk : k < 256) : (sbL x y v)[k]? = some (sbF x y k) := by
  unfold sbL
  rw [List.getElem?_append_left (by simpa using hk), List.getElem?_map, List.getElem?_range hk]
  rfl
theorem sbL_last (x y v : Value) : (sbL x y v)[256]? = some v := by
  unfold sbL
  rw [List.getElem?_append_right (by simp)]
  simp
theorem sbL_set_last (x y v u : Value) : (sbL x y v).set 256 u = sbL x y u := by
  unfold sbL
  rw [List.set_append_right _ _ (by simp)]
  simp
theorem sbL_set (x y v u : Value) (k : Nat) (hk : k < 256) : (sbL x y v).set k u = ((List.range 256).map (sbF x y)).set k u ++ [v] := by
  unfold sbL
  rw [List.set_append_left _ _ (by simpa using hk)]
theorem sbL_set44 (x y v u : Value) : (sbL x y v).set 44 u = sbL u y v := by
  rw [sbL_set _ _ _ _ 44 (by omega)]
  unfold sbL
  congr 1
theorem sbL_set58 (x y v u : Value) : (sbL x y v).set 58 u = sbL x u v := by
  rw [sbL_set _ _ _ _ 58 (by omega)]
  unfold sbL
  congr 1
theorem SbAt.c {W : World} {R : Nat} {x y v : Value} (h : SbAt W R x y v) (k : Nat) (hk : k < 256) : W.cell? ⟨R, k, none⟩ = some (sbF x y k) := by
  simp only [World.cell?, show W.heap[R]? = _ from h]
  simpa using sbL_at x y v k hk
theorem SbAt.last {W : World} {R : Nat} {x y v : Value} (h : SbAt W R x y v) : W.cell? ⟨R, 256, none⟩ = some v := by
  simp only [World.cell?, show W.heap[R]? = _ from h]
  simpa using sbL_last x y v
theorem SbAt.fz {W : World} {R : Nat} {x y v : Value} (h : SbAt W R x y v) (o : Nat) : W.frozen? ⟨R, o, none⟩ = false := by simp [World.frozen?, show W.heap[R]? = _ from h]
theorem SbAt.lt {W : World} {R : Nat} {x y v : Value} (h : SbAt W R x y v) : R < W.heap.size := (Array.getElem?_eq_some_iff.1 h).1
theorem SbAt.keep {S : List Nat} {W W' : World} {R : Nat} {x y v : Value} (h : SbAt W R x y v) (f : Fr S W W') (hn : R ∉ S) : SbAt W' R x y v := (f.block R h.lt hn).trans h
theorem SbAt.set {W : World} {R : Nat} {x y v x' y' v' : Value} (h : SbAt W R x y v) (k : Nat) (u : Value) (e : (sbL x y v).set k u = sbL x' y' v') : SbAt (W.setCell ⟨R, k, none⟩ u) R x' y' v' := by
  unfold SbAt at *
  show (W.heap.modify R _)[R]? = _
  rw [Array.getElem?_modify, if_pos rfl, h, ← e]
  simp
theorem sb_store {w : World} {R : Nat} {cs : Array Value} (x y v : Value) (hx : x.oneCell' = true) (hy : y.oneCell' = true) (hv : v.oneCell' = true) (hb : w.heap[R]? = some (.cells cs 269)) (hc : cs.size = 257) :
    ∃ w', (Instr.storeAt 269 (.pointer (some ⟨R, 0, none⟩)) (.agg (sbL x y v).toArray)).run Tryz.prog w = .ok () w' ∧ SbAt w' R x y v ∧ Fr [R] w w' := by
  have hst := run_storeCells_at Tryz.prog R 0 269 (sbL x y v) 0 cs w hb (by rw [sbL_len, hc]; omega) (sbL_one hx hy hv)
  have hs : (Instr.sureAddr (.pointer (some ⟨R, 0, none⟩))).run Tryz.prog w = .ok ⟨R, 0, none⟩ w := by simp [Instr.sureAddr]
  have hrow : (List.take (0 + 0) cs.toList ++ sbL x y v ++ List.drop (0 + 0 + (sbL x y v).length) cs.toList).toArray = (sbL x y v).toArray := by
    rw [sbL_len, List.drop_of_length_le (by simp [hc])]
    simp
  rw [hrow] at hst
  refine ⟨_, ?_, setRow_heap w R cs _ _ _ hb, ?_⟩
  · unfold Instr.storeAt
    rw [Sem.run_bind, hs]
    simp only [Result.andThen_ok]
    unfold storeVar
    rw [Sem.run_bind, Tryz.sizeOf269]
    simp only [Result.andThen_ok]
    rw [if_neg (by simp [Value.cells, sbL_len])]
    have : (Value.agg (sbL x y v).toArray).cells.toList = sbL x y v := by simp [Value.cells]
    rw [this]
    exact hst
  · exact ⟨rfl, rfl, rfl, by simp [World.setRow], fun k hk hn => setRow_other w R k _ (by simpa using hn)⟩
theorem infoStrV : (Tryz.prog.info? 9).map (fun i => (i.zero, i.size, i.bytes)) = some (some (.string ⟨#[]⟩), 1, 16) := by kernel_rfl
theorem conv1V (x : UInt8) (b : Nat) (W : World) (h : W.cell? ⟨b, 0, none⟩ = some (.int .u8 (x.toNat : Int))) : (convert 99 9 (.slice (some ⟨b, 0, none⟩) 1 1)).run Tryz.prog W = .ok (.string ⟨#[x]⟩) W :=
  run_convert_bytes_back W 99 9 5 ⟨b, 0, none⟩ 1 [x] Tryz.underlying99 Tryz.underlying5 Tryz.underlying9 (fun j hj => by
    have : j = 0 := by simpa using hj
    subst this
    exact h)
theorem conv0V (W : World) : ∃ (k : Nat) (W' : World), (convert 9 99 (.string ⟨#[]⟩)).run Tryz.prog W = .ok (.slice (some ⟨W.heap.size, 0, none⟩) 0 k) W' ∧ Fr [] W W' :=
  ⟨_, _, run_bytes_of_string W 9 99 5 ⟨#[]⟩ Tryz.underlying9 Tryz.underlying99 Tryz.underlying5, ((Fr.refl [] W).drewN 1).alloc _⟩
theorem SbAt.apart {W : World} {R lo : Nat} {x y v : Value} {u : Value} {n : Nat} {xs : List Value} (h : SbAt W R x y v) (hr : W.ownsRow lo 9 1 u n xs) : ∀ q, u.ownBlock = some q → q ≠ R := fun q e => by
  rcases hr.2 with ⟨h1, _⟩ | ⟨g, cap, cur, hv, hb, hh, _⟩
  · rw [h1] at e
    cases e
  · rw [hv] at e
    cases e
    intro e
    have h2 := h
    unfold SbAt at h2
    rw [← e, hh] at h2
    simp only [Option.some.injEq, Obj.cells.injEq] at h2
    exact absurd h2.2.1 (by decide)
theorem grownFrV {w w' : World} {row : Option Nat} {S : List Nat} (h : w.grownBy w' row) (hs : ∀ k, row = some k → k ∈ S) : Fr S w w' :=
  ⟨h.os, h.tape, h.output, h.size, fun k hk hn => h.block k hk (fun he => hn (hs k he.symm))⟩
theorem rowFrV {S : List Nat} {n k : Nat} {W W' : World} {v : Value} {xs : List Value} {E : TypeId} {sz : Nat} (hs : W.ownsRow n E sz v k xs) (h : Fr S W W') (hn : ∀ q, v.ownBlock = some q → q ∉ S) : W'.ownsRow n E sz v k xs := by
  refine ⟨hs.1, hs.2.imp id ?_⟩
  rintro ⟨g, cap, cur, hv, hb, hh, rest⟩
  exact ⟨g, cap, cur, hv, hb, (h.block g (Array.getElem?_eq_some_iff.1 hh).1 (hn g (by rw [hv]; rfl))).trans hh, rest⟩
theorem rowValV {n k : Nat} {W : World} {v : Value} {xs : List Value} {E : TypeId} {sz : Nat} (hs : W.ownsRow n E sz v k xs) : ∃ a c, v = .slice a k c := by
  rcases hs.2 with ⟨rfl, rfl⟩ | ⟨g, cap, cur, rfl, _⟩
  · exact ⟨_, _, rfl⟩
  · exact ⟨_, _, rfl⟩
theorem rowBlkV {n k : Nat} {W : World} {v : Value} {xs : List Value} {E : TypeId} {sz : Nat} (hs : W.ownsRow n E sz v k xs) : ∀ q, v.ownBlock = some q → n ≤ q := fun q e => by
  rcases hs.2 with ⟨rfl, _⟩ | ⟨g, cap, cur, rfl, hb, _⟩
  · cases e
  · cases e
    exact hb
/-- What build makes: the table in block R, the two bytes in a row of its own. -/
structure Built (lo : Nat) (W : World) (R : Nat) (v : Value) : Prop where
  sb : ∃ a1 k1 a2 k2, SbAt W R (.slice (some a1) 0 k1) (.slice (some a2) 0 k2) v
  row : W.ownsRow lo 9 1 v 2 [.string ⟨#[58]⟩, .string ⟨#[44]⟩]
  lo : lo ≤ R
theorem build_any (B A cap : Nat) (w : World) (h : RpAt w B 0 1 .nilIface (.slice (some ⟨A, 0, none⟩) 4 cap)) (ho : OldNew w A) :
    Calls Tryz.prog 151 #[.pointer (some ⟨B, 0, none⟩)] w fun e w' => ∃ R v, e = .returned (.iface 270 (.pointer (some ⟨R, 0, none⟩))) ∧ Built w.heap.size w' R v ∧ Fr [] w w' := by
  have h4 := h.c4
  have o0 := ho.c0
  have o1 := ho.c1
  have o2 := ho.c2
  have o3 := ho.c3
  have HO := Lib.hid (And.intro h ho)
  clear h ho
  go_enter Tryz.func151, Tryz.ntmps151
  go_wp2
  refine wp_loop_rounds 4 ?_
  rw [rounds_succ]
  go_wp2
  rw [rounds_succ]
  go_wp2
  rw [rounds_succ]
  go_upto_region 26 with fail
  refine wp_region_lit ?_
  refine wpList_plain rfl (fun K hK => ?_)
  go_simp
  refine hK _ _ ?_
  clear hK K
  refine wpList_plain rfl (fun K hK => ?_)
  go_simp
  refine hK _ _ ?_
  clear hK K
  refine wpList_plain rfl (fun K hK => ?_)
  go_simp
  refine hK _ _ ?_
  clear hK K
  obtain ⟨w1, hw1⟩ : ∃ z, w.alloc (.cells #[.string ⟨#[]⟩, .string ⟨#[]⟩] 9) = z := ⟨_, rfl⟩
  refine wpListVal rfl (v := .slice (some ⟨w.heap.size, 0, none⟩) 0 2) (w' := w1) ?_ ?_
  · rw [← hw1]
    show Sem.run Tryz.prog ((Instr.makeSlice 34 (.int .i64 0) (.int .i64 2)) >>= fun x => pure (Next.value x)) _ = _
    rw [Sem.run_bind, run_make2]
    rfl
  try simp only [Act.put, List.getElem_toArray, List.getElem_cons_succ, List.getElem_cons_zero, List.setIfInBounds_toArray, List.set_cons_zero, List.set_cons_succ]
  have hbuild := run_build w.heap.size w1
  refine wpList_plain rfl (fun K hK => ?_)
  go_simp
  refine hK _ _ ?_
  clear hK K hbuild
  have hz1 : w1.heap.size = w.heap.size + 1 := by rw [← hw1]; simp
  obtain ⟨w2, hst, hsb, hf2⟩ := sb_store (w := w1.alloc (.cells Tryz.zeroCells269 269)) (R := w1.heap.size) (cs := Tryz.zeroCells269) (.slice none 0 0) (.slice none 0 0) (.slice (some ⟨w.heap.size, 0, none⟩) 0 2) rfl rfl rfl (World.alloc_heap_new w1 _) (by rw [sb_zero]; simp [sbL_len])
  refine wpListVal rfl (v := .pointer (some ⟨w1.heap.size, 0, none⟩)) (w' := w1.alloc (.cells Tryz.zeroCells269 269)) ?_ ?_
  · show Sem.run Tryz.prog ((Instr.alloc 269 true (.tuple #[])) >>= fun x => pure (Next.value x)) _ = _
    rw [Sem.run_bind, run_allocSb]
    rfl
  try simp only [Act.put, List.getElem_toArray, List.getElem_cons_succ, List.getElem_cons_zero, List.setIfInBounds_toArray, List.set_cons_zero, List.set_cons_succ]
  refine wpListSkp rfl (w' := w2) ?_ ?_
  · show Sem.run Tryz.prog ((Instr.storeAt 269 (.pointer (some ⟨w1.heap.size, 0, none⟩)) (.agg (sbL (.slice none 0 0) (.slice none 0 0) (.slice (some ⟨w.heap.size, 0, none⟩) 0 2)).toArray)) >>= fun _ => pure Next.skip) _ = _
    rw [Sem.run_bind, hst]
    rfl
  refine wpList_nil ?_
  try simp only [Act.put, List.getElem_toArray, List.getElem_cons_succ, List.getElem_cons_zero, List.setIfInBounds_toArray, List.set_cons_zero, List.set_cons_succ]
  obtain ⟨X, hX⟩ : ∃ X, w.heap.size = X := ⟨_, rfl⟩
  obtain ⟨R, hR⟩ : ∃ R, w1.heap.size = R := ⟨_, rfl⟩
  have f12 : Fr [] w w2 := by
    have g1 : Fr [] w w1 := by rw [← hw1]; exact (Fr.refl [] w).alloc _
    exact (g1.alloc _).trans hf2 (fun x hx hl => by
      rw [List.mem_singleton] at hx
      have := g1.size
      omega)
  have hrow : w2.ownsRow X 9 1 (.slice (some ⟨X, 0, none⟩) 0 2) 0 [] := by
    have hx1 : w1.heap[X]? = some (.cells #[.string ⟨#[]⟩, .string ⟨#[]⟩] 9 (0, 0)) := by rw [← hw1, ← hX]; exact World.alloc_heap_new w _
    have hx2 : w2.heap[X]? = some (.cells #[.string ⟨#[]⟩, .string ⟨#[]⟩] 9 (0, 0)) := by
      have hlt : X < w1.heap.size := by omega
      exact (hf2.block X (by simp; omega) (by rw [List.mem_singleton]; omega)).trans ((((Fr.refl [] w1).alloc _).block X hlt (by simp)).trans hx1)
    exact ⟨rfl, .inr ⟨X, 2, _, rfl, Nat.le_refl _, hx2, by omega, by unfold maxLen; omega, rfl, rfl⟩⟩
  have p0 := f12.keep o0 (by simp)
  have p1 := f12.keep o1 (by simp)
  have p2 := f12.keep o2 (by simp)
  have p3 := f12.keep o3 (by simp)
  rw [hR] at hsb
  rw [hX] at hsb
  have HSB := Lib.hid hsb
  have HF12 := Lib.hid f12
  have HRW := Lib.hid hrow
  have HXR := Lib.hid (show R = X + 1 from by omega)
  have HSZ := Lib.hid (show X ≤ w2.heap.size from by have := f12.size; omega)
  have c58 : w2.cell? ⟨R, 58, none⟩ = some (.slice none 0 0) := hsb.c 58 (by omega)
  have cl := hsb.last
  simp only [hX, hR]
  have HXW := Lib.hid hX
  clear hst hsb hf2 f12 hrow hw1 h4 o0 o1 o2 o3 hX hR hz1
  have i58 : ∀ W, (Instr.index 9 (.string ⟨#[58]⟩) (.int .i64 0)).run Tryz.prog W = .ok (.int .u8 58) W := fun W => by kernel_rfl
  have i44 : ∀ W, (Instr.index 9 (.string ⟨#[44]⟩) (.int .i64 0)).run Tryz.prog W = .ok (.int .u8 44) W := fun W => by kernel_rfl
  have heq : ∀ W : World, (binOp BinOp.eql 99 (.slice none 0 0) (.slice none 0 0)).run Tryz.prog W = .ok (.bool true) W := fun W => by kernel_rfl
  obtain ⟨i0, hi, hz0, hz1, hz2⟩ := info_parts infoStrV
  go_wp2
  refine wp_loop_rounds 4 ?_
  rw [rounds_succ]
  go_upto_region 33 with fail
  refine wp_region_lit ?_
  refine wpList_plain rfl (fun K hK => ?_)
  go_simp
  refine hK _ _ ?_
  clear hK K
  refine wpList_plain rfl (fun K hK => ?_)
  go_simp
  refine hK _ _ ?_
  clear hK K
  refine wpList_plain rfl (fun K hK => ?_)
  go_simp
  refine hK _ _ ?_
  clear hK K
  refine wpList_plain rfl (fun K hK => ?_)
  go_simp
  refine hK _ _ ?_
  clear hK K
  obtain ⟨w1a, hwa⟩ : ∃ z, w2.alloc (.cells #[.int .u8 58] 5) = z := ⟨_, rfl⟩
  have fa : Fr [] w2 w1a := by rw [← hwa]; exact (Fr.refl [] w2).alloc _
  have hcv := conv1V 58 w2.heap.size w1a (by rw [← hwa]; simp)
  rw [hwa]
  refine wpList_plain rfl (fun K hK => ?_)
  go_simp
  refine hK _ _ ?_
  clear hK K
  refine wpList_plain rfl (fun K hK => ?_)
  go_simp
  refine hK _ _ ?_
  clear hK K hcv
  obtain ⟨w1b, hwb⟩ : ∃ z, w1a.alloc (.cells #[.string ⟨#[58]⟩] 9) = z := ⟨_, rfl⟩
  have fb : Fr [] w1a w1b := by rw [← hwb]; exact (Fr.refl [] w1a).alloc _
  have fab : Fr [] w2 w1b := fa.step fb
  have hrow' := rowFrV HRW.out fab (fun _ _ => by simp)
  have hnew : ∀ j u, [Value.string ⟨#[58]⟩][j]? = some u → w1b.cell? ((⟨w1a.heap.size, 0, none⟩ : Addr).add j) = some u := fun j u hj => by
    match j with
    | 0 => cases hj; rw [← hwb]; simp [Addr.add]
    | j + 1 => simp at hj
  have hbase : X ≤ w1b.heap.size := by
    have := fab.size
    have := HSZ.out
    omega
  rw [hwb]
  refine wpList_append_own _ rfl _ _ 34 rfl X 9 i0 _ 1 16 Tryz.underlying34 hi hz0 hz1 hz2 rfl (by omega) (.slice (some ⟨X, 0, none⟩) 0 2) _ _ rfl hrow' ⟨w1a.heap.size, 0, none⟩ 1 1 [.string ⟨#[58]⟩] rfl rfl hnew (by simp [Value.oneCell']) (by unfold maxLen; omega) (by omega) hbase ?_
  intro vr w1c hown hgrow _
  have hap := HSB.out.apart HRW.out
  have fg : Fr (Value.ownBlock (.slice (some ⟨X, 0, none⟩) 0 2)).toList w1b w1c := grownFrV hgrow (fun k e => by rw [e]; simp)
  have hRn : R ∉ (Value.ownBlock (.slice (some ⟨X, 0, none⟩) 0 2)).toList := fun hm => hap R (by simpa using hm) rfl
  have hsbc := (HSB.out.keep fab (by simp)).keep fg hRn
  have zc := hsbc.fz 256
  have qc := hsbc.last
  obtain ⟨ar, cr, rfl⟩ := rowValV hown
  have HFC := Lib.hid (show Fr [] w w1c from (HF12.out.step fab).trans fg (fun x hx hl => by
    have h1 := rowBlkV HRW.out x (by simpa using hx)
    have h2 := HXW.out
    omega))
  try simp only [Act.put, List.getElem_toArray, List.getElem_cons_succ, List.getElem_cons_zero, List.setIfInBounds_toArray, List.set_cons_zero, List.set_cons_succ]
  refine wpList_plain rfl (fun K hK => ?_)
  go_simp
  refine hK _ _ ?_
  clear hK K
  refine wpList_plain rfl (fun K hK => ?_)
  go_simp
  refine hK _ _ ?_
  clear hK K
  refine wpList_nil ?_
  try simp only [Act.put, List.getElem_toArray, List.getElem_cons_succ, List.getElem_cons_zero, List.setIfInBounds_toArray, List.set_cons_zero, List.set_cons_succ]
  obtain ⟨w1d, hwd⟩ : ∃ z, w1c.setCell ⟨R, 256, none⟩ (.slice ar 1 cr) = z := ⟨_, rfl⟩
  have fd : Fr [R] w1c w1d := by rw [← hwd]; exact (Fr.refl [R] w1c).setCell (fun _ => by simp) _
  have hsbd := hsbc.set 256 (.slice ar 1 cr) (sbL_set_last _ _ _ _)
  rw [hwd] at hsbd ⊢
  have hapd := (hsbc.apart hown)
  have hrwd := rowFrV hown fd (fun q e => by rw [List.mem_singleton]; exact hapd q e)
  have HFD := Lib.hid (show Fr [] w w1d from HFC.out.trans fd (fun x hx hl => by
    rw [List.mem_singleton] at hx
    have h1 := HXR.out
    have h2 := HXW.out
    omega))
  clear hwd fd hsbc hap fg hRn hwa hwb fa fb fab hrow' hnew hbase hgrow zc qc hapd cl c58 p0 p1 p2 p3
  replace HSB := Lib.hid hsbd
  replace HRW := Lib.hid hrwd
  replace HF12 := HFD
  obtain ⟨ke, w1e, hcv, fe⟩ := conv0V w1d
  have HCV := Lib.hid hcv
  have hsbe := hsbd.keep fe (by simp)
  have ze := hsbe.fz 58
  have ce := hsbe.c 58 (by omega)
  have HFE := Lib.hid (HFD.out.step fe)
  have hrwe := rowFrV hrwd fe (fun _ _ => by simp)
  clear hcv HFC HFD hown
  have HSZ2 := Lib.hid (show w1d.heap.size ≤ w1e.heap.size from fe.size)
  go_upto_region 34 with fail
  refine wp_region_lit ?_
  refine wpList_plain rfl (fun K hK => ?_)
  go_simp
  refine hK _ _ ?_
  clear hK K
  refine wpList_plain rfl (fun K hK => ?_)
  go_simp
  refine hK _ _ ?_
  clear hK K
  refine wpListVal rfl (v := .slice (some ⟨w1d.heap.size, 0, none⟩) 0 ke) (w' := w1e) ?_ ?_
  · show Sem.run Tryz.prog (convert 9 99 (.string ⟨#[]⟩) >>= fun x => pure (Next.value x)) _ = _
    rw [Sem.run_bind, HCV.out]
    rfl
  try simp only [Act.put, List.getElem_toArray, List.getElem_cons_succ, List.getElem_cons_zero, List.setIfInBounds_toArray, List.set_cons_zero, List.set_cons_succ]
  refine wpList_plain rfl (fun K hK => ?_)
  go_simp
  refine hK _ _ ?_
  clear hK K
  refine wpList_plain rfl (fun K hK => ?_)
  go_simp
  refine hK _ _ ?_
  clear hK K
  refine wpList_plain rfl (fun K hK => ?_)
  go_simp
  refine hK _ _ ?_
  clear hK K
  refine wpList_nil ?_
  try simp only [Act.put, List.getElem_toArray, List.getElem_cons_succ, List.getElem_cons_zero, List.setIfInBounds_toArray, List.set_cons_zero, List.set_cons_succ]
  obtain ⟨w1f, hwf⟩ : ∃ z, w1e.setCell ⟨R, 58, none⟩ (.slice (some ⟨w1d.heap.size, 0, none⟩) 0 ke) = z := ⟨_, rfl⟩
  have ff : Fr [R] w1e w1f := by rw [← hwf]; exact (Fr.refl [R] w1e).setCell (fun _ => by simp) _
  have hsbf := hsbe.set 58 (.slice (some ⟨w1d.heap.size, 0, none⟩) 0 ke) (sbL_set58 _ _ _ _)
  rw [hwf] at hsbf ⊢
  have hapf := hsbe.apart hrwe
  have hrwf := rowFrV hrwe ff (fun q e => by rw [List.mem_singleton]; exact hapf q e)
  have HFF := Lib.hid (show Fr [] w w1f from HFE.out.trans ff (fun x hx hl => by
    rw [List.mem_singleton] at hx
    have h1 := HXR.out
    have h2 := HXW.out
    omega))
  replace HSB := Lib.hid hsbf
  replace HRW := Lib.hid hrwf
  replace HF12 := HFF
  have HSZ := Lib.hid (show X ≤ w1f.heap.size from by
    have h1 := HFF.out.size
    have h2 := HXW.out
    omega)
  clear hwf ff ce hsbe hapf hrwe HFF HFE HCV HSZ2 hsbd hrwd ze fe
  have o0 := (HF12.out).keep HO.out.2.c0 (by simp)
  have o1 := (HF12.out).keep HO.out.2.c1 (by simp)
  have c44 : w1f.cell? ⟨R, 44, none⟩ = some (.slice none 0 0) := hsbf.c 44 (by omega)
  have cl := hsbf.last
  obtain ⟨ar1, har⟩ : ∃ z, ar = z := ⟨_, rfl⟩
  obtain ⟨cr1, hcr⟩ : ∃ z, cr = z := ⟨_, rfl⟩
  rw [har, hcr] at HSB HRW cl
  obtain ⟨K1, hK1⟩ : ∃ z, w1d.heap.size = z := ⟨_, rfl⟩
  obtain ⟨E1, hE1⟩ : ∃ z, ke = z := ⟨_, rfl⟩
  rw [hK1, hE1] at HSB
  clear hsbf hrwf har hcr
  go_wp2
  rw [rounds_succ]
  go_upto_region 33 with fail
  refine wp_region_lit ?_
  refine wpList_plain rfl (fun K hK => ?_)
  go_simp
  refine hK _ _ ?_
  clear hK K
  refine wpList_plain rfl (fun K hK => ?_)
  go_simp
  refine hK _ _ ?_
  clear hK K
  refine wpList_plain rfl (fun K hK => ?_)
  go_simp
  refine hK _ _ ?_
  clear hK K
  refine wpList_plain rfl (fun K hK => ?_)
  go_simp
  refine hK _ _ ?_
  clear hK K
  obtain ⟨w2a, hwa⟩ : ∃ z, w1f.alloc (.cells #[.int .u8 44] 5) = z := ⟨_, rfl⟩
  have fa : Fr [] w1f w2a := by rw [← hwa]; exact (Fr.refl [] w1f).alloc _
  have hcv := conv1V 44 w1f.heap.size w2a (by rw [← hwa]; simp)
  rw [hwa]
  refine wpList_plain rfl (fun K hK => ?_)
  go_simp
  refine hK _ _ ?_
  clear hK K
  refine wpList_plain rfl (fun K hK => ?_)
  go_simp
  refine hK _ _ ?_
  clear hK K hcv
  obtain ⟨w2b, hwb⟩ : ∃ z, w2a.alloc (.cells #[.string ⟨#[44]⟩] 9) = z := ⟨_, rfl⟩
  have fb : Fr [] w2a w2b := by rw [← hwb]; exact (Fr.refl [] w2a).alloc _
  have fab : Fr [] w1f w2b := fa.step fb
  have hrow' := rowFrV HRW.out fab (fun _ _ => by simp)
  have hnew : ∀ j u, [Value.string ⟨#[44]⟩][j]? = some u → w2b.cell? ((⟨w2a.heap.size, 0, none⟩ : Addr).add j) = some u := fun j u hj => by
    match j with
    | 0 => cases hj; rw [← hwb]; simp [Addr.add]
    | j + 1 => simp at hj
  have hbase : X ≤ w2b.heap.size := by
    have := fab.size
    have := HSZ.out
    omega
  rw [hwb]
  refine wpList_append_own _ rfl _ _ 34 rfl X 9 i0 _ 1 16 Tryz.underlying34 hi hz0 hz1 hz2 rfl (by omega) (.slice ar1 1 cr1) _ _ rfl hrow' ⟨w2a.heap.size, 0, none⟩ 1 1 [.string ⟨#[44]⟩] rfl rfl hnew (by simp [Value.oneCell']) (by unfold maxLen; omega) (by omega) hbase ?_
  intro vr w2c hown hgrow _
  have hap := HSB.out.apart HRW.out
  have fg : Fr (Value.ownBlock (.slice ar1 1 cr1)).toList w2b w2c := grownFrV hgrow (fun k e => by rw [e]; simp)
  have hRn : R ∉ (Value.ownBlock (.slice ar1 1 cr1)).toList := fun hm => hap R (by simpa using hm) rfl
  have hsbc := (HSB.out.keep fab (by simp)).keep fg hRn
  have zc := hsbc.fz 256
  have qc := hsbc.last
  obtain ⟨ar, cr, rfl⟩ := rowValV hown
  have HFC := Lib.hid (show Fr [] w w2c from (HF12.out.step fab).trans fg (fun x hx hl => by
    have h1 := rowBlkV HRW.out x (by simpa using hx)
    have h2 := HXW.out
    omega))
  try simp only [Act.put, List.getElem_toArray, List.getElem_cons_succ, List.getElem_cons_zero, List.setIfInBounds_toArray, List.set_cons_zero, List.set_cons_succ]
  refine wpList_plain rfl (fun K hK => ?_)
  go_simp
  refine hK _ _ ?_
  clear hK K
  refine wpList_plain rfl (fun K hK => ?_)
  go_simp
  refine hK _ _ ?_
  clear hK K
  refine wpList_nil ?_
  try simp only [Act.put, List.getElem_toArray, List.getElem_cons_succ, List.getElem_cons_zero, List.setIfInBounds_toArray, List.set_cons_zero, List.set_cons_succ]
  obtain ⟨w2d, hwd⟩ : ∃ z, w2c.setCell ⟨R, 256, none⟩ (.slice ar 2 cr) = z := ⟨_, rfl⟩
  have fd : Fr [R] w2c w2d := by rw [← hwd]; exact (Fr.refl [R] w2c).setCell (fun _ => by simp) _
  have hsbd := hsbc.set 256 (.slice ar 2 cr) (sbL_set_last _ _ _ _)
  rw [hwd] at hsbd ⊢
  have hapd := (hsbc.apart hown)
  have hrwd := rowFrV hown fd (fun q e => by rw [List.mem_singleton]; exact hapd q e)
  have HFD := Lib.hid (show Fr [] w w2d from HFC.out.trans fd (fun x hx hl => by
    rw [List.mem_singleton] at hx
    have h1 := HXR.out
    have h2 := HXW.out
    omega))
  clear hwd fd hsbc hap fg hRn hwa hwb fa fb fab hrow' hnew hbase hgrow zc qc hapd cl c44 o0 o1
  replace HSB := Lib.hid hsbd
  replace HRW := Lib.hid hrwd
  replace HF12 := HFD
  obtain ⟨ke, w2e, hcv, fe⟩ := conv0V w2d
  have HCV := Lib.hid hcv
  have hsbe := hsbd.keep fe (by simp)
  have ze := hsbe.fz 44
  have ce := hsbe.c 44 (by omega)
  have HFE := Lib.hid (HFD.out.step fe)
  have hrwe := rowFrV hrwd fe (fun _ _ => by simp)
  clear hcv HFC HFD hown
  have HSZ2 := Lib.hid (show w2d.heap.size ≤ w2e.heap.size from fe.size)
  go_upto_region 34 with fail
  refine wp_region_lit ?_
  refine wpList_plain rfl (fun K hK => ?_)
  go_simp
  refine hK _ _ ?_
  clear hK K
  refine wpList_plain rfl (fun K hK => ?_)
  go_simp
  refine hK _ _ ?_
  clear hK K
  refine wpListVal rfl (v := .slice (some ⟨w2d.heap.size, 0, none⟩) 0 ke) (w' := w2e) ?_ ?_
  · show Sem.run Tryz.prog (convert 9 99 (.string ⟨#[]⟩) >>= fun x => pure (Next.value x)) _ = _
    rw [Sem.run_bind, HCV.out]
    rfl
  try simp only [Act.put, List.getElem_toArray, List.getElem_cons_succ, List.getElem_cons_zero, List.setIfInBounds_toArray, List.set_cons_zero, List.set_cons_succ]
  refine wpList_plain rfl (fun K hK => ?_)
  go_simp
  refine hK _ _ ?_
  clear hK K
  refine wpList_plain rfl (fun K hK => ?_)
  go_simp
  refine hK _ _ ?_
  clear hK K
  refine wpList_plain rfl (fun K hK => ?_)
  go_simp
  refine hK _ _ ?_
  clear hK K
  refine wpList_nil ?_
  try simp only [Act.put, List.getElem_toArray, List.getElem_cons_succ, List.getElem_cons_zero, List.setIfInBounds_toArray, List.set_cons_zero, List.set_cons_succ]
  obtain ⟨w2f, hwf⟩ : ∃ z, w2e.setCell ⟨R, 44, none⟩ (.slice (some ⟨w2d.heap.size, 0, none⟩) 0 ke) = z := ⟨_, rfl⟩
  have ff : Fr [R] w2e w2f := by rw [← hwf]; exact (Fr.refl [R] w2e).setCell (fun _ => by simp) _
  have hsbf := hsbe.set 44 (.slice (some ⟨w2d.heap.size, 0, none⟩) 0 ke) (sbL_set44 _ _ _ _)
  rw [hwf] at hsbf ⊢
  have hapf := hsbe.apart hrwe
  have hrwf := rowFrV hrwe ff (fun q e => by rw [List.mem_singleton]; exact hapf q e)
  have HFF := Lib.hid (show Fr [] w w2f from HFE.out.trans ff (fun x hx hl => by
    rw [List.mem_singleton] at hx
    have h1 := HXR.out
    have h2 := HXW.out
    omega))
  replace HSB := Lib.hid hsbf
  replace HRW := Lib.hid hrwf
  replace HF12 := HFF
  have HSZ := Lib.hid (show X ≤ w2f.heap.size from by
    have h1 := HFF.out.size
    have h2 := HXW.out
    omega)
  clear hwf ff ce hsbe hapf hrwe HFF HFE HCV HSZ2 hsbd hrwd ze fe
  go_wp2
  rw [rounds_succ]
  go_wp2
  go_ret
  refine ⟨R, _, rfl, ⟨⟨_, _, _, _, HSB.out⟩, by rw [HXW.out]; exact HRW.out, by have := HXR.out; have := HXW.out; omega⟩, HF12.out⟩
end Go.Proofs.YtllmejkcohfbiaaGreatDoor
namespace Go.Proofs.YtllmejkcohfbiaaGreatDoor
open Go.RowKit Go.Lib
set_option linter.unusedVariables false
set_option linter.unusedSimpArgs false
set_option maxRecDepth 100000
set_option maxHeartbeats 16000000

theorem idxStr (l : List UInt8) (q : Nat) (c : UInt8) (h : l[q]? = some c) (W : World) : (Instr.index 9 (.string (bs l)) (.int .i64 (q : Int))).run Tryz.prog W = .ok (.int .u8 (c.toNat : Int)) W := by
  obtain ⟨hq, rfl⟩ := List.getElem?_eq_some_iff.1 h
  have hs : (q : Int) < ((bs l).size : Int) := by rw [bs_size]; omega
  rw [run_index_string W _ _ _ _ Tryz.underlying9, dif_pos ⟨by omega, hs⟩]
  have : (({ data := l.toArray } : ByteArray)[q]'(by simpa [ByteArray.size] using hq)) = l[q] := by simp [ByteArray.getElem_eq_getElem_data]
  simp only [bs, Int.toNat_natCast]
  rw [this]
theorem mkBytesV (n : Nat) (h : n ≤ 100000) (w : World) : (Instr.makeSlice 99 (.int .i64 (n : Int)) (.int .i64 (n : Int))).run Tryz.prog w = .ok (.slice (some ⟨w.heap.size, 0, none⟩) n n) (w.alloc (.cells (madeCells #[.int .u8 0] n) 5)) :=
  run_make_row' 99 5 (.int .u8 0) 1 Tryz.underlying99 (by kernel_rfl) rfl _ _ n (by omega) (by omega) w
theorem del_cell {W : World} {R : Nat} {a1 a2 : Addr} {k1 k2 : Nat} {v : Value} (h : SbAt W R (.slice (some a1) 0 k1) (.slice (some a2) 0 k2) v) (c : UInt8) :
    (delB c = true ∧ ∃ a k, W.cell? ⟨R, c.toNat, none⟩ = some (.slice (some a) 0 k)) ∨ (delB c = false ∧ W.cell? ⟨R, c.toNat, none⟩ = some (.slice none 0 0)) := by
  have hc := h.c c.toNat (by have := c.toNat_lt; omega)
  have e44 : (c == 44) = true ↔ c.toNat = 44 := by rw [beq_iff_eq]; exact ⟨fun e => by rw [e]; rfl, fun e => UInt8.toNat_inj.1 e⟩
  have e58 : (c == 58) = true ↔ c.toNat = 58 := by rw [beq_iff_eq]; exact ⟨fun e => by rw [e]; rfl, fun e => UInt8.toNat_inj.1 e⟩
  unfold sbF at hc
  unfold delB
  by_cases h1 : c.toNat = 44
  · rw [if_pos h1] at hc
    exact .inl ⟨by rw [e44.2 h1]; rfl, a1, k1, hc⟩
  · rw [if_neg h1] at hc
    by_cases h2 : c.toNat = 58
    · rw [if_pos h2] at hc
      exact .inl ⟨by rw [e58.2 h2, Bool.or_true], a2, k2, hc⟩
    · rw [if_neg h2] at hc
      refine .inr ⟨?_, hc⟩
      rw [Bool.or_eq_false_iff]
      exact ⟨Bool.eq_false_iff.2 (fun e => h1 (e44.1 e)), Bool.eq_false_iff.2 (fun e => h2 (e58.1 e))⟩
/-- A buffer of m bytes that begins with t. -/
def bufL (m : Nat) (t : List UInt8) : List Value := t.map (fun c => Value.int .u8 (c.toNat : Int)) ++ List.replicate (m - t.length) (.int .u8 0)
def BufAt (W : World) (X m : Nat) (t : List UInt8) : Prop := W.heap[X]? = some (.cells (bufL m t).toArray 5) ∧ t.length ≤ m
theorem bufL_len {m : Nat} {t : List UInt8} (h : t.length ≤ m) : (bufL m t).length = m := by
  unfold bufL
  simp
  omega
theorem BufAt.made (m : Nat) (W : World) : BufAt (W.alloc (.cells (madeCells #[.int .u8 0] m) 5)) W.heap.size m [] := by
  refine ⟨?_, Nat.zero_le _⟩
  have e : madeCells #[Value.int .u8 0] m = (bufL m []).toArray := by
    unfold bufL
    apply Array.ext'
    rw [toList_madeCells_one]
    simp
  rw [← e]
  exact World.alloc_heap_new W _
theorem BufAt.fz {W : World} {X m : Nat} {t : List UInt8} (h : BufAt W X m t) (o : Nat) : W.frozen? ⟨X, o, none⟩ = false := by simp [World.frozen?, h.1]
theorem BufAt.cell {W : World} {X m : Nat} {t : List UInt8} (h : BufAt W X m t) {j : Nat} (hj : j < m) : ∃ u, W.cell? ⟨X, j, none⟩ = some u := by
  have h1 : j < (bufL m t).length := by rw [bufL_len h.2]; exact hj
  refine ⟨(bufL m t)[j], ?_⟩
  simp only [World.cell?, h.1]
  simp [h1]
theorem BufAt.put {W : World} {X m : Nat} {t : List UInt8} (h : BufAt W X m t) (c : UInt8) (hl : t.length < m) : BufAt (W.setCell ⟨X, t.length, none⟩ (.int .u8 (c.toNat : Int))) X m (t ++ [c]) := by
  refine ⟨?_, by simp; omega⟩
  show (W.heap.modify X _)[X]? = _
  rw [Array.getElem?_modify, if_pos rfl, h.1]
  have e : (bufL m t).set t.length (.int .u8 (c.toNat : Int)) = bufL m (t ++ [c]) := by
    unfold bufL
    rw [List.set_append_right _ _ (by simp)]
    have hr : List.replicate (m - t.length) (Value.int .u8 0) = .int .u8 0 :: List.replicate (m - (t ++ [c]).length) (.int .u8 0) := by
      rw [← List.replicate_succ]
      congr 1
      simp
      omega
    rw [hr]
    simp
  rw [← e]
  simp
theorem BufAt.text {W : World} {X m : Nat} {t : List UInt8} (h : BufAt W X m t) (hl : t.length = m) : (convert 99 9 (.slice (some ⟨X, 0, none⟩) t.length t.length)).run Tryz.prog W = .ok (.string (bs t)) W :=
  run_convert_bytes_back W 99 9 5 ⟨X, 0, none⟩ t.length t Tryz.underlying99 Tryz.underlying5 Tryz.underlying9 (fun j hj => by
    have h1 : (bufL m t)[j]? = some (.int .u8 (t[j].toNat : Int)) := by
      unfold bufL
      rw [List.getElem?_append_left (by simpa using hj), List.getElem?_map, List.getElem?_eq_getElem hj]
      rfl
    rw [Addr.add_lit, Nat.zero_add]
    simp only [World.cell?, h.1]
    simpa using h1)
theorem sbReplace_any (lo R : Nat) (v : Value) (l : List UInt8) (hl : l.length ≤ 100000) (w : World) (h : Built lo w R v) :
    Calls Tryz.prog 259 #[.pointer (some ⟨R, 0, none⟩), .string (bs l)] w fun e w' => e = .returned (.string (bs (remB l))) ∧ Fr [] w w' := by
  obtain ⟨⟨a1, k1, a2, k2, hsb⟩, hrow, hlo⟩ := h
  have cl := hsb.last
  obtain ⟨aw, cw, rfl⟩ := rowValV hrow
  have hcw : ∃ g, aw = some ⟨g, 0, none⟩ ∧ w.cell? ⟨g, 0, none⟩ = some (.string ⟨#[58]⟩) ∧ w.cell? ⟨g, 1, none⟩ = some (.string ⟨#[44]⟩) := by
    rcases hrow.2 with ⟨_, h1⟩ | ⟨g, cap, cur, h1, h2, h3, _⟩
    · cases h1
    · simp only [Value.slice.injEq] at h1
      refine ⟨g, h1.1, ?_, ?_⟩
      · have := World.ownsRow.cells hrow (g := g) (by rw [h1.1]; rfl) 0 _ rfl
        simpa [Addr.add_lit] using this
      · have := World.ownsRow.cells hrow (g := g) (by rw [h1.1]; rfl) 1 _ rfl
        simpa [Addr.add_lit] using this
  obtain ⟨g, rfl, g0, g1⟩ := hcw
  have hsz : (bs l).size = l.length := bs_size l
  obtain ⟨n, hn⟩ : ∃ n, l.length = n := ⟨_, rfl⟩
  rw [hn] at hl hsz
  have HN := Lib.hid hn
  have HSB := Lib.hid hsb
  obtain ⟨N, hN⟩ : ∃ N, l.countP delB = N := ⟨_, rfl⟩
  have hNn : N ≤ n := by rw [← hN, ← hn]; exact List.countP_le_length
  have HNN := Lib.hid hN
  have hcnt : l.count 58 + l.count 44 = N := by rw [← hN]; exact del_count l
  have hC := fun (c : UInt8) W => Tryz.strings_Count_one (bs l) c W
  simp only [bs_list, Lib.countByte] at hC
  obtain ⟨n58, h58⟩ : ∃ z, l.count 58 = z := ⟨_, rfl⟩
  obtain ⟨n44, h44⟩ : ∃ z, l.count 44 = z := ⟨_, rfl⟩
  have hC58 := hC 58
  have hC44 := hC 44
  rw [h58] at hC58 hcnt
  rw [h44] at hC44 hcnt
  have HC58 := Lib.hid hC58
  have HC44 := Lib.hid hC44
  clear hsb hrow hn hN hC hC58 hC44 h58 h44
  have hne0 : ∀ W : World, (binOp BinOp.neq 99 (.slice none 0 0) (.slice none 0 0)).run Tryz.prog W = .ok (.bool false) W := fun W => by kernel_rfl
  have hne1 : ∀ (a : Addr) (k : Nat) (W : World), (binOp BinOp.neq 99 (.slice (some a) 0 k) (.slice none 0 0)).run Tryz.prog W = .ok (.bool true) W := fun a k W => by kernel_rfl
  by_cases h16 : (16 : Int) ≤ (n : Int)
  · go_wp2
    go_loopw [5, 6, 32] (fun s5 s6 s32 wr => ∃ (wz : World) (j d : Nat), wz = wr ∧ s32 = .int .i64 j ∧ s5 = .int .i64 ((n : Int) - d) ∧ s6 = .bool (!decide (d = 0)) ∧ ((j = 0 ∧ d = 0) ∨ (j = 1 ∧ d = n58) ∨ (j = 2 ∧ d = N)) ∧ Fr [] w wr) (fun _ _ s32 _ => 2 - (intOf s32).toNat)
    case atStart => exact ⟨_, 0, 0, rfl, rfl, by simp, rfl, .inl ⟨rfl, rfl⟩, Fr.refl _ _⟩
    case round =>
    obtain ⟨wr, j, d, hwz, rfl, rfl, rfl, hj, hF⟩ := hrel
    subst hwz
    have HF := Lib.hid hF
    have q0 := hF.keep g0 (by simp)
    have q1 := hF.keep g1 (by simp)
    have HS := Lib.hid (HSB.out.keep hF (by simp))
    obtain ⟨_, b58a, b58k, b58⟩ : delB 58 = true ∧ ∃ a k, wr.cell? ⟨R, 58, none⟩ = some (.slice (some a) 0 k) := by
      rcases del_cell HS.out 58 with h | h
      · exact h
      · exact absurd h.1 (by decide)
    obtain ⟨_, b44a, b44k, b44⟩ : delB 44 = true ∧ ∃ a k, wr.cell? ⟨R, 44, none⟩ = some (.slice (some a) 0 k) := by
      rcases del_cell HS.out 44 with h | h
      · exact h
      · exact absurd h.1 (by decide)
    have i58 : ∀ W, (Instr.index 9 (.string ⟨#[58]⟩) (.int .i64 0)).run Tryz.prog W = .ok (.int .u8 58) W := fun W => by kernel_rfl
    have i44 : ∀ W, (Instr.index 9 (.string ⟨#[44]⟩) (.int .i64 0)).run Tryz.prog W = .ok (.int .u8 44) W := fun W => by kernel_rfl
    clear hF
    rcases hj with ⟨rfl, rfl⟩ | ⟨rfl, rfl⟩ | ⟨rfl, hdN⟩
    · by_cases hz : n58 = 0
      · have HZ := Lib.hid hz
        replace HC58 := Lib.hid (show _ from by have h := HC58.out; rw [hz] at h; exact h)
        clear hz
        go_wp2_with (go_at_call 144; refine (HC58.out _).mono ?_; rintro e w1 ⟨rfl, rfl⟩)
        go_roundw
        case rel => exact ⟨_, 1, 0, rfl, rfl, rfl, rfl, .inr (.inl ⟨rfl, HZ.out.symm⟩), HF.out⟩
        case measure => simp [intOf]
      · have z1 : ((n58 : Int) != 0) = true := by simpa using hz
        have z3 : ¬ (n58 : Int) = 0 := by omega
        go_wp2_with (go_at_call 144; refine (HC58.out _).mono ?_; rintro e w1 ⟨rfl, rfl⟩)
        go_upto_region 9 with fail
        go_region
        go_wp2
        go_roundw
        case rel => exact ⟨_, 1, n58, rfl, rfl, by first | rfl | (congr 1; omega), by rw [decide_eq_false (by omega : ¬ n58 = 0)]; rfl, .inr (.inl ⟨rfl, rfl⟩), HF.out.drewN 1⟩
        case measure => simp [intOf]
    · by_cases hz : n44 = 0
      · have HZ := Lib.hid hz
        replace HC44 := Lib.hid (show _ from by have h := HC44.out; rw [hz] at h; exact h)
        clear hz
        go_wp2_with (go_at_call 144; refine (HC44.out _).mono ?_; rintro e w1 ⟨rfl, rfl⟩)
        go_roundw
        case rel => exact ⟨_, 2, d, rfl, rfl, rfl, rfl, .inr (.inr ⟨rfl, by have := HZ.out; omega⟩), HF.out⟩
        case measure => simp [intOf]
      · have z1 : ((n44 : Int) != 0) = true := by simpa using hz
        have z3 : ¬ (n44 : Int) = 0 := by omega
        go_wp2_with (go_at_call 144; refine (HC44.out _).mono ?_; rintro e w1 ⟨rfl, rfl⟩)
        go_upto_region 9 with fail
        go_region
        go_wp2
        go_roundw
        case rel => exact ⟨_, 2, N, rfl, rfl, by first | rfl | (congr 1; omega), by rw [decide_eq_false (by omega : ¬ N = 0)]; rfl, .inr (.inr ⟨rfl, rfl⟩), HF.out.drewN 1⟩
        case measure => simp [intOf]
    · obtain rfl : N = d := hdN.symm
      clear q0 q1 b58 b44 i58 i44
      go_upto_if 82 with fail
      by_cases hN0 : N = 0
      · have HZ := Lib.hid hN0
        have z1 : decide (N = 0) = true := decide_eq_true hN0
        rw [z1]
        clear z1
        go_wp2
        go_ret
        exact ⟨by rw [remB_none l (by rw [HNN.out]; exact HZ.out)]; rfl, HF.out⟩
      · have z1 : decide (N = 0) = false := decide_eq_false hN0
        rw [z1]
        clear z1
        obtain ⟨m, hm⟩ : ∃ m : Nat, (n : Int) - N = m := ⟨n - N, by omega⟩
        rw [hm]
        have hml : (remB l).length = m := by
          have h1 := remB_len l
          rw [HNN.out, HN.out] at h1
          omega
        have HML := Lib.hid hml
        have hmk := mkBytesV m (by omega) wr
        clear hml
        go_upto_region 21 with fail
        refine wp_region_lit ?_
        refine wpList_plain rfl (fun K hK => ?_)
        go_simp
        refine hK _ _ ?_
        clear hK K
        obtain ⟨W1, hW1⟩ : ∃ z, wr.alloc (.cells (madeCells #[.int .u8 0] m) 5) = z := ⟨_, rfl⟩
        rw [hW1] at hmk
        refine wpListVal rfl (v := .slice (some ⟨wr.heap.size, 0, none⟩) m m) (w' := W1) ?_ ?_
        · show Sem.run Tryz.prog ((Instr.makeSlice 99 (.int .i64 (m : Int)) (.int .i64 (m : Int))) >>= fun x => pure (Next.value x)) _ = _
          rw [Sem.run_bind, hmk]
          rfl
        try simp only [Act.put, List.getElem_toArray, List.getElem_cons_succ, List.getElem_cons_zero, List.setIfInBounds_toArray, List.set_cons_zero, List.set_cons_succ]
        refine wpList_plain rfl (fun K hK => ?_)
        go_simp
        refine hK _ _ ?_
        clear hK K
        refine wpList_nil ?_
        have hB1 := BufAt.made m wr
        rw [hW1] at hB1
        have f1 : Fr [] w W1 := HF.out.step (by rw [← hW1]; exact (Fr.refl [] wr).alloc _)
        have hwB : w.heap.size ≤ wr.heap.size := HF.out.size
        have HB1 := Lib.hid hB1
        have HF1 := Lib.hid f1
        obtain ⟨X, hX⟩ : ∃ X, wr.heap.size = X := ⟨_, rfl⟩
        rw [hX] at HB1 hwB
        simp only [hX]
        clear hX hW1 hmk hB1 f1
        go_wp2
        go_loopw [13, 14] (fun s13 s14 wq => ∃ (wz : World) (q : Nat), wz = wq ∧ s14 = .int .i64 q ∧ s13 = .int .i64 (remB (l.take q)).length ∧ q ≤ n ∧ BufAt wq X m (remB (l.take q)) ∧ Fr [] w wq) (fun _ s14 _ => n - (intOf s14).toNat)
        case atStart => exact ⟨_, 0, rfl, rfl, rfl, by omega, HB1.out, HF1.out⟩
        case round =>
          obtain ⟨wq, q, hwz, rfl, rfl, hq, hB, hF⟩ := hrel
          subst hwz
          have HB := Lib.hid hB
          have HFq := Lib.hid hF
          clear hB hF
          by_cases hlt : q < n
          · have hlt' : (q : Int) < (n : Int) := by omega
            have hx := List.getElem?_eq_getElem (l := l) (i := q) (by rw [HN.out]; exact hlt)
            obtain ⟨c, hce⟩ : ∃ c, l[q]'(by rw [HN.out]; exact hlt) = c := ⟨_, rfl⟩
            rw [hce] at hx
            have hidx := fun W => idxStr l q c hx W
            have hc1 : (c.toNat : Int) < 256 := by have := c.toNat_lt; omega
            have hc2 : c.toNat < 256 := by omega
            have hrs := rem_succ l q c hx
            have hjm : (remB (l.take (q + 1))).length ≤ m := by
              rw [← HML.out, ← List.take_append_drop (q + 1) l, remB_app, List.length_append, List.take_append_drop]
              omega
            have HRS := Lib.hid hrs
            rcases del_cell (HSB.out.keep HFq.out (by simp)) c with ⟨hd, ca, ck, hcc⟩ | ⟨hd, hcc⟩
            · rw [hd, if_pos rfl, List.append_nil] at HRS
              have HJ := Lib.hid hjm
              obtain ⟨j, hj⟩ : ∃ j, (remB (l.take q)).length = j := ⟨_, rfl⟩
              rw [HRS.out, hj] at hjm
              rw [hj]
              have HJE := Lib.hid hj
              have hB2 := HB.out
              have hjm' : (j : Int) ≤ (m : Int) := by omega
              have hcp := fun (x : Nat) (y : Option Addr) (W : World) => run_copy_none (P := Tryz.prog) W 99 99 3 5 y (some ca) x x 0 ck Tryz.underlying99 (by kernel_rfl) (by simp)
              clear hx hce hrs hj hd HJ hB2
              go_upto_region 28 with fail
              go_region
              go_wp2
              go_roundw
              case rel => exact ⟨_, q + 1, rfl, by go_num, by rw [HRS.out, HJE.out], by omega, by rw [HRS.out]; exact HB.out, HFq.out.drewN 1⟩
              case measure => simp [intOf]; omega
            · rw [hd, if_neg (by simp)] at HRS
              obtain ⟨j, hj⟩ : ∃ j, (remB (l.take q)).length = j := ⟨_, rfl⟩
              rw [HRS.out, List.length_append, hj] at hjm
              simp only [List.length_cons, List.length_nil] at hjm
              rw [hj]
              have hjm' : (j : Int) < (m : Int) := by omega
              have hBB := HB.out
              have bz := hBB.fz j
              obtain ⟨bu, bc⟩ := hBB.cell (j := j) (by omega)
              have HB2 := Lib.hid (show BufAt (wq.setCell ⟨X, j, none⟩ (.int .u8 c.toNat)) X m (remB (l.take (q + 1))) from by
                rw [HRS.out, ← hj]
                exact hBB.put c (by omega))
              have HJL := Lib.hid (show (remB (l.take (q + 1))).length = j + 1 from by rw [HRS.out, List.length_append, hj]; rfl)
              have hXw : w.heap.size ≤ X := hwB
              have HF2 := Lib.hid (show Fr [] w (wq.setCell ⟨X, j, none⟩ (.int .u8 c.toNat)) from HFq.out.setCell (fun h => by simp at h; omega) _)
              clear hx hce hrs hj hd hBB
              go_wp2
              go_roundw
              case rel => exact ⟨_, q + 1, rfl, by go_num, by rw [HJL.out]; go_num, by omega, HB2.out, HF2.out⟩
              case measure => simp [intOf]; omega
          · have hqn : q = n := by omega
            subst hqn
            have hfull : l.take q = l := List.take_of_length_le (by rw [HN.out]; exact Nat.le_refl _)
            have hB := HB.out
            rw [hfull] at hB
            have hcv := hB.text (by rw [HML.out])
            rw [HML.out] at hcv
            clear hB hfull
            go_wp2
            go_ret
            exact ⟨rfl, HFq.out⟩
  · go_wp2
    go_loopw [5, 6, 10] (fun s5 s6 s10 wr => ∃ (wz : World) (q d : Nat), wz = wr ∧ s10 = .int .i64 q ∧ s5 = .int .i64 ((n : Int) - d) ∧ s6 = .bool (!decide (d = 0)) ∧ q ≤ n ∧ d = (l.take q).countP delB ∧ Fr [] w wr) (fun _ _ s10 _ => n - (intOf s10).toNat)
    case atStart => exact ⟨_, 0, 0, rfl, rfl, by simp, rfl, by omega, rfl, Fr.refl _ _⟩
    case round =>
    obtain ⟨wr, q, d, hwz, rfl, rfl, rfl, hq, hdq, hF⟩ := hrel
    subst hwz
    have HF := Lib.hid hF
    have HDQ := Lib.hid hdq
    have hdn : d ≤ n := by
      rw [hdq]
      exact Nat.le_trans List.countP_le_length (by rw [List.length_take]; omega)
    clear hF hdq
    by_cases hlt : q < n
    · have hlt' : (q : Int) < (n : Int) := by omega
      have hx := List.getElem?_eq_getElem (l := l) (i := q) (by rw [HN.out]; exact hlt)
      obtain ⟨c, hce⟩ : ∃ c, l[q]'(by rw [HN.out]; exact hlt) = c := ⟨_, rfl⟩
      rw [hce] at hx
      have hidx := fun W => idxStr l q c hx W
      have hc1 : (c.toNat : Int) < 256 := by have := c.toNat_lt; omega
      have hc2 : c.toNat < 256 := by omega
      have HDS := Lib.hid (delN_succ l q c hx)
      rcases del_cell (HSB.out.keep HF.out (by simp)) c with ⟨hd, ca, ck, hcc⟩ | ⟨hd, hcc⟩
      · rw [hd, if_pos rfl] at HDS
        have HD2 := Lib.hid (show d + 1 = (l.take (q + 1)).countP delB from by rw [HDS.out, ← HDQ.out])
        clear hx hce hd
        go_wp2
        go_roundw
        case rel => exact ⟨_, q + 1, d + 1, rfl, by go_num, by congr 1; omega, by rw [decide_eq_false (by omega : ¬ d + 1 = 0)]; rfl, by omega, HD2.out, HF.out⟩
        case measure => simp [intOf]; omega
      · rw [hd, if_neg (by simp)] at HDS
        have HD2 := Lib.hid (show d = (l.take (q + 1)).countP delB from by rw [HDS.out, ← HDQ.out]; rfl)
        clear hx hce hd
        go_wp2
        go_roundw
        case rel => exact ⟨_, q + 1, d, rfl, by go_num, rfl, rfl, by omega, HD2.out, HF.out⟩
        case measure => simp [intOf]; omega
    · have hqn : n = q := by omega
      subst hqn
      have hdN : d = N := by
        rw [HDQ.out, ← HNN.out, List.take_of_length_le (by rw [HN.out]; exact Nat.le_refl _)]
      subst hdN
      go_upto_if 82 with fail
      by_cases hN0 : d = 0
      · have HZ := Lib.hid hN0
        have z1 : decide (d = 0) = true := decide_eq_true hN0
        rw [z1]
        clear z1
        go_wp2
        go_ret
        exact ⟨by rw [remB_none l (by rw [HNN.out]; exact HZ.out)]; rfl, HF.out⟩
      · have z1 : decide (d = 0) = false := decide_eq_false hN0
        rw [z1]
        clear z1
        obtain ⟨m, hm⟩ : ∃ m : Nat, (n : Int) - d = m := ⟨n - d, by omega⟩
        rw [hm]
        have hml : (remB l).length = m := by
          have h1 := remB_len l
          rw [HNN.out, HN.out] at h1
          omega
        have HML := Lib.hid hml
        have hmk := mkBytesV m (by omega) wr
        clear hml
        go_upto_region 21 with fail
        refine wp_region_lit ?_
        refine wpList_plain rfl (fun K hK => ?_)
        go_simp
        refine hK _ _ ?_
        clear hK K
        obtain ⟨W1, hW1⟩ : ∃ z, wr.alloc (.cells (madeCells #[.int .u8 0] m) 5) = z := ⟨_, rfl⟩
        rw [hW1] at hmk
        refine wpListVal rfl (v := .slice (some ⟨wr.heap.size, 0, none⟩) m m) (w' := W1) ?_ ?_
        · show Sem.run Tryz.prog ((Instr.makeSlice 99 (.int .i64 (m : Int)) (.int .i64 (m : Int))) >>= fun x => pure (Next.value x)) _ = _
          rw [Sem.run_bind, hmk]
          rfl
        try simp only [Act.put, List.getElem_toArray, List.getElem_cons_succ, List.getElem_cons_zero, List.setIfInBounds_toArray, List.set_cons_zero, List.set_cons_succ]
        refine wpList_plain rfl (fun K hK => ?_)
        go_simp
        refine hK _ _ ?_
        clear hK K
        refine wpList_nil ?_
        have hB1 := BufAt.made m wr
        rw [hW1] at hB1
        have f1 : Fr [] w W1 := HF.out.step (by rw [← hW1]; exact (Fr.refl [] wr).alloc _)
        have hwB : w.heap.size ≤ wr.heap.size := HF.out.size
        have HB1 := Lib.hid hB1
        have HF1 := Lib.hid f1
        obtain ⟨X, hX⟩ : ∃ X, wr.heap.size = X := ⟨_, rfl⟩
        rw [hX] at HB1 hwB
        simp only [hX]
        clear hX hW1 hmk hB1 f1
        go_wp2
        go_loopw [13, 14] (fun s13 s14 wq => ∃ (wz : World) (q : Nat), wz = wq ∧ s14 = .int .i64 q ∧ s13 = .int .i64 (remB (l.take q)).length ∧ q ≤ n ∧ BufAt wq X m (remB (l.take q)) ∧ Fr [] w wq) (fun _ s14 _ => n - (intOf s14).toNat)
        case atStart => exact ⟨_, 0, rfl, rfl, rfl, by omega, HB1.out, HF1.out⟩
        case round =>
          obtain ⟨wq, q, hwz, rfl, rfl, hq, hB, hF⟩ := hrel
          subst hwz
          have HB := Lib.hid hB
          have HFq := Lib.hid hF
          clear hB hF
          by_cases hlt : q < n
          · have hlt' : (q : Int) < (n : Int) := by omega
            have hx := List.getElem?_eq_getElem (l := l) (i := q) (by rw [HN.out]; exact hlt)
            obtain ⟨c, hce⟩ : ∃ c, l[q]'(by rw [HN.out]; exact hlt) = c := ⟨_, rfl⟩
            rw [hce] at hx
            have hidx := fun W => idxStr l q c hx W
            have hc1 : (c.toNat : Int) < 256 := by have := c.toNat_lt; omega
            have hc2 : c.toNat < 256 := by omega
            have hrs := rem_succ l q c hx
            have hjm : (remB (l.take (q + 1))).length ≤ m := by
              rw [← HML.out, ← List.take_append_drop (q + 1) l, remB_app, List.length_append, List.take_append_drop]
              omega
            have HRS := Lib.hid hrs
            rcases del_cell (HSB.out.keep HFq.out (by simp)) c with ⟨hd, ca, ck, hcc⟩ | ⟨hd, hcc⟩
            · rw [hd, if_pos rfl, List.append_nil] at HRS
              have HJ := Lib.hid hjm
              obtain ⟨j, hj⟩ : ∃ j, (remB (l.take q)).length = j := ⟨_, rfl⟩
              rw [HRS.out, hj] at hjm
              rw [hj]
              have HJE := Lib.hid hj
              have hB2 := HB.out
              have hjm' : (j : Int) ≤ (m : Int) := by omega
              have hcp := fun (x : Nat) (y : Option Addr) (W : World) => run_copy_none (P := Tryz.prog) W 99 99 3 5 y (some ca) x x 0 ck Tryz.underlying99 (by kernel_rfl) (by simp)
              clear hx hce hrs hj hd HJ hB2
              go_upto_region 28 with fail
              go_region
              go_wp2
              go_roundw
              case rel => exact ⟨_, q + 1, rfl, by go_num, by rw [HRS.out, HJE.out], by omega, by rw [HRS.out]; exact HB.out, HFq.out.drewN 1⟩
              case measure => simp [intOf]; omega
            · rw [hd, if_neg (by simp)] at HRS
              obtain ⟨j, hj⟩ : ∃ j, (remB (l.take q)).length = j := ⟨_, rfl⟩
              rw [HRS.out, List.length_append, hj] at hjm
              simp only [List.length_cons, List.length_nil] at hjm
              rw [hj]
              have hjm' : (j : Int) < (m : Int) := by omega
              have hBB := HB.out
              have bz := hBB.fz j
              obtain ⟨bu, bc⟩ := hBB.cell (j := j) (by omega)
              have HB2 := Lib.hid (show BufAt (wq.setCell ⟨X, j, none⟩ (.int .u8 c.toNat)) X m (remB (l.take (q + 1))) from by
                rw [HRS.out, ← hj]
                exact hBB.put c (by omega))
              have HJL := Lib.hid (show (remB (l.take (q + 1))).length = j + 1 from by rw [HRS.out, List.length_append, hj]; rfl)
              have hXw : w.heap.size ≤ X := hwB
              have HF2 := Lib.hid (show Fr [] w (wq.setCell ⟨X, j, none⟩ (.int .u8 c.toNat)) from HFq.out.setCell (fun h => by simp at h; omega) _)
              clear hx hce hrs hj hd hBB
              go_wp2
              go_roundw
              case rel => exact ⟨_, q + 1, rfl, by go_num, by rw [HJL.out]; go_num, by omega, HB2.out, HF2.out⟩
              case measure => simp [intOf]; omega
          · have hqn : q = n := by omega
            subst hqn
            have hfull : l.take q = l := List.take_of_length_le (by rw [HN.out]; exact Nat.le_refl _)
            have hB := HB.out
            rw [hfull] at hB
            have hcv := hB.text (by rw [HML.out])
            rw [HML.out] at hcv
            clear hB hfull
            go_wp2
            go_ret
            exact ⟨rfl, HFq.out⟩
end Go.Proofs.YtllmejkcohfbiaaGreatDoor
namespace Go.Proofs.YtllmejkcohfbiaaGreatDoor
open Go.RowKit Go.Lib
set_option linter.unusedVariables false
set_option linter.unusedSimpArgs false
set_option maxRecDepth 100000
set_option maxHeartbeats 16000000

theorem Built.less {lo lo' : Nat} {W : World} {R : Nat} {v : Value} (h : Built lo W R v) (hl : lo' ≤ lo) : Built lo' W R v := by
  refine ⟨h.sb, ⟨h.row.1, h.row.2.imp id ?_⟩, Nat.le_trans hl h.lo⟩
  rintro ⟨g, cap, cur, hv, hb, rest⟩
  exact ⟨g, cap, cur, hv, Nat.le_trans hl hb, rest⟩
theorem Built.keep {S : List Nat} {lo : Nat} {W W' : World} {R : Nat} {v : Value} (h : Built lo W R v) (f : Fr S W W') (hn : ∀ q, lo ≤ q → q ∉ S) : Built lo W' R v := by
  obtain ⟨⟨a1, k1, a2, k2, hs⟩, hr, hl⟩ := h
  exact ⟨⟨a1, k1, a2, k2, hs.keep f (hn R hl)⟩, rowFrV hr f (fun q e => hn q (rowBlkV hr q e)), hl⟩
def RepV (R : Nat) : Value := .iface 270 (.pointer (some ⟨R, 0, none⟩))
/-- What buildOnce has made. -/
def Once (B : Nat) (r : Value) (W : World) : Prop := ∃ R v, r = RepV R ∧ Built (B + 1) W R v
theorem Once.keep {B : Nat} (r : Value) (W W' : World) (h : Once B r W) (f : Fr [B] W W') : Once B r W' := by
  obtain ⟨R, v, h1, h2⟩ := h
  exact ⟨R, v, h1, h2.keep f (fun q hq => by rw [List.mem_singleton]; omega)⟩
theorem buildOnce_any (B A cap : Nat) (w : World) (h : RpAt w B 0 1 .nilIface (.slice (some ⟨A, 0, none⟩) 4 cap)) (ho : OldNew w A) :
    Calls Tryz.prog 124 #[.pointer (some ⟨B, 0, none⟩)] w fun e w' => e = .returned (.tuple #[]) ∧ ∃ r, RpAt w' B 0 1 r (.slice none 0 0) ∧ Once B r w' ∧ Fr [B] w w' := by
  have HB := Lib.hid (build_any B A cap w h ho)
  have H := Lib.hid h
  have hlt := h.lt
  clear h ho
  go_enter Tryz.func124, Tryz.ntmps124
  go_wp2_with fail
  refine HB.out.mono ?_
  rintro e w1 ⟨R, v, rfl, hb, f1⟩
  have h1 := H.out.keep f1 (by simp)
  have z3 := h1.fz 3
  have z4 := (h1.set3 (RepV R)).fz 4
  have c3 := h1.c3
  have c4 := (h1.set3 (RepV R)).c4
  have c4' := h1.c4
  have z4' := h1.fz 4
  have h2 := Lib.hid ((h1.set3 (RepV R)).set4 (.slice none 0 0))
  have f2 : Fr [B] w1 ((w1.setCell ⟨B, 3, none⟩ (RepV R)).setCell ⟨B, 4, none⟩ (.slice none 0 0)) := ((Fr.refl [B] w1).setCell (fun _ => by simp) _).setCell (fun _ => by simp) _
  have HO := Lib.hid (show Once B (RepV R) ((w1.setCell ⟨B, 3, none⟩ (RepV R)).setCell ⟨B, 4, none⟩ (.slice none 0 0)) from ⟨R, v, rfl, (hb.less (by omega)).keep f2 (fun q hq => by rw [List.mem_singleton]; omega)⟩)
  have HF := Lib.hid (show Fr [B] w ((w1.setCell ⟨B, 3, none⟩ (RepV R)).setCell ⟨B, 4, none⟩ (.slice none 0 0)) from (f1.mono (T := [B]) (fun _ h => by cases h)).trans f2 (fun _ h _ => h))
  unfold RepV at h2 HO HF z4 c4
  clear h1 f2 hb f1
  go_wp2
  go_end0
  exact ⟨rfl, _, h2.out, HO.out, HF.out⟩
theorem replace_any (B A cap : Nat) (l : List UInt8) (hl : l.length ≤ 100000) (w : World) (h : RpAt w B 0 0 .nilIface (.slice (some ⟨A, 0, none⟩) 4 cap)) (hA : A ≠ B) (hAl : A < w.heap.size) (ho : OldNew w A) :
    Calls Tryz.prog 101 #[.pointer (some ⟨B, 0, none⟩), .string (bs l)] w fun e w' => e = .returned (.string (bs (remB l))) ∧ Fr [B] w w' := by
  have HD := Lib.hid (do_first B _ w (Once B) Once.keep h (fun W hW f => buildOnce_any B A cap W hW ⟨f.keep ho.c0 (by simpa using hA), f.keep ho.c1 (by simpa using hA), f.keep ho.c2 (by simpa using hA), f.keep ho.c3 (by simpa using hA)⟩))
  have hmf : ∀ (fn : Fn) (first cap : Array Value) (w : World), (Instr.makeFunc fn first cap).run Tryz.prog w = .ok (.func fn first cap) w := fun _ _ _ _ => rfl
  clear h ho
  go_enter Tryz.func101, Tryz.ntmps101
  go_wp2_with fail
  refine HD.out.mono ?_
  rintro e w1 ⟨rfl, r, hr, ⟨R, v, rfl, hb⟩, f1⟩
  have HS := Lib.hid (sbReplace_any (B + 1) R v l hl w1 hb)
  have c3 := hr.c3
  have HF := Lib.hid f1
  have hme : ∀ (n : Nat) (W : World), (method (n + 1) 270 (.pointer (some ⟨R, 0, none⟩)) "Replace").run Tryz.prog W = .ok (259, .pointer (some ⟨R, 0, none⟩)) W := fun n W => by kernel_rfl
  unfold RepV at c3
  clear hr hb f1
  go_wp2_with (go_at_call 259; refine HS.out.mono ?_; rintro e w2 ⟨rfl, f2⟩)
  go_ret
  exact ⟨rfl, HF.out.trans (f2.mono (T := [B]) (fun _ h => by cases h)) (fun _ h _ => h)⟩
theorem newReplacer_any (D : Nat) (w : World) (ho : OldNew w D) (hD : D < w.heap.size) :
    Calls Tryz.prog 100 #[.slice (some ⟨D, 0, none⟩) 4 4] w fun e w' => ∃ B A cap, e = .returned (.pointer (some ⟨B, 0, none⟩)) ∧ RpAt w' B 0 0 .nilIface (.slice (some ⟨A, 0, none⟩) 4 cap) ∧ OldNew w' A ∧ A ≠ B ∧ w.heap.size ≤ A ∧ w.heap.size ≤ B ∧ A < w'.heap.size ∧ Fr [] w w' := by
  have hnew : ∀ j u, [Value.string ⟨#[44]⟩, .string ⟨#[]⟩, .string ⟨#[58]⟩, .string ⟨#[]⟩][j]? = some u → w.cell? ((⟨D, 0, none⟩ : Addr).add j) = some u := fun j u hj => by
    rw [Addr.add_lit, Nat.zero_add]
    match j with
    | 0 => cases hj; exact ho.c0
    | 1 => cases hj; exact ho.c1
    | 2 => cases hj; exact ho.c2
    | 3 => cases hj; exact ho.c3
    | j + 4 => simp at hj
  obtain ⟨i0, hi, hz0, hz1, hz2⟩ := info_parts infoStrV
  have HW := Lib.hid (show w.ownsRow w.heap.size 9 1 (.slice none 0 0) 0 [] from World.ownsRow_nil _ _ _ _)
  go_enter Tryz.func100, Tryz.ntmps100
  go_wp2_with (first
    | (at_builtin; refine wpList_append_own _ rfl _ _ 34 rfl w.heap.size 9 i0 _ 1 16 Tryz.underlying34 hi hz0 hz1 hz2 rfl (by omega) (.slice none 0 0) 0 [] rfl HW.out ⟨D, 0, none⟩ 4 4 [.string ⟨#[44]⟩, .string ⟨#[]⟩, .string ⟨#[58]⟩, .string ⟨#[]⟩] rfl rfl hnew (by simp [Value.oneCell']) (by unfold maxLen; omega) (by omega) (Nat.le_refl _) ?_; intro v' w1 hown hgrow hnil; obtain ⟨aw, cw, rfl⟩ := rowValV hown; have HOW := Lib.hid hown; have HGR := Lib.hid hgrow; clear hown hgrow hnil)
    | fail)
  have hcw : ∃ g, aw = some ⟨g, 0, none⟩ ∧ w.heap.size ≤ g ∧ g < w1.heap.size ∧ OldNew w1 g := by
    have hrow := HOW.out
    rcases hrow.2 with ⟨_, h1⟩ | ⟨g, cap, cur, h1, h2, h3, _⟩
    · cases h1
    · simp only [Value.slice.injEq] at h1
      have hc := fun (k : Nat) (u : Value) (hk : ([] ++ [Value.string ⟨#[44]⟩, .string ⟨#[]⟩, .string ⟨#[58]⟩, .string ⟨#[]⟩])[k]? = some u) => World.ownsRow.cells hrow (g := g) (by rw [h1.1]; rfl) k u hk
      refine ⟨g, h1.1, h2, (Array.getElem?_eq_some_iff.1 h3).1, ⟨?_, ?_, ?_, ?_⟩⟩
      · have := hc 0 _ rfl
        simpa [Addr.add_lit] using this
      · have := hc 1 _ rfl
        simpa [Addr.add_lit] using this
      · have := hc 2 _ rfl
        simpa [Addr.add_lit] using this
      · have := hc 3 _ rfl
        simpa [Addr.add_lit] using this
  obtain ⟨g, rfl, hg1, hg2, hon⟩ := hcw
  have f1 : Fr [] w w1 := grownFrV HGR.out (fun k e => by cases e)
  have f2 : Fr [] w1 (w1.alloc (.cells #[.int .u32 0, .int .i32 0, .int .u32 0, .nilIface, .slice (some ⟨g, 0, none⟩) 4 cw] 209)) := (Fr.refl [] w1).alloc _
  have h3 : RpAt (w1.alloc (.cells #[.int .u32 0, .int .i32 0, .int .u32 0, .nilIface, .slice (some ⟨g, 0, none⟩) 4 cw] 209)) w1.heap.size 0 0 .nilIface (.slice (some ⟨g, 0, none⟩) 4 cw) := World.alloc_heap_new w1 _
  go_ret
  exact ⟨w1.heap.size, g, cw, rfl, h3, ⟨f2.keep hon.c0 (by simp), f2.keep hon.c1 (by simp), f2.keep hon.c2 (by simp), f2.keep hon.c3 (by simp)⟩, by omega, hg1, f1.size, by have := f2.size; omega, f1.step f2⟩
end Go.Proofs.YtllmejkcohfbiaaGreatDoor
namespace Go.Proofs.YtllmejkcohfbiaaGreatDoor
open Go.RowKit Go.Shelf Go.Sort Go.Lib
set_option linter.unusedVariables false
set_option linter.unusedSimpArgs false
set_option maxRecDepth 100000
set_option maxHeartbeats 16000000

theorem bs_toList (x : List UInt8) : (bs x).toList = x := by rw [ByteArray.toList_eq, bs_list]
theorem addStr (x y : List UInt8) (hx : x.length ≤ 1000000) (hy : y.length ≤ 1000000) (W : World) : (binOp .add 9 (.string (bs x)) (.string (bs y))).run Tryz.prog W = .ok (.string (bs (x ++ y))) W := by
  rw [binOp_string_add, run_string_add W (bs x) (bs y) (by rw [bs_size]; omega) (by rw [bs_size]; omega), bs_append]
theorem eqLists (x y : List UInt8) : ((bs x).toList == (bs y).toList) = decide (x = y) := by
  rw [bs_toList, bs_toList]
  by_cases e : x = y
  · subst e
    simp
  · rw [decide_eq_false e]
    exact beq_eq_false_iff_ne.2 e
theorem eqStr (x y : List UInt8) (W : World) : (binOp .eql 9 (.string (bs x)) (.string (bs y))).run Tryz.prog W = .ok (.bool (decide (x = y))) W := by
  rw [binOp_string_eql, eqLists]
  rfl
end Go.Proofs.YtllmejkcohfbiaaGreatDoor
