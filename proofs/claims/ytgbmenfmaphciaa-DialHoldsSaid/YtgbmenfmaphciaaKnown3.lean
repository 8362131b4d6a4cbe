/- Contracts of the law's own to, tries, stands. -/
/- The law's examples: 'known' returns true in every world. -/
/- The law's examples: 'known' returns true in every world. -/
import Derived.Test.YtgbmenfmaphciaaTry3
namespace Go.Proofs.Ytgbmenfmaphciaa
open Go.RowKit
open Go.Maps (Keyed)
set_option linter.unusedVariables false
set_option maxRecDepth 100000
set_option maxHeartbeats 4000000

theorem to_any (s : ByteArray) (p : Int) (w : World) :
    Calls Try.prog 19 #[.string s, .int .i64 p] w fun e w' => e = .returned (.agg #[.string s, .int .i64 p]) ∧ Fr [] w w' := by
  go_enter Try.func19, Try.ntmps19
  go_wp2
  refine bodyPost_ret (v := .agg #[.string s, .int .i64 p]) (by simp [results, Try.results19, go_sem]) rfl ⟨rfl, ?_⟩
  first | exact (Fr.refl [] w).alloc _ | exact (((Fr.refl [] w).alloc _).setCell (by simp) _).setCell (by simp) _

theorem tries_any {dv nv : Value} (now k f conn e0 : Int) (Q : World → Prop) (w : World)
    (hT : Calls Try.prog 26 #[dv, nv, .int .u64 now] w fun e w' => e = .returned (.tuple #[.int .i64 k, .int .i64 f]) ∧ Q w') :
    Calls Try.prog 13 #[dv, nv, .int .u64 now, .int .i64 conn, .int .i64 e0] w fun e w' => e = .returned (.bool ((k == conn) && (f == e0))) ∧ Q w' := by
  have HT := Lib.hid hT
  clear hT
  by_cases h1 : k = conn
  · subst h1
    cases h2 : f == e0
    · go_enter Try.func13, Try.ntmps13
      go_wp2_with (go_at_call 26; refine HT.out.mono ?_; rintro e w1 ⟨rfl, q1⟩)
      go_ret
      exact ⟨by simp, q1⟩
    · go_enter Try.func13, Try.ntmps13
      go_wp2_with (go_at_call 26; refine HT.out.mono ?_; rintro e w1 ⟨rfl, q1⟩)
      go_ret
      exact ⟨by simp, q1⟩
  · have h1' : (k == conn) = false := by simp [h1]
    go_enter Try.func13, Try.ntmps13
    go_wp2_with (go_at_call 26; refine HT.out.mono ?_; rintro e w1 ⟨rfl, q1⟩)
    go_ret
    exact ⟨by simp [h1], q1⟩

theorem stands_any {dv : Value} (a b c st conn e0 : Int) (Q : World → Prop) (w : World)
    (hT : Calls Try.prog 25 #[dv] w fun e w' => e = .returned (.tuple #[.int .i64 a, .int .i64 b, .int .i64 c]) ∧ Q w') :
    Calls Try.prog 15 #[dv, .int .i64 st, .int .i64 conn, .int .i64 e0] w fun e w' => e = .returned (.bool ((a == st) && (b == conn) && (c == e0))) ∧ Q w' := by
  have HT := Lib.hid hT
  clear hT
  cases h1 : a == st
  · go_enter Try.func15, Try.ntmps15
    go_wp2_with (go_at_call 25; refine HT.out.mono ?_; rintro e w1 ⟨rfl, q1⟩)
    go_ret
    exact ⟨by simp, q1⟩
  · cases h2 : b == conn
    · go_enter Try.func15, Try.ntmps15
      go_wp2_with (go_at_call 25; refine HT.out.mono ?_; rintro e w1 ⟨rfl, q1⟩)
      go_ret
      exact ⟨by simp, q1⟩
    · cases h3 : c == e0
      · go_enter Try.func15, Try.ntmps15
        go_wp2_with (go_at_call 25; refine HT.out.mono ?_; rintro e w1 ⟨rfl, q1⟩)
        go_ret
        exact ⟨by simp, q1⟩
      · go_enter Try.func15, Try.ntmps15
        go_wp2_with (go_at_call 25; refine HT.out.mono ?_; rintro e w1 ⟨rfl, q1⟩)
        go_ret
        exact ⟨by simp, q1⟩
end Go.Proofs.Ytgbmenfmaphciaa
namespace Go.Proofs.Ytgbmenfmaphciaa
open Go.RowKit
open Go.Maps (Keyed)
set_option linter.unusedVariables false
set_option maxRecDepth 100000
set_option maxHeartbeats 8000000

def web : ByteArray := ⟨#[119, 101, 98]⟩
def db : ByteArray := ⟨#[100, 98]⟩
theorem web80 : addrB web.data.toList 80 = true := by decide
theorem web0 : addrB web.data.toList 0 = true := by decide
theorem db1 : addrB db.data.toList 1 = true := by decide
theorem webdb : addrV web 80 ≠ addrV db 1 := by
  intro h
  unfold addrV web db at h
  injection h with h
  simp at h

/-- The net of the examples with one listener: its backlog's list l and the connections cs. -/
structure Ex (w : World) (n r m lm cm b q mm t : Nat) (l : List (Nat × Int)) (g : Nat) (cs : List (Value × Value)) : Prop where
  net : NetIs w n r m lm cm [(addrV web 80, .int .i64 0)] [(.int .i64 0, qV b web 80)] cs
  back : BackIs w b q mm t 1 false l g
theorem Ex.keep {S : List Nat} {w w' : World} {n r m lm cm b q mm t : Nat} {l : List (Nat × Int)} {g : Nat} {cs : List (Value × Value)} (h : Ex w n r m lm cm b q mm t l g cs) (hf : Fr S w w') (hS : ∀ x ∈ S, x ∉ [n, r, m, lm, cm, b, q, mm, t]) : Ex w' n r m lm cm b q mm t l g cs :=
  have k : ∀ x ∈ [n, r, m, lm, cm, b, q, mm, t], x ∉ S := fun x hx hs => hS x hs hx
  ⟨h.net.keep hf (k _ (by simp)) (k _ (by simp)) (k _ (by simp)) (k _ (by simp)) (k _ (by simp)), h.back.keep hf (k _ (by simp)) (k _ (by simp)) (k _ (by simp)) (k _ (by simp))⟩
theorem Ex.new {w w' : World} {n r m lm cm b q mm t : Nat} {l : List (Nat × Int)} {g : Nat} {cs : List (Value × Value)} (h : Ex w n r m lm cm b q mm t l g cs) (hf : Fr [] w w') : Ex w' n r m lm cm b q mm t l g cs := h.keep hf (by simp)
theorem Ex.lt {w : World} {n r m lm cm b q mm t : Nat} {l : List (Nat × Int)} {g : Nat} {cs : List (Value × Value)} (h : Ex w n r m lm cm b q mm t l g cs) : ∀ x ∈ [n, r, m, lm, cm, b, q, mm, t], x < w.heap.size := by
  obtain ⟨f', hbm, _⟩ := h.back.queue.nodes
  obtain ⟨ff, hmt, _⟩ := h.back.tickets
  intro x hx
  simp only [List.mem_cons, List.not_mem_nil, or_false] at hx
  rcases hx with rfl | rfl | rfl | rfl | rfl | rfl | rfl | rfl | rfl
  · exact cell_lt h.net.c0
  · exact cell_lt h.net.reg.c0
  · exact h.net.reg.map.lt
  · exact h.net.ls.lt
  · exact h.net.cs.lt
  · exact cell_lt h.back.c0
  · exact cell_lt h.back.queue.c0
  · exact hbm.lt
  · exact hmt.lt

section
variable {n r m lm cm b q mm t : Nat} {dd : Nat} (d u : Nat) (w : World)
/-- The first Try: it connects. -/
theorem try_a (now : Int) (hnow : passB 10 now = false) (h : DialIs w d u web 80 (4 : Nat) 10 0 0 0 0) (hx : Ex w n r m lm cm b q mm t [] 0 []) (hd : ∀ x ∈ [n, r, m, lm, cm, b, q, mm, t], x < d ∧ x < u)
    (hsep : ∀ x ∈ [b, q, mm, t], x ∉ [n, r, m, lm, cm]) :
    Calls Try.prog 26 #[.pointer (some ⟨d, 0, none⟩), .pointer (some ⟨n, 0, none⟩), .int .u64 now] w fun e w' => e = .returned (.tuple #[.int .i64 0, .int .i64 0]) ∧ (DialIs w' d u web 80 (4 : Nat) 10 1 0 0 1 ∧ (∃ dd, Ex w' n r m lm cm b q mm t [(1, 0)] 1 [(.int .i64 0, .pointer (some ⟨dd, 0, none⟩))]) ∧ Fr [d, cm, q, mm, t] w w') := by
  have hnd : d ∉ [n, r, m, lm, cm, b, q, mm, t] := fun hm => by have := hd d hm; omega
  have hnu : u ∉ [n, r, m, lm, cm, b, q, mm, t] := fun hm => by have := hd u hm; omega
  refine (dialTry_go (names := [(addrV web 80, .int .i64 0)]) (ls := [(.int .i64 0, qV b web 80)]) (cs := []) d u web 80 10 0 0 0 4 now 0 0 [cm, q, mm, t] (fun W => ∃ dd, Ex W n r m lm cm b q mm t [(1, 0)] 1 [(.int .i64 0, .pointer (some ⟨dd, 0, none⟩))]) ?_ w h hx.net hnow (by omega) (by omega) ?_ ?_ ?_ ?_).mono ?_
  · rintro a b' ⟨dd, hdd⟩ hf
    exact ⟨dd, hdd.keep hf (fun x hx => by simp only [List.mem_singleton] at hx; subst hx; exact hnd)⟩
  · intro hm; exact hnd (by simp at hm ⊢; omega)
  · intro hm; exact hnd (by simp at hm ⊢; omega)
  · intro hm; exact hnu (by simp at hm ⊢; omega)
  · intro W hW
    have hE := hx.keep hW (fun x hx => by simp only [List.mem_singleton] at hx; subst hx; exact hnd)
    refine (netConnect_first n r m lm cm _ _ [] web 80 4 W hE.net (by decide) web80 (by omega) 0 b q mm t 1 0 0 web 80 (by simp) (by simp) hE.back (by omega) (by omega) (by omega) (fun j hj => by omega) (by simp) (by omega) (by simp) hsep).mono ?_
    rintro e w' ⟨dd, rfl, hN, hB, _, hf⟩
    exact ⟨rfl, ⟨dd, ⟨hN, hB⟩⟩, hf⟩
  · rintro e w' ⟨rfl, hD, hE, hf⟩
    exact ⟨by simp, by simpa using hD, hE, hf⟩

/-- The second one: the backlog is full. -/
theorem try_b (now : Int) (hnow : passB 10 now = false) (h : DialIs w d u web 80 (4 : Nat) 10 0 0 0 0) (hx : Ex w n r m lm cm b q mm t [(1, 0)] 1 [(.int .i64 0, .pointer (some ⟨dd, 0, none⟩))]) (hd : ∀ x ∈ [n, r, m, lm, cm, b, q, mm, t], x < d ∧ x < u) :
    Calls Try.prog 26 #[.pointer (some ⟨d, 0, none⟩), .pointer (some ⟨n, 0, none⟩), .int .u64 now] w fun e w' => e = .returned (.tuple #[.int .i64 0, .int .i64 16]) ∧ (DialIs w' d u web 80 (4 : Nat) 10 0 0 0 1 ∧ Ex w' n r m lm cm b q mm t [(1, 0)] 1 [(.int .i64 0, .pointer (some ⟨dd, 0, none⟩))] ∧ Fr [d] w w') := by
  have hnd : d ∉ [n, r, m, lm, cm, b, q, mm, t] := fun hm => by have := hd d hm; omega
  refine (dialTry_go (names := [(addrV web 80, .int .i64 0)]) (ls := [(.int .i64 0, qV b web 80)]) (cs := [(.int .i64 0, .pointer (some ⟨dd, 0, none⟩))]) d u web 80 10 0 0 0 4 now 0 16 [] (fun W => Ex W n r m lm cm b q mm t [(1, 0)] 1 [(.int .i64 0, .pointer (some ⟨dd, 0, none⟩))]) ?_ w h hx.net hnow (by omega) (by omega) ?_ (by simp) (by simp) ?_).mono ?_
  · intro a b' hdd hf
    exact hdd.keep hf (fun x hx => by simp only [List.mem_singleton] at hx; subst hx; exact hnd)
  · intro hm; exact hnd (by simp at hm ⊢; omega)
  · intro W hW
    have hE := hx.keep hW (fun x hx => by simp only [List.mem_singleton] at hx; subst hx; exact hnd)
    refine (netConnect_block n r m lm cm _ _ _ web 80 4 W hE.net (by decide) web80 (by omega) 0 b q mm t 1 [(1, 0)] 1 web 80 (by simp) (by simp) hE.back (by omega) (by omega) (by simp)).mono ?_
    rintro e w' ⟨rfl, hf⟩
    exact ⟨rfl, hE.new hf, hf⟩
  · rintro e w' ⟨rfl, hD, hE, hf⟩
    exact ⟨by simp, by simpa using hD, hE, hf⟩

/-- The third one: no listener has the address. -/
theorem try_c (now : Int) (hnow : passB 18446744073709551615 now = false) (h : DialIs w d u db 1 (0 : Nat) 18446744073709551615 0 0 0 0) (hx : Ex w n r m lm cm b q mm t [(1, 0)] 1 [(.int .i64 0, .pointer (some ⟨dd, 0, none⟩))]) (hd : ∀ x ∈ [n, r, m, lm, cm, b, q, mm, t], x < d ∧ x < u) :
    Calls Try.prog 26 #[.pointer (some ⟨d, 0, none⟩), .pointer (some ⟨n, 0, none⟩), .int .u64 now] w fun e w' => e = .returned (.tuple #[.int .i64 0, .int .i64 15]) ∧ (DialIs w' d u db 1 (0 : Nat) 18446744073709551615 2 0 15 1 ∧ Ex w' n r m lm cm b q mm t [(1, 0)] 1 [(.int .i64 0, .pointer (some ⟨dd, 0, none⟩))] ∧ Fr [d] w w') := by
  have hnd : d ∉ [n, r, m, lm, cm, b, q, mm, t] := fun hm => by have := hd d hm; omega
  refine (dialTry_go (names := [(addrV web 80, .int .i64 0)]) (ls := [(.int .i64 0, qV b web 80)]) (cs := [(.int .i64 0, .pointer (some ⟨dd, 0, none⟩))]) d u db 1 18446744073709551615 0 0 0 0 now 0 15 [] (fun W => Ex W n r m lm cm b q mm t [(1, 0)] 1 [(.int .i64 0, .pointer (some ⟨dd, 0, none⟩))]) ?_ w h hx.net hnow (by omega) (by omega) ?_ (by simp) (by simp) ?_).mono ?_
  · intro a b' hdd hf
    exact hdd.keep hf (fun x hx => by simp only [List.mem_singleton] at hx; subst hx; exact hnd)
  · intro hm; exact hnd (by simp at hm ⊢; omega)
  · intro W hW
    have hE := hx.keep hW (fun x hx => by simp only [List.mem_singleton] at hx; subst hx; exact hnd)
    refine (netConnect_refused n r m lm cm _ _ _ db 1 0 W hE.net (by decide) db1 (by simp only [List.mem_singleton, forall_eq]; exact webdb) (by omega)).mono ?_
    rintro e w' ⟨rfl, hf⟩
    exact ⟨rfl, hE.new hf, hf⟩
  · rintro e w' ⟨rfl, hD, hE, hf⟩
    exact ⟨by simp, by simpa using hD, hE, hf⟩
end
end Go.Proofs.Ytgbmenfmaphciaa
namespace Go.Proofs.Ytgbmenfmaphciaa
open Go.RowKit
open Go.Maps (Keyed)
set_option linter.unusedVariables false
set_option maxRecDepth 100000
set_option maxHeartbeats 16000000

theorem known_true (w : World) :
    Calls Try.prog 8 #[] w fun e w' => e = .returned (.bool true) ∧ Fr [] w w' := by
  go_enter Try.func8, Try.ntmps8
  go_wp2_with fail
  refine (netNew_any _).mono ?_
  rintro e w1 ⟨n, r, m, lm, cm, rfl, N, F, bn, br, bm, bl, bc⟩
  go_wp2_with fail
  refine (to_any _ _ _).mono ?_
  rintro e w2 ⟨rfl, f2⟩
  have F2 := F.step f2
  go_wp2_with fail
  refine (netListen_ok n r m lm cm [] [] [] web 80 1 0 _ (N.new f2) (by decide) web80 (by decide) (by omega) (by omega) (by simp) (by simp) (fun j hj => by omega) (by simp) (by omega)).mono ?_
  rintro e w3 ⟨b, q, mm, t, rfl, N3, B3, f3, lb, lq, lmm, lt⟩
  have X3 : Ex w3 n r m lm cm b q mm t [] 0 [] := ⟨N3, B3⟩
  have z2 := (Ex.lt X3)
  have zn := cell_lt (N.new f2).c0
  have zr := cell_lt (N.new f2).reg.c0
  have zm := (N.new f2).reg.map.lt
  have zl := (N.new f2).ls.lt
  have zc := (N.new f2).cs.lt
  have hsep : ∀ x ∈ [b, q, mm, t], x ∉ [n, r, m, lm, cm] := by
    intro x hx hm
    simp only [List.mem_cons, List.not_mem_nil, or_false] at hx hm
    omega
  have low : ∀ x ∈ [n, r, m, lm, cm, b, q, mm, t], w.heap.size ≤ x := by
    have := F2.size
    intro x hx
    simp only [List.mem_cons, List.not_mem_nil, or_false] at hx
    omega
  have F3 : Fr [] w w3 := F2.trans f3 (fun x hx hl => by simp at hx; omega)
  clear zn zr zm zl zc lb lq lmm lt N3 B3 f3 N F f2 bn br bm bl bc F2
  go_wp2_with fail
  have f4 : Fr [] w3 (w3.alloc (.cells #[.string web, .int .i64 80] 23)) := (Fr.refl [] _).alloc _
  refine (to_any _ _ _).mono ?_
  rintro e w5 ⟨rfl, f5⟩
  have X5 := (X3.new f4).new f5
  have F5 := (F3.step f4).step f5
  clear X3 F3 f4 f5 z2
  go_wp2_with fail
  refine (dialNew_ok web 80 10 4 _ (by decide) web80 (by decide) (by omega)).mono ?_
  rintro e w6 ⟨da, ua, rfl, A6, la, lua, f6⟩
  have X6 := X5.new f6
  have F6 := F5.step f6
  have za := cell_lt A6.c0
  have zua := cell_lt A6.cu
  go_wp2_with fail
  refine (to_any _ _ _).mono ?_
  rintro e w7 ⟨rfl, f7⟩
  have X7 := X6.new f7
  have F7 := F6.step f7
  have A7 := A6.new f7
  have z7 := f7.size
  clear f7 X6 F6 A6
  go_wp2_with fail
  refine (dialNew_ok web 80 10 4 _ (by decide) web80 (by decide) (by omega)).mono ?_
  rintro e w8 ⟨db', ub, rfl, B8, lb, lub, f8⟩
  have X8 := X7.new f8
  have F8 := F7.step f8
  have A8 := A7.new f8
  have zb := cell_lt B8.c0
  have zub := cell_lt B8.cu
  clear f8 X7 F7 A7
  go_wp2_with fail
  refine (to_any _ _ _).mono ?_
  rintro e w9 ⟨rfl, f9⟩
  have X9 := X8.new f9
  have F9 := F8.step f9
  have A9 := A8.new f9
  have B9 := B8.new f9
  have z9 := f9.size
  clear f9 X8 F8 A8 B8
  go_wp2_with fail
  refine (dialNew_ok db 1 18446744073709551615 0 _ (by decide) db1 (by decide) (by omega)).mono ?_
  rintro e w10 ⟨dc, uc, rfl, C10, lc, luc, f10⟩
  have X10 := X9.new f10
  have F10 := F9.step f10
  have A10 := A9.new f10
  have B10 := B9.new f10
  have L5 := X5.lt
  have z6 := f6.size
  have LA : ∀ x ∈ [n, r, m, lm, cm, b, q, mm, t], x < da ∧ x < ua := fun x hx => by have := L5 x hx; omega
  have LB : ∀ x ∈ [n, r, m, lm, cm, b, q, mm, t], x < db' ∧ x < ub := fun x hx => by have := L5 x hx; omega
  have LC : ∀ x ∈ [n, r, m, lm, cm, b, q, mm, t], x < dc ∧ x < uc := fun x hx => by have := L5 x hx; omega
  have y1 := L5 cm (by simp)
  have y2 := L5 q (by simp)
  have y3 := L5 mm (by simp)
  have y4 := L5 t (by simp)
  have y5 := F5.size
  have u1 := low cm (by simp)
  have u2 := low q (by simp)
  have u3 := low mm (by simp)
  have u4 := low t (by simp)
  have HL := Lib.hid (And.intro LA (And.intro LB (And.intro LC hsep)))
  clear f10 X9 F9 A9 B9 L5 f6 LA LB LC hsep low X5 F5
  go_wp2_with fail
  refine (tries_any 0 0 0 0 0 _ _ (try_a da ua _ 0 (by decide) A10 X10 HL.out.1 HL.out.2.2.2)).mono ?_
  rintro e w11 ⟨rfl, A11, ⟨dd, X11⟩, f11⟩
  have B11 := B10.keep f11 (by simp; omega) (by simp; omega)
  have C11 := C10.keep f11 (by simp; omega) (by simp; omega)
  have F11 : Fr [] w w11 := F10.trans f11 (fun x hx hl => by simp at hx; omega)
  clear f11 X10 F10 A10 B10 C10
  go_wp2_with fail
  refine (tries_any 5 0 16 0 16 _ _ (try_b db' ub _ 5 (by decide) B11 X11 HL.out.2.1)).mono ?_
  rintro e w12 ⟨rfl, B12, X12, f12⟩
  have A12 := A11.keep f12 (by simp; omega) (by simp; omega)
  have C12 := C11.keep f12 (by simp; omega) (by simp; omega)
  have F12 : Fr [] w w12 := F11.trans f12 (fun x hx hl => by simp at hx; omega)
  clear f12 X11 F11 A11 B11 C11
  go_wp2_with fail
  refine (tries_any 5 0 15 0 15 _ _ (try_c dc uc _ 5 (by decide) C12 X12 HL.out.2.2.1)).mono ?_
  rintro e w13 ⟨rfl, C13, X13, f13⟩
  have A13 := A12.keep f13 (by simp; omega) (by simp; omega)
  have B13 := B12.keep f13 (by simp; omega) (by simp; omega)
  have F13 : Fr [] w w13 := F12.trans f13 (fun x hx hl => by simp at hx; omega)
  clear f13 X12 F12 A12 B12 C12
  go_wp2_with fail
  refine (stands_any 1 0 0 1 0 0 _ _ (dialState_any da ua web 80 4 10 1 0 0 1 _ A13)).mono ?_
  rintro e w14 ⟨rfl, f14⟩
  go_wp2_with fail
  refine (stands_any 0 0 0 0 0 0 _ _ (dialState_any db' ub web 80 4 10 0 0 0 1 _ (B13.new f14))).mono ?_
  rintro e w15 ⟨rfl, f15⟩
  go_wp2_with fail
  refine (stands_any 2 0 15 2 0 15 _ _ (dialState_any dc uc db 1 0 18446744073709551615 2 0 15 1 _ ((C13.new f14).new f15))).mono ?_
  rintro e w16 ⟨rfl, f16⟩
  have f6' := (f14.step f15).step f16
  have X16 := X13.new f6'
  have A16 := A13.new f6'
  have B16 := B13.new f6'
  have F16 := F13.step f6'
  clear f14 f15 f16 f6' X13 A13 B13 C13 F13
  go_wp2_with fail
  refine (tries_any 5 0 8 0 8 _ _ (dialTry_state da ua web 80 10 1 0 0 1 4 5 _ A16 X16.net (by decide))).mono ?_
  rintro e w17 ⟨rfl, f17⟩
  have B17 := B16.new f17
  go_wp2_with fail
  refine (dialTries_any db' ub web 80 4 10 0 0 0 1 _ B17).mono ?_
  rintro e w' ⟨rfl, rfl⟩
  go_wp2_with fail
  refine (tries_any 10 0 12 0 12 _ _ (dialTry_over db' ub web 80 10 0 0 1 4 10 _ B17 (X16.new f17).net (by decide))).mono ?_
  rintro e w18 ⟨rfl, B18, f18⟩
  have F18 : Fr [] w w18 := (F16.step f17).trans f18 (fun x hx hl => by simp at hx; omega)
  clear B16 B17 A16 X16 f17 f18 F16
  go_wp2_with fail
  refine (stands_any 2 0 12 2 0 12 _ _ (dialState_any db' ub web 80 4 10 2 0 12 1 _ B18)).mono ?_
  rintro e w19 ⟨rfl, f19⟩
  have B19 := B18.new f19
  go_wp2_with fail
  refine (dialTries_any db' ub web 80 4 10 2 0 12 1 _ B19).mono ?_
  rintro e w' ⟨rfl, rfl⟩
  go_wp2_with fail
  refine (dialGive_state db' ub web 80 4 10 2 0 12 1 _ B19 (by decide)).mono ?_
  rintro e w' ⟨rfl, rfl⟩
  go_wp2_with fail
  refine (to_any _ _ _).mono ?_
  rintro e w20 ⟨rfl, f20⟩
  go_wp2_with fail
  refine (dialNew_bad web 0 4 10 _ (by decide) (.inr (.inl rfl))).mono ?_
  rintro e w21 ⟨rfl, f21⟩
  go_wp2_with fail
  refine (to_any _ _ _).mono ?_
  rintro e w22 ⟨rfl, f22⟩
  go_wp2_with fail
  refine (dialNew_bad web 80 (-1) 10 _ (by decide) (.inr (.inr (.inl (by decide))))).mono ?_
  rintro e w23 ⟨rfl, f23⟩
  go_wp2_with fail
  go_ret
  exact ⟨rfl, ((((F18.step f19).step f20).step f21).step f22).step f23⟩
end Go.Proofs.Ytgbmenfmaphciaa
