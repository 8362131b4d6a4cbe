/- The law's examples: 'known' returns true in every world. -/
import Derived.Test.YtgbmenfmaphciaaKnown
namespace Go.Proofs.Ytgbmenfmaphciaa
open Go.RowKit
open Go.Maps (Keyed)
set_option linter.unusedVariables false
set_option maxRecDepth 100000
set_option maxHeartbeats 8000000

def web : ByteArray := ⟨#[119, 101, 98]⟩
def db : ByteArray := ⟨#[100, 98]⟩
theorem web80 : addrB web.data.toList 80 = true := by decide
theorem web0 : addrB web.data.toList 0 = true := by decide
theorem db1 : addrB db.data.toList 1 = true := by decide
theorem webdb : addrV web 80 ≠ addrV db 1 := by
  intro h
  unfold addrV web db at h
  injection h with h
  simp at h

/-- The net of the examples with one listener: its backlog's list l and the connections cs. -/
structure Ex (w : World) (n r m lm cm b q mm t : Nat) (l : List (Nat × Int)) (g : Nat) (cs : List (Value × Value)) : Prop where
  net : NetIs w n r m lm cm [(addrV web 80, .int .i64 0)] [(.int .i64 0, qV b web 80)] cs
  back : BackIs w b q mm t 1 false l g
theorem Ex.keep {S : List Nat} {w w' : World} {n r m lm cm b q mm t : Nat} {l : List (Nat × Int)} {g : Nat} {cs : List (Value × Value)} (h : Ex w n r m lm cm b q mm t l g cs) (hf : Fr S w w') (hS : ∀ x ∈ S, x ∉ [n, r, m, lm, cm, b, q, mm, t]) : Ex w' n r m lm cm b q mm t l g cs :=
  have k : ∀ x ∈ [n, r, m, lm, cm, b, q, mm, t], x ∉ S := fun x hx hs => hS x hs hx
  ⟨h.net.keep hf (k _ (by simp)) (k _ (by simp)) (k _ (by simp)) (k _ (by simp)) (k _ (by simp)), h.back.keep hf (k _ (by simp)) (k _ (by simp)) (k _ (by simp)) (k _ (by simp))⟩
theorem Ex.new {w w' : World} {n r m lm cm b q mm t : Nat} {l : List (Nat × Int)} {g : Nat} {cs : List (Value × Value)} (h : Ex w n r m lm cm b q mm t l g cs) (hf : Fr [] w w') : Ex w' n r m lm cm b q mm t l g cs := h.keep hf (by simp)
theorem Ex.lt {w : World} {n r m lm cm b q mm t : Nat} {l : List (Nat × Int)} {g : Nat} {cs : List (Value × Value)} (h : Ex w n r m lm cm b q mm t l g cs) : ∀ x ∈ [n, r, m, lm, cm, b, q, mm, t], x < w.heap.size := by
  obtain ⟨f', hbm, _⟩ := h.back.queue.nodes
  obtain ⟨ff, hmt, _⟩ := h.back.tickets
  intro x hx
  simp only [List.mem_cons, List.not_mem_nil, or_false] at hx
  rcases hx with rfl | rfl | rfl | rfl | rfl | rfl | rfl | rfl | rfl
  · exact cell_lt h.net.c0
  · exact cell_lt h.net.reg.c0
  · exact h.net.reg.map.lt
  · exact h.net.ls.lt
  · exact h.net.cs.lt
  · exact cell_lt h.back.c0
  · exact cell_lt h.back.queue.c0
  · exact hbm.lt
  · exact hmt.lt

section
variable {n r m lm cm b q mm t : Nat} {dd : Nat} (d u : Nat) (w : World)
/-- The first Try: it connects. -/
theorem try_a (now : Int) (hnow : passB 10 now = false) (h : DialIs w d u web 80 (4 : Nat) 10 0 0 0 0) (hx : Ex w n r m lm cm b q mm t [] 0 []) (hd : ∀ x ∈ [n, r, m, lm, cm, b, q, mm, t], x < d ∧ x < u)
    (hsep : ∀ x ∈ [b, q, mm, t], x ∉ [n, r, m, lm, cm]) :
    Calls Try.prog 26 #[.pointer (some ⟨d, 0, none⟩), .pointer (some ⟨n, 0, none⟩), .int .u64 now] w fun e w' => e = .returned (.tuple #[.int .i64 0, .int .i64 0]) ∧ (DialIs w' d u web 80 (4 : Nat) 10 1 0 0 1 ∧ (∃ dd, Ex w' n r m lm cm b q mm t [(1, 0)] 1 [(.int .i64 0, .pointer (some ⟨dd, 0, none⟩))]) ∧ Fr [d, cm, q, mm, t] w w') := by
  have hnd : d ∉ [n, r, m, lm, cm, b, q, mm, t] := fun hm => by have := hd d hm; omega
  have hnu : u ∉ [n, r, m, lm, cm, b, q, mm, t] := fun hm => by have := hd u hm; omega
  refine (dialTry_go (names := [(addrV web 80, .int .i64 0)]) (ls := [(.int .i64 0, qV b web 80)]) (cs := []) d u web 80 10 0 0 0 4 now 0 0 [cm, q, mm, t] (fun W => ∃ dd, Ex W n r m lm cm b q mm t [(1, 0)] 1 [(.int .i64 0, .pointer (some ⟨dd, 0, none⟩))]) ?_ w h hx.net hnow (by omega) (by omega) ?_ ?_ ?_ ?_).mono ?_
  · rintro a b' ⟨dd, hdd⟩ hf
    exact ⟨dd, hdd.keep hf (fun x hx => by simp only [List.mem_singleton] at hx; subst hx; exact hnd)⟩
  · intro hm; exact hnd (by simp at hm ⊢; omega)
  · intro hm; exact hnd (by simp at hm ⊢; omega)
  · intro hm; exact hnu (by simp at hm ⊢; omega)
  · intro W hW
    have hE := hx.keep hW (fun x hx => by simp only [List.mem_singleton] at hx; subst hx; exact hnd)
    refine (netConnect_first n r m lm cm _ _ [] web 80 4 W hE.net (by decide) web80 (by omega) 0 b q mm t 1 0 0 web 80 (by simp) (by simp) hE.back (by omega) (by omega) (by omega) (fun j hj => by omega) (by simp) (by omega) (by simp) hsep).mono ?_
    rintro e w' ⟨dd, rfl, hN, hB, _, hf⟩
    exact ⟨rfl, ⟨dd, ⟨hN, hB⟩⟩, hf⟩
  · rintro e w' ⟨rfl, hD, hE, hf⟩
    exact ⟨by simp, by simpa using hD, hE, hf⟩

/-- The second one: the backlog is full. -/
theorem try_b (now : Int) (hnow : passB 10 now = false) (h : DialIs w d u web 80 (4 : Nat) 10 0 0 0 0) (hx : Ex w n r m lm cm b q mm t [(1, 0)] 1 [(.int .i64 0, .pointer (some ⟨dd, 0, none⟩))]) (hd : ∀ x ∈ [n, r, m, lm, cm, b, q, mm, t], x < d ∧ x < u) :
    Calls Try.prog 26 #[.pointer (some ⟨d, 0, none⟩), .pointer (some ⟨n, 0, none⟩), .int .u64 now] w fun e w' => e = .returned (.tuple #[.int .i64 0, .int .i64 16]) ∧ (DialIs w' d u web 80 (4 : Nat) 10 0 0 0 1 ∧ Ex w' n r m lm cm b q mm t [(1, 0)] 1 [(.int .i64 0, .pointer (some ⟨dd, 0, none⟩))] ∧ Fr [d] w w') := by
  have hnd : d ∉ [n, r, m, lm, cm, b, q, mm, t] := fun hm => by have := hd d hm; omega
  refine (dialTry_go (names := [(addrV web 80, .int .i64 0)]) (ls := [(.int .i64 0, qV b web 80)]) (cs := [(.int .i64 0, .pointer (some ⟨dd, 0, none⟩))]) d u web 80 10 0 0 0 4 now 0 16 [] (fun W => Ex W n r m lm cm b q mm t [(1, 0)] 1 [(.int .i64 0, .pointer (some ⟨dd, 0, none⟩))]) ?_ w h hx.net hnow (by omega) (by omega) ?_ (by simp) (by simp) ?_).mono ?_
  · intro a b' hdd hf
    exact hdd.keep hf (fun x hx => by simp only [List.mem_singleton] at hx; subst hx; exact hnd)
  · intro hm; exact hnd (by simp at hm ⊢; omega)
  · intro W hW
    have hE := hx.keep hW (fun x hx => by simp only [List.mem_singleton] at hx; subst hx; exact hnd)
    refine (netConnect_block n r m lm cm _ _ _ web 80 4 W hE.net (by decide) web80 (by omega) 0 b q mm t 1 [(1, 0)] 1 web 80 (by simp) (by simp) hE.back (by omega) (by omega) (by simp)).mono ?_
    rintro e w' ⟨rfl, hf⟩
    exact ⟨rfl, hE.new hf, hf⟩
  · rintro e w' ⟨rfl, hD, hE, hf⟩
    exact ⟨by simp, by simpa using hD, hE, hf⟩

/-- The third one: no listener has the address. -/
theorem try_c (now : Int) (hnow : passB 18446744073709551615 now = false) (h : DialIs w d u db 1 (0 : Nat) 18446744073709551615 0 0 0 0) (hx : Ex w n r m lm cm b q mm t [(1, 0)] 1 [(.int .i64 0, .pointer (some ⟨dd, 0, none⟩))]) (hd : ∀ x ∈ [n, r, m, lm, cm, b, q, mm, t], x < d ∧ x < u) :
    Calls Try.prog 26 #[.pointer (some ⟨d, 0, none⟩), .pointer (some ⟨n, 0, none⟩), .int .u64 now] w fun e w' => e = .returned (.tuple #[.int .i64 0, .int .i64 15]) ∧ (DialIs w' d u db 1 (0 : Nat) 18446744073709551615 2 0 15 1 ∧ Ex w' n r m lm cm b q mm t [(1, 0)] 1 [(.int .i64 0, .pointer (some ⟨dd, 0, none⟩))] ∧ Fr [d] w w') := by
  have hnd : d ∉ [n, r, m, lm, cm, b, q, mm, t] := fun hm => by have := hd d hm; omega
  refine (dialTry_go (names := [(addrV web 80, .int .i64 0)]) (ls := [(.int .i64 0, qV b web 80)]) (cs := [(.int .i64 0, .pointer (some ⟨dd, 0, none⟩))]) d u db 1 18446744073709551615 0 0 0 0 now 0 15 [] (fun W => Ex W n r m lm cm b q mm t [(1, 0)] 1 [(.int .i64 0, .pointer (some ⟨dd, 0, none⟩))]) ?_ w h hx.net hnow (by omega) (by omega) ?_ (by simp) (by simp) ?_).mono ?_
  · intro a b' hdd hf
    exact hdd.keep hf (fun x hx => by simp only [List.mem_singleton] at hx; subst hx; exact hnd)
  · intro hm; exact hnd (by simp at hm ⊢; omega)
  · intro W hW
    have hE := hx.keep hW (fun x hx => by simp only [List.mem_singleton] at hx; subst hx; exact hnd)
    refine (netConnect_refused n r m lm cm _ _ _ db 1 0 W hE.net (by decide) db1 (by simp only [List.mem_singleton, forall_eq]; exact webdb) (by omega)).mono ?_
    rintro e w' ⟨rfl, hf⟩
    exact ⟨rfl, hE.new hf, hf⟩
  · rintro e w' ⟨rfl, hD, hE, hf⟩
    exact ⟨by simp, by simpa using hD, hE, hf⟩
end
end Go.Proofs.Ytgbmenfmaphciaa
