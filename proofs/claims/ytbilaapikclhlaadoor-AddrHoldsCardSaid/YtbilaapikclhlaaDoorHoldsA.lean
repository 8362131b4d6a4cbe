/- The law AddrHolds' walk: it returns true at every three addresses and every text. -/
import Derived.Test.YtbilaapikclhlaaDoorPlainB
import Derived.Deep.CutRange
namespace Go.Proofs.YtbilaapikclhlaaDoor
open Go.RowKit Go.Sort
set_option linter.unusedVariables false
set_option maxRecDepth 100000
set_option maxHeartbeats 16000000

theorem text_size (s : ByteArray) (u : Nat) (hs : s.size ≤ 100) (hu : u ≤ 65535) : (textB s u).size ≤ 1000 := by
  have h1 := congrArg List.length (text_list s u)
  have h2 := decDigits_len5 u hu
  simp only [List.length_append, List.length_cons] at h1
  have h3 : (textB s u).data.toList.length = (textB s u).size := by simp
  have h4 : s.data.toList.length = s.size := by simp
  omega
theorem parses_text (s : ByteArray) (u : Nat) (hv : addrB s.data.toList u = true) (hs : s.size ≤ 100) (w : World) (he : Env w) :
    Calls Tryd.prog 16 #[.string (textB s u), .agg #[.string s, .int .i64 u], .int .i64 0] w fun e w' => e = .returned (.bool true) ∧ Fr [] w w' := by
  have hu := addr_port hv
  have h := parses_any (textB s u) (s, (u : Int)) 0 (by have := text_size s u hs (by omega); omega) w he
  have hg := text_good hv
  rw [(goodT hg).1, (goodT hg).2, name_text hv, port_text hv (by omega)] at h
  simpa using h
theorem parse_good {s : ByteArray} (hs : s.size ≤ 100) (hg : goodP s = true) : ∃ (nm : ByteArray) (u : Nat), u ≤ 65535 ∧ nm.size ≤ 1000 ∧ addrB nm.data.toList u = true ∧ textB nm u = s ∧
    ∀ w, Env w → Calls Tryd.prog 22 #[.string s] w fun e w' => e = .returned (.tuple #[.agg #[.string nm, .int .i64 u], .int .i64 0]) ∧ Fr [] w w' := by
  obtain ⟨u, hu, hp, ha, ht⟩ := good_text hg
  refine ⟨nameOf s, u, hu, ?_, ha, ht, fun w he => ?_⟩
  · have h1 := congrArg List.length (text_list (nameOf s) u)
    rw [ht] at h1
    simp only [List.length_append, List.length_cons] at h1
    have h3 : s.data.toList.length = s.size := by simp
    have h4 : (nameOf s).data.toList.length = (nameOf s).size := by simp
    omega
  · have h := parse_any s (by omega) w he
    rw [(goodT hg).1, (goodT hg).2] at h
    rw [hp] at h
    exact h
theorem parse_bad {s : ByteArray} (hs : s.size ≤ 100) (hg : goodP s = false) (w : World) (he : Env w) :
    Calls Tryd.prog 22 #[.string s] w fun e w' => e = .returned (.tuple #[.agg #[.string ⟨#[]⟩, .int .i64 0], .int .i64 6]) ∧ Fr [] w w' := by
  have h := parse_any s (by omega) w he
  rw [(goodF hg).1, (goodF hg).2] at h
  exact h
theorem wrap_nat4 (i : Nat) (h : i ≤ 4) : IntKind.i64.wrap (i : Int) = (i : Int) := by
  match i, h with
  | 0, _ => rfl
  | 1, _ => rfl
  | 2, _ => rfl
  | 3, _ => rfl
  | 4, _ => rfl
theorem cmpA_range (x y : Ad) : -1 ≤ cmpA x y ∧ cmpA x y ≤ 1 := by
  have h1 : ∀ a b : List UInt8, -1 ≤ Lib.compareBytes a b ∧ Lib.compareBytes a b ≤ 1 := by
    intro a
    induction a with
    | nil => intro b; cases b <;> simp [Lib.compareBytes]
    | cons c r ih =>
      intro b
      cases b with
      | nil => simp [Lib.compareBytes]
      | cons d t =>
        rw [Lib.compareBytes]
        split
        · omega
        · split
          · omega
          · exact ih t
  have h2 : -1 ≤ Lib.compareInt x.2 y.2 ∧ Lib.compareInt x.2 y.2 ≤ 1 := by
    have := ci_val x.2 y.2
    rcases Int.lt_trichotomy x.2 y.2 with q | q | q
    · rw [this.1 q]; omega
    · rw [this.2.2 q]; omega
    · rw [this.2.1 q]; omega
  unfold cmpA
  split
  · exact h1 _ _
  · exact h2
def four (a b c : Ad) : Nat → Ad
  | 0 => a
  | 1 => b
  | 2 => c
  | _ => a
theorem four_mem (a b c : Ad) (e : Ad) (h : e ∈ upto (four a b c) 4) : e = a ∨ e = b ∨ e = c := by
  have : upto (four a b c) 4 = [a, b, c, a] := rfl
  rw [this] at h
  simp at h
  rcases h with h | h | h | h
  · exact .inl h
  · exact .inr (.inl h)
  · exact .inr (.inr h)
  · exact .inl h

end Go.Proofs.YtbilaapikclhlaaDoor
