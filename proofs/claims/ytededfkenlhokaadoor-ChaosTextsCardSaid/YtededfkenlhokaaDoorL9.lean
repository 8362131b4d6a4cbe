/- Contract of the law's own line. -/
import Derived.Test.YtededfkenlhokaaDoorL8
namespace Go.Proofs.YtededfkenlhokaaDoor
open Go.RowKit Go.Shelf
set_option linter.unusedVariables false
set_option maxRecDepth 100000
set_option maxHeartbeats 4000000

/-- The first part of a line. -/
def headB (k : Int) : ByteArray := if k = 2 then ⟨#[100, 101, 108, 97, 121, 32]⟩ else if k = 3 then ⟨#[102, 97, 105, 108, 32]⟩ else if k = 4 then ⟨#[99, 117, 116, 32]⟩ else ⟨#[115, 104, 111, 114, 116, 32]⟩
def midB (d : Int) : ByteArray := if d = 0 then ⟨#[32, 114, 101, 97, 100, 32]⟩ else ⟨#[32, 119, 114, 105, 116, 101, 32]⟩
theorem headB_eq (k : Int) : headB k = bs (kindB k ++ [32]) := by
  unfold headB kindB
  repeat' split
  all_goals rfl
theorem midB_eq (d : Int) : midB d = bs ([32] ++ dirB d ++ [32]) := by
  unfold midB dirB
  split <;> rfl
theorem lineB_4 {f : Ft} (h : f.k = 4) : bs (lineB f) = ((headB f.k ++ bs (Lib.decDigits f.c.toNat)) ++ midB f.d ++ bs (Lib.decDigits f.a.toNat)) ++ ⟨#[10]⟩ := by
  rw [headB_eq, midB_eq, show (⟨#[10]⟩ : ByteArray) = bs [10] from rfl]
  simp only [bs_append]
  congr 1
  unfold lineB wordsOf
  rw [if_pos h]
  simp [Lib.join]
theorem lineB_n {f : Ft} (h : f.k ≠ 4) : bs (lineB f) = (((headB f.k ++ bs (Lib.decDigits f.c.toNat)) ++ midB f.d ++ bs (Lib.decDigits f.a.toNat)) ++ ⟨#[32]⟩ ++ bs (Lib.decDigits f.g.toNat)) ++ ⟨#[10]⟩ := by
  rw [headB_eq, midB_eq, show (⟨#[10]⟩ : ByteArray) = bs [10] from rfl, show (⟨#[32]⟩ : ByteArray) = bs [32] from rfl]
  simp only [bs_append]
  congr 1
  unfold lineB wordsOf
  rw [if_neg h]
  simp [Lib.join]
theorem lineL_any (f : Ft) (hok : f.ok = true) (w : World) :
    Calls Tryd.prog 10 #[ftV f] w fun e w' => e = .returned (.string (bs (lineB f))) ∧ Fr [] w w' := by
  obtain ⟨⟨c1, c2⟩, ⟨a1, a2⟩, ⟨g1, g2⟩, hd, hk, h4⟩ := Ft.nums hok
  have hl4 := @lineB_4 f
  have hln := @lineB_n f
  unfold ftV
  obtain ⟨k, c, d, a, g⟩ := f
  simp only at c1 c2 a1 a2 g1 g2 hd hk h4 hl4 hln ⊢
  have HC := Lib.hid (fun W => decimal_any c.toNat c1 W)
  have HA := Lib.hid (fun W => decimal_any a.toNat a1 W)
  have HG := Lib.hid (fun W => decimal_any g.toNat g1 W)
  rw [c2] at HC
  rw [a2] at HA
  rw [g2] at HG
  have sc := decDigits_len7 c.toNat c1
  have sa := decDigits_len7 a.toNat a1
  have sg := decDigits_len7 g.toNat g1
  rw [← bs_size] at sc sa sg
  obtain ⟨C, hC⟩ : ∃ C, C = bs (Lib.decDigits c.toNat) := ⟨_, rfl⟩
  obtain ⟨A, hA⟩ : ∃ A, A = bs (Lib.decDigits a.toNat) := ⟨_, rfl⟩
  obtain ⟨G, hG⟩ : ∃ G, G = bs (Lib.decDigits g.toNat) := ⟨_, rfl⟩
  rw [← hC] at HC sc hl4 hln
  rw [← hA] at HA sa hl4 hln
  rw [← hG] at HG sg hln
  have f0 : Fr [] w (w.alloc (.cells #[.int .i64 k, .int .i64 c, .int .i64 d, .int .i64 a, .int .i64 g] 32)) := (Fr.refl [] w).alloc _
  have F0 := Lib.hid f0
  have HT := Lib.hid (show FtAt (w.alloc (.cells #[.int .i64 k, .int .i64 c, .int .i64 d, .int .i64 a, .int .i64 g] 32)) w.heap.size ⟨k, c, d, a, g⟩ from World.alloc_heap_new w _)
  clear c1 c2 a1 a2 g1 g2 hC hA hG h4 hok f0
  rcases hd with rfl | rfl
  · rcases hk with rfl | rfl | rfl | rfl
    · have HL := Lib.hid (hln (by decide))
      clear hl4 hln
      go_enter Tryd.func10, Tryd.ntmps10
      go_wp2_with (first
        | (go_at_call 30; (with_reducible refine (HC.out _).mono ?_); rintro e w1 ⟨rfl, f1⟩; have t1 := HT.out.keep f1 (by simp); have x0 := t1.c0; have x1 := t1.c1; have x2 := t1.c2; have x3 := t1.c3; have x4 := t1.c4; have T1 := Lib.hid t1; clear t1)
        | (go_at_call 30; (with_reducible refine (HA.out _).mono ?_); rintro e w2 ⟨rfl, f2⟩; have t2 := T1.out.keep f2 (by simp); have y0 := t2.c0; have y1 := t2.c1; have y2 := t2.c2; have y3 := t2.c3; have y4 := t2.c4; clear t2)
        | (go_at_call 30; (with_reducible refine (HG.out _).mono ?_); rintro e w3 ⟨rfl, f3⟩))
      go_ret
      exact ⟨by rw [HL.out] <;> rfl, ((F0.out.step f1).step f2).step f3⟩
    · have HL := Lib.hid (hln (by decide))
      clear hl4 hln
      go_enter Tryd.func10, Tryd.ntmps10
      go_wp2_with (first
        | (go_at_call 30; (with_reducible refine (HC.out _).mono ?_); rintro e w1 ⟨rfl, f1⟩; have t1 := HT.out.keep f1 (by simp); have x0 := t1.c0; have x1 := t1.c1; have x2 := t1.c2; have x3 := t1.c3; have x4 := t1.c4; have T1 := Lib.hid t1; clear t1)
        | (go_at_call 30; (with_reducible refine (HA.out _).mono ?_); rintro e w2 ⟨rfl, f2⟩; have t2 := T1.out.keep f2 (by simp); have y0 := t2.c0; have y1 := t2.c1; have y2 := t2.c2; have y3 := t2.c3; have y4 := t2.c4; clear t2)
        | (go_at_call 30; (with_reducible refine (HG.out _).mono ?_); rintro e w3 ⟨rfl, f3⟩))
      go_ret
      exact ⟨by rw [HL.out] <;> rfl, ((F0.out.step f1).step f2).step f3⟩
    · have HL := Lib.hid (hln (by decide))
      clear hl4 hln
      go_enter Tryd.func10, Tryd.ntmps10
      go_wp2_with (first
        | (go_at_call 30; (with_reducible refine (HC.out _).mono ?_); rintro e w1 ⟨rfl, f1⟩; have t1 := HT.out.keep f1 (by simp); have x0 := t1.c0; have x1 := t1.c1; have x2 := t1.c2; have x3 := t1.c3; have x4 := t1.c4; have T1 := Lib.hid t1; clear t1)
        | (go_at_call 30; (with_reducible refine (HA.out _).mono ?_); rintro e w2 ⟨rfl, f2⟩; have t2 := T1.out.keep f2 (by simp); have y0 := t2.c0; have y1 := t2.c1; have y2 := t2.c2; have y3 := t2.c3; have y4 := t2.c4; clear t2)
        | (go_at_call 30; (with_reducible refine (HG.out _).mono ?_); rintro e w3 ⟨rfl, f3⟩))
      go_ret
      exact ⟨by rw [HL.out] <;> rfl, ((F0.out.step f1).step f2).step f3⟩
    · have HL := Lib.hid (hl4 rfl)
      clear hl4 hln
      go_enter Tryd.func10, Tryd.ntmps10
      go_wp2_with (first
        | (go_at_call 30; (with_reducible refine (HC.out _).mono ?_); rintro e w1 ⟨rfl, f1⟩; have t1 := HT.out.keep f1 (by simp); have x0 := t1.c0; have x1 := t1.c1; have x2 := t1.c2; have x3 := t1.c3; have x4 := t1.c4; have T1 := Lib.hid t1; clear t1)
        | (go_at_call 30; (with_reducible refine (HA.out _).mono ?_); rintro e w2 ⟨rfl, f2⟩; have t2 := T1.out.keep f2 (by simp); have y0 := t2.c0; have y1 := t2.c1; have y2 := t2.c2; have y3 := t2.c3; have y4 := t2.c4; clear t2)
        | (go_at_call 30; (with_reducible refine (HG.out _).mono ?_); rintro e w3 ⟨rfl, f3⟩))
      go_ret
      exact ⟨by rw [HL.out] <;> rfl, (F0.out.step f1).step f2⟩
  · rcases hk with rfl | rfl | rfl | rfl
    · have HL := Lib.hid (hln (by decide))
      clear hl4 hln
      go_enter Tryd.func10, Tryd.ntmps10
      go_wp2_with (first
        | (go_at_call 30; (with_reducible refine (HC.out _).mono ?_); rintro e w1 ⟨rfl, f1⟩; have t1 := HT.out.keep f1 (by simp); have x0 := t1.c0; have x1 := t1.c1; have x2 := t1.c2; have x3 := t1.c3; have x4 := t1.c4; have T1 := Lib.hid t1; clear t1)
        | (go_at_call 30; (with_reducible refine (HA.out _).mono ?_); rintro e w2 ⟨rfl, f2⟩; have t2 := T1.out.keep f2 (by simp); have y0 := t2.c0; have y1 := t2.c1; have y2 := t2.c2; have y3 := t2.c3; have y4 := t2.c4; clear t2)
        | (go_at_call 30; (with_reducible refine (HG.out _).mono ?_); rintro e w3 ⟨rfl, f3⟩))
      go_ret
      exact ⟨by rw [HL.out] <;> rfl, ((F0.out.step f1).step f2).step f3⟩
    · have HL := Lib.hid (hln (by decide))
      clear hl4 hln
      go_enter Tryd.func10, Tryd.ntmps10
      go_wp2_with (first
        | (go_at_call 30; (with_reducible refine (HC.out _).mono ?_); rintro e w1 ⟨rfl, f1⟩; have t1 := HT.out.keep f1 (by simp); have x0 := t1.c0; have x1 := t1.c1; have x2 := t1.c2; have x3 := t1.c3; have x4 := t1.c4; have T1 := Lib.hid t1; clear t1)
        | (go_at_call 30; (with_reducible refine (HA.out _).mono ?_); rintro e w2 ⟨rfl, f2⟩; have t2 := T1.out.keep f2 (by simp); have y0 := t2.c0; have y1 := t2.c1; have y2 := t2.c2; have y3 := t2.c3; have y4 := t2.c4; clear t2)
        | (go_at_call 30; (with_reducible refine (HG.out _).mono ?_); rintro e w3 ⟨rfl, f3⟩))
      go_ret
      exact ⟨by rw [HL.out] <;> rfl, ((F0.out.step f1).step f2).step f3⟩
    · have HL := Lib.hid (hln (by decide))
      clear hl4 hln
      go_enter Tryd.func10, Tryd.ntmps10
      go_wp2_with (first
        | (go_at_call 30; (with_reducible refine (HC.out _).mono ?_); rintro e w1 ⟨rfl, f1⟩; have t1 := HT.out.keep f1 (by simp); have x0 := t1.c0; have x1 := t1.c1; have x2 := t1.c2; have x3 := t1.c3; have x4 := t1.c4; have T1 := Lib.hid t1; clear t1)
        | (go_at_call 30; (with_reducible refine (HA.out _).mono ?_); rintro e w2 ⟨rfl, f2⟩; have t2 := T1.out.keep f2 (by simp); have y0 := t2.c0; have y1 := t2.c1; have y2 := t2.c2; have y3 := t2.c3; have y4 := t2.c4; clear t2)
        | (go_at_call 30; (with_reducible refine (HG.out _).mono ?_); rintro e w3 ⟨rfl, f3⟩))
      go_ret
      exact ⟨by rw [HL.out] <;> rfl, ((F0.out.step f1).step f2).step f3⟩
    · have HL := Lib.hid (hl4 rfl)
      clear hl4 hln
      go_enter Tryd.func10, Tryd.ntmps10
      go_wp2_with (first
        | (go_at_call 30; (with_reducible refine (HC.out _).mono ?_); rintro e w1 ⟨rfl, f1⟩; have t1 := HT.out.keep f1 (by simp); have x0 := t1.c0; have x1 := t1.c1; have x2 := t1.c2; have x3 := t1.c3; have x4 := t1.c4; have T1 := Lib.hid t1; clear t1)
        | (go_at_call 30; (with_reducible refine (HA.out _).mono ?_); rintro e w2 ⟨rfl, f2⟩; have t2 := T1.out.keep f2 (by simp); have y0 := t2.c0; have y1 := t2.c1; have y2 := t2.c2; have y3 := t2.c3; have y4 := t2.c4; clear t2)
        | (go_at_call 30; (with_reducible refine (HG.out _).mono ?_); rintro e w3 ⟨rfl, f3⟩))
      go_ret
      exact ⟨by rw [HL.out] <;> rfl, (F0.out.step f1).step f2⟩
end Go.Proofs.YtededfkenlhokaaDoor
