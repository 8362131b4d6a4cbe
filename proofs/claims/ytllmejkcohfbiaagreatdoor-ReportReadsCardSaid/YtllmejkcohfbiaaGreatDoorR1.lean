/- Report: tables of words, numbers, words of codes and of calls. -/
import Derived.Test.YtllmejkcohfbiaaGreatDoorRPlain
import Derived.Test.YtllmejkcohfbiaaGreatDoorShelf
import Derived.Test.YtllmejkcohfbiaaGreatDoorFr
import Derived.Lib.Hide
import Derived.BigQuiet
import Derived.Deep.CutRange
import Derived.IntWalk
import Derived.Deep.AppendLies
import Derived.Lib.ItoaMem
import Derived.RangeFuncRecord
import Derived.Laws.IdiomStrings
import Derived.Lib.ItoaLen
import Derived.Outline
namespace Go.Proofs.YtllmejkcohfbiaaGreatDoor
open Go.RowKit Go.Shelf Go.Sort Go.Lib
set_option linter.unusedVariables false
set_option linter.unusedSimpArgs false
set_option maxRecDepth 100000
set_option maxHeartbeats 4000000

def I64 (x : Int) : Prop := -9223372036854775808 ≤ x ∧ x ≤ 9223372036854775807
def Tab (w : World) : Prop := Lib.TabIs Tryz.prog w "internal/strconv.uint64pow10" .u64 Lib.pow10Tab
theorem fr_growR (w : World) (k : Nat) (os : Array Obj) : Fr [] w (grow (w.drewN k) os) :=
  ⟨rfl, rfl, rfl, by simp [grow], fun i hi _ => by
    show (w.heap ++ os)[i]? = _
    exact Array.getElem?_append_left hi⟩
/-- A block of words. -/
def WordsBlk (W : World) (K : Nat) (ws : List (List UInt8)) : Prop := W.heap[K]? = some (.cells (ws.map fun x => Value.string (bs x)).toArray 9)
theorem WordsBlk.keep {S : List Nat} {W W' : World} {K : Nat} {ws : List (List UInt8)} (h : WordsBlk W K ws) (f : Fr S W W') (hn : K ∉ S) : WordsBlk W' K ws := (f.block K (Array.getElem?_eq_some_iff.1 h).1 hn).trans h
theorem WordsBlk.cell {W : World} {K : Nat} {ws : List (List UInt8)} (h : WordsBlk W K ws) {i : Nat} (hi : i < ws.length) : W.cell? ⟨K, i, none⟩ = some (.string (bs (ws.getD i []))) := by
  unfold WordsBlk at h
  simp [World.cell?, h, List.getElem?_eq_getElem hi]
theorem gTab : Tryz.prog.globalNamed "internal/strconv.uint64pow10" = some 0 := by kernel_rfl
theorem var?_keep {S : List Nat} {w w' : World} {n : String} {g : Nat} {cs : Array Value} (hf : Fr S w w') (hg : Tryz.prog.globalNamed n = some g) (hn : g ∉ S) (h : w.var? Tryz.prog n = some cs) : w'.var? Tryz.prog n = some cs := by
  unfold World.var? at *
  rw [hg] at *
  simp only [Option.bind_some] at *
  have hlt : g < w.heap.size := by
    rcases Nat.lt_or_ge g w.heap.size with h' | h'
    · exact h'
    · rw [Array.getElem?_eq_none h'] at h
      cases h
  rw [hf.block g hlt hn]
  exact h
theorem tab_new {w w' : World} (h : Tab w) (f : Fr [] w w') : Tab w' := var?_keep f gTab (by simp) h
theorem codes_any (w : World) : Calls Tryz.prog 39 #[] w fun e w' => ∃ K, e = .returned (.slice (some ⟨K, 0, none⟩) 17 17) ∧ WordsBlk w' K codeWs ∧ Fr [] w w' ∧ w.heap.size ≤ K := by
  go_enter Tryz.func39, Tryz.ntmps39
  go_wp2
  go_ret
  exact ⟨_, rfl, World.alloc_heap_new w _, (Fr.refl [] w).alloc _, Nat.le_refl _⟩
theorem calls_any (w : World) : Calls Tryz.prog 42 #[] w fun e w' => ∃ K, e = .returned (.slice (some ⟨K, 0, none⟩) 13 13) ∧ WordsBlk w' K callWs ∧ Fr [] w w' ∧ w.heap.size ≤ K := by
  go_enter Tryz.func42, Tryz.ntmps42
  go_wp2
  go_ret
  exact ⟨_, rfl, World.alloc_heap_new w _, (Fr.refl [] w).alloc _, Nat.le_refl _⟩
theorem whys_any (w : World) : Calls Tryz.prog 91 #[] w fun e w' => ∃ K, e = .returned (.slice (some ⟨K, 0, none⟩) 7 7) ∧ WordsBlk w' K whyWs ∧ Fr [] w w' ∧ w.heap.size ≤ K := by
  go_enter Tryz.func91, Tryz.ntmps91
  go_wp2
  go_ret
  exact ⟨_, rfl, World.alloc_heap_new w _, (Fr.refl [] w).alloc _, Nat.le_refl _⟩
theorem parts_any (w : World) : Calls Tryz.prog 86 #[] w fun e w' => ∃ K, e = .returned (.slice (some ⟨K, 0, none⟩) 7 7) ∧ WordsBlk w' K partWs ∧ Fr [] w w' ∧ w.heap.size ≤ K := by
  go_enter Tryz.func86, Tryz.ntmps86
  go_wp2
  go_ret
  exact ⟨_, rfl, World.alloc_heap_new w _, (Fr.refl [] w).alloc _, Nat.le_refl _⟩
theorem number_any (n : Int) (hn : I64 n) (w : World) (ht : Tab w) : Calls Tryz.prog 40 #[.int .i64 n] w fun e w' => e = .returned (.string (bs (Lib.itoa n))) ∧ Fr [] w w' := by
  unfold I64 at hn
  have HI := Lib.hid (Tryz.strconv_Itoa n hn.1 hn.2 w ht)
  go_enter Tryz.func40, Tryz.ntmps40
  go_wp2_with fail
  refine HI.out.mono ?_
  rintro e w1 ⟨rfl, k, os, rfl⟩
  go_wp2
  go_ret
  exact ⟨rfl, fr_growR _ _ _⟩
theorem join_at (g off c : Nat) (xs : List (List UInt8)) (sep : List UInt8) (w : World) (hc : ∀ (j : Nat) x, xs[j]? = some x → w.cell? ⟨g, off + j, none⟩ = some (.string (bs x))) (hg : g < w.heap.size) (hcap : xs.length ≤ c) (hx : xs.length ≤ 100000) (hlen : (Lib.join xs sep).length ≤ 140737488355328) :
    Calls Tryz.prog 77 #[.slice (some ⟨g, off, none⟩) xs.length c, .string (bs sep)] w fun e w' => e = .returned (.string (bs (Lib.join xs sep))) ∧ Fr [] w w' := by
  have hm : (xs.map bs).map (·.data.toList) = xs := by
    rw [List.map_map]
    exact (List.map_congr_left (fun x _ => bs_list x)).trans (List.map_id _)
  have h := Tryz.strings_Join g off c (xs.map bs) (bs sep) w (fun j x hj => by
    rw [List.getElem?_map] at hj
    cases hy : xs[j]? with
    | none => rw [hy] at hj; cases hj
    | some y =>
      rw [hy] at hj
      cases hj
      exact hc j y hy) hg (by rw [List.length_map]; omega) (by rw [List.length_map]; exact hcap) (by rw [hm, bs_list]; exact hlen)
  rw [hm, bs_list, List.length_map] at h
  refine h.mono ?_
  rintro e w' ⟨rfl, hb⟩
  exact ⟨rfl, Fr.of_below hb⟩
theorem words_any (g off c : Nat) (xs : List (List UInt8)) (w : World) (hc : ∀ (j : Nat) x, xs[j]? = some x → w.cell? ⟨g, off + j, none⟩ = some (.string (bs x))) (hg : g < w.heap.size) (hcap : xs.length ≤ c) (hx : xs.length ≤ 100000) (hlen : (Lib.join xs [32]).length ≤ 140737488355328) :
    Calls Tryz.prog 45 #[.slice (some ⟨g, off, none⟩) xs.length c] w fun e w' => e = .returned (.string (bs (Lib.join xs [32]))) ∧ Fr [] w w' := by
  have H := Lib.hid (join_at g off c xs [32] w hc hg hcap hx hlen)
  obtain ⟨n, hn⟩ : ∃ n, xs.length = n := ⟨_, rfl⟩
  obtain ⟨s, hs⟩ : ∃ s, Lib.join xs [32] = s := ⟨_, rfl⟩
  rw [hn, hs] at H
  rw [hn, hs]
  clear hc hlen hx hn hs hcap
  go_enter Tryz.func45, Tryz.ntmps45
  go_wp2_with fail
  refine H.out.mono ?_
  rintro e w1 ⟨rfl, f1⟩
  go_wp2
  go_ret
  exact ⟨rfl, f1⟩
theorem itoa_size {n : Int} (h : I64 n) : (bs (Lib.itoa n)).size ≤ 21 := by
  rw [bs_size]
  exact Lib.itoa_length_le n h.1 h.2
theorem code_any (e : Int) (he : I64 e) (w : World) (ht : Tab w) : Calls Tryz.prog 11 #[.int .i64 e] w fun r w' => r = .returned (.string (bs (codeB e))) ∧ Fr [] w w' := by
  by_cases h0 : 0 ≤ e
  · by_cases h1 : e < 17
    · obtain ⟨n, rfl⟩ : ∃ n : Nat, e = n := ⟨e.toNat, by omega⟩
      have hn : n < 17 := by omega
      have hb : codeB (n : Int) = codeWs.getD n [] := by unfold codeB; rw [if_pos (by omega)]; rfl
      rw [hb]
      have h0' : decide ((0 : Int) ≤ n) = true := decide_eq_true (by omega)
      clear he hb
      go_enter Tryz.func11, Tryz.ntmps11
      go_wp2_with fail
      refine (codes_any _).mono ?_
      rintro r w1 ⟨K1, rfl, hK1, f1, -⟩
      go_wp2_with fail
      refine (codes_any _).mono ?_
      rintro r w2 ⟨K2, rfl, hK2, f2, -⟩
      have hc := hK2.cell (i := n) (by simpa [codeWs] using hn)
      go_wp2
      go_ret
      exact ⟨rfl, f1.step f2⟩
    · have hb : codeB e = Lib.itoa e := by unfold codeB; rw [if_neg (by omega)]
      rw [hb]
      clear hb
      go_enter Tryz.func11, Tryz.ntmps11
      go_wp2_with fail
      refine (codes_any _).mono ?_
      rintro r w1 ⟨K1, rfl, hK1, f1, -⟩
      have HN := Lib.hid (number_any e he w1 (tab_new ht f1))
      clear he ht
      go_wp2_with fail
      refine HN.out.mono ?_
      rintro r w2 ⟨rfl, f2⟩
      go_wp2
      go_ret
      exact ⟨rfl, f1.step f2⟩
  · have hb : codeB e = Lib.itoa e := by unfold codeB; rw [if_neg (by omega)]
    rw [hb]
    have h0' : decide ((0 : Int) ≤ e) = false := decide_eq_false h0
    have HN := Lib.hid (number_any e he w ht)
    clear hb he ht
    go_enter Tryz.func11, Tryz.ntmps11
    go_wp2_with fail
    refine HN.out.mono ?_
    rintro r w2 ⟨rfl, f2⟩
    go_wp2
    go_ret
    exact ⟨rfl, f2⟩
theorem call_any (k : Int) (he : I64 k) (w : World) (ht : Tab w) : Calls Tryz.prog 13 #[.int .i64 k] w fun r w' => r = .returned (.string (bs (callB k))) ∧ Fr [] w w' := by
  by_cases h0 : 0 < k
  · by_cases h1 : k < 13
    · obtain ⟨n, rfl⟩ : ∃ n : Nat, k = n := ⟨k.toNat, by omega⟩
      have hn : n < 13 := by omega
      have hb : callB (n : Int) = callWs.getD n [] := by unfold callB; rw [if_pos (by omega)]; rfl
      rw [hb]
      clear he hb
      go_enter Tryz.func13, Tryz.ntmps13
      go_wp2_with fail
      refine (calls_any _).mono ?_
      rintro r w1 ⟨K1, rfl, hK1, f1, -⟩
      go_wp2_with fail
      refine (calls_any _).mono ?_
      rintro r w2 ⟨K2, rfl, hK2, f2, -⟩
      have hc := hK2.cell (i := n) (by simpa [callWs] using hn)
      go_wp2
      go_ret
      exact ⟨rfl, f1.step f2⟩
    · have hb : callB k = [99, 97, 108, 108, 45] ++ Lib.itoa k := by unfold callB; rw [if_neg (by omega)]
      rw [hb, ← bs_append]
      clear hb
      go_enter Tryz.func13, Tryz.ntmps13
      go_wp2_with fail
      refine (calls_any _).mono ?_
      rintro r w1 ⟨K1, rfl, hK1, f1, -⟩
      have hz := itoa_size he
      have HN := Lib.hid (number_any k he w1 (tab_new ht f1))
      clear he ht
      go_wp2_with fail
      refine HN.out.mono ?_
      rintro r w2 ⟨rfl, f2⟩
      go_wp2
      go_ret
      exact ⟨rfl, f1.step f2⟩
  · have hb : callB k = [99, 97, 108, 108, 45] ++ Lib.itoa k := by unfold callB; rw [if_neg (by omega)]
    rw [hb, ← bs_append]
    have hz := itoa_size he
    have HN := Lib.hid (number_any k he w ht)
    clear hb he ht
    go_enter Tryz.func13, Tryz.ntmps13
    go_wp2_with fail
    refine HN.out.mono ?_
    rintro r w2 ⟨rfl, f2⟩
    go_wp2
    go_ret
    exact ⟨rfl, f2⟩
end Go.Proofs.YtllmejkcohfbiaaGreatDoor
