/- Plain: the words of a line between single spaces, by recursion; words joined are split again. -/
import Derived.Test.YtllmejkcohfbiaaGreatDoorR15
import Derived.Lib.AtoiAllCases
namespace Go.Proofs.YtllmejkcohfbiaaGreatDoor
open Go.Lib
set_option linter.unusedVariables false
set_option linter.unusedSimpArgs false

def spl : List UInt8 → List UInt8 → List (List UInt8)
  | cur, [] => [cur]
  | cur, b :: l => if b = 32 then cur :: spl [] l else spl (cur ++ [b]) l
theorem index_cons (b c : UInt8) (l : List UInt8) : Lib.index (b :: l) [c] = if b = c then 0 else if Lib.index l [c] = -1 then -1 else Lib.index l [c] + 1 := by
  rw [Lib.index]
  by_cases h : b = c
  · subst h
    simp [List.isPrefixOf]
  · have hp : ([c] : List UInt8).isPrefixOf (b :: l) = false := by simp [List.isPrefixOf, Ne.symm h]
    rw [hp, if_neg h]
    simp
theorem spl_none : ∀ (l cur : List UInt8), Lib.index l [32] = -1 → spl cur l = [cur ++ l]
  | [], cur, _ => by rw [spl]; simp
  | b :: l, cur, h => by
    rw [index_cons] at h
    by_cases hb : b = 32
    · rw [if_pos hb] at h
      omega
    · rw [if_neg hb] at h
      have hg := Lib.index_ge l [32]
      by_cases h1 : Lib.index l [32] = -1
      · rw [spl, if_neg hb, spl_none l (cur ++ [b]) h1]
        simp
      · rw [if_neg h1] at h
        omega
theorem spl_some : ∀ (l cur : List UInt8) (o : Nat), Lib.index l [32] = o → spl cur l = (cur ++ l.take o) :: spl [] (l.drop (o + 1))
  | [], cur, o, h => by
    simp [Lib.index] at h
  | b :: l, cur, o, h => by
    rw [index_cons] at h
    by_cases hb : b = 32
    · rw [if_pos hb] at h
      obtain rfl : o = 0 := by omega
      rw [spl, if_pos hb]
      simp
    · rw [if_neg hb] at h
      by_cases h1 : Lib.index l [32] = -1
      · rw [if_pos h1] at h
        omega
      · rw [if_neg h1] at h
        have h2 := Lib.index_ge l [32]
        obtain ⟨o', rfl⟩ : ∃ o', o = o' + 1 := ⟨o - 1, by omega⟩
        rw [spl, if_neg hb, spl_some l (cur ++ [b]) o' (by omega)]
        simp
theorem splitB_spl : ∀ (k : Nat) (s : ByteArray), Lib.countB s (bs [32]) = k → (Lib.splitB (bs [32]) 0 k s).map (·.data.toList) = spl [] s.data.toList
  | 0, s, hk => by
    rcases Lib.indexB_cases s (bs [32]) with hix | ⟨i, hix, _⟩
    · rw [Lib.splitB_zero, spl_none _ _ (show Lib.index s.data.toList [32] = -1 from hix)]
      simp
    · have := Lib.countB_hit s (bs [32]) i (by decide) hix
      omega
  | k + 1, s, hk => by
    rcases Lib.indexB_cases s (bs [32]) with hix | ⟨i, hix, hroom⟩
    · rw [Lib.countB_miss s (bs [32]) hix] at hk
      omega
    · have hc := Lib.countB_hit s (bs [32]) i (by decide) hix
      rw [Lib.splitB_hit (bs [32]) 0 k s i hix, List.map_cons, splitB_spl k _ (by omega), spl_some _ _ i (show Lib.index s.data.toList [32] = i from hix)]
      have e1 : (s.extract 0 (i + 0)).data.toList = s.data.toList.take i := by simp [ByteArray.data_extract]
      have e2 : (s.extract (i + (bs [32]).size) s.size).data.toList = s.data.toList.drop (i + 1) := by
        rw [Lib.extract_to_end]
        rfl
      rw [e1, e2]
      simp
theorem splitS_eq (l : List UInt8) : splitS l = spl [] l := by
  unfold splitS
  rw [splitB_spl _ _ rfl, bs_list]
theorem spl_word : ∀ (a cur l : List UInt8), 32 ∉ a → spl cur (a ++ 32 :: l) = (cur ++ a) :: spl [] l
  | [], cur, l, _ => by simp [spl]
  | b :: a, cur, l, h => by
    rw [List.cons_append, spl, if_neg (fun e => h (by simp [e])), spl_word a (cur ++ [b]) l (fun e => h (by simp [e]))]
    simp
theorem spl_last : ∀ (a cur : List UInt8), 32 ∉ a → spl cur a = [cur ++ a]
  | [], cur, _ => by simp [spl]
  | b :: a, cur, h => by
    rw [spl, if_neg (fun e => h (by simp [e])), spl_last a (cur ++ [b]) (fun e => h (by simp [e]))]
    simp
theorem spl_join : ∀ (ws : List (List UInt8)), ws ≠ [] → (∀ x ∈ ws, 32 ∉ x) → spl [] (Lib.join ws [32]) = ws
  | [], h, _ => absurd rfl h
  | [x], _, h => by
    rw [Lib.join_cons]
    simp only [Lib.joinTail, List.map_nil, List.flatten_nil, List.append_nil]
    rw [spl_last x [] (h x (by simp))]
    simp
  | x :: y :: r, _, h => by
    have ih := spl_join (y :: r) (by simp) (fun z hz => h z (List.mem_cons_of_mem _ hz))
    have hj : Lib.join (x :: y :: r) [32] = x ++ 32 :: Lib.join (y :: r) [32] := by
      rw [Lib.join_cons, Lib.join_cons]
      simp [Lib.joinTail]
    rw [hj, spl_word x [] _ (h x (by simp)), ih]
    simp
theorem splitS_join (ws : List (List UInt8)) (h0 : ws ≠ []) (h : ∀ x ∈ ws, 32 ∉ x) : splitS (Lib.join ws [32]) = ws := by
  rw [splitS_eq, spl_join ws h0 h]
theorem trim_line (l : List UInt8) : Lib.trimSuffix (l ++ [10]) [10] = l := by
  unfold Lib.trimSuffix Lib.hasSuffix
  simp
end Go.Proofs.YtllmejkcohfbiaaGreatDoor
