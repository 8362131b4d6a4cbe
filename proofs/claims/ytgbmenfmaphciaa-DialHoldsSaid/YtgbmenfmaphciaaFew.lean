/- The law's slices of starts and of calls in memory, and the contract of few. -/
import Derived.Test.YtgbmenfmaphciaaAllW2
namespace Go.Proofs.Ytgbmenfmaphciaa
open Go.RowKit
open Go.Maps (Keyed)
set_option linter.unusedVariables false
set_option maxRecDepth 100000
set_option maxHeartbeats 4000000

structure St where
  s : ByteArray
  p : Int
  c : Int
  un : Int
structure Ac where
  what : Int
  which : Int
  n : Int
  s : ByteArray
  p : Int
  now : Int
def StRow (w : World) (sa : Option Addr) (n : Nat) (f : Nat → St) : Prop :=
  n = 0 ∨ ∃ b off, sa = some ⟨b, off, none⟩ ∧ b < w.heap.size ∧ ∀ i, i < n → w.cell? ⟨b, off + i * 4, none⟩ = some (.string (f i).s) ∧ w.cell? ⟨b, off + i * 4 + 1, none⟩ = some (.int .i64 (f i).p) ∧ w.cell? ⟨b, off + i * 4 + 2, none⟩ = some (.int .i64 (f i).c) ∧ w.cell? ⟨b, off + i * 4 + 3, none⟩ = some (.int .u64 (f i).un)
def AcRow (w : World) (sa : Option Addr) (n : Nat) (g : Nat → Ac) : Prop :=
  n = 0 ∨ ∃ b off, sa = some ⟨b, off, none⟩ ∧ b < w.heap.size ∧ ∀ i, i < n → w.cell? ⟨b, off + i * 6, none⟩ = some (.int .i64 (g i).what) ∧ w.cell? ⟨b, off + i * 6 + 1, none⟩ = some (.int .i64 (g i).which) ∧ w.cell? ⟨b, off + i * 6 + 2, none⟩ = some (.int .i64 (g i).n) ∧
    w.cell? ⟨b, off + i * 6 + 3, none⟩ = some (.string (g i).s) ∧ w.cell? ⟨b, off + i * 6 + 4, none⟩ = some (.int .i64 (g i).p) ∧ w.cell? ⟨b, off + i * 6 + 5, none⟩ = some (.int .u64 (g i).now)
theorem StRow.keep {S : List Nat} {w w' : World} {sa : Option Addr} {n : Nat} {f : Nat → St} {B : Nat} (h : StRow w sa n f) (hB : ∀ a, sa = some a → n ≠ 0 → a.block < B) (hf : Fr S w w') (hS : ∀ x ∈ S, B ≤ x) : StRow w' sa n f := by
  rcases h with h | ⟨b, off, rfl, hb, hc⟩
  · exact .inl h
  · by_cases hn : n = 0
    · exact .inl hn
    · have nb : b ∉ S := fun hm => by have h1 := hB _ rfl hn; have h2 := hS b hm; simp only at h1; omega
      exact .inr ⟨b, off, rfl, Nat.lt_of_lt_of_le hb hf.size, fun i hi => by
        obtain ⟨h1, h2, h3, h4⟩ := hc i hi
        exact ⟨hf.keep h1 nb, hf.keep h2 nb, hf.keep h3 nb, hf.keep h4 nb⟩⟩
theorem AcRow.keep {S : List Nat} {w w' : World} {sa : Option Addr} {n : Nat} {g : Nat → Ac} {B : Nat} (h : AcRow w sa n g) (hB : ∀ a, sa = some a → n ≠ 0 → a.block < B) (hf : Fr S w w') (hS : ∀ x ∈ S, B ≤ x) : AcRow w' sa n g := by
  rcases h with h | ⟨b, off, rfl, hb, hc⟩
  · exact .inl h
  · by_cases hn : n = 0
    · exact .inl hn
    · have nb : b ∉ S := fun hm => by have h1 := hB _ rfl hn; have h2 := hS b hm; simp only at h1; omega
      exact .inr ⟨b, off, rfl, Nat.lt_of_lt_of_le hb hf.size, fun i hi => by
        obtain ⟨h1, h2, h3, h4, h5, h6⟩ := hc i hi
        exact ⟨hf.keep h1 nb, hf.keep h2 nb, hf.keep h3 nb, hf.keep h4 nb, hf.keep h5 nb, hf.keep h6 nb⟩⟩

def FewPost (ns nl : Nat) (f : Nat → St) (g : Nat → Ac) (w : World) (e : Ending) (w' : World) : Prop :=
  ∃ r : Bool, e = .returned (.bool r) ∧ w = w' ∧ (r = true → ns ≤ 8 ∧ nl ≤ 25 ∧ (∀ i, i < ns → (f i).s.size ≤ 100) ∧ ∀ i, i < nl → (g i).s.size ≤ 100)

theorem few_any (sa la : Option Addr) (ns sc nl lc : Nat) (f : Nat → St) (g : Nat → Ac) (w : World) (hs : StRow w sa ns f) (hl : AcRow w la nl g) (h1 : ns ≤ maxLen) (h2 : nl ≤ maxLen) :
    Calls Try.prog 7 #[.slice sa ns sc, .slice la nl lc] w (FewPost ns nl f g w) := by
  unfold maxLen at h1 h2
  have HS := Lib.hid hs
  have HL := Lib.hid hl
  clear hs hl
  go_enter Try.func7, Try.ntmps7
  go_wp2
  go_loop [5] (fun i => ∃ k : Nat, i = .int .i64 k ∧ k ≤ ns ∧ k ≤ 9 ∧ ∀ j, j < k → (f j).s.size ≤ 100) (fun i => 9 - (intOf i).toNat)
  case atStart => exact ⟨0, rfl, by omega, by omega, fun j hj => by omega⟩
  case round =>
    obtain ⟨k, rfl, hk1, hk2, hsz⟩ := hrel
    have HZ := Lib.hid hsz
    clear hsz
    by_cases hlt : k < ns ∧ k < 9
    · obtain ⟨a1, a2⟩ := hlt
      rcases HS.out with h0 | ⟨b, off, rfl, hb, hc⟩
      · omega
      · have c0 := (hc k a1).1
        clear hc
        by_cases hbig : (f k).s.size ≤ 100
        · go_wp2
          go_round
          case rel => exact ⟨k + 1, by go_num, by omega, by omega, fun j hj => by
            rcases Nat.lt_or_ge j k with h | h
            · exact HZ.out j h
            · obtain rfl : j = k := by omega
              exact hbig⟩
          case measure => simp [intOf]; omega
        · go_wp2
          go_ret
          exact ⟨false, rfl, rfl, fun h => by cases h⟩
    · by_cases hk : k < ns
      all_goals (
        go_wp2
        go_loop [6] (fun i => ∃ k : Nat, i = .int .i64 k ∧ k ≤ nl ∧ k ≤ 26 ∧ ∀ j, j < k → (g j).s.size ≤ 100) (fun i => 26 - (intOf i).toNat)
        case atStart => exact ⟨0, rfl, by omega, by omega, fun j hj => by omega⟩
        case round =>
          obtain ⟨m, rfl, hm1, hm2, hsz⟩ := hrel
          have HY := Lib.hid hsz
          clear hsz
          by_cases hlt : m < nl ∧ m < 26
          · obtain ⟨a1, a2⟩ := hlt
            rcases HL.out with h0 | ⟨b, off, rfl, hb, hc⟩
            · omega
            · have c0 := (hc m a1).2.2.2.1
              clear hc
              by_cases hbig : (g m).s.size ≤ 100
              · go_wp2
                go_round
                case rel => exact ⟨m + 1, by go_num, by omega, by omega, fun j hj => by
                  rcases Nat.lt_or_ge j m with h | h
                  · exact HY.out j h
                  · obtain rfl : j = m := by omega
                    exact hbig⟩
                case measure => simp [intOf]; omega
              · go_wp2
                go_ret
                exact ⟨false, rfl, rfl, fun h => by cases h⟩
          · by_cases e1 : ns ≤ 8
            all_goals by_cases hm : m < nl
            all_goals go_wp2
            all_goals go_ret
            all_goals (
              refine ⟨_, rfl, rfl, fun h => ?_⟩
              first
                | (cases h; done)
                | (have h' := of_decide_eq_true h
                   exact ⟨e1, by omega, fun i hi => HZ.out i (by omega), fun i hi => HY.out i (by omega)⟩)))
end Go.Proofs.Ytgbmenfmaphciaa
