/- The law DialNone's walk: it returns true at every time. -/
import Derived.Test.YtgbmenfmaphciaaNew4
namespace Go.Proofs.Ytgbmenfmaphciaa
open Go.RowKit
open Go.Maps (Keyed)
set_option linter.unusedVariables false
set_option maxRecDepth 100000
set_option maxHeartbeats 8000000

def aName : ByteArray := ⟨#[97]⟩
theorem a1 : addrB aName.data.toList 1 = true := by decide

theorem dialNone_walk (now : Int) (w : World) :
    Calls Try.prog 4 #[.int .u64 now] w fun e w' => e = .returned (.bool true) ∧ Fr [] w w' := by
  go_enter Try.func4, Try.ntmps4
  go_wp2_with fail
  refine (netNew_any _).mono ?_
  rintro e w1 ⟨n, r, m, lm, cm, rfl, N, F, bn, br, bm, bl, bc⟩
  go_wp2_with fail
  refine wp_loop_rounds 3 ?_
  rw [rounds_succ]
  go_wp2_with (first
    | (go_at_call 13; refine (tries_any now 0 1 0 1 _ _ (dialTry_nod now _ (.inl rfl))).mono ?_; rintro e w' ⟨rfl, rfl⟩)
    | (go_at_call 14; refine (dialGive_no _ (.inl rfl)).mono ?_; rintro e w' ⟨rfl, rfl⟩)
    | (go_at_call 15; refine (stands_any 0 0 0 0 0 0 _ _ (dialState_no _ (.inl rfl))).mono ?_; rintro e w' ⟨rfl, rfl⟩)
    | (go_at_call 16; refine (dialTries_no _ (.inl rfl)).mono ?_; rintro e w' ⟨rfl, rfl⟩)
    | (go_at_call 17; refine (dialUntil_no _ (.inl rfl)).mono ?_; rintro e w' ⟨rfl, rfl⟩)
    | (go_at_call 18; refine (dialCopy_no _ (.inl rfl)).mono ?_; rintro e w' ⟨rfl, rfl⟩))
  rw [rounds_succ]
  have Z : ∀ o, NoDial ((w1.alloc (.cells #[.string ⟨#[]⟩, .int .i64 0, .int .i64 0, .int .u64 0, .nilFunc, .int .i64 0, .int .i64 0, .int .i64 0, .int .i64 0] 45)).alloc o) (.pointer (some ⟨w1.heap.size, 0, none⟩)) := fun o => .inr ⟨w1.heap.size, rfl, by simp⟩
  go_wp2_with (first
    | (go_at_call 13; refine (tries_any now 0 1 0 1 _ _ (dialTry_nod now _ (Z _))).mono ?_; rintro e w' ⟨rfl, rfl⟩)
    | (go_at_call 14; refine (dialGive_no _ (Z _)).mono ?_; rintro e w' ⟨rfl, rfl⟩)
    | (go_at_call 15; refine (stands_any 0 0 0 0 0 0 _ _ (dialState_no _ (Z _))).mono ?_; rintro e w' ⟨rfl, rfl⟩)
    | (go_at_call 16; refine (dialTries_no _ (Z _)).mono ?_; rintro e w' ⟨rfl, rfl⟩)
    | (go_at_call 17; refine (dialUntil_no _ (Z _)).mono ?_; rintro e w' ⟨rfl, rfl⟩)
    | (go_at_call 18; refine (dialCopy_no _ (Z _)).mono ?_; rintro e w' ⟨rfl, rfl⟩))
  clear Z
  rw [rounds_succ]
  have F1 : Fr [] w ((w1.alloc (.cells #[.string ⟨#[]⟩, .int .i64 0, .int .i64 0, .int .u64 0, .nilFunc, .int .i64 0, .int .i64 0, .int .i64 0, .int .i64 0] 45)).alloc (.cells #[.pointer none, .pointer (some ⟨w1.heap.size, 0, none⟩)] 46)) := (F.alloc _).alloc _
  go_wp2_with fail
  refine (to_any _ _ _).mono ?_
  rintro e w2 ⟨rfl, f2⟩
  have F2 := F.step (((Fr.refl [] w1).alloc _).alloc _ |>.step f2)
  go_wp2_with fail
  refine (dialNew_ok aName 1 5 1 _ (by decide) a1 (by decide) (by omega)).mono ?_
  rintro e w3 ⟨d, u, rfl, hd, ld, lu, f3⟩
  have F3 := F2.step f3
  go_wp2_with fail
  refine (tries_any now 0 1 0 1 _ _ (dialTry_non d u aName 1 5 0 0 0 0 1 now _ hd (.inl rfl))).mono ?_
  rintro e w4 ⟨rfl, f4⟩
  have F4 := F3.step f4
  have hd4 := hd.new f4
  have f5 : Fr [] w4 (w4.alloc (.cells #[.pointer none, .map none, .map none] 60)) := (Fr.refl [] w4).alloc _
  go_wp2_with fail
  refine (tries_any now 0 1 0 1 _ _ (dialTry_non d u aName 1 5 0 0 0 0 1 now _ (hd4.new f5) (.inr ⟨_, rfl, by simp⟩))).mono ?_
  rintro e w5 ⟨rfl, f6⟩
  have F5 := (F4.step f5).step f6
  have hd5 := (hd4.new f5).new f6
  go_wp2_with fail
  refine (stands_any 0 0 0 0 0 0 _ _ (dialState_any d u aName 1 1 5 0 0 0 0 _ hd5)).mono ?_
  rintro e w6 ⟨rfl, f7⟩
  have hd6 := hd5.new f7
  go_wp2_with fail
  refine (dialTries_any d u aName 1 1 5 0 0 0 0 _ hd6).mono ?_
  rintro e w' ⟨rfl, rfl⟩
  go_wp2_with fail
  refine (known_true _).mono ?_
  rintro e w7 ⟨rfl, f8⟩
  go_wp2_with fail
  go_ret
  exact ⟨rfl, (F5.step f7).step f8⟩
end Go.Proofs.Ytgbmenfmaphciaa
