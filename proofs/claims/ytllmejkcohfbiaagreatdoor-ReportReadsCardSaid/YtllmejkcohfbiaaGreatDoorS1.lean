/- Report, the law's own: digits, decimal, time. -/
import Derived.Test.YtllmejkcohfbiaaGreatDoorR8
import Derived.Laws.IdiomStrings
namespace Go.Proofs.YtllmejkcohfbiaaGreatDoor
open Go.RowKit Go.Shelf Go.Sort Go.Lib
set_option linter.unusedVariables false
set_option linter.unusedSimpArgs false
set_option maxRecDepth 100000
set_option maxHeartbeats 4000000

theorem dig_toNat {k : Nat} (h : k < 10) : (UInt8.ofNat (48 + k)).toNat = 48 + k := by
  simp [UInt8.toNat_ofNat]; omega
theorem dec_small {u : Nat} (h : u < 10) : Lib.decDigits u = [UInt8.ofNat (48 + u)] := by rw [Lib.decDigits, dif_pos h]
theorem decDigits_big {u : Nat} (h : ¬ u < 10) : Lib.decDigits u = Lib.decDigits (u / 10) ++ [UInt8.ofNat (48 + u % 10)] := by rw [Lib.decDigits, dif_neg h]
theorem conv1 (x : UInt8) (b : Nat) (W : World) (h : W.cell? ⟨b, 0, none⟩ = some (.int .u8 (x.toNat : Int))) : (convert 99 9 (.slice (some ⟨b, 0, none⟩) 1 1)).run Tryz.prog W = .ok (.string (bs [x])) W :=
  run_convert_bytes_back W 99 9 5 ⟨b, 0, none⟩ 1 [x] Tryz.underlying99 Tryz.underlying5 Tryz.underlying9 (fun j hj => by
    have : j = 0 := by simpa using hj
    subst this
    exact h)
theorem digit_wrap {u : Nat} (h : u < 10) : IntKind.u8.wrap (48 + (u : Int)) = ((UInt8.ofNat (48 + u)).toNat : Int) := by
  rw [dig_toNat h]
  simp [IntKind.wrap, IntKind.signed, IntKind.bits]
  omega
theorem digits_len20 (u : Nat) (hu : u < 18446744073709551616) : (Lib.decDigits u).length ≤ 20 := by
  rw [Lib.decDigits_length]
  exact Lib.nDigits_le20 u hu
theorem digits_any (u : Nat) : u < 18446744073709551616 → ∀ w : World,
    Calls Tryz.prog 44 #[.int .u64 u] w fun e w' => e = .returned (.string (bs (Lib.decDigits u))) ∧ Fr [] w w' := by
  induction u using Nat.strongRecOn with
  | _ u ih =>
    intro hu w
    by_cases h : u < 10
    · rw [dec_small h]
      have hx := digit_wrap h
      have hlt : (u : Int) < 10 := by omega
      have hw : IntKind.u64.wrap (48 + (u : Int)) = 48 + (u : Int) := IntWalk.u64_in _ (by omega)
      have hc := conv1 (UInt8.ofNat (48 + u))
      obtain ⟨x, hxe⟩ : ∃ x, UInt8.ofNat (48 + u) = x := ⟨_, rfl⟩
      rw [hxe] at hx hc ⊢
      clear ih hu h hxe
      go_enter Tryz.func44, Tryz.ntmps44
      go_wp2
      go_ret
      exact ⟨rfl, (Fr.refl [] w).alloc _⟩
    · rw [decDigits_big h]
      have hb := digits_len20 (u / 10) (by omega)
      have HI := Lib.hid (fun W => ih (u / 10) (by omega) (by omega) W)
      have hx := digit_wrap (u := u % 10) (by omega)
      have hc := conv1 (UInt8.ofNat (48 + u % 10))
      have hlt : ¬ (u : Int) < 10 := by omega
      obtain ⟨q, hq⟩ : ∃ q : Nat, u / 10 = q := ⟨_, rfl⟩
      obtain ⟨r, hr⟩ : ∃ r : Nat, u % 10 = r := ⟨_, rfl⟩
      have hq' : (u : Int) / 10 = (q : Int) := by omega
      have hr' : (u : Int) % 10 = (r : Int) := by omega
      have hq2 : (u : Int).tdiv 10 = (q : Int) := by rw [Int.tdiv_eq_ediv_of_nonneg (by omega)]; omega
      have hq3 : IntKind.u64.wrap (q : Int) = (q : Int) := IntWalk.u64_in _ (by omega)
      have hr2 : (u : Int).tmod 10 = (r : Int) := by rw [Int.tmod_eq_emod_of_nonneg (by omega)]; omega
      have hr3 : IntKind.u64.wrap (r : Int) = (r : Int) := IntWalk.u64_in _ (by omega)
      have hr4 : IntKind.u64.wrap (48 + (r : Int)) = 48 + (r : Int) := IntWalk.u64_in _ (by omega)
      have hr10 : (r : Int) < 10 := by omega
      have hr0 : (0 : Int) ≤ (r : Int) := Int.natCast_nonneg _
      have hu0 : (0 : Int) ≤ (u : Int) := Int.natCast_nonneg _
      have hu6 : (u : Int) < 18446744073709551616 := by omega
      rw [hr] at hx hc ⊢
      rw [hq] at hb HI ⊢
      obtain ⟨x, hxe⟩ : ∃ x, UInt8.ofNat (48 + r) = x := ⟨_, rfl⟩
      rw [hxe] at hx hc ⊢
      obtain ⟨B, hB⟩ : ∃ B, B = bs (Lib.decDigits q) := ⟨_, rfl⟩
      have hz : ¬ 9223372036854775807 < B.size + (bs [x]).size := by rw [hB, bs_size, bs_size]; simp; omega
      rw [← bs_append, ← hB]
      rw [← hB] at HI
      obtain ⟨C, hC⟩ : ∃ C, C = bs [x] := ⟨_, rfl⟩
      rw [← hC] at hz hc ⊢
      clear ih hu h hxe hq hr hb hB hC
      go_enter Tryz.func44, Tryz.ntmps44
      go_wp2
      refine wp_region_held_drew (S := fun _ => True) (by kernel_rfl) (trivial) (fun hHeld => ?_)
      refine wpAnyH_take (i := 0) (oi := _) (v := ?_) rfl (by kernel_rfl) (by kernel_rfl) (by kernel_rfl) (fun _ _ _ h => h) (Or.inl ⟨by rfl, ?_⟩) (by assumption) ?_
      rotate_left
      · intro w hSw
        try dsimp only at hSw
        go_simp
        try with_reducible rfl
      try simp only [Act.put, List.getElem_toArray, List.getElem_cons_succ, List.getElem_cons_zero, List.setIfInBounds_toArray, List.set_cons_zero, List.set_cons_succ]
      refine wpAnyH_take (i := 1) (oi := _) (v := ?_) rfl (by kernel_rfl) (by kernel_rfl) (by kernel_rfl) (fun _ _ _ h => h) (Or.inl ⟨by rfl, ?_⟩) (by assumption) ?_
      rotate_left
      · intro w hSw
        try dsimp only at hSw
        go_simp
        try with_reducible rfl
      try simp only [Act.put, List.getElem_toArray, List.getElem_cons_succ, List.getElem_cons_zero, List.setIfInBounds_toArray, List.set_cons_zero, List.set_cons_succ]
      refine wpAnyH_take (i := 3) (oi := _) (v := ?_) rfl (by kernel_rfl) (by kernel_rfl) (by kernel_rfl) (fun _ _ _ h => h) (Or.inl ⟨by rfl, ?_⟩) (by assumption) ?_
      rotate_left
      · intro w hSw
        try dsimp only at hSw
        go_simp
        try with_reducible rfl
      try simp only [Act.put, List.getElem_toArray, List.getElem_cons_succ, List.getElem_cons_zero, List.setIfInBounds_toArray, List.set_cons_zero, List.set_cons_succ]
      refine wpAnyH_take (i := 4) (oi := _) (v := ?_) rfl (by kernel_rfl) (by kernel_rfl) (by kernel_rfl) (fun _ _ _ h => h) (Or.inl ⟨by rfl, ?_⟩) (by assumption) ?_
      rotate_left
      · intro w hSw
        try dsimp only at hSw
        go_simp
        try with_reducible rfl
      try simp only [Act.put, List.getElem_toArray, List.getElem_cons_succ, List.getElem_cons_zero, List.setIfInBounds_toArray, List.set_cons_zero, List.set_cons_succ]
      refine wpAnyH_take (i := 5) (oi := _) (v := ?_) rfl (by kernel_rfl) (by kernel_rfl) (by kernel_rfl) (fun _ _ _ h => h) (Or.inl ⟨by rfl, ?_⟩) (by assumption) ?_
      rotate_left
      · intro w hSw
        try dsimp only at hSw
        go_simp
        try with_reducible rfl
      try simp only [Act.put, List.getElem_toArray, List.getElem_cons_succ, List.getElem_cons_zero, List.setIfInBounds_toArray, List.set_cons_zero, List.set_cons_succ]
      refine wpAnyH_take (i := 6) (oi := _) (v := ?_) rfl (by kernel_rfl) (by kernel_rfl) (by kernel_rfl) (fun _ _ _ h => h) (Or.inl ⟨by rfl, ?_⟩) (by assumption) ?_
      rotate_left
      · intro w hSw
        try dsimp only at hSw
        go_simp
        try with_reducible rfl
      try simp only [Act.put, List.getElem_toArray, List.getElem_cons_succ, List.getElem_cons_zero, List.setIfInBounds_toArray, List.set_cons_zero, List.set_cons_succ]
      refine wpAnyH_ready (rs := [2, 7]) (by kernel_rfl) (by simp) ?_
      refine AllReadyH.cons (o := _) rfl (fun K hK => ?_) (AllReadyH.cons (o := _) rfl (fun K hK => ?_) AllReadyH.nil)
      · skip
        go_simp
        go_wp2_with (go_at_call 44; (with_reducible refine (HI.out _).mono ?_); rintro e w1 ⟨rfl, f1⟩)
        refine hK.out _ _ (trivial) (fun hHeld => ?_)
        clear hK K
        try simp only [Act.put, List.getElem_toArray, List.getElem_cons_succ, List.getElem_cons_zero, List.setIfInBounds_toArray, List.set_cons_zero, List.set_cons_succ]
        refine wpAnyH_ready (rs := [7]) (by kernel_rfl) (by simp) ?_
        refine AllReadyH.cons (o := _) rfl (fun K hK => ?_) AllReadyH.nil
        go_simp
        refine hK.out _ _ (trivial) (fun hHeld => ?_)
        clear hK K
        try simp only [Act.put, List.getElem_toArray, List.getElem_cons_succ, List.getElem_cons_zero, List.setIfInBounds_toArray, List.set_cons_zero, List.set_cons_succ]
        refine wpAnyH_ready (rs := [8]) (by kernel_rfl) (by simp) ?_
        refine AllReadyH.cons (o := _) rfl (fun K hK => ?_) AllReadyH.nil
        go_simp
        refine hK.out _ _ (trivial) (fun hHeld => ?_)
        clear hK K
        try simp only [Act.put, List.getElem_toArray, List.getElem_cons_succ, List.getElem_cons_zero, List.setIfInBounds_toArray, List.set_cons_zero, List.set_cons_succ]
        refine wpAnyH_ready (rs := [9]) (by kernel_rfl) (by simp) ?_
        refine AllReadyH.cons (o := _) rfl (fun K hK => ?_) AllReadyH.nil
        go_simp
        refine hK.out _ _ (trivial) (fun hHeld => ?_)
        clear hK K
        try simp only [Act.put, List.getElem_toArray, List.getElem_cons_succ, List.getElem_cons_zero, List.setIfInBounds_toArray, List.set_cons_zero, List.set_cons_succ]
        refine wpAnyH_ready (rs := [10]) (by kernel_rfl) (by simp) ?_
        refine AllReadyH.cons (o := _) rfl (fun K hK => ?_) AllReadyH.nil
        go_simp
        refine hK.out _ _ (trivial) (fun hHeld => ?_)
        clear hK K
        try simp only [Act.put, List.getElem_toArray, List.getElem_cons_succ, List.getElem_cons_zero, List.setIfInBounds_toArray, List.set_cons_zero, List.set_cons_succ]
        refine wpAnyH_done (by kernel_rfl) ?_ _
        go_wp2
        go_ret
        exact ⟨rfl, ((Fr.refl [] w).drew.step f1).alloc _⟩
      · skip
        go_simp
        refine hK.out _ _ (trivial) (fun hHeld => ?_)
        clear hK K
        try simp only [Act.put, List.getElem_toArray, List.getElem_cons_succ, List.getElem_cons_zero, List.setIfInBounds_toArray, List.set_cons_zero, List.set_cons_succ]
        refine wpAnyH_ready (rs := [2, 8]) (by kernel_rfl) (by simp) ?_
        refine AllReadyH.cons (o := _) rfl (fun K hK => ?_) (AllReadyH.cons (o := _) rfl (fun K hK => ?_) AllReadyH.nil)
        · skip
          go_simp
          go_wp2_with (go_at_call 44; (with_reducible refine (HI.out _).mono ?_); rintro e w1 ⟨rfl, f1⟩)
          refine hK.out _ _ (trivial) (fun hHeld => ?_)
          clear hK K
          try simp only [Act.put, List.getElem_toArray, List.getElem_cons_succ, List.getElem_cons_zero, List.setIfInBounds_toArray, List.set_cons_zero, List.set_cons_succ]
          have c1 : w1.cell? ⟨w.heap.size, 0, none⟩ = some (.int .u8 (x.toNat : Int)) := f1.keep (by simp) (by simp)
          refine wpAnyH_ready (rs := [8]) (by kernel_rfl) (by simp) ?_
          refine AllReadyH.cons (o := _) rfl (fun K hK => ?_) AllReadyH.nil
          go_simp
          refine hK.out _ _ (trivial) (fun hHeld => ?_)
          clear hK K
          try simp only [Act.put, List.getElem_toArray, List.getElem_cons_succ, List.getElem_cons_zero, List.setIfInBounds_toArray, List.set_cons_zero, List.set_cons_succ]
          refine wpAnyH_ready (rs := [9]) (by kernel_rfl) (by simp) ?_
          refine AllReadyH.cons (o := _) rfl (fun K hK => ?_) AllReadyH.nil
          go_simp
          refine hK.out _ _ (trivial) (fun hHeld => ?_)
          clear hK K
          try simp only [Act.put, List.getElem_toArray, List.getElem_cons_succ, List.getElem_cons_zero, List.setIfInBounds_toArray, List.set_cons_zero, List.set_cons_succ]
          refine wpAnyH_ready (rs := [10]) (by kernel_rfl) (by simp) ?_
          refine AllReadyH.cons (o := _) rfl (fun K hK => ?_) AllReadyH.nil
          go_simp
          refine hK.out _ _ (trivial) (fun hHeld => ?_)
          clear hK K
          try simp only [Act.put, List.getElem_toArray, List.getElem_cons_succ, List.getElem_cons_zero, List.setIfInBounds_toArray, List.set_cons_zero, List.set_cons_succ]
          refine wpAnyH_done (by kernel_rfl) ?_ _
          go_wp2
          go_ret
          exact ⟨rfl, (((Fr.refl [] w).alloc _).drew).step f1⟩
        · skip
          go_simp
          refine hK.out _ _ (trivial) (fun hHeld => ?_)
          clear hK K
          try simp only [Act.put, List.getElem_toArray, List.getElem_cons_succ, List.getElem_cons_zero, List.setIfInBounds_toArray, List.set_cons_zero, List.set_cons_succ]
          refine wpAnyH_ready (rs := [2]) (by kernel_rfl) (by simp) ?_
          refine AllReadyH.cons (o := _) rfl (fun K hK => ?_) AllReadyH.nil
          go_simp
          go_wp2_with (go_at_call 44; (with_reducible refine (HI.out _).mono ?_); rintro e w1 ⟨rfl, f1⟩)
          refine hK.out _ _ (trivial) (fun hHeld => ?_)
          clear hK K
          try simp only [Act.put, List.getElem_toArray, List.getElem_cons_succ, List.getElem_cons_zero, List.setIfInBounds_toArray, List.set_cons_zero, List.set_cons_succ]
          refine wpAnyH_ready (rs := [9]) (by kernel_rfl) (by simp) ?_
          refine AllReadyH.cons (o := _) rfl (fun K hK => ?_) AllReadyH.nil
          go_simp
          refine hK.out _ _ (trivial) (fun hHeld => ?_)
          clear hK K
          try simp only [Act.put, List.getElem_toArray, List.getElem_cons_succ, List.getElem_cons_zero, List.setIfInBounds_toArray, List.set_cons_zero, List.set_cons_succ]
          refine wpAnyH_ready (rs := [10]) (by kernel_rfl) (by simp) ?_
          refine AllReadyH.cons (o := _) rfl (fun K hK => ?_) AllReadyH.nil
          go_simp
          refine hK.out _ _ (trivial) (fun hHeld => ?_)
          clear hK K
          try simp only [Act.put, List.getElem_toArray, List.getElem_cons_succ, List.getElem_cons_zero, List.setIfInBounds_toArray, List.set_cons_zero, List.set_cons_succ]
          refine wpAnyH_done (by kernel_rfl) ?_ _
          go_wp2
          go_ret
          exact ⟨rfl, (((Fr.refl [] w).alloc _).drew).step f1⟩
theorem decimal_any (n : Int) (hn : I64 n) (w : World) :
    Calls Tryz.prog 15 #[.int .i64 n] w fun e w' => e = .returned (.string (bs (Lib.itoa n))) ∧ Fr [] w w' := by
  unfold I64 at hn
  by_cases h : n < 0
  · obtain ⟨u, hu⟩ : ∃ u : Nat, n = -(u : Int) := ⟨n.natAbs, by omega⟩
    have hu1 : 1 ≤ u := by omega
    have hu2 : u ≤ 9223372036854775808 := by omega
    have hitoa : Lib.itoa n = 45 :: Lib.decDigits u := by rw [hu]; exact Lib.itoa_neg u hu1
    rw [hitoa]
    have HI := Lib.hid (digits_any u (by omega) w)
    have hwr : IntKind.u64.wrap (-(IntKind.u64.wrap n)) = (u : Int) := by rw [hu]; simp [IntKind.wrap, IntKind.bits, IntKind.signed]; omega
    have hwr2 : IntKind.u64.wrap (-n) = (u : Int) := by rw [hu]; simp [IntKind.wrap, IntKind.bits, IntKind.signed]; omega
    have hb := digits_len20 u (by omega)
    obtain ⟨B, hB⟩ : ∃ B, B = bs (Lib.decDigits u) := ⟨_, rfl⟩
    have hz : ¬ 9223372036854775807 < (⟨#[45]⟩ : ByteArray).size + B.size := by rw [hB, bs_size]; show ¬ _ < 1 + _; omega
    have hs : bs (45 :: Lib.decDigits u) = ⟨#[45]⟩ ++ B := by rw [hB, show (⟨#[45]⟩ : ByteArray) = bs [45] from rfl, bs_append]; rfl
    rw [hs]
    rw [← hB] at HI
    clear hu hitoa hb hB hs
    go_enter Tryz.func15, Tryz.ntmps15
    go_wp2_with (go_at_call 44; refine HI.out.mono ?_; rintro e w1 ⟨rfl, f1⟩)
    go_ret
    exact ⟨rfl, f1⟩
  · obtain ⟨u, rfl⟩ : ∃ u : Nat, n = (u : Int) := ⟨n.toNat, by omega⟩
    have hu2 : u < 9223372036854775808 := by omega
    rw [Lib.itoa_nonneg]
    have HI := Lib.hid (digits_any u (by omega) w)
    have hwr : IntKind.u64.wrap (u : Int) = (u : Int) := IntWalk.u64_in _ (by omega)
    clear hn
    go_enter Tryz.func15, Tryz.ntmps15
    go_wp2_with (go_at_call 44; refine HI.out.mono ?_; rintro e w1 ⟨rfl, f1⟩)
    go_ret
    exact ⟨rfl, f1⟩
theorem lawTime_any (u : Nat) (hu : u < 18446744073709551616) (w : World) :
    Calls Tryz.prog 55 #[.int .u64 u] w fun e w' => e = .returned (.string (bs (timeB u))) ∧ Fr [] w w' := by
  by_cases h : u = 18446744073709551615
  · subst h
    rw [show timeB ((18446744073709551615 : Nat) : Int) = [110, 101, 118, 101, 114] from by unfold timeB; rw [if_pos (by omega)]]
    go_enter Tryz.func55, Tryz.ntmps55
    go_wp2
    go_ret
    exact ⟨rfl, Fr.refl _ _⟩
  · rw [show timeB (u : Int) = Lib.decDigits u from by unfold timeB; rw [if_neg (by omega)]; rfl]
    have HI := Lib.hid (digits_any u hu w)
    have h' : ((u : Int) == 18446744073709551615) = false := by rw [beq_eq_false_iff_ne]; omega
    have h'' : ¬ (u : Int) = 18446744073709551615 := by omega
    clear h hu
    go_enter Tryz.func55, Tryz.ntmps55
    go_wp2_with (go_at_call 44; refine HI.out.mono ?_; rintro e w1 ⟨rfl, f1⟩)
    go_ret
    exact ⟨rfl, f1⟩
end Go.Proofs.YtllmejkcohfbiaaGreatDoor
