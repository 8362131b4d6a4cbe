/- Contract of chaos's line. -/
import Derived.Test.YtededfkenlhokaaDoorC11
import Derived.Test.YtededfkenlhokaaDoorC1
import Derived.Test.YtededfkenlhokaaDoorC10
import Derived.Deep.RegionHeld3
import Derived.Deep.OwnRows
import Derived.IntWalk
import Derived.OwnWalk
namespace Go.Proofs.YtededfkenlhokaaDoor
open Go.RowKit Go.Shelf
set_option linter.unusedVariables false
set_option linter.unusedSimpArgs false
set_option maxRecDepth 100000
set_option maxHeartbeats 4000000

theorem gTab : Tryd.prog.globalNamed "internal/strconv.uint64pow10" = some 5 := by kernel_rfl
theorem gSyn : Tryd.prog.globalNamed "strconv.ErrSyntax" = some 3 := by kernel_rfl
theorem gRan : Tryd.prog.globalNamed "strconv.ErrRange" = some 4 := by kernel_rfl
theorem gAsp : Tryd.prog.globalNamed "strings.asciiSpace" = some 0 := by kernel_rfl
theorem var?_keep {S : List Nat} {w w' : World} {n : String} {g : Nat} {cs : Array Value} (hf : Fr S w w') (hg : Tryd.prog.globalNamed n = some g) (hn : g ∉ S) (h : w.var? Tryd.prog n = some cs) : w'.var? Tryd.prog n = some cs := by
  unfold World.var? at *
  rw [hg] at *
  simp only [Option.bind_some] at *
  have hlt : g < w.heap.size := by
    rcases Nat.lt_or_ge g w.heap.size with h' | h'
    · exact h'
    · rw [Array.getElem?_eq_none h'] at h
      cases h
  rw [hf.block g hlt hn]
  exact h
/-- What a world must hold for the library's calls. -/
structure Env (w : World) : Prop where
  tab : Lib.TabIs Tryd.prog w "internal/strconv.uint64pow10" .u64 Lib.pow10Tab
  asp : Lib.TabIs Tryd.prog w "strings.asciiSpace" .u8 Lib.asciiSpaceTab
  white : Lib.WhiteTab 1 w
  syn : ∃ tp p, w.var? Tryd.prog "strconv.ErrSyntax" = some #[.iface tp p]
  ran : ∃ tp p, w.var? Tryd.prog "strconv.ErrRange" = some #[.iface tp p]
theorem Env.new {w w' : World} (h : Env w) (hf : Fr [] w w') : Env w' := by
  obtain ⟨tp, p, h1⟩ := h.syn
  obtain ⟨tq, q, h2⟩ := h.ran
  exact ⟨var?_keep hf gTab (by simp) h.tab, var?_keep hf gAsp (by simp) h.asp, Go.Proofs.WhiteTab_below h.white hf.below0, ⟨tp, p, var?_keep hf gSyn (by simp) h1⟩, ⟨tq, q, var?_keep hf gRan (by simp) h2⟩⟩

def bs (l : List UInt8) : ByteArray := ⟨l.toArray⟩
theorem kinds_any (w : World) : Calls Tryd.prog 48 #[] w fun e w' => e = .returned (.slice (some ⟨w.heap.size, 0, none⟩) 4 4) ∧ w' = w.alloc (.cells #[.string (bs wShort), .string (bs wDelay), .string (bs wFail), .string (bs wCut)] 9) := by
  go_enter Tryd.func48, Tryd.ntmps48
  go_wp2
  go_ret
  exact ⟨rfl, rfl⟩
theorem dirs_any (w : World) : Calls Tryd.prog 50 #[] w fun e w' => e = .returned (.slice (some ⟨w.heap.size, 0, none⟩) 2 2) ∧ w' = w.alloc (.cells #[.string (bs wRead), .string (bs wWrite)] 9) := by
  go_enter Tryd.func50, Tryd.ntmps50
  go_wp2
  go_ret
  exact ⟨rfl, rfl⟩
/-- The call of kinds, at the place that is read. -/
theorem kinds_at (k : Int) (i : Nat) (hk : k = i + 1) (hi : i < 4) (w : World) : Calls Tryd.prog 48 #[] w fun e w' => ∃ K, e = .returned (.slice (some ⟨K, 0, none⟩) 4 4) ∧ w'.cell? ⟨K, i, none⟩ = some (.string (bs (kindB k))) ∧ Fr [] w w' := by
  refine (kinds_any w).mono ?_
  rintro e w' ⟨rfl, rfl⟩
  refine ⟨_, rfl, ?_, (Fr.refl [] w).alloc _⟩
  subst hk
  match i, hi with
  | 0, _ => simp; rfl
  | 1, _ => simp; rfl
  | 2, _ => simp; rfl
  | 3, _ => simp; rfl
theorem dirs_at (d : Int) (i : Nat) (hd : d = i) (hi : i < 2) (w : World) : Calls Tryd.prog 50 #[] w fun e w' => ∃ K, e = .returned (.slice (some ⟨K, 0, none⟩) 2 2) ∧ w'.cell? ⟨K, i, none⟩ = some (.string (bs (dirB d))) ∧ Fr [] w w' := by
  refine (dirs_any w).mono ?_
  rintro e w' ⟨rfl, rfl⟩
  refine ⟨_, rfl, ?_, (Fr.refl [] w).alloc _⟩
  subst hd
  match i, hi with
  | 0, _ => simp; rfl
  | 1, _ => simp; rfl

theorem kindB_len (k : Int) : (kindB k).length ≤ 5 := by
  unfold kindB
  repeat' split
  all_goals decide
theorem dirB_len (k : Int) : (dirB k).length ≤ 5 := by
  unfold dirB
  repeat' split
  all_goals decide
theorem join_len4' (a b c d : List UInt8) : (Lib.join [a, b, c, d] [32]).length = a.length + b.length + c.length + d.length + 3 := by
  simp [Lib.join]
  omega
theorem join_len5' (a b c d e : List UInt8) : (Lib.join [a, b, c, d, e] [32]).length = a.length + b.length + c.length + d.length + e.length + 4 := by
  simp [Lib.join]
  omega
theorem bs_size (l : List UInt8) : (bs l).size = l.length := by simp [bs, ByteArray.size]
theorem bs_append (l m : List UInt8) : bs l ++ bs m = bs (l ++ m) := by
  ext1
  simp [bs]
theorem bs_list (l : List UInt8) : (bs l).data.toList = l := by simp [bs]
theorem strs_at {w : World} {base n g : Nat} {t : TypeId} {v : Value} {xs : List ByteArray} (h : w.ownsRow base t 1 v n (xs.map Value.string)) (hv : v.ownBlock = some g) : ∀ (j : Nat) x, xs[j]? = some x → w.cell? ⟨g, 0 + j, none⟩ = some (.string x) := fun j x hx => by
  have := h.cells hv j (.string x) (by rw [List.getElem?_map, hx]; rfl)
  rw [Addr.add_lit] at this
  exact this
theorem infoStr : (Tryd.prog.info? 9).map (fun i => (i.zero, i.size, i.bytes)) = some (some (.string ⟨#[]⟩), 1, 16) := by kernel_rfl
theorem wpAnyH_more {P : Program} {ops : Array Oper} {Q : Exit → Act → World → Prop} {md : Region.Mode} {S S' : World → Prop} (h : ∀ w, S' w → S w) : ∀ {fuel : Nat} {listed : Array Bool} {a : Act} {w : World}, wpAnyH P md ops Q S' fuel listed a w → wpAnyH P md ops Q S fuel listed a w
  | 0, _, _, _, hh => hh
  | fuel + 1, _, _, _, hh => ⟨hh.1, fun i hi => wpOp_mono (fun a' w' h' => ⟨h _ h'.1, wpAnyH_more h h'.2⟩) (hh.2 i hi)⟩
theorem line_any (f : Ft) (hok : f.ok = true) (w0 w : World) (he : Env w0) (fr : Fr [] w0 w) :
    Calls Tryd.prog 27 #[ftV f] w fun e w' => e = .returned (.string (bs (lineB f))) ∧ Fr [] w w' := by
  obtain ⟨⟨c1, c2⟩, ⟨a1, a2⟩, ⟨g1, g2⟩, hd, hk, h4⟩ := Ft.nums hok
  have f0 : Fr [] w (w.alloc (.cells #[.int .i64 f.k, .int .i64 f.c, .int .i64 f.d, .int .i64 f.a, .int .i64 f.g] 32)) := (Fr.refl [] w).alloc _
  have HE := Lib.hid (fun W (hf : Fr [] w W) => (he.new (fr.step hf)).tab)
  have hw : wordsOf f = [kindB f.k, Lib.decDigits f.c.toNat, dirB f.d, Lib.decDigits f.a.toNat] ++ if f.k = 4 then [] else [Lib.decDigits f.g.toNat] := rfl
  unfold ftV lineB
  rw [hw]
  clear hw
  obtain ⟨k, c, d, a, g⟩ := f
  simp only at c1 c2 a1 a2 g1 g2 hd hk h4 f0 ⊢
  obtain ⟨c, rfl⟩ : ∃ n : Nat, c = n := ⟨c.toNat, c2.symm⟩
  obtain ⟨a, rfl⟩ : ∃ n : Nat, a = n := ⟨a.toNat, a2.symm⟩
  obtain ⟨g, rfl⟩ : ∃ n : Nat, g = n := ⟨g.toNat, g2.symm⟩
  obtain ⟨d, rfl⟩ : ∃ n : Nat, d = n := ⟨d.toNat, by omega⟩
  obtain ⟨k, rfl⟩ : ∃ n : Nat, k = n + 1 := ⟨(k - 1).toNat, by omega⟩
  simp only [Int.toNat_natCast] at c1 a1 g1 ⊢
  have hk4 : k < 4 := by omega
  have hd2 : d < 2 := by omega
  have hkw : IntKind.i64.wrap ((k : Int) + 1 - 1) = k := by rw [Int.add_sub_cancel]; exact IntWalk.i64_in _ (by omega)
  have hkw2 : IntKind.i64.wrap (k : Int) = k := IntWalk.i64_in _ (by omega)
  have kl : (0 : Int) ≤ (k : Int) := Int.natCast_nonneg _
  have kr : (k : Int) < 4 := by omega
  have dl : (0 : Int) ≤ (d : Int) := Int.natCast_nonneg _
  have dr : (d : Int) < 2 := by omega
  clear c2 a2 g2 hd hk h4 hok
  go_enter Tryd.func27, Tryd.ntmps27
  go_wp2_with fail
  have c0 : (w.alloc (.cells #[.int .i64 ((k : Int) + 1), .int .i64 c, .int .i64 d, .int .i64 a, .int .i64 g] 32)).cell? ⟨w.heap.size, 0, none⟩ = some (.int .i64 ((k : Int) + 1)) := by simp
  have c1' : (w.alloc (.cells #[.int .i64 ((k : Int) + 1), .int .i64 c, .int .i64 d, .int .i64 a, .int .i64 g] 32)).cell? ⟨w.heap.size, 1, none⟩ = some (.int .i64 c) := by simp
  have c2' : (w.alloc (.cells #[.int .i64 ((k : Int) + 1), .int .i64 c, .int .i64 d, .int .i64 a, .int .i64 g] 32)).cell? ⟨w.heap.size, 2, none⟩ = some (.int .i64 d) := by simp
  have c3 : (w.alloc (.cells #[.int .i64 ((k : Int) + 1), .int .i64 c, .int .i64 d, .int .i64 a, .int .i64 g] 32)).cell? ⟨w.heap.size, 3, none⟩ = some (.int .i64 a) := by simp
  have c4 : (w.alloc (.cells #[.int .i64 ((k : Int) + 1), .int .i64 c, .int .i64 d, .int .i64 a, .int .i64 g] 32)).cell? ⟨w.heap.size, 4, none⟩ = some (.int .i64 g) := by simp
  generalize (w.alloc (.cells #[.int .i64 ((k : Int) + 1), .int .i64 c, .int .i64 d, .int .i64 a, .int .i64 g] 32)) = W0 at c0 c1' c2' c3 c4 f0 ⊢
  have HK := Lib.hid (fun (W : World) (f : Fr [] W0 W) => And.intro (f.keep c0 (by simp)) (And.intro (f.keep c1' (by simp)) (And.intro (f.keep c2' (by simp)) (f.keep c3 (by simp)))))
  have H4 := Lib.hid (fun (W : World) (f : Fr [] W0 W) => And.intro (f.keep c0 (by simp)) (f.keep c4 (by simp)))
  have HE' := Lib.hid (fun W (f : Fr [] W0 W) => HE.out W (f0.step f))
  clear c0 c1' c2' c3 c4 HE
  go_cut [3] from 4 to 3 (fun sv wc => ∃ L, sv = .slice (some ⟨L, 0, none⟩) 4 4 ∧ W0.heap.size ≤ L ∧ wc.heap[L]? = some (.cells #[.string (bs (kindB ((k : Int) + 1))), .string (bs (Lib.decDigits c)), .string (bs (dirB d)), .string (bs (Lib.decDigits a))] 9 (0, 0)) ∧ Fr [] W0 wc)
  case first =>
    refine wp_region_held_drew (S := (fun w' => w'.cell? ⟨w.heap.size, 0, none⟩ = some (.int .i64 ((k : Int) + 1)) ∧ w'.cell? ⟨w.heap.size, 1, none⟩ = some (.int .i64 c) ∧ w'.cell? ⟨w.heap.size, 2, none⟩ = some (.int .i64 d) ∧ w'.cell? ⟨w.heap.size, 3, none⟩ = some (.int .i64 a))) (by kernel_rfl) (HK.out _ ((Fr.refl [] _).drew)) (fun hHeld => ?_)
    refine wpAnyH_take (i := 1) (oi := _) (v := ?_) rfl (by kernel_rfl) (by kernel_rfl) (by kernel_rfl) (fun _ _ _ h => h) (Or.inl ⟨by rfl, ?_⟩) (by assumption) ?_
    rotate_left
    · intro w hSw
      try dsimp only at hSw
      go_simp
      try with_reducible rfl
    try simp only [Act.put, List.setIfInBounds_toArray, List.set_cons_zero, List.set_cons_succ]
    refine wpAnyH_take (i := 2) (oi := _) (v := ?_) rfl (by kernel_rfl) (by kernel_rfl) (by kernel_rfl) (fun _ _ _ h => h) (Or.inl ⟨by rfl, ?_⟩) (by assumption) ?_
    rotate_left
    · intro w hSw
      try dsimp only at hSw
      go_simp
      try with_reducible rfl
    try simp only [Act.put, List.setIfInBounds_toArray, List.set_cons_zero, List.set_cons_succ]
    refine wpAnyH_take (i := 3) (oi := _) (v := ?_) rfl (by kernel_rfl) (by kernel_rfl) (by kernel_rfl) (fun _ _ _ h => h) (Or.inl ⟨by rfl, ?_⟩) (by assumption) ?_
    rotate_left
    · intro w hSw
      try dsimp only at hSw
      go_simp
      try with_reducible rfl
    try simp only [Act.put, List.setIfInBounds_toArray, List.set_cons_zero, List.set_cons_succ]
    refine wpAnyH_take (i := 6) (oi := _) (v := ?_) rfl (by kernel_rfl) (by kernel_rfl) (by kernel_rfl) (fun _ _ _ h => h) (Or.inl ⟨by rfl, ?_⟩) (by assumption) ?_
    rotate_left
    · intro w hSw
      try dsimp only at hSw
      go_simp
      try with_reducible rfl
    try simp only [Act.put, List.setIfInBounds_toArray, List.set_cons_zero, List.set_cons_succ]
    refine wpAnyH_take (i := 7) (oi := _) (v := ?_) rfl (by kernel_rfl) (by kernel_rfl) (by kernel_rfl) (fun _ _ _ h => h) (Or.inl ⟨by rfl, ?_⟩) (by assumption) ?_
    rotate_left
    · intro w hSw
      try dsimp only at hSw
      go_simp
      try with_reducible rfl
    try simp only [Act.put, List.setIfInBounds_toArray, List.set_cons_zero, List.set_cons_succ]
    refine wpAnyH_take (i := 10) (oi := _) (v := ?_) rfl (by kernel_rfl) (by kernel_rfl) (by kernel_rfl) (fun _ _ _ h => h) (Or.inl ⟨by rfl, ?_⟩) (by assumption) ?_
    rotate_left
    · intro w hSw
      try dsimp only at hSw
      go_simp
      try with_reducible rfl
    try simp only [Act.put, List.setIfInBounds_toArray, List.set_cons_zero, List.set_cons_succ]
    refine wpAnyH_take (i := 11) (oi := _) (v := ?_) rfl (by kernel_rfl) (by kernel_rfl) (by kernel_rfl) (fun _ _ _ h => h) (Or.inl ⟨by rfl, ?_⟩) (by assumption) ?_
    rotate_left
    · intro w hSw
      try dsimp only at hSw
      go_simp
      try with_reducible rfl
    try simp only [Act.put, List.setIfInBounds_toArray, List.set_cons_zero, List.set_cons_succ]
    refine wpAnyH_take (i := 14) (oi := _) (v := ?_) rfl (by kernel_rfl) (by kernel_rfl) (by kernel_rfl) (fun _ _ _ h => h) (Or.inl ⟨by rfl, ?_⟩) (by assumption) ?_
    rotate_left
    · intro w hSw
      try dsimp only at hSw
      go_simp
      try with_reducible rfl
    try simp only [Act.put, List.setIfInBounds_toArray, List.set_cons_zero, List.set_cons_succ]
    refine wpAnyH_take (i := 15) (oi := _) (v := ?_) rfl (by kernel_rfl) (by kernel_rfl) (by kernel_rfl) (fun _ _ _ h => h) (Or.inl ⟨by rfl, ?_⟩) (by assumption) ?_
    rotate_left
    · intro w hSw
      try dsimp only at hSw
      go_simp
      try with_reducible rfl
    try simp only [Act.put, List.setIfInBounds_toArray, List.set_cons_zero, List.set_cons_succ]
    clear hHeld
    refine wpAnyH_ready (rs := [0]) (by kernel_rfl) (by simp) ?_
    refine AllReadyH.cons (o := _) rfl (fun K hK => ?_) AllReadyH.nil
    go_simp
    go_wp2_with (go_at_call 48; refine (kinds_at ((k : Int) + 1) k rfl hk4 _).mono ?_; rintro e w1 ⟨K1, rfl, q1, f1⟩; replace f1 := (Fr.refl [] _).drew.step f1)
    refine hK.out _ _ (HK.out _ f1) (fun hHeld => ?_)
    clear hK K
    try simp only [Act.put, List.setIfInBounds_toArray, List.set_cons_zero, List.set_cons_succ]
    refine wpAnyH_more (S' := fun w' => (fun w' => w'.cell? ⟨w.heap.size, 0, none⟩ = some (.int .i64 ((k : Int) + 1)) ∧ w'.cell? ⟨w.heap.size, 1, none⟩ = some (.int .i64 c) ∧ w'.cell? ⟨w.heap.size, 2, none⟩ = some (.int .i64 d) ∧ w'.cell? ⟨w.heap.size, 3, none⟩ = some (.int .i64 a)) w' ∧ w'.cell? ⟨K1, k, none⟩ = some (.string (bs (kindB ((k : Int) + 1))))) (fun _ h => h.1) ?_
    have hHeld1 := And.intro hHeld q1
    clear hHeld
    refine wpAnyH_take (i := 4) (oi := _) (v := ?_) rfl (by kernel_rfl) (by kernel_rfl) (by kernel_rfl) (fun _ _ _ h => h) (Or.inl ⟨by rfl, ?_⟩) (by assumption) ?_
    rotate_left
    · intro w hSw
      try dsimp only at hSw
      go_simp
      try with_reducible rfl
    try simp only [Act.put, List.setIfInBounds_toArray, List.set_cons_zero, List.set_cons_succ]
    refine wpAnyH_take (i := 5) (oi := _) (v := ?_) rfl (by kernel_rfl) (by kernel_rfl) (by kernel_rfl) (fun _ _ _ h => h) (Or.inl ⟨by rfl, ?_⟩) (by assumption) ?_
    rotate_left
    · intro w hSw
      try dsimp only at hSw
      go_simp
      try with_reducible rfl
    try simp only [Act.put, List.setIfInBounds_toArray, List.set_cons_zero, List.set_cons_succ]
    clear hHeld1
    refine wpAnyH_ready (rs := [8]) (by kernel_rfl) (by simp) ?_
    refine AllReadyH.cons (o := _) rfl (fun K hK => ?_) AllReadyH.nil
    go_simp
    go_wp2_with (go_at_call 49; refine (itoa_any c (by omega) _ (HE'.out _ f1)).mono ?_; rintro e w2 ⟨rfl, f2, -⟩; have o1 := f2.keep q1 (by simp); replace f2 := f1.step f2)
    refine hK.out _ _ (⟨HK.out _ f2, o1⟩) (fun hHeld => ?_)
    clear hK K
    try simp only [Act.put, List.setIfInBounds_toArray, List.set_cons_zero, List.set_cons_succ]
    clear hHeld
    refine wpAnyH_ready (rs := [9]) (by kernel_rfl) (by simp) ?_
    refine AllReadyH.cons (o := _) rfl (fun K hK => ?_) AllReadyH.nil
    go_simp
    go_wp2_with (go_at_call 50; refine (dirs_at d d rfl hd2 _).mono ?_; rintro e w3 ⟨K2, rfl, q2, f3⟩; have p1 := f3.keep o1 (by simp); replace f3 := f2.step f3)
    refine hK.out _ _ (⟨HK.out _ f3, p1⟩) (fun hHeld => ?_)
    clear hK K
    try simp only [Act.put, List.setIfInBounds_toArray, List.set_cons_zero, List.set_cons_succ]
    refine wpAnyH_more (S' := (fun w' => (fun w' => (fun w' => w'.cell? ⟨w.heap.size, 0, none⟩ = some (.int .i64 ((k : Int) + 1)) ∧ w'.cell? ⟨w.heap.size, 1, none⟩ = some (.int .i64 c) ∧ w'.cell? ⟨w.heap.size, 2, none⟩ = some (.int .i64 d) ∧ w'.cell? ⟨w.heap.size, 3, none⟩ = some (.int .i64 a)) w' ∧ w'.cell? ⟨K1, k, none⟩ = some (.string (bs (kindB ((k : Int) + 1))))) w' ∧ w'.cell? ⟨K2, d, none⟩ = some (.string (bs (dirB d))))) (fun _ h => h.1) ?_
    have hHeld1 := And.intro hHeld q2
    clear hHeld
    refine wpAnyH_take (i := 12) (oi := _) (v := ?_) rfl (by kernel_rfl) (by kernel_rfl) (by kernel_rfl) (fun _ _ _ h => h) (Or.inl ⟨by rfl, ?_⟩) (by assumption) ?_
    rotate_left
    · intro w hSw
      try dsimp only at hSw
      go_simp
      try with_reducible rfl
    try simp only [Act.put, List.setIfInBounds_toArray, List.set_cons_zero, List.set_cons_succ]
    refine wpAnyH_take (i := 13) (oi := _) (v := ?_) rfl (by kernel_rfl) (by kernel_rfl) (by kernel_rfl) (fun _ _ _ h => h) (Or.inl ⟨by rfl, ?_⟩) (by assumption) ?_
    rotate_left
    · intro w hSw
      try dsimp only at hSw
      go_simp
      try with_reducible rfl
    try simp only [Act.put, List.setIfInBounds_toArray, List.set_cons_zero, List.set_cons_succ]
    clear hHeld1
    refine wpAnyH_ready (rs := [16]) (by kernel_rfl) (by simp) ?_
    refine AllReadyH.cons (o := _) rfl (fun K hK => ?_) AllReadyH.nil
    go_simp
    go_wp2_with (go_at_call 49; refine (itoa_any a a1 _ (HE'.out _ f3)).mono ?_; rintro e w4 ⟨rfl, f4, -⟩; have r1 := f4.keep p1 (by simp); have r2 := f4.keep q2 (by simp); replace f4 := f3.step f4)
    refine hK.out _ _ (⟨⟨HK.out _ f4, r1⟩, r2⟩) (fun hHeld => ?_)
    clear hK K
    try simp only [Act.put, List.setIfInBounds_toArray, List.set_cons_zero, List.set_cons_succ]
    clear hHeld
    refine wpAnyH_ready (rs := [17]) (by kernel_rfl) (by simp) ?_
    refine AllReadyH.cons (o := _) rfl (fun K hK => ?_) AllReadyH.nil
    go_simp
    refine hK.out _ _ (⟨⟨HK.out _ (f4.alloc _), ((Fr.refl [] _).alloc _).keep r1 (by simp)⟩, ((Fr.refl [] _).alloc _).keep r2 (by simp)⟩) (fun hHeld => ?_)
    clear hK K
    try simp only [Act.put, List.setIfInBounds_toArray, List.set_cons_zero, List.set_cons_succ]
    clear hHeld
    refine wpAnyH_ready (rs := [18]) (by kernel_rfl) (by simp) ?_
    refine AllReadyH.cons (o := _) rfl (fun K hK => ?_) AllReadyH.nil
    go_simp
    refine hK.out _ _ (⟨⟨HK.out _ (f4.alloc _), ((Fr.refl [] _).alloc _).keep r1 (by simp)⟩, ((Fr.refl [] _).alloc _).keep r2 (by simp)⟩) (fun hHeld => ?_)
    clear hK K
    try simp only [Act.put, List.setIfInBounds_toArray, List.set_cons_zero, List.set_cons_succ]
    refine wpAnyH_done (by kernel_rfl) ?_ _
    go_wp2
    go_meet
    exact ⟨_, rfl, f4.size, heap_alloc_new _ _, f4.alloc _⟩
  case rest =>
    obtain ⟨L, rfl, hL, hh, fc⟩ := hcut
    obtain ⟨c0, c4⟩ := H4.out _ fc
    have b1 := kindB_len ((k : Int) + 1)
    have b2 := decDigits_len7 c c1
    have b3 := dirB_len d
    have b4 := decDigits_len7 a a1
    have b5 := decDigits_len7 g g1
    have hL2 : L < wc.heap.size := (Array.getElem?_eq_some_iff.1 hh).1
    have hown : wc.ownsRow L 9 1 (.slice (some ⟨L, 0, none⟩) 4 4) 4 [.string (bs (kindB ((k : Int) + 1))), .string (bs (Lib.decDigits c)), .string (bs (dirB d)), .string (bs (Lib.decDigits a))] :=
      ⟨rfl, .inr ⟨L, 4, _, rfl, Nat.le_refl _, hh, Nat.le_refl _, by simp [maxLen], rfl, rfl⟩⟩
    clear HK
    obtain ⟨i0, hi, hz0, hz1, hz2⟩ := info_parts infoStr
    by_cases hk : k = 3
    · subst hk
      have hjl := join_len4' (kindB (((3 : Nat) : Int) + 1)) (Lib.decDigits c) (dirB d) (Lib.decDigits a)
      have HJ := Tryd.strings_Join L 0 4 [bs (kindB (((3 : Nat) : Int) + 1)), bs (Lib.decDigits c), bs (dirB d), bs (Lib.decDigits a)] ⟨#[32]⟩ wc (strs_at (xs := [bs (kindB (((3 : Nat) : Int) + 1)), bs (Lib.decDigits c), bs (dirB d), bs (Lib.decDigits a)]) hown rfl) hL2 (by simp) (by simp) (by simp only [List.map_cons, List.map_nil, bs_list]; change (Lib.join _ [32]).length ≤ _; omega)
      simp only [List.map_cons, List.map_nil, bs_list] at HJ
      change Calls _ _ _ _ (fun e w' => e = .returned (.string (bs (Lib.join [(kindB (((3 : Nat) : Int) + 1)), (Lib.decDigits c), (dirB d), (Lib.decDigits a)] [32]))) ∧ _) at HJ
      simp only [show ((3 : Nat) : Int) + 1 = 4 from rfl] at c0
      obtain ⟨J, hJ⟩ : ∃ J, J = Lib.join [(kindB (((3 : Nat) : Int) + 1)), (Lib.decDigits c), (dirB d), (Lib.decDigits a)] [32] := ⟨_, rfl⟩
      rw [← hJ] at HJ hjl
      have z1 : ¬ 9223372036854775807 < (bs J).size + 1 := by rw [bs_size]; omega
      obtain ⟨B, hB⟩ : ∃ B, B = bs J := ⟨_, rfl⟩
      rw [← hB] at HJ z1
      replace hB := Lib.hid hB
      replace HJ := Lib.hid HJ
      replace hJ := Lib.hid hJ
      clear hown hh
      go_wp2_with (go_at_call 51; refine HJ.out.mono ?_; rintro e w6 ⟨rfl, f6⟩)
      go_ret
      exact ⟨by rw [← bs_append]; show _ = Ending.returned (.string (bs (Lib.join [(kindB (((3 : Nat) : Int) + 1)), (Lib.decDigits c), (dirB d), (Lib.decDigits a)] [32]) ++ bs [10])); rw [← hJ.out, ← hB.out]; rfl, (f0.step fc).step (Fr.of_below f6)⟩
    · have hk3 : ¬ ((k : Int) + 1) = 4 := by omega
      have hk4 : ¬ ((k : Int)) = 3 := by omega
      have HI := Lib.hid (fun W (f : Fr [] W0 W) => itoa_any g g1 W (HE'.out _ f))
      have H4' := Lib.hid (fun W (f : Fr [] wc W) => (H4.out W (fc.step f)).2)
      have HO := Lib.hid (fun (W : World) (f : Fr [] wc W) => (⟨rfl, .inr ⟨L, 4, _, rfl, Nat.le_refl _, (f.block L hL2 (by simp)).trans hh, Nat.le_refl _, by simp [maxLen], rfl, rfl⟩⟩ : W.ownsRow L 9 1 (.slice (some ⟨L, 0, none⟩) 4 4) 4 [.string (bs (kindB ((k : Int) + 1))), .string (bs (Lib.decDigits c)), .string (bs (dirB d)), .string (bs (Lib.decDigits a))]))
      clear hown hh
      go_wp2_with (first
        | (go_at_call 49; refine (HI.out _ fc).mono ?_; rintro e w5 ⟨rfl, f5, -⟩)
        | (at_builtin; refine wpList_append_own _ rfl _ _ 85 rfl L 9 i0 _ 1 16 Tryd.underlying85 hi hz0 hz1 hz2 rfl (by omega) _ _ _ rfl (HO.out _ (f5.alloc _)) ⟨w5.heap.size, 0, none⟩ 1 1 [.string (bs (Lib.decDigits g))] rfl rfl ?qc1 ?qc2 ?qc3 ?qc4 ?qc5 ?_))
      case qc1 =>
        intro j u hj
        match j with
        | 0 =>
          cases hj
          simp [Addr.add]
          rfl
        | j + 1 => simp at hj
      case qc2 =>
        intro u hu
        simp only [List.mem_singleton] at hu
        subst hu
        rfl
      case qc3 => decide
      case qc4 => decide
      case qc5 => have := f5.size; simp; omega
      intro v' w6 hown hgrow hnil
      have f6 : Fr [] W0 w6 := Fr.of_below (((fc.step f5).below0.alloc (fc.step f5).size _).grown hgrow (by have := (fc.step f5).size; simp; omega) (by intro k hk; simp [Value.ownBlock] at hk; omega))
      obtain ⟨L', cp, rfl, hcp, hlt'⟩ : ∃ L' cp, v' = .slice (some ⟨L', 0, none⟩) 5 cp ∧ 5 ≤ cp ∧ L' < w6.heap.size := by
        rcases hown.2 with ⟨_, h⟩ | ⟨L', cp, cur, h, _, h2, h3, _⟩
        · simp at h
        · exact ⟨L', cp, h, h3, (Array.getElem?_eq_some_iff.1 h2).1⟩
      have hjl := join_len5' (kindB ((k : Int) + 1)) (Lib.decDigits c) (dirB d) (Lib.decDigits a) (Lib.decDigits g)
      have HJ := Tryd.strings_Join L' 0 cp [bs (kindB ((k : Int) + 1)), bs (Lib.decDigits c), bs (dirB d), bs (Lib.decDigits a), bs (Lib.decDigits g)] ⟨#[32]⟩ w6 (strs_at (xs := [bs (kindB ((k : Int) + 1)), bs (Lib.decDigits c), bs (dirB d), bs (Lib.decDigits a), bs (Lib.decDigits g)]) hown rfl) hlt' (by simp) (by simpa using hcp) (by simp only [List.map_cons, List.map_nil, bs_list]; change (Lib.join _ [32]).length ≤ _; omega)
      simp only [List.map_cons, List.map_nil, bs_list] at HJ
      change Calls _ _ _ _ (fun e w' => e = .returned (.string (bs (Lib.join [kindB ((k : Int) + 1), Lib.decDigits c, dirB d, Lib.decDigits a, Lib.decDigits g] [32]))) ∧ _) at HJ
      obtain ⟨J, hJ⟩ : ∃ J, J = Lib.join [kindB ((k : Int) + 1), Lib.decDigits c, dirB d, Lib.decDigits a, Lib.decDigits g] [32] := ⟨_, rfl⟩
      rw [← hJ] at HJ hjl
      have z1 : ¬ 9223372036854775807 < (bs J).size + 1 := by rw [bs_size]; omega
      obtain ⟨B, hB⟩ : ∃ B, B = bs J := ⟨_, rfl⟩
      rw [← hB] at HJ z1
      replace hB := Lib.hid hB
      replace HJ := Lib.hid HJ
      replace hJ := Lib.hid hJ
      clear hown
      go_wp2_with (go_at_call 51; refine HJ.out.mono ?_; rintro e w7 ⟨rfl, f7⟩)
      go_ret
      refine ⟨?_, (f0.step f6).step (Fr.of_below f7)⟩
      rw [← bs_append, ← hJ.out, ← hB.out]
      rfl
end Go.Proofs.YtededfkenlhokaaDoor
