/- What a world must hold for the library's calls; contracts of strconv.Itoa and Atoi, strings.Cut, and addr's text, Text and Parse. -/
import Derived.Test.YtbilaapikclhlaaDoorAddrSort
import Derived.Shelf.SlSortCmp.QuietGrown
import Derived.Lib.AppendIntMem
import Derived.Lib.ItoaLen
namespace Go.Proofs.YtbilaapikclhlaaDoor
open Go.RowKit Go.Sort Go.Lib Go.Proofs
set_option linter.unusedVariables false
set_option maxRecDepth 100000
set_option maxHeartbeats 4000000

/-- What a world must hold: the table of powers of ten, two sentinels, an int. -/
structure Env (w : World) : Prop where
  tab : Lib.TabIs Tryd.prog w "internal/strconv.uint64pow10" .u64 Lib.pow10Tab
  syn : ∃ tp p, w.var? Tryd.prog "strconv.ErrSyntax" = some #[.iface tp p]
  ran : ∃ tp p, w.var? Tryd.prog "strconv.ErrRange" = some #[.iface tp p]
  max : ∃ m, w.cell? ⟨0, 0, none⟩ = some (.int .i64 m)
  big : 6 ≤ w.heap.size
theorem gTab : Tryd.prog.globalNamed "internal/strconv.uint64pow10" = some 3 := by kernel_rfl
theorem gSyn : Tryd.prog.globalNamed "strconv.ErrSyntax" = some 1 := by kernel_rfl
theorem gRan : Tryd.prog.globalNamed "strconv.ErrRange" = some 2 := by kernel_rfl
theorem var?_keep {S : List Nat} {w w' : World} {n : String} {g : Nat} {cs : Array Value} (hf : Fr S w w') (hg : Tryd.prog.globalNamed n = some g) (hn : g ∉ S) (h : w.var? Tryd.prog n = some cs) : w'.var? Tryd.prog n = some cs := by
  unfold World.var? at *
  rw [hg] at *
  simp only [Option.bind_some] at *
  have hlt : g < w.heap.size := by
    rcases Nat.lt_or_ge g w.heap.size with h' | h'
    · exact h'
    · rw [Array.getElem?_eq_none h'] at h
      cases h
  rw [hf.block g hlt hn]
  exact h
theorem Env.keep {S : List Nat} {w w' : World} (h : Env w) (hf : Fr S w w') (hS : ∀ x ∈ S, 6 ≤ x) : Env w' := by
  obtain ⟨tp, p, h1⟩ := h.syn
  obtain ⟨tq, q, h2⟩ := h.ran
  obtain ⟨m, h3⟩ := h.max
  exact ⟨var?_keep hf gTab (fun hm => by have := hS _ hm; omega) h.tab, ⟨tp, p, var?_keep hf gSyn (fun hm => by have := hS _ hm; omega) h1⟩, ⟨tq, q, var?_keep hf gRan (fun hm => by have := hS _ hm; omega) h2⟩,
    ⟨m, hf.keep h3 (fun hm => by have := hS _ hm; omega)⟩, by have := hf.size; have := h.big; omega⟩
theorem Env.new {w w' : World} (h : Env w) (hf : Fr [] w w') : Env w' := h.keep hf (fun x hx => by cases hx)
theorem fr_grow (w : World) (k : Nat) (os : Array Obj) : Fr [] w (grow (w.drewN k) os) :=
  ⟨rfl, rfl, rfl, by simp [grow], fun i hi _ => by
    show (w.heap ++ os)[i]? = _
    exact Array.getElem?_append_left hi⟩

theorem cut_any (s : ByteArray) (hs : s.size ≤ 1000000) (w : World) (he : Env w) :
    Calls Tryd.prog 35 #[.string s, .string ⟨#[58]⟩] w fun e w' => e = .returned (.tuple #[.string ⟨(Lib.cut s.data.toList [58]).1.toArray⟩, .string ⟨(Lib.cut s.data.toList [58]).2.1.toArray⟩, .bool (Lib.cut s.data.toList [58]).2.2]) ∧ Fr [] w w' := by
  obtain ⟨m, hm⟩ := he.max
  refine (Tryd.strings_Cut s ⟨#[58]⟩ m w (by omega) hm).mono ?_
  rintro e w' ⟨he, n, rfl⟩
  exact ⟨he, (Fr.refl [] w).drewN n⟩

/-- What Atoi hands back as the number. -/
def atoiN (l : List UInt8) : Int := match Lib.atoiAll l with
  | .ok v => v
  | .range => Lib.atoiSat l
  | _ => 0
theorem fr_bytes (w : World) (k : TypeId) (t : ByteArray) : Fr [] w (Lib.bytesWorld w k t) :=
  ⟨rfl, rfl, rfl, by rw [Lib.bytesWorld_size]; omega, fun j hj _ => Lib.bytesWorld_at_old w k t j hj⟩
theorem atoi_any (s : ByteArray) (hs : s.size ≤ 1000000) (w : World) (he : Env w) :
    Calls Tryd.prog 36 #[.string s] w fun e w' => (∃ v, e = .returned (.tuple #[.int .i64 (atoiN s.data.toList), v])) ∧ Fr [] w w' := by
  unfold atoiN
  rcases h : Lib.atoiAll s.data.toList with v | _ | _
  · refine (Tryd.strconv_Atoi_ok s (by omega) v h w).mono ?_
    rintro e w' ⟨hq, hw⟩
    rcases hw with rfl | ⟨t, rfl⟩
    · exact ⟨⟨_, hq⟩, Fr.refl _ _⟩
    · exact ⟨⟨_, hq⟩, fr_bytes _ _ _⟩
  · obtain ⟨tp, p, h1⟩ := he.syn
    refine (Any.strconv_Atoi_syntax_var Tryd.laysC172 s (by omega) h tp p w h1).mono ?_
    rintro e w' ⟨N, hq, _, _, hB⟩
    exact ⟨⟨_, hq⟩, Fr.of_below hB⟩
  · obtain ⟨tp, p, h1⟩ := he.ran
    refine (Tryd.strconv_Atoi_range_var s (by omega) h tp p w h1).mono ?_
    rintro e w' ⟨N, hq, _, _, hB⟩
    exact ⟨⟨_, hq⟩, Fr.of_below hB⟩

theorem itoa_any (u : Nat) (hu : u ≤ 65535) (w : World) (he : Env w) :
    Calls Tryd.prog 37 #[.int .i64 u] w fun e w' => e = .returned (.string ⟨(Lib.decDigits u).toArray⟩) ∧ ∃ q os', w' = grow (w.drewN q) os' := by
  have := Tryd.strconv_Itoa u (by omega) (by omega) w he.tab
  rw [Lib.itoa_nonneg] at this
  exact this

/-- The text of an address. -/
def textB (s : ByteArray) (u : Nat) : ByteArray := s ++ ⟨#[58]⟩ ++ ⟨(Lib.decDigits u).toArray⟩
theorem text_any (s : ByteArray) (u : Nat) (hs : s.size ≤ 1000000) (hu : u ≤ 65535) (w : World) (he : Env w) :
    Calls Tryd.prog 25 #[.agg #[.string s, .int .i64 u]] w fun e w' => e = .returned (.string (textB s u)) ∧ Fr [] w w' := by
  have mixed : Tryd.prog.follows .mixedOrders = true := by kernel_rfl
  have hdl : (⟨(Lib.decDigits u).toArray⟩ : ByteArray).size ≤ 21 := by
    have := Lib.itoa_length_le u (by omega) (by omega)
    rw [Lib.itoa_nonneg] at this
    simpa [ByteArray.size] using this
  have hI := fun W he' => itoa_any u hu W he'
  unfold textB
  generalize (⟨(Lib.decDigits u).toArray⟩ : ByteArray) = t at hI hdl ⊢
  have f0 : Fr [] w (w.alloc (.cells #[.string s, .int .i64 u] 23)) := (Fr.refl [] w).alloc _
  have HE := Lib.hid (fun n os => (he.new f0).new (fr_grow _ n os))
  have HI := Lib.hid hI
  clear hI
  go_enter Tryd.func25, Tryd.ntmps25
  go_wp2_with fail
  have k0 : ∀ n os, (grow ((w.alloc (.cells #[.string s, .int .i64 u] 23)).drewN n) os).cell? ⟨w.heap.size, 0, none⟩ = some (.string s) := fun n os => cell_grown (by simp) (by simp) n os
  have k1 : ∀ n os, (grow ((w.alloc (.cells #[.string s, .int .i64 u] 23)).drewN n) os).cell? ⟨w.heap.size, 1, none⟩ = some (.int .i64 u) := fun n os => cell_grown (by simp) (by simp) n os
  generalize w.alloc (.cells #[.string s, .int .i64 u] 23) = W0 at k0 k1 f0 HE ⊢
  have z1 : ¬ 9223372036854775807 < s.size + 1 := by omega
  have z2 : ¬ 9223372036854775807 < s.size + 1 + t.size := by omega
  go_quiet_grown ((go_at_call 37; exact Calls.grown_of (HI.out _ (HE.out _ _))))
  go_wp2_with fail
  go_ret
  exact ⟨rfl, f0.step (fr_grow _ _ _)⟩
end Go.Proofs.YtbilaapikclhlaaDoor
