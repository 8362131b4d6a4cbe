/- Contracts of strconv.FormatUint at base 10, strconv.ParseUint where it fails, vtime's Text and Parse: for every uint64 and every string of at most 2^48 bytes, in a world that holds the library's table and sentinels. -/
import Derived.Test.YtgkmmkaaokbmiaaDoorB
import Derived.Test.YtgkmmkaaokbmiaaDoorShelf
import Derived.Lib.AppendIntMem
import Derived.Lib.ParseIntBCases
namespace Go.Proofs.YtgkmmkaaokbmiaaDoor
open Go.RowKit Go.Sort Go.Lib
set_option linter.unusedVariables false

/-- What a world must hold: the table of powers of ten, and two sentinels. -/
structure Env (w : World) : Prop where
  tab : Lib.TabIs Tryd.prog w "internal/strconv.uint64pow10" .u64 Lib.pow10Tab
  syn : ∃ tp p, w.var? Tryd.prog "strconv.ErrSyntax" = some #[.iface tp p]
  ran : ∃ tp p, w.var? Tryd.prog "strconv.ErrRange" = some #[.iface tp p]
  big : 5 ≤ w.heap.size

theorem gTab : Tryd.prog.globalNamed "internal/strconv.uint64pow10" = some 0 := by kernel_rfl
theorem gSyn : Tryd.prog.globalNamed "strconv.ErrSyntax" = some 1 := by kernel_rfl
theorem gRan : Tryd.prog.globalNamed "strconv.ErrRange" = some 2 := by kernel_rfl

theorem Env.on {w w' : World} (h : Env w) {B : Nat} (hB : 5 ≤ B) (hb : Below B w w') : Env w' := by
  have h5 := h.big
  obtain ⟨tp, p, h1⟩ := h.syn
  obtain ⟨tq, q, h2⟩ := h.ran
  exact ⟨var?_below hb gTab (by omega) h.tab, ⟨tp, p, var?_below hb gSyn (by omega) h1⟩, ⟨tq, q, var?_below hb gRan (by omega) h2⟩, by have := hb.size; omega⟩

set_option maxHeartbeats 1600000 in
set_option maxRecDepth 100000 in
theorem ifmt_any (u : Nat) (hu64 : u < 18446744073709551616) (w : World) (htab : Lib.TabIs Tryd.prog w "internal/strconv.uint64pow10" .u64 Lib.pow10Tab) :
    Calls Tryd.prog 34 #[.int .u64 u, .int .i64 10] w fun e w' => e = .returned (.string ⟨(Lib.decDigits u).toArray⟩) ∧ ∃ k os, w' = grow (w.drewN k) os := by
  by_cases hs : u < 100
  · go_enter Tryd.func34, Tryd.ntmps34
    go_wp2_with (go_at_call 37; refine (Tryd.internal_strconv_small u hs _).mono ?_; rintro e w' ⟨rfl, rfl⟩)
    go_ret
    exact ⟨rfl, 0, #[], by simp [World.drewN_zero]⟩
  · have hu1 : 1 ≤ u := by omega
    have hnd20 : Lib.nDigits u ≤ 20 := by have := Lib.numDigits_eq u hu1 hu64; split at this <;> omega
    have hb3 : Lib.nDigits u ≤ 24 := by omega
    have hal : Tryd.prog.arrayLen 69 = 24 := by kernel_rfl
    have hsl1 : ∀ W, (Instr.sliceAt 69 (.pointer (some ⟨w.heap.size, 0, none⟩)) none (some (.int .i64 (Lib.nDigits u : Int))) none).run Tryd.prog W = .ok (.slice (some ⟨w.heap.size, 0, none⟩) (Lib.nDigits u) 24) W := fun W => by
      rw [run_sliceAt_array_h W 69 ⟨w.heap.size, 0, none⟩ (by kernel_rfl) .i64 (Lib.nDigits u : Int) (by omega) (by rw [hal]; omega)]
      go_simp
    have hH0 := Lib.holds_zero0 w 69 (Lib.nDigits u) (by omega)
    have hfmt := Tryd.internal_strconv_formatBase10 w.heap.size 0 24 u (Array.replicate (Lib.nDigits u) 0) (w.alloc (.cells Lib.zeros24 69)) hH0 (by rw [Array.size_replicate]; exact Lib.lt_pow_nDigits u) hu64 (by rw [Array.size_replicate]; omega)
    rw [Array.size_replicate] at hfmt
    have HH0 := Lib.hid hH0
    clear hH0 hal
    go_enter Tryd.func34, Tryd.ntmps34
    go_wp2_with (first
      | (go_at_call 38; refine (Tryd.internal_strconv_numDigits u hu1 hu64 _ (Lib.tabIs_alloc htab _)).mono ?_; rintro e w' ⟨rfl, rfl⟩))
    go_at_call 39
    refine hfmt.mono ?_
    rintro e w' ⟨rfl, k, v', dk, rfl, hF⟩
    have hcv : (convert 72 9 (.slice (some ⟨w.heap.size, 0, none⟩) (Lib.nDigits u) 24)).run Tryd.prog ((putRow (fun (b : UInt8) => Value.int .u8 (b.toNat : Int)) (w.alloc (.cells Lib.zeros24 69)) w.heap.size 0 dk).drewN k) = .ok (.string ⟨(Lib.decDigits u).toArray⟩) ((putRow (fun (b : UInt8) => Value.int .u8 (b.toNat : Int)) (w.alloc (.cells Lib.zeros24 69)) w.heap.size 0 dk).drewN k) := by
      have h := run_convert_bytes_back (P := Tryd.prog) ((putRow (fun (b : UInt8) => Value.int .u8 (b.toNat : Int)) (w.alloc (.cells Lib.zeros24 69)) w.heap.size 0 dk).drewN k) 72 9 5 ⟨w.heap.size, 0, none⟩ 24 (Lib.decDigits u) Tryd.underlying72 Tryd.underlying5 Tryd.underlying9 (fun j hj => by
        rw [Lib.row_is_numeral hF j hj, Lib.add_plain, World.cell?_drewN]
        exact cell?_putRow (fun (b : UInt8) => Value.int .u8 (b.toNat : Int)) _ w.heap.size 0 _ dk HH0.out (by rw [hF.size, Array.size_replicate]) j (by rw [hF.size]; rw [Lib.decDigits_length] at hj; exact hj))
      rw [Lib.decDigits_length] at h
      exact h
    go_wp2
    go_ret
    obtain ⟨os, eo⟩ := Lib.fin_at w (.cells Lib.zeros24 69) dk k 0
    exact ⟨rfl, k, os, eo⟩

theorem below_of_grow {w w' : World} (h : ∃ k os, w' = grow (w.drewN k) os) : Below w.heap.size w w' := by
  obtain ⟨k, os, rfl⟩ := h
  exact Lib.below_grow _ _ (Nat.le_refl _) _ _

def textB (u : Nat) : List UInt8 := if u = 18446744073709551615 then [110, 101, 118, 101, 114] else Lib.decDigits u
theorem ret_str {a b : List UInt8} (h : a = b) : Ending.returned (.string ⟨a.toArray⟩) = .returned (.string ⟨b.toArray⟩) := by rw [h]

set_option maxHeartbeats 400000 in
theorem fmt_any (u : Nat) (hu64 : u < 18446744073709551616) (w : World) (he : Env w) :
    Calls Tryd.prog 31 #[.int .u64 u, .int .i64 10] w fun e w' => e = .returned (.string ⟨(Lib.decDigits u).toArray⟩) ∧ Below w.heap.size w w' := by
  have htab := he.tab
  go_enter Tryd.func31, Tryd.ntmps31
  go_wp2_with (go_at_call 34; refine (ifmt_any u hu64 _ htab).mono ?_; rintro e w' ⟨rfl, k, os, rfl⟩)
  go_ret
  exact ⟨rfl, Lib.below_grow _ _ (Nat.le_refl _) _ _⟩

set_option maxHeartbeats 400000 in
theorem text_never (w : World) :
    Calls Tryd.prog 17 #[.int .u64 18446744073709551615] w fun e w' => e = .returned (.string ⟨#[110, 101, 118, 101, 114]⟩) ∧ Below w.heap.size w w' := by
  go_enter Tryd.func17, Tryd.ntmps17
  go_wp2
  go_ret
  exact ⟨rfl, Below.refl _ _⟩

set_option maxHeartbeats 400000 in
theorem text_any (u : Nat) (hu64 : u < 18446744073709551616) (w : World) (he : Env w) :
    Calls Tryd.prog 17 #[.int .u64 u] w fun e w' => e = .returned (.string ⟨(textB u).toArray⟩) ∧ Below w.heap.size w w' := by
  by_cases hn : u = 18446744073709551615
  · subst hn
    exact text_never w
  · have hq : ((u : Int) == 18446744073709551615) = false := by rw [beq_eq_false_iff_ne]; omega
    have ht : Hid (textB u = Lib.decDigits u) := if_neg hn
    clear hn
    go_enter Tryd.func17, Tryd.ntmps17
    go_wp2_with (go_at_call 31; refine (fmt_any u hu64 _ he).mono ?_; rintro e w' ⟨rfl, hb⟩)
    go_ret
    exact ⟨ret_str ht.out.symm, hb⟩

/-- A string that spells no uint64: an error. -/
theorem pu_bad (s : ByteArray) (hlim : s.size ≤ 281474976710656) (h : ∀ u, Lib.parseUintB 64 s.data.toList ≠ .ok u) (w : World) (he : Env w) :
    Calls Tryd.prog 33 #[.string s, .int .i64 10, .int .i64 64] w fun e w' => ∃ (v : Int) (N : Nat), e = .returned (.tuple #[.int .u64 v, .iface 79 (.pointer (some ⟨N, 0, none⟩))]) ∧ Below w.heap.size w w' := by
  obtain ⟨tp, p, h1⟩ := he.syn
  obtain ⟨tq, q, h2⟩ := he.ran
  cases hc : Lib.parseUintB 64 s.data.toList with
  | ok u => exact absurd hc (h u)
  | range => exact (Any.strconv_ParseUint_10_at64_range_var Tryd.laysPu14 s hlim hc tq q w h2).mono fun e w' ⟨N, h1, _, _, h4⟩ => ⟨_, N, h1, h4⟩
  | _ => exact (Any.strconv_ParseUint_10_at64_syntax_var Tryd.laysPu14 s hlim hc tp p w h1).mono fun e w' ⟨N, h1, _, _, h4⟩ => ⟨_, N, h1, h4⟩


def pT (l : List UInt8) : Option Nat :=
  if l = [110, 101, 118, 101, 114] then some 18446744073709551615 else
  match Lib.parseUintB 64 l with
  | .ok u => if textB u = l then some u else none
  | _ => none
def pV (l : List UInt8) : Int := ((pT l).getD 0 : Nat)
def pE (l : List UInt8) : Int := if (pT l).isSome then 0 else 6
theorem pV_nonneg (l : List UInt8) : 0 ≤ pV l := by unfold pV; omega

theorem toList_data (s : ByteArray) : s.toList = s.data.toList := by
  simp [ByteArray.toList_eq]

theorem ret_pp {l : List UInt8} {a b : Int} (h : pV l = a) (h' : pE l = b) : Ending.returned (.tuple #[.int .u64 a, .int .i64 b]) = .returned (.tuple #[.int .u64 (pV l), .int .i64 (pE l)]) := by rw [h, h']

set_option maxHeartbeats 400000 in
theorem parse_any (s : ByteArray) (hlim : s.size ≤ 281474976710656) (w : World) (he : Env w) :
    Calls Tryd.prog 19 #[.string s] w fun e w' => e = .returned (.tuple #[.int .u64 (pV s.data.toList), .int .i64 (pE s.data.toList)]) ∧ Below w.heap.size w w' := by
  by_cases hn : s.data.toList = [110, 101, 118, 101, 114]
  · have h0 : (s.toList == [110, 101, 118, 101, 114]) = true := by rw [toList_data, hn]; rfl
    have hv : Hid (pV s.data.toList = 18446744073709551615) := by show pV s.data.toList = _; unfold pV pT; rw [if_pos hn]; rfl
    have hE : Hid (pE s.data.toList = 0) := by show pE s.data.toList = _; unfold pE pT; rw [if_pos hn]; rfl
    clear hn
    go_enter Tryd.func19, Tryd.ntmps19
    go_wp2
    go_ret2
    exact ⟨ret_pp hv.out hE.out, Below.refl _ _⟩
  · have h0 : (s.toList == [110, 101, 118, 101, 114]) = false := by rw [toList_data, beq_eq_false_iff_ne]; exact hn
    by_cases h : ∃ u, Lib.parseUintB 64 s.data.toList = .ok u
    · obtain ⟨u, h⟩ := h
      have hu64 : u < 18446744073709551616 := by have := Lib.parseUintB_le h; omega
      by_cases ht : textB u = s.data.toList
      · have h2 : (textB u == s.toList) = true := by rw [toList_data, beq_iff_eq]; exact ht
        have hv : Hid (pV s.data.toList = u) := by show pV s.data.toList = _; unfold pV pT; rw [if_neg hn, h]; simp only [if_pos ht]; rfl
        have hE : Hid (pE s.data.toList = 0) := by show pE s.data.toList = _; unfold pE pT; rw [if_neg hn, h]; simp only [if_pos ht]; rfl
        have H := Lib.hid h
        clear hn h ht
        go_enter Tryd.func19, Tryd.ntmps19
        go_wp2_with (go_at_call 33; refine (Tryd.strconv_ParseUint_10_at64_ok s (by omega) u H.out _).mono ?_; rintro e w' ⟨rfl, hb⟩; refine Hid.out ?_)
        refine Lib.hid ?_
        have hb' : Below w.heap.size w w' := by rcases hb with rfl | rfl; exact Below.refl _ _; exact Lib.bytesWorld_below _ _ _
        have he' := he.on he.big hb'
        clear hb
        go_wp2_with (go_at_call 17; refine (text_any u hu64 _ he').mono ?_; rintro e w2 ⟨rfl, hb2⟩)
        go_ret2
        exact ⟨ret_pp hv.out hE.out, hb'.trans (hb2.mono hb'.size)⟩
      · have h2 : (textB u == s.toList) = false := by rw [toList_data, beq_eq_false_iff_ne]; exact ht
        have hv : Hid (pV s.data.toList = 0) := by show pV s.data.toList = _; unfold pV pT; rw [if_neg hn, h]; simp only [if_neg ht]; rfl
        have hE : Hid (pE s.data.toList = 6) := by show pE s.data.toList = _; unfold pE pT; rw [if_neg hn, h]; simp only [if_neg ht]; rfl
        have H := Lib.hid h
        clear hn h ht
        go_enter Tryd.func19, Tryd.ntmps19
        go_wp2_with (go_at_call 33; refine (Tryd.strconv_ParseUint_10_at64_ok s (by omega) u H.out _).mono ?_; rintro e w' ⟨rfl, hb⟩; refine Hid.out ?_)
        refine Lib.hid ?_
        have hb' : Below w.heap.size w w' := by rcases hb with rfl | rfl; exact Below.refl _ _; exact Lib.bytesWorld_below _ _ _
        have he' := he.on he.big hb'
        clear hb
        go_wp2_with (go_at_call 17; refine (text_any u hu64 _ he').mono ?_; rintro e w2 ⟨rfl, hb2⟩)
        go_ret2
        exact ⟨ret_pp hv.out hE.out, hb'.trans (hb2.mono hb'.size)⟩
    · have h' : ∀ u, Lib.parseUintB 64 s.data.toList ≠ .ok u := fun u hu => h ⟨u, hu⟩
      have hp : pT s.data.toList = none := by
        unfold pT
        rw [if_neg hn]
        split
        · rename_i u hu; exact absurd hu (h' u)
        · rfl
      have hv : Hid (pV s.data.toList = 0) := by show pV s.data.toList = _; unfold pV; rw [hp]; rfl
      have hE : Hid (pE s.data.toList = 6) := by show pE s.data.toList = _; unfold pE; rw [hp]; rfl
      have H := Lib.hid h'
      clear hn h h' hp
      go_enter Tryd.func19, Tryd.ntmps19
      go_wp2_with (go_at_call 33; refine (pu_bad s hlim H.out _ he).mono ?_; rintro e w' ⟨v, N, rfl, hb⟩)
      go_ret2
      exact ⟨ret_pp hv.out hE.out, hb⟩

set_option maxHeartbeats 400000 in
theorem parses_any (s : ByteArray) (hlim : s.size ≤ 281474976710656) (t c : Int) (w : World) (he : Env w) :
    Calls Tryd.prog 29 #[.string s, .int .u64 t, .int .i64 c] w fun e w' => e = .returned (.bool (pV s.data.toList == t && pE s.data.toList == c)) ∧ Below w.heap.size w w' := by
  go_enter Tryd.func29, Tryd.ntmps29
  go_wp2_with (go_at_call 19; refine (parse_any s hlim _ he).mono ?_; rintro e w' ⟨rfl, hb⟩)
  all_goals
    go_ret
    refine ⟨ret_bool ?_, hb⟩
    simp
    intros
    first | assumption | contradiction
end Go.Proofs.YtgkmmkaaokbmiaaDoor
