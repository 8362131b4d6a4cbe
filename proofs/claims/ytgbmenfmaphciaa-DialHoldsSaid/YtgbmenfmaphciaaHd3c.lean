/- DialHolds: All over the law's own slice. -/
import Derived.Test.YtgbmenfmaphciaaHd3b
namespace Go.Proofs.Ytgbmenfmaphciaa
open Go.RowKit
open Go.Maps (Keyed)
set_option linter.unusedVariables false
set_option maxRecDepth 100000
set_option maxHeartbeats 4000000

def fixD (d : PN.PD) : ByteArray × Int × Nat × Int := (d.s, d.p, d.c, d.un)
theorem round_fix (now : Int) : ∀ (D : List PN.PD) (N : PN.Net), (PN.roundD now D N).1.map fixD = D.map fixD
  | [], _ => rfl
  | d :: r, N => by
    obtain ⟨h1, h2, h3, h4⟩ := PN.tryD_fix now d N
    simp only [PN.roundD, List.map_cons, round_fix now r]
    congr 1
    simp only [fixD, h1, h2, h3, h4]
theorem all_fix (now : Int) : ∀ (f : Nat) (D : List PN.PD) (N : PN.Net), (PN.allD now f D N).1.map fixD = D.map fixD
  | 0, _, _ => rfl
  | f + 1, D, N => by
    unfold PN.allD
    split
    · exact round_fix now D N
    · exact (all_fix now f _ _).trans (round_fix now D N)
theorem fix_at {D E : List PN.PD} (h : D.map fixD = E.map fixD) (i : Nat) (h1 : i < D.length) (h2 : i < E.length) : (D[i]).s = (E[i]).s ∧ (D[i]).p = (E[i]).p ∧ (D[i]).un = (E[i]).un := by
  have e : (D.map fixD)[i]? = (E.map fixD)[i]? := by rw [h]
  rw [List.getElem?_map, List.getElem?_map, List.getElem?_eq_getElem h1, List.getElem?_eq_getElem h2] at e
  simp only [Option.map_some, Option.some.injEq, fixD, Prod.mk.injEq] at e
  exact ⟨e.1, e.2.1, e.2.2.2⟩

theorem all_x {w0 : World} {B : NB} {ids : Nat → Nat × Nat} {O : List St} {g6 g7 : Nat} {own : Nat → Nat} {L : List LB} {C : List CB} {G T : Nat} {D : List PN.PD} {x6 : Value} (now : Int) (w : World) (h : HoldR w0 B ids O g6 g7 w own L C G T D) (s6 : SlOf x6 O.length g6) (hO : O.length ≤ 8) (hG : G ≤ 1000000) (hT : T ≤ 1000000) :
    Calls Try.prog 20 #[x6, .pointer (some ⟨B.n, 0, none⟩), .int .u64 now] w fun e w' => ∃ own' L' C' D' r, r = PN.allD now (PN.trying D + 1) D (plainN L C) ∧
      e = .returned (.tuple #[.int .i64 r.2.2, .int .i64 0]) ∧ D' = r.1 ∧ plainN L' C' = r.2.1 ∧ HoldR w0 B ids O g6 g7 w' own' L' C' (G + 20000) (T + 1001) D' ∧ FrO own allO w w' := by
  have hl := h.len
  rcases s6 with ⟨rfl, hz⟩ | ⟨hz, cap, rfl⟩
  · have hD : D = [] := List.eq_nil_of_length_eq_zero (by omega)
    subst hD
    refine (all_empty now w h.net.net).mono ?_
    rintro e w' ⟨rfl, hf⟩
    refine ⟨own, L, C, [], _, rfl, rfl, rfl, rfl, ?_, FrO.new hf⟩
    have h1 := h.new hf
    exact ⟨h1.net.mono (by omega), h1.dials, h1.len, h1.same, h1.c6, h1.c7, h1.o6, h1.old, h1.fr, fun x hx => by cases hx⟩
  · obtain ⟨o6, o7⟩ := h.o6 hz
    have c0 := h.c6 0 (by omega)
    have hw := all_w (G := G) (T0 := T) g6 cap now w h.net h.dials (by omega) (by omega) h.trs (by omega) (fun i hi => h.c6 i (by omega)) ⟨by omega, by omega⟩ (cell_lt c0)
    rw [hl] at hw
    refine hw.mono ?_
    rintro e w' ⟨own', L', C', D', r, rfl, rfl, rfl, h2, h3, h4, h5, h6, h7, h8⟩
    have htl : PN.trying D ≤ D.length := by unfold PN.trying; exact List.length_filter_le _ _
    refine ⟨own', L', C', _, _, rfl, rfl, rfl, h2, h.call (h4.mono (by omega)) h5 (h3.trans hl.symm) (fun i a1 a2 => fix_at (all_fix now _ D _) i a2 a1) h7 h8 (fun x hx => by have := h6 x hx; omega), h8⟩
end Go.Proofs.Ytgbmenfmaphciaa
