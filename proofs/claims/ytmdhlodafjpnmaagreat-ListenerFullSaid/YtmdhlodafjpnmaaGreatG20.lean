/- The law ListenerFull's walk: it returns true at every bytes and every capacity. -/
import Derived.Test.YtmdhlodafjpnmaaGreatG19
namespace Go.Proofs.YtmdhlodafjpnmaaGreat
open Go.RowKit
set_option linter.unusedVariables false
set_option linter.unusedSimpArgs false
set_option maxRecDepth 100000
set_option maxHeartbeats 16000000

def fN1 : PN.Net := ⟨[⟨0, aS, 1, 128, []⟩], []⟩
theorem fN1_eq : PN.listen ⟨[], []⟩ aS 1 128 (addrB aS.data.toList 1) = (fN1, 0, (aS, 1), 0) := by
  rw [show addrB aS.data.toList 1 = true from by decide]
  rfl
theorem full_listens {w0 : World} {B : NB} (w : World) (h : Live (fun z => z < w0.heap.size) B ⟨[], []⟩ 0 w) (f : Fr [] w0 w) :
    Calls Tryz.prog 10 #[.pointer (some ⟨B.n, 0, none⟩), .agg #[.string aS, .int .i64 1], .int .i64 128, .int .i64 0, .agg #[.string aS, .int .i64 1], .int .i64 0] w fun e w' => e = .returned (.bool true) ∧ (Live (fun z => z < w0.heap.size) B fN1 0 w' ∧ Fr [] w0 w') := by
  refine listens_t (fun W => Live (fun z => z < w0.heap.size) B fN1 0 W ∧ Fr [] w0 W) w aS 1 128 0 aS 1 0 (fun W hf => ?_) (fun W W' hq f' => ⟨hq.1.new f', hq.2.step f'⟩)
  refine (listen_l aS 1 128 (h.more hf) (by decide)).mono ?_
  rw [fN1_eq]
  rintro e w' ⟨rfl, l, fk⟩
  exact ⟨rfl, ⟨l.less (fun z hz => .inl hz), FrK.old (f.step hf) fk (fun z hz => .inl hz)⟩, fk.mono (fun x _ hx => .inr hx)⟩
theorem bindOk0 (w : World) : BindOk w (.slice none 0 0) (.slice none 0 0) aS 1 1 := fun W f => by
  refine (boundNil _ W).mono ?_
  rintro e w' ⟨rfl, f1⟩
  exact ⟨_, rfl, f1, fun W' f2 => bindNil aS 1 0 W' (by decide) (by decide) (by decide) (by decide)⟩
theorem LS.start {w0 w w1 w2 : World} {B : NB} {V Bx : Nat} {R : PN.Net} {sL sC : Sli} (h : Live (fun z => z < w0.heap.size) B fN1 0 w) (f0 : Fr [] w0 w) (hV : w.heap.size = V) (f : Fr [] w w1) (hx : V < Bx) (ho1 : RowO 100 5 (ElLO Bx) w1 Bx (slv sL) R.L) (ho2 : CRd w1 Bx (slv sC) (R.C.map emb)) (f2 : Fr [V] w1 w2) (hb : Blk w2 V 34 (two (slv sL) (slv sC))) (hV1 : V < w1.heap.size) : LS w0 B V fN1 R 0 sL sC w2 := by
  have l1 := h.more f
  refine ⟨_, l1.keep f2 (fun x hx => by rw [List.mem_singleton] at hx; subst hx; exact .inr ⟨by omega, hV1⟩), .inr ⟨by omega, hV1⟩, ?_, fun z hz => .inl hz, hb, (f0.step f).trans f2 (fun x hx hl => by rw [List.mem_singleton] at hx; have := f0.size; omega), by have := f0.size; omega⟩
  have fk : FrK (fun z => (z < w0.heap.size ∨ w.heap.size ≤ z ∧ z < w1.heap.size) ∧ z ≠ V) w1 w2 := ⟨[V], f2, fun x hx _ hk => by rw [List.mem_singleton] at hx; exact hk.2 hx⟩
  exact (stay_new ho1 ho2 (fun z hz hz' => ⟨.inr ⟨by omega, hz'⟩, by omega⟩)).step fk
/-- The law's loop over its first rounds. -/
def L1 (w0 : World) (B : NB) (V q : Nat) (w : World) : Prop := ∃ N R G sL sC, LS w0 B V N R G sL sC w ∧ PN.Match N R ∧ Full q R ∧ G ≤ q
/-- .. over the ends that are closed. -/
def L2 (w0 : World) (B : NB) (V : Nat) (w : World) : Prop := ∃ N R G sL sC, LS w0 B V N R G sL sC w ∧ PN.Match N R ∧ RFit R ∧ G ≤ 200
/-- Between two calls, the reference's next net in the block D. -/
def LP (w0 : World) (B : NB) (V D : Nat) (N R : PN.Net) (G : Nat) (sL sC : Sli) (w : World) : Prop :=
  ∃ K : Nat → Prop, Live K B N G w ∧ K V ∧ Stay (fun z => K z ∧ z ≠ V ∧ z ≠ D) w sL sC R ∧ (∀ z, z < w0.heap.size → K z) ∧ Blk w D 34 (two (slv sL) (slv sC)) ∧ (∃ a b, Blk w V 34 (two a b)) ∧ Fr [] w0 w ∧ w0.heap.size ≤ V ∧ K D
section
variable {w0 : World} {B : NB} {V D : Nat} {N N' R R' : PN.Net} {G G' : Nat} {sL sC sL' sC' : Sli} {w wa w1 w2 w3 : World}
theorem LP.fr (h : LP w0 B V D N R G sL sC w) : Fr [] w0 w := by
  obtain ⟨K, _, _, _, _, _, _, h6, _⟩ := h
  exact h6
theorem LP.nx (h : LP w0 B V D N R G sL sC w) : Blk w D 34 (two (slv sL) (slv sC)) := by
  obtain ⟨K, _, _, _, _, h5, _⟩ := h
  exact h5
theorem LP.old (h : LP w0 B V D N R G sL sC w) : ∃ a b, Blk w V 34 (two a b) := by
  obtain ⟨K, _, _, _, _, _, h5, _⟩ := h
  exact h5
theorem LP.rows (h : LP w0 B V D N R G sL sC w) : LRow w (slv sL) R.L ∧ CRow w (slv sC) (R.C.map emb) := by
  obtain ⟨K, _, _, h3, _⟩ := h
  exact h3.now
theorem LP.live (h : LP w0 B V D N R G sL sC w) : ∃ K, Live K B N G w := by
  obtain ⟨K, h1, _⟩ := h
  exact ⟨K, h1⟩
theorem LP.new (h : LP w0 B V D N R G sL sC w) (f : Fr [] w w1) : LP w0 B V D N R G sL sC w1 := by
  obtain ⟨K, h1, h2, h3, h4, h5, ⟨a, b, h5'⟩, h6, h7, h8⟩ := h
  exact ⟨K, h1.new f, h2, h3.step (FrK.new f), h4, h5.keep f (by simp), ⟨a, b, h5'.keep f (by simp)⟩, h6.step f, h7, h8⟩
theorem LP.prog (h : LP w0 B V D N R G sL sC w) {f : FuncId} {args : Array Value} {r : Ending} (hc : ∀ K, Live K B N G w → Calls Tryz.prog f args w fun e w' => e = r ∧ Live K B N' G' w' ∧ FrK K w w') :
    Calls Tryz.prog f args w fun e w' => e = r ∧ LP w0 B V D N' R G' sL sC w' := by
  obtain ⟨K, h1, h2, h3, h4, h5, ⟨a, b, h5'⟩, h6, h7, h8⟩ := h
  refine (hc K h1).mono ?_
  rintro e w' ⟨rfl, l, fk⟩
  obtain ⟨S, fS, hS⟩ := fk.list
  exact ⟨rfl, K, l, h2, h3.step (fk.mono (fun x _ hx => hx.1)), h4, h5.keep fS (hS D h8), ⟨a, b, h5'.keep fS (hS V h2)⟩, FrK.old h6 fk h4, h7, h8⟩
/-- A call of the reference, its net stored in a new block. -/
theorem LS.hold (h : LS w0 B V N R G sL sC w) (f0 : Fr [] w wa) (f : Fr [] wa w1) (ho : (sL' = sL ∧ sC' = sC ∧ R' = R) ∨ (RowO 100 5 (ElLO wa.heap.size) w1 wa.heap.size (slv sL') R'.L ∧ CRd w1 wa.heap.size (slv sC') (R'.C.map emb)))
    (f1 : Fr [] w1 w2) (hD : w.heap.size ≤ D ∧ D < w2.heap.size) (hD2 : D < wa.heap.size ∨ w1.heap.size ≤ D) (f2 : Fr [D] w2 w3) (hb : Blk w3 D 34 (two (slv sL') (slv sC'))) : LP w0 B V D N R' G sL' sC' w3 := by
  obtain ⟨K, h1, h2, h3, h4, h5, h6, h7⟩ := h
  have hV := h5.lt
  have fa := (f0.step f).step f1
  have hVD : V ∉ [D] := fun hm => by rw [List.mem_singleton] at hm; omega
  have l1 := h1.more fa
  refine ⟨_, l1.keep f2 (fun x hx => by rw [List.mem_singleton] at hx; subst hx; exact .inr hD), .inl h2, ?_, fun z hz => .inl (h4 z hz), hb, ⟨_, _, (h5.keep fa (by simp)).keep f2 hVD⟩, (h6.step fa).trans f2 (fun x hx hl => by rw [List.mem_singleton] at hx; have := h6.size; omega), h7, .inr hD⟩
  have fk : ∀ K' : Nat → Prop, (∀ z, K' z → z ≠ D) → FrK K' w2 w3 := fun K' hk => ⟨[D], f2, fun x hx _ hk' => by rw [List.mem_singleton] at hx; exact hk x hk' hx⟩
  rcases ho with ⟨rfl, rfl, rfl⟩ | ⟨ho1, ho2⟩
  · exact Stay.step (Stay.step (h3.grow (fun z hz hk => ⟨.inl hk.1, hk.2, by omega⟩)) (FrK.new fa)) (fk _ (fun z hz => hz.2.2))
  · refine Stay.step (Stay.step (stay_new ho1 ho2 (fun z hz hz' => ⟨.inr ⟨?_, ?_⟩, ?_, ?_⟩)) (FrK.new f1)) (fk _ (fun z hz => hz.2.2))
    · have := f0.size; omega
    · have := f1.size; omega
    · have := f0.size; omega
    · omega
/-- .. and stored in the variable. -/
theorem LP.done (h : LP w0 B V D N R G sL sC w) (f : Fr [V] w w1) (hb : Blk w1 V 34 (two (slv sL) (slv sC))) : LS w0 B V N R G sL sC w1 := by
  obtain ⟨K, h1, h2, h3, h4, h5, _, h6, h7, h8⟩ := h
  refine ⟨K, h1.keep f (fun x hx => by rw [List.mem_singleton] at hx; subst hx; exact h2), h2, ?_, h4, hb, h6.trans f (fun x hx hl => by rw [List.mem_singleton] at hx; omega), h7⟩
  exact Stay.grow (Stay.step h3 ⟨[V], f, fun x hx _ hk => by rw [List.mem_singleton] at hx; exact hk.2.1 hx⟩) (fun z _ hk => ⟨hk.1, hk.2.1⟩)
theorem full_hangP (h : LP w0 B V D N R G sL sC w) (k en : Int) (hk : 0 ≤ k ∧ k ≤ 1000) (hG : G ≤ 1000000) :
    Calls Tryz.prog 18 #[.pointer (some ⟨B.n, 0, none⟩), .int .i64 k, .int .i64 en] w fun e w' => e = .returned (.int .i64 (PN.hangN N k en).2) ∧ LP w0 B V D (PN.hangN N k en).1 R G sL sC w' :=
  h.prog (fun K l => hang_l k en l hG (by omega) (by omega))
theorem full_pairsP (h : LP w0 B V D N R G sL sC w) (c : Nat) (hc : c ≤ 4096) (r e0 : Int) (ha : (PN.pair N c).2 = (r, e0)) :
    Calls Tryz.prog 14 #[.pointer (some ⟨B.n, 0, none⟩), .int .i64 c, .int .i64 r, .int .i64 e0] w fun e w' => e = .returned (.bool true) ∧ LP w0 B V D (PN.pair N c).1 R G sL sC w' := by
  refine pairs_t _ w c r e0 (h.prog (fun K l => ?_))
  have hp := pair_l c l hc
  rw [ha] at hp
  exact hp
end
theorem fit_pair3 {R N : PN.Net} (h : RFit R) (c : Nat) (hm : PN.Match N (PN.rPair R c).1) : RFit (PN.rPair R c).1 := by
  have hso := hm.2.2
  revert hso
  unfold PN.rPair
  by_cases h1 : 128 ≤ R.C.length
  · rw [if_pos h1]
    exact fun _ => h
  · rw [if_neg h1]
    intro hso
    refine ⟨h.nl, ?_, h.q, hso⟩
    unfold PN.newC
    rw [List.length_append, List.length_cons, List.length_take, List.length_drop]
    omega
theorem Bs.elem {w : World} {a : Option Addr} {n cp : Nat} {l : List UInt8} (h : Bs w (a, n, cp) l) (k : Nat) (hk : k < l.length) : ∃ g off, a = some ⟨g, off, Option.none⟩ ∧ g < w.heap.size ∧ w.cell? ⟨g, off + k, Option.none⟩ = some (.int .u8 (((l[k]'hk).toNat : Nat) : Int)) := by
  obtain ⟨g, off, c, hv, hg, ha⟩ := RowV.at h (i := k) hk
  simp only [slv, Value.slice.injEq] at hv
  refine ⟨g, off, hv.1, hg, ?_⟩
  have := ha 0 (.int .u8 (((l[k]'hk).toNat : Nat) : Int)) (by
    rw [List.getElem?_take_of_lt (by omega), List.getElem?_drop]
    simp only [bsV, Nat.mul_one, Nat.add_zero]
    rw [List.getElem?_map, List.getElem?_eq_getElem hk]
    rfl)
  simpa using this
theorem listenerFull_walk (sh : Sli) (l : List UInt8) (c : Int) (w : World) (hs : Bs w sh l) (hc : 0 ≤ c ∧ c ≤ 255) (hl : l.length ≤ maxLen) :
    Calls Tryz.prog 3 #[.slice sh.1 sh.2.1 sh.2.2, .int .u8 c] w fun e w' => e = .returned (.bool true) ∧ Fr [] w w' := by
  obtain ⟨a, n, cp⟩ := sh
  obtain rfl : n = l.length := by
    obtain ⟨a', c', he⟩ := RowV.val hs
    simp only [slv, Value.slice.injEq] at he
    exact he.2.1
  obtain ⟨n, hn⟩ : ∃ n, l.length = n := ⟨_, rfl⟩
  have HSH := Lib.hid hs
  rw [hn] at hs hl HSH ⊢
  have HN := Lib.hid hn
  have hl2 : n ≤ 9223372036854775807 := by unfold maxLen at hl; omega
  clear hs hn hl
  by_cases h9 : 9 < c
  · have d9 : decide (9 < c) = true := decide_eq_true h9
    go_enter Tryz.func3, Tryz.ntmps3
    go_wp2_with fail
    refine (known_true _).mono ?_
    rintro e w1 ⟨rfl, f1⟩
    go_wp2
    go_ret
    exact ⟨rfl, f1⟩
  have d9 : decide (9 < c) = false := decide_eq_false h9
  by_cases h40 : 40 < (n : Int)
  · have d40 : decide (40 < (n : Int)) = true := decide_eq_true h40
    go_enter Tryz.func3, Tryz.ntmps3
    go_wp2_with fail
    refine (known_true _).mono ?_
    rintro e w1 ⟨rfl, f1⟩
    go_wp2
    go_ret
    exact ⟨rfl, f1⟩
  have d40 : decide (40 < (n : Int)) = false := decide_eq_false h40
  obtain ⟨cn, rfl⟩ : ∃ cn : Nat, c = cn := ⟨c.toNat, by omega⟩
  have hcn : cn ≤ 9 := by omega
  have hn40 : n ≤ 40 := by omega
  have hwr : IntKind.i64.wrap (cn : Int) = cn := IntWalk.i64_in _ (by omega)
  clear h9 h40 hc
  go_enter Tryz.func3, Tryz.ntmps3
  go_wp2_with fail
  refine (new_l _).mono ?_
  rintro e w1 ⟨B, rfl, l1, f1⟩
  go_wp2_with fail
  refine (to_any aS 1 _).mono ?_
  rintro e w2 ⟨rfl, f2⟩
  go_wp2_with fail
  refine (to_any aS 1 _).mono ?_
  rintro e w3 ⟨rfl, f3⟩
  go_wp2_with fail
  refine (full_listens _ ((l1.new f2).new f3) ((f1.step f2).step f3)).mono ?_
  rintro e w4 ⟨rfl, l4, f4⟩
  have HL4 := Lib.hid l4
  have HF4 := Lib.hid f4
  clear l1 f1 f2 f3 l4 f4
  go_upto_region 7 with fail
  obtain ⟨V, hV⟩ : ∃ V, w4.heap.size = V := ⟨_, rfl⟩
  obtain ⟨w5, hw5⟩ : ∃ z, (w4.alloc (.cells #[.slice none 0 0, .slice none 0 0] 34)).drew = z := ⟨_, rfl⟩
  have f5 : Fr [] w4 w5 := by rw [← hw5]; exact ((Fr.refl [] w4).alloc _).drew
  have hb5 : Blk w5 V 34 zNt := by
    rw [← hw5, ← hV]
    exact (Blk.made w4 34 zNt).keep ((Fr.refl [] _).drew) (by simp)
  have HV := Lib.hid hV
  have HW5 := Lib.hid hw5
  have HF5 := Lib.hid f5
  have HB5 := Lib.hid hb5
  clear hV hw5 f5 hb5
  simp only [HV.out]
  go_cut [] from 33 to 40 (fun wc => L1 w B V 0 wc)
  case first =>
    refine wp_region_held_drew (S := fun _ => True) (by kernel_rfl) (trivial) (fun hHeld => ?_)
    clear hHeld
    rw [HW5.out]
    refine wpAnyH_ready (rs := [0, 1]) (by kernel_rfl) (by simp) ?_
    refine AllReadyH.cons (o := _) rfl (fun K hK => ?_) (AllReadyH.cons (o := _) rfl (fun K hK => ?_) AllReadyH.nil)
    · skip
      split
      rotate_left
      · rename_i hno
        exact absurd rfl hno
      refine wp_vl (v := .agg (zNt).toArray) (w' := w5) ?_ ?_
      · show Sem.run Tryz.prog ((Instr.loadAt 34 (.pointer (some ⟨V, 0, none⟩))) >>= fun x => pure (Next.value x)) w5 = _
        rw [Sem.run_bind, load_all agg34 size34 (xs := zNt) rfl HB5.out.at]
        rfl
      refine hK.out _ _ (trivial) (fun hHeld => ?_)
      clear hK K
      clear hHeld
      try simp only [Act.put, List.getElem_toArray, List.getElem_cons_succ, List.getElem_cons_zero, List.setIfInBounds_toArray, List.set_cons_zero, List.set_cons_succ]
      refine wpAnyH_ready (rs := [1]) (by kernel_rfl) (by simp) ?_
      refine AllReadyH.cons (o := _) rfl (fun K hK => ?_) AllReadyH.nil
      go_simp
      refine (to_any aS 1 _).mono ?_
      rintro e w6 ⟨rfl, f6⟩
      have HF6 := Lib.hid (HF5.out.step f6)
      have HB6 := Lib.hid (HB5.out.keep f6 (by simp))
      clear f6
      refine hK.out _ _ (trivial) (fun hHeld => ?_)
      clear hK K
      clear hHeld
      try simp only [Act.put, List.getElem_toArray, List.getElem_cons_succ, List.getElem_cons_zero, List.setIfInBounds_toArray, List.set_cons_zero, List.set_cons_succ]
      refine wpAnyH_ready (rs := [2]) (by kernel_rfl) (by simp) ?_
      refine AllReadyH.cons (o := _) rfl (fun K hK => ?_) AllReadyH.nil
      go_simp
      refine (nListen_ok (.slice none 0 0) (.slice none 0 0) [] [] aS 1 1 128 _ (RowR.nil _ _ _) (RowR.nil _ _ _) (by decide) (by decide) (by decide) ⟨by decide, by decide, (fun x hx => by cases hx), (fun x hx => by cases hx)⟩ (bindOk0 _)).mono ?_
      rintro e w7 ⟨sL, sC, rfl, oL, oC, f7⟩
      have HX := Lib.hid HB6.out.lt
      have HF7 := Lib.hid (HF6.out.step f7)
      have HB7 := Lib.hid (HB6.out.keep f7 (by simp))
      have HOL := Lib.hid oL
      have HOC := Lib.hid oC
      clear f7 oL oC
      refine hK.out _ _ (trivial) (fun hHeld => ?_)
      clear hK K
      clear hHeld
      try simp only [Act.put, List.getElem_toArray, List.getElem_cons_succ, List.getElem_cons_zero, List.setIfInBounds_toArray, List.set_cons_zero, List.set_cons_succ]
      refine wpAnyH_take (i := 3) (oi := _) (v := ?_) rfl (by kernel_rfl) (by kernel_rfl) (by kernel_rfl) (fun _ _ _ h => h) (Or.inl ⟨by rfl, ?_⟩) (by first | assumption | trivial) ?_
      rotate_left
      · intro w hSw; (try dsimp only at hSw); go_simp; try with_reducible rfl
      try simp only [Act.put, List.getElem_toArray, List.getElem_cons_succ, List.getElem_cons_zero, List.setIfInBounds_toArray, List.set_cons_zero, List.set_cons_succ]
      refine wpAnyH_take (i := 4) (oi := _) (v := ?_) rfl (by kernel_rfl) (by kernel_rfl) (by kernel_rfl) (fun _ _ _ h => h) (Or.inl ⟨by rfl, ?_⟩) (by first | assumption | trivial) ?_
      rotate_left
      · intro w hSw; (try dsimp only at hSw); go_simp; try with_reducible rfl
      try simp only [Act.put, List.getElem_toArray, List.getElem_cons_succ, List.getElem_cons_zero, List.setIfInBounds_toArray, List.set_cons_zero, List.set_cons_succ]
      refine wpAnyH_take (i := 5) (oi := _) (v := ?_) rfl (by kernel_rfl) (by kernel_rfl) (by kernel_rfl) (fun _ _ _ h => h) (Or.inl ⟨by rfl, ?_⟩) (by first | assumption | trivial) ?_
      rotate_left
      · intro w hSw; (try dsimp only at hSw); go_simp; try with_reducible rfl
      try simp only [Act.put, List.getElem_toArray, List.getElem_cons_succ, List.getElem_cons_zero, List.setIfInBounds_toArray, List.set_cons_zero, List.set_cons_succ]
      refine wpAnyH_take (i := 6) (oi := _) (v := ?_) rfl (by kernel_rfl) (by kernel_rfl) (by kernel_rfl) (fun _ _ _ h => h) (Or.inl ⟨by rfl, ?_⟩) (by first | assumption | trivial) ?_
      rotate_left
      · intro w hSw; (try dsimp only at hSw); go_simp; try with_reducible rfl
      try simp only [Act.put, List.getElem_toArray, List.getElem_cons_succ, List.getElem_cons_zero, List.setIfInBounds_toArray, List.set_cons_zero, List.set_cons_succ]
      refine wpAnyH_take (i := 7) (oi := _) (v := ?_) rfl (by kernel_rfl) (by kernel_rfl) (by kernel_rfl) (fun _ _ _ h => h) (Or.inl ⟨by rfl, ?_⟩) (by first | assumption | trivial) ?_
      rotate_left
      · intro w hSw; (try dsimp only at hSw); go_simp; try with_reducible rfl
      try simp only [Act.put, List.getElem_toArray, List.getElem_cons_succ, List.getElem_cons_zero, List.setIfInBounds_toArray, List.set_cons_zero, List.set_cons_succ]
      refine wpAnyH_ready (rs := [8]) (by kernel_rfl) (by simp) ?_
      refine AllReadyH.cons (o := _) rfl (fun K hK => ?_) AllReadyH.nil
      obtain ⟨w8, hst, hb_, hf_⟩ := store_all (t := 34) (two (slv sL) (slv sC)) size34 rfl (two_one _ _) HB7.out rfl
      split
      rotate_left
      · rename_i hno
        exact absurd rfl hno
      refine wp_skp (w' := w8) ?_ ?_
      · show Sem.run Tryz.prog ((Instr.storeAt 34 (.pointer (some ⟨V, 0, none⟩)) (.agg (two (slv sL) (slv sC)).toArray)) >>= fun _ => pure Next.skip) _ = _
        rw [Sem.run_bind, hst]
        rfl
      clear hst
      have HLS := Lib.hid (LS.start (R := fN1) HL4.out HF4.out HV.out HF7.out HX.out HOL.out HOC.out hf_ hb_ HB7.out.lt)
      clear hb_ hf_
      refine hK.out _ _ (trivial) (fun hHeld => ?_)
      clear hK K
      clear hHeld
      try simp only [Act.put, List.getElem_toArray, List.getElem_cons_succ, List.getElem_cons_zero, List.setIfInBounds_toArray, List.set_cons_zero, List.set_cons_succ]
      refine wpAnyH_done (by kernel_rfl) ?_ _
      go_wp2
      go_meet
      exact ⟨fN1, fN1, 0, sL, sC, HLS.out, ⟨⟨List.Perm.refl _, List.pairwise_singleton _ _⟩, PN.Rel.nil _⟩, ⟨⟨[], rfl, rfl⟩, rfl⟩, Nat.le_refl _⟩
    · skip
      go_simp
      refine (to_any aS 1 _).mono ?_
      rintro e w6 ⟨rfl, f6⟩
      have HF6 := Lib.hid (HF5.out.step f6)
      have HB6 := Lib.hid (HB5.out.keep f6 (by simp))
      clear f6
      refine hK.out _ _ (trivial) (fun hHeld => ?_)
      clear hK K
      clear hHeld
      try simp only [Act.put, List.getElem_toArray, List.getElem_cons_succ, List.getElem_cons_zero, List.setIfInBounds_toArray, List.set_cons_zero, List.set_cons_succ]
      refine wpAnyH_ready (rs := [0]) (by kernel_rfl) (by simp) ?_
      refine AllReadyH.cons (o := _) rfl (fun K hK => ?_) AllReadyH.nil
      split
      rotate_left
      · rename_i hno
        exact absurd rfl hno
      refine wp_vl (v := .agg (zNt).toArray) (w' := w6) ?_ ?_
      · show Sem.run Tryz.prog ((Instr.loadAt 34 (.pointer (some ⟨V, 0, none⟩))) >>= fun x => pure (Next.value x)) w6 = _
        rw [Sem.run_bind, load_all agg34 size34 (xs := zNt) rfl HB6.out.at]
        rfl
      refine hK.out _ _ (trivial) (fun hHeld => ?_)
      clear hK K
      clear hHeld
      try simp only [Act.put, List.getElem_toArray, List.getElem_cons_succ, List.getElem_cons_zero, List.setIfInBounds_toArray, List.set_cons_zero, List.set_cons_succ]
      refine wpAnyH_ready (rs := [2]) (by kernel_rfl) (by simp) ?_
      refine AllReadyH.cons (o := _) rfl (fun K hK => ?_) AllReadyH.nil
      go_simp
      refine (nListen_ok (.slice none 0 0) (.slice none 0 0) [] [] aS 1 1 128 _ (RowR.nil _ _ _) (RowR.nil _ _ _) (by decide) (by decide) (by decide) ⟨by decide, by decide, (fun x hx => by cases hx), (fun x hx => by cases hx)⟩ (bindOk0 _)).mono ?_
      rintro e w7 ⟨sL, sC, rfl, oL, oC, f7⟩
      have HX := Lib.hid HB6.out.lt
      have HF7 := Lib.hid (HF6.out.step f7)
      have HB7 := Lib.hid (HB6.out.keep f7 (by simp))
      have HOL := Lib.hid oL
      have HOC := Lib.hid oC
      clear f7 oL oC
      refine hK.out _ _ (trivial) (fun hHeld => ?_)
      clear hK K
      clear hHeld
      try simp only [Act.put, List.getElem_toArray, List.getElem_cons_succ, List.getElem_cons_zero, List.setIfInBounds_toArray, List.set_cons_zero, List.set_cons_succ]
      refine wpAnyH_take (i := 3) (oi := _) (v := ?_) rfl (by kernel_rfl) (by kernel_rfl) (by kernel_rfl) (fun _ _ _ h => h) (Or.inl ⟨by rfl, ?_⟩) (by first | assumption | trivial) ?_
      rotate_left
      · intro w hSw; (try dsimp only at hSw); go_simp; try with_reducible rfl
      try simp only [Act.put, List.getElem_toArray, List.getElem_cons_succ, List.getElem_cons_zero, List.setIfInBounds_toArray, List.set_cons_zero, List.set_cons_succ]
      refine wpAnyH_take (i := 4) (oi := _) (v := ?_) rfl (by kernel_rfl) (by kernel_rfl) (by kernel_rfl) (fun _ _ _ h => h) (Or.inl ⟨by rfl, ?_⟩) (by first | assumption | trivial) ?_
      rotate_left
      · intro w hSw; (try dsimp only at hSw); go_simp; try with_reducible rfl
      try simp only [Act.put, List.getElem_toArray, List.getElem_cons_succ, List.getElem_cons_zero, List.setIfInBounds_toArray, List.set_cons_zero, List.set_cons_succ]
      refine wpAnyH_take (i := 5) (oi := _) (v := ?_) rfl (by kernel_rfl) (by kernel_rfl) (by kernel_rfl) (fun _ _ _ h => h) (Or.inl ⟨by rfl, ?_⟩) (by first | assumption | trivial) ?_
      rotate_left
      · intro w hSw; (try dsimp only at hSw); go_simp; try with_reducible rfl
      try simp only [Act.put, List.getElem_toArray, List.getElem_cons_succ, List.getElem_cons_zero, List.setIfInBounds_toArray, List.set_cons_zero, List.set_cons_succ]
      refine wpAnyH_take (i := 6) (oi := _) (v := ?_) rfl (by kernel_rfl) (by kernel_rfl) (by kernel_rfl) (fun _ _ _ h => h) (Or.inl ⟨by rfl, ?_⟩) (by first | assumption | trivial) ?_
      rotate_left
      · intro w hSw; (try dsimp only at hSw); go_simp; try with_reducible rfl
      try simp only [Act.put, List.getElem_toArray, List.getElem_cons_succ, List.getElem_cons_zero, List.setIfInBounds_toArray, List.set_cons_zero, List.set_cons_succ]
      refine wpAnyH_take (i := 7) (oi := _) (v := ?_) rfl (by kernel_rfl) (by kernel_rfl) (by kernel_rfl) (fun _ _ _ h => h) (Or.inl ⟨by rfl, ?_⟩) (by first | assumption | trivial) ?_
      rotate_left
      · intro w hSw; (try dsimp only at hSw); go_simp; try with_reducible rfl
      try simp only [Act.put, List.getElem_toArray, List.getElem_cons_succ, List.getElem_cons_zero, List.setIfInBounds_toArray, List.set_cons_zero, List.set_cons_succ]
      refine wpAnyH_ready (rs := [8]) (by kernel_rfl) (by simp) ?_
      refine AllReadyH.cons (o := _) rfl (fun K hK => ?_) AllReadyH.nil
      obtain ⟨w8, hst, hb_, hf_⟩ := store_all (t := 34) (two (slv sL) (slv sC)) size34 rfl (two_one _ _) HB7.out rfl
      split
      rotate_left
      · rename_i hno
        exact absurd rfl hno
      refine wp_skp (w' := w8) ?_ ?_
      · show Sem.run Tryz.prog ((Instr.storeAt 34 (.pointer (some ⟨V, 0, none⟩)) (.agg (two (slv sL) (slv sC)).toArray)) >>= fun _ => pure Next.skip) _ = _
        rw [Sem.run_bind, hst]
        rfl
      clear hst
      have HLS := Lib.hid (LS.start (R := fN1) HL4.out HF4.out HV.out HF7.out HX.out HOL.out HOC.out hf_ hb_ HB7.out.lt)
      clear hb_ hf_
      refine hK.out _ _ (trivial) (fun hHeld => ?_)
      clear hK K
      clear hHeld
      try simp only [Act.put, List.getElem_toArray, List.getElem_cons_succ, List.getElem_cons_zero, List.setIfInBounds_toArray, List.set_cons_zero, List.set_cons_succ]
      refine wpAnyH_done (by kernel_rfl) ?_ _
      go_wp2
      go_meet
      exact ⟨fN1, fN1, 0, sL, sC, HLS.out, ⟨⟨List.Perm.refl _, List.pairwise_singleton _ _⟩, PN.Rel.nil _⟩, ⟨⟨[], rfl, rfl⟩, rfl⟩, Nat.le_refl _⟩
  case rest =>
    have HL1 := Lib.hid hcut
    clear hcut HB5 HF5 HW5 HV HL4 HF4
    go_wp2_with fail
    go_loopw [7] (fun i wr => ∃ (wz : World) (q : Nat), wz = wr ∧ i = .int .i64 q ∧ q ≤ 128 ∧ L1 w B V q wr) (fun i _ => 128 - (intOf i).toNat)
    case atStart => exact ⟨_, 0, rfl, rfl, by omega, HL1.out⟩
    case round =>
      obtain ⟨wr, q, hwz, rfl, hq, N, R, G, sL1, sC1, hls, hma, hfu, hg⟩ := hrel
      subst hwz
      have HLS := Lib.hid hls
      have HMA := Lib.hid hma
      have HFU := Lib.hid hfu
      have HGG := Lib.hid hg
      clear hls hma hfu hg HL1
      by_cases hlt : q < 128
      · skip
        have hlt' : (q : Int) < 128 := by omega
        have HFT := Lib.hid (HFU.out.fit (Nat.le_of_lt hlt))
        rcases Nat.mod_two_eq_zero_or_one q with hpar | hpar
        · skip
          have hp2 : (q : Int).tmod 2 = 0 := by rw [Int.tmod_eq_emod_of_nonneg (by omega)]; omega
          have HPAR := Lib.hid hpar
          clear hpar
          go_upto_region 13 with fail
          refine wp_region_lit ?_
          refine wpList_val rfl (v := .agg (two (slv sL1) (slv sC1)).toArray) (w' := wr) ?_ ?_
          · show Sem.run Tryz.prog ((Instr.loadAt 34 (.pointer (some ⟨V, 0, none⟩))) >>= fun x => pure (Next.value x)) wr = _
            rw [Sem.run_bind, load_all agg34 size34 (xs := two (slv sL1) (slv sC1)) rfl HLS.out.var.at]
            rfl
          try simp only [Act.put, List.getElem_toArray, List.getElem_cons_succ, List.getElem_cons_zero, List.setIfInBounds_toArray, List.set_cons_zero, List.set_cons_succ]
          refine wpList_plain rfl (fun K hK => ?_); go_simp; refine hK _ _ ?_; clear hK K
          refine wpList_plain rfl (fun K hK => ?_); go_simp; refine hK _ _ ?_; clear hK K
          try simp only [Act.put, List.getElem_toArray, List.getElem_cons_succ, List.getElem_cons_zero, List.setIfInBounds_toArray, List.set_cons_zero, List.set_cons_succ]
          refine wpList_plain rfl (fun K hK => ?_)
          go_simp
          
          refine (refPair HLS.out.rows.1 HLS.out.rows.2 HFT.out cn (by omega)).mono ?_
          rintro e wp ⟨sL2, sC2, rfl, fp, hor⟩
          refine hK _ _ ?_
          clear hK K
          try simp only [Act.put, List.getElem_toArray, List.getElem_cons_succ, List.getElem_cons_zero, List.setIfInBounds_toArray, List.set_cons_zero, List.set_cons_succ]
          refine wpList_plain rfl (fun K hK => ?_); go_simp; refine hK _ _ ?_; clear hK K
          refine wpList_plain rfl (fun K hK => ?_); go_simp; refine hK _ _ ?_; clear hK K
          refine wpList_plain rfl (fun K hK => ?_); go_simp; refine hK _ _ ?_; clear hK K
          refine wpList_plain rfl (fun K hK => ?_); go_simp; refine hK _ _ ?_; clear hK K
          try simp only [Act.put, List.getElem_toArray, List.getElem_cons_succ, List.getElem_cons_zero, List.setIfInBounds_toArray, List.set_cons_zero, List.set_cons_succ]
          have HFP := Lib.hid fp
          have HOR := Lib.hid hor
          have HBP := Lib.hid (HLS.out.var.keep fp (by simp))
          clear fp hor
          obtain ⟨ws, hst, hb_, hf_⟩ := store_all (t := 34) (two (slv sL2) (slv sC2)) size34 rfl (two_one _ _) HBP.out rfl
          refine wpList_skp rfl (w' := ws) ?_ ?_
          · show Sem.run Tryz.prog ((Instr.storeAt 34 (.pointer (some ⟨V, 0, none⟩)) (.agg (two (slv sL2) (slv sC2)).toArray)) >>= fun _ => pure Next.skip) _ = _
            rw [Sem.run_bind, hst]
            rfl
          clear hst
          try simp only [Act.put, List.getElem_toArray, List.getElem_cons_succ, List.getElem_cons_zero, List.setIfInBounds_toArray, List.set_cons_zero, List.set_cons_succ]
          refine wpList_plain rfl (fun K hK => ?_); go_simp; refine hK _ _ ?_; clear hK K
          refine wpList_nil ?_
          try simp only [Act.put, List.getElem_toArray, List.getElem_cons_succ, List.getElem_cons_zero, List.setIfInBounds_toArray, List.set_cons_zero, List.set_cons_succ]
          have HL3 := Lib.hid (HLS.out.ref HFP.out HOR.out hf_ hb_)
          clear hb_ hf_ HFP HOR HBP
          obtain ⟨hfu2, hans⟩ := HFU.out.pair hlt HPAR.out cn
          have hmp := PN.match_pair HMA.out cn
          have HFU2 := Lib.hid hfu2
          have HMA2 := Lib.hid hmp.2
          have HANS := Lib.hid (show (PN.pair N cn).2 = ((q : Int), 0) from by rw [← hmp.1, hans])
          have h1 : (PN.rPair R cn).2.1 = (q : Int) := by rw [hans]
          have h2 : (PN.rPair R cn).2.2 = 0 := by rw [hans]
          rw [h1, h2]
          clear hfu2 hans hmp h1 h2
          go_wp2_with fail
          
          refine (full_pairs HL3.out cn (by omega) q 0 HANS.out).mono ?_
          rintro e wt ⟨rfl, hl4⟩
          have HL4 := Lib.hid hl4
          clear hl4
          go_wp2
          go_roundw
          case rel => exact ⟨_, q + 1, rfl, by go_num, by omega, _, _, _, _, _, HL4.out, HMA2.out, HFU2.out, by have := HGG.out; omega⟩
          case measure => simp [intOf]; omega
        · skip
          have hp2 : (q : Int).tmod 2 = 1 := by rw [Int.tmod_eq_emod_of_nonneg (by omega)]; omega
          have HPAR := Lib.hid hpar
          clear hpar
          obtain ⟨wd, hwd⟩ : ∃ z, wr.drew = z := ⟨_, rfl⟩
          have fd : Fr [] wr wd := by rw [← hwd]; exact (Fr.refl [] wr).drew
          have HLD := Lib.hid (HLS.out.new fd)
          have HWD := Lib.hid hwd
          clear hwd fd HLS
          go_upto_region 16 with fail
          go_cut [8] from 63 to 71 (fun s8 wc => s8 = .int .i64 0 ∧ ∃ sL2 sC2, LS w B V N (PN.rConnect R aS 1 cn).1 G sL2 sC2 wc)
          case first =>
            refine wp_region_held_drew (S := fun _ => True) (by kernel_rfl) (trivial) (fun hHeld => ?_)
            clear hHeld
            rw [HWD.out]
            refine wpAnyH_take (i := 2) (oi := _) (v := ?_) rfl (by kernel_rfl) (by kernel_rfl) (by kernel_rfl) (fun _ _ _ h => h) (Or.inl ⟨by rfl, ?_⟩) (by first | assumption | trivial) ?_
            rotate_left
            · intro w hSw; (try dsimp only at hSw); go_simp; try with_reducible rfl
            try simp only [Act.put, List.getElem_toArray, List.getElem_cons_succ, List.getElem_cons_zero, List.setIfInBounds_toArray, List.set_cons_zero, List.set_cons_succ]
            refine wpAnyH_take (i := 3) (oi := _) (v := ?_) rfl (by kernel_rfl) (by kernel_rfl) (by kernel_rfl) (fun _ _ _ h => h) (Or.inl ⟨by rfl, ?_⟩) (by first | assumption | trivial) ?_
            rotate_left
            · intro w hSw; (try dsimp only at hSw); go_simp; try with_reducible rfl
            try simp only [Act.put, List.getElem_toArray, List.getElem_cons_succ, List.getElem_cons_zero, List.setIfInBounds_toArray, List.set_cons_zero, List.set_cons_succ]
            refine wpAnyH_ready (rs := [0, 1]) (by kernel_rfl) (by simp) ?_
            refine AllReadyH.cons (o := _) rfl (fun K hK => ?_) (AllReadyH.cons (o := _) rfl (fun K hK => ?_) AllReadyH.nil)
            · skip
              split
              rotate_left
              · rename_i hno
                exact absurd rfl hno
              refine wp_vl (v := .agg (two (slv sL1) (slv sC1)).toArray) (w' := wd) ?_ ?_
              · show Sem.run Tryz.prog ((Instr.loadAt 34 (.pointer (some ⟨V, 0, none⟩))) >>= fun x => pure (Next.value x)) wd = _
                rw [Sem.run_bind, load_all agg34 size34 (xs := two (slv sL1) (slv sC1)) rfl HLD.out.var.at]
                rfl
              refine hK.out _ _ (trivial) (fun hHeld => ?_)
              clear hK K
              clear hHeld
              try simp only [Act.put, List.getElem_toArray, List.getElem_cons_succ, List.getElem_cons_zero, List.setIfInBounds_toArray, List.set_cons_zero, List.set_cons_succ]
              refine wpAnyH_ready (rs := [1]) (by kernel_rfl) (by simp) ?_
              refine AllReadyH.cons (o := _) rfl (fun K hK => ?_) AllReadyH.nil
              go_simp
              refine (to_any aS 1 _).mono ?_
              rintro e we ⟨rfl, fe⟩
              have HLE := Lib.hid (HLD.out.new fe)
              clear fe
              refine hK.out _ _ (trivial) (fun hHeld => ?_)
              clear hK K
              clear hHeld
              try simp only [Act.put, List.getElem_toArray, List.getElem_cons_succ, List.getElem_cons_zero, List.setIfInBounds_toArray, List.set_cons_zero, List.set_cons_succ]
              refine wpAnyH_ready (rs := [4]) (by kernel_rfl) (by simp) ?_
              refine AllReadyH.cons (o := _) rfl (fun K hK => ?_) AllReadyH.nil
              go_simp
              obtain ⟨lq, hpk, hlq⟩ := HFU.out.pick
              
              refine (refConnect HLE.out.rows.1 HLE.out.rows.2 HFT.out aS 1 cn (by decide) (by decide) (by omega) (by rw [HFU.out.len]; omega) 0 _ hpk (by simp only [hlq]; omega)).mono ?_
              rintro e wp ⟨sL2, sC2, rfl, fp, hor⟩
              have HFP := Lib.hid fp
              have HOR := Lib.hid hor
              have HBP := Lib.hid (HLE.out.var.keep fp (by simp))
              have h2 : (PN.rConnect R aS 1 cn).2.2 = 0 := by rw [(HFU.out.connect hlt HPAR.out cn).2]
              rw [h2]
              clear fp hor hpk hlq h2
              refine hK.out _ _ (trivial) (fun hHeld => ?_)
              clear hK K
              clear hHeld
              try simp only [Act.put, List.getElem_toArray, List.getElem_cons_succ, List.getElem_cons_zero, List.setIfInBounds_toArray, List.set_cons_zero, List.set_cons_succ]
              refine wpAnyH_take (i := 5) (oi := _) (v := ?_) rfl (by kernel_rfl) (by kernel_rfl) (by kernel_rfl) (fun _ _ _ h => h) (Or.inl ⟨by rfl, ?_⟩) (by first | assumption | trivial) ?_
              rotate_left
              · intro w hSw; (try dsimp only at hSw); go_simp; try with_reducible rfl
              try simp only [Act.put, List.getElem_toArray, List.getElem_cons_succ, List.getElem_cons_zero, List.setIfInBounds_toArray, List.set_cons_zero, List.set_cons_succ]
              refine wpAnyH_take (i := 6) (oi := _) (v := ?_) rfl (by kernel_rfl) (by kernel_rfl) (by kernel_rfl) (fun _ _ _ h => h) (Or.inl ⟨by rfl, ?_⟩) (by first | assumption | trivial) ?_
              rotate_left
              · intro w hSw; (try dsimp only at hSw); go_simp; try with_reducible rfl
              try simp only [Act.put, List.getElem_toArray, List.getElem_cons_succ, List.getElem_cons_zero, List.setIfInBounds_toArray, List.set_cons_zero, List.set_cons_succ]
              refine wpAnyH_take (i := 7) (oi := _) (v := ?_) rfl (by kernel_rfl) (by kernel_rfl) (by kernel_rfl) (fun _ _ _ h => h) (Or.inl ⟨by rfl, ?_⟩) (by first | assumption | trivial) ?_
              rotate_left
              · intro w hSw; (try dsimp only at hSw); go_simp; try with_reducible rfl
              try simp only [Act.put, List.getElem_toArray, List.getElem_cons_succ, List.getElem_cons_zero, List.setIfInBounds_toArray, List.set_cons_zero, List.set_cons_succ]
              refine wpAnyH_take (i := 8) (oi := _) (v := ?_) rfl (by kernel_rfl) (by kernel_rfl) (by kernel_rfl) (fun _ _ _ h => h) (Or.inl ⟨by rfl, ?_⟩) (by first | assumption | trivial) ?_
              rotate_left
              · intro w hSw; (try dsimp only at hSw); go_simp; try with_reducible rfl
              try simp only [Act.put, List.getElem_toArray, List.getElem_cons_succ, List.getElem_cons_zero, List.setIfInBounds_toArray, List.set_cons_zero, List.set_cons_succ]
              refine wpAnyH_ready (rs := [9]) (by kernel_rfl) (by simp) ?_
              refine AllReadyH.cons (o := _) rfl (fun K hK => ?_) AllReadyH.nil
              obtain ⟨ws, hst, hb_, hf_⟩ := store_all (t := 34) (two (slv sL2) (slv sC2)) size34 rfl (two_one _ _) HBP.out rfl
              split
              rotate_left
              · rename_i hno
                exact absurd rfl hno
              refine wp_skp (w' := ws) ?_ ?_
              · show Sem.run Tryz.prog ((Instr.storeAt 34 (.pointer (some ⟨V, 0, none⟩)) (.agg (two (slv sL2) (slv sC2)).toArray)) >>= fun _ => pure Next.skip) _ = _
                rw [Sem.run_bind, hst]
                rfl
              clear hst
              have HL3 := Lib.hid (HLE.out.ref HFP.out HOR.out hf_ hb_)
              clear hb_ hf_ HFP HOR HBP
              refine hK.out _ _ (trivial) (fun hHeld => ?_)
              clear hK K
              clear hHeld
              try simp only [Act.put, List.getElem_toArray, List.getElem_cons_succ, List.getElem_cons_zero, List.setIfInBounds_toArray, List.set_cons_zero, List.set_cons_succ]
              refine wpAnyH_take (i := 10) (oi := _) (v := ?_) rfl (by kernel_rfl) (by kernel_rfl) (by kernel_rfl) (fun _ _ _ h => h) (Or.inl ⟨by rfl, ?_⟩) (by first | assumption | trivial) ?_
              rotate_left
              · intro w hSw; (try dsimp only at hSw); go_simp; try with_reducible rfl
              try simp only [Act.put, List.getElem_toArray, List.getElem_cons_succ, List.getElem_cons_zero, List.setIfInBounds_toArray, List.set_cons_zero, List.set_cons_succ]
              refine wpAnyH_done (by kernel_rfl) ?_ _
              go_wp2
              go_meet
              exact ⟨rfl, _, _, HL3.out⟩
            · skip
              go_simp
              refine (to_any aS 1 _).mono ?_
              rintro e we ⟨rfl, fe⟩
              have HLE := Lib.hid (HLD.out.new fe)
              clear fe
              refine hK.out _ _ (trivial) (fun hHeld => ?_)
              clear hK K
              clear hHeld
              try simp only [Act.put, List.getElem_toArray, List.getElem_cons_succ, List.getElem_cons_zero, List.setIfInBounds_toArray, List.set_cons_zero, List.set_cons_succ]
              refine wpAnyH_ready (rs := [0]) (by kernel_rfl) (by simp) ?_
              refine AllReadyH.cons (o := _) rfl (fun K hK => ?_) AllReadyH.nil
              split
              rotate_left
              · rename_i hno
                exact absurd rfl hno
              refine wp_vl (v := .agg (two (slv sL1) (slv sC1)).toArray) (w' := we) ?_ ?_
              · show Sem.run Tryz.prog ((Instr.loadAt 34 (.pointer (some ⟨V, 0, none⟩))) >>= fun x => pure (Next.value x)) we = _
                rw [Sem.run_bind, load_all agg34 size34 (xs := two (slv sL1) (slv sC1)) rfl HLE.out.var.at]
                rfl
              refine hK.out _ _ (trivial) (fun hHeld => ?_)
              clear hK K
              clear hHeld
              try simp only [Act.put, List.getElem_toArray, List.getElem_cons_succ, List.getElem_cons_zero, List.setIfInBounds_toArray, List.set_cons_zero, List.set_cons_succ]
              refine wpAnyH_ready (rs := [4]) (by kernel_rfl) (by simp) ?_
              refine AllReadyH.cons (o := _) rfl (fun K hK => ?_) AllReadyH.nil
              go_simp
              obtain ⟨lq, hpk, hlq⟩ := HFU.out.pick
              
              refine (refConnect HLE.out.rows.1 HLE.out.rows.2 HFT.out aS 1 cn (by decide) (by decide) (by omega) (by rw [HFU.out.len]; omega) 0 _ hpk (by simp only [hlq]; omega)).mono ?_
              rintro e wp ⟨sL2, sC2, rfl, fp, hor⟩
              have HFP := Lib.hid fp
              have HOR := Lib.hid hor
              have HBP := Lib.hid (HLE.out.var.keep fp (by simp))
              have h2 : (PN.rConnect R aS 1 cn).2.2 = 0 := by rw [(HFU.out.connect hlt HPAR.out cn).2]
              rw [h2]
              clear fp hor hpk hlq h2
              refine hK.out _ _ (trivial) (fun hHeld => ?_)
              clear hK K
              clear hHeld
              try simp only [Act.put, List.getElem_toArray, List.getElem_cons_succ, List.getElem_cons_zero, List.setIfInBounds_toArray, List.set_cons_zero, List.set_cons_succ]
              refine wpAnyH_take (i := 5) (oi := _) (v := ?_) rfl (by kernel_rfl) (by kernel_rfl) (by kernel_rfl) (fun _ _ _ h => h) (Or.inl ⟨by rfl, ?_⟩) (by first | assumption | trivial) ?_
              rotate_left
              · intro w hSw; (try dsimp only at hSw); go_simp; try with_reducible rfl
              try simp only [Act.put, List.getElem_toArray, List.getElem_cons_succ, List.getElem_cons_zero, List.setIfInBounds_toArray, List.set_cons_zero, List.set_cons_succ]
              refine wpAnyH_take (i := 6) (oi := _) (v := ?_) rfl (by kernel_rfl) (by kernel_rfl) (by kernel_rfl) (fun _ _ _ h => h) (Or.inl ⟨by rfl, ?_⟩) (by first | assumption | trivial) ?_
              rotate_left
              · intro w hSw; (try dsimp only at hSw); go_simp; try with_reducible rfl
              try simp only [Act.put, List.getElem_toArray, List.getElem_cons_succ, List.getElem_cons_zero, List.setIfInBounds_toArray, List.set_cons_zero, List.set_cons_succ]
              refine wpAnyH_take (i := 7) (oi := _) (v := ?_) rfl (by kernel_rfl) (by kernel_rfl) (by kernel_rfl) (fun _ _ _ h => h) (Or.inl ⟨by rfl, ?_⟩) (by first | assumption | trivial) ?_
              rotate_left
              · intro w hSw; (try dsimp only at hSw); go_simp; try with_reducible rfl
              try simp only [Act.put, List.getElem_toArray, List.getElem_cons_succ, List.getElem_cons_zero, List.setIfInBounds_toArray, List.set_cons_zero, List.set_cons_succ]
              refine wpAnyH_take (i := 8) (oi := _) (v := ?_) rfl (by kernel_rfl) (by kernel_rfl) (by kernel_rfl) (fun _ _ _ h => h) (Or.inl ⟨by rfl, ?_⟩) (by first | assumption | trivial) ?_
              rotate_left
              · intro w hSw; (try dsimp only at hSw); go_simp; try with_reducible rfl
              try simp only [Act.put, List.getElem_toArray, List.getElem_cons_succ, List.getElem_cons_zero, List.setIfInBounds_toArray, List.set_cons_zero, List.set_cons_succ]
              refine wpAnyH_ready (rs := [9]) (by kernel_rfl) (by simp) ?_
              refine AllReadyH.cons (o := _) rfl (fun K hK => ?_) AllReadyH.nil
              obtain ⟨ws, hst, hb_, hf_⟩ := store_all (t := 34) (two (slv sL2) (slv sC2)) size34 rfl (two_one _ _) HBP.out rfl
              split
              rotate_left
              · rename_i hno
                exact absurd rfl hno
              refine wp_skp (w' := ws) ?_ ?_
              · show Sem.run Tryz.prog ((Instr.storeAt 34 (.pointer (some ⟨V, 0, none⟩)) (.agg (two (slv sL2) (slv sC2)).toArray)) >>= fun _ => pure Next.skip) _ = _
                rw [Sem.run_bind, hst]
                rfl
              clear hst
              have HL3 := Lib.hid (HLE.out.ref HFP.out HOR.out hf_ hb_)
              clear hb_ hf_ HFP HOR HBP
              refine hK.out _ _ (trivial) (fun hHeld => ?_)
              clear hK K
              clear hHeld
              try simp only [Act.put, List.getElem_toArray, List.getElem_cons_succ, List.getElem_cons_zero, List.setIfInBounds_toArray, List.set_cons_zero, List.set_cons_succ]
              refine wpAnyH_take (i := 10) (oi := _) (v := ?_) rfl (by kernel_rfl) (by kernel_rfl) (by kernel_rfl) (fun _ _ _ h => h) (Or.inl ⟨by rfl, ?_⟩) (by first | assumption | trivial) ?_
              rotate_left
              · intro w hSw; (try dsimp only at hSw); go_simp; try with_reducible rfl
              try simp only [Act.put, List.getElem_toArray, List.getElem_cons_succ, List.getElem_cons_zero, List.setIfInBounds_toArray, List.set_cons_zero, List.set_cons_succ]
              refine wpAnyH_done (by kernel_rfl) ?_ _
              go_wp2
              go_meet
              exact ⟨rfl, _, _, HL3.out⟩
          case rest =>
            obtain ⟨rfl, sL2, sC2, hl3⟩ := hcut
            have HL3 := Lib.hid hl3
            clear hl3 HLD
            obtain ⟨hfu2, hans⟩ := HFU.out.connect hlt HPAR.out cn
            have hmp := PN.match_connect HMA.out HL3.out.inv aS 1 cn
            have HFU2 := Lib.hid hfu2
            have HMA2 := Lib.hid hmp.2
            have HANS := Lib.hid (show (PN.connect N aS 1 cn).2 = ((q : Int), 0) from by rw [← hmp.1, hans])
            clear hfu2 hans hmp
            go_wp2_with fail
            refine (to_any aS 1 _).mono ?_
            rintro e wu ⟨rfl, fu⟩
            have HL3U := Lib.hid (HL3.out.new fu)
            clear fu
            go_wp2_with fail
            
            refine (full_connects HL3U.out cn (by omega) (by have := HGG.out; omega) q 0 HANS.out).mono ?_
            rintro e wt ⟨rfl, hl4⟩
            have HL4 := Lib.hid hl4
            clear hl4
            go_wp2
            go_roundw
            case rel => exact ⟨_, q + 1, rfl, by go_num, by omega, _, _, _, _, _, HL4.out, HMA2.out, HFU2.out, by have := HGG.out; omega⟩
            case measure => simp [intOf]; omega
      · skip
        obtain rfl : q = 128 := by omega
        have HFT := Lib.hid (HFU.out.fit (Nat.le_refl _))
        have hlen : R.C.length = 128 := HFU.out.len
        have hlenN : N.C.length = 128 := by rw [← hlen]; exact (HMA.out.2.len).symm
        have ha1 : PN.pair N 0 = (N, 0, 7) := by
          unfold PN.pair
          rw [if_pos (by omega)]
        have ha2 : PN.connect N aS 1 0 = (N, 0, 7) := by
          obtain ⟨lq, hpk, hlq⟩ := HFU.out.pick
          rcases PN.Rel.pick HMA.out.1 (PN.atP aS 1) (PN.adr_uniq HLS.out.inv aS 1) with ⟨h1, h2⟩ | ⟨i, y, h1, h2, h3, h4⟩
          · rw [hpk] at h1
            cases h1
          · have h2' : PN.at? N.L aS 1 = some y := h2
            rw [hpk] at h1
            cases h1
            unfold PN.connect
            rw [h2']
            simp only
            rw [if_neg (by simp only [hlq]; omega), if_pos (by omega)]
        have HA1 := Lib.hid ha1
        have HA2 := Lib.hid ha2
        clear ha1 ha2 hlen hlenN
        go_wp2_with fail
        refine (full_pairs HLS.out 0 (by omega) 0 7 (by rw [HA1.out])).mono ?_
        rw [HA1.out]
        rintro e wa ⟨rfl, hla⟩
        have HLA := Lib.hid hla
        clear hla
        go_wp2_with fail
        refine (to_any aS 1 _).mono ?_
        rintro e wb ⟨rfl, fb⟩
        have HLB := Lib.hid (HLA.out.new fb)
        clear fb
        go_wp2_with fail
        refine (full_connects HLB.out 0 (by omega) (by have := HGG.out; omega) 0 7 (by rw [HA2.out])).mono ?_
        rw [HA2.out]
        rintro e wc ⟨rfl, hlc⟩
        have HL2 := Lib.hid (show L2 w B V wc from ⟨N, R, G + 1, sL1, sC1, hlc, HMA.out, HFT.out, by have := HGG.out; omega⟩)
        clear hlc HLA HLB HA1 HA2 HMA HFU HFT HLS
        go_wp2_with fail
        go_loopw [9] (fun i wr => ∃ (wz : World) (k : Nat), wz = wr ∧ i = .int .i64 k ∧ k ≤ n ∧ L2 w B V wr) (fun i _ => n - (intOf i).toNat)
        case atStart => exact ⟨_, 0, rfl, rfl, by omega, HL2.out⟩
        case round =>
          clear HL2
          obtain ⟨wr, k, hwz, rfl, hk, N, R, G, sL1, sC1, hls, hma, hft, hg⟩ := hrel
          subst hwz
          have HLS := Lib.hid hls
          have HMA := Lib.hid hma
          have HFT := Lib.hid hft
          have HGG := Lib.hid hg
          clear hls hma hft hg
          by_cases hlt : k < n
          · skip
            have hlt' : (k : Int) < (n : Int) := by omega
            have k0 : (0 : Int) ≤ (k : Int) := Int.natCast_nonneg _
            obtain ⟨g, off, rfl, hgl, hel⟩ := Bs.elem HSH.out k (by rw [HN.out]; exact hlt)
            obtain ⟨b, hb⟩ : ∃ b, (l[k]'(by rw [HN.out]; exact hlt)).toNat = b := ⟨_, rfl⟩
            have hb5 : b ≤ 255 := by rw [← hb]; have := UInt8.toNat_lt (l[k]'(by rw [HN.out]; exact hlt)); omega
            rw [hb] at hel
            obtain ⟨kk, hkk⟩ : ∃ kk, b % 128 = kk := ⟨_, rfl⟩
            obtain ⟨en, hen⟩ : ∃ en, b / 128 = en := ⟨_, rfl⟩
            have kk7 : kk ≤ 127 := by omega
            have en1 : (en : Int) = 0 ∨ (en : Int) = 1 := by omega
            have hm : (b : Int).tmod 128 = kk := by rw [Int.tmod_eq_emod_of_nonneg (by omega)]; omega
            have hd : (b : Int).tdiv 128 = en := by rw [Int.tdiv_eq_ediv_of_nonneg (by omega)]; omega
            have wk8 : IntKind.u8.wrap (kk : Int) = kk := IntWalk.u8_in _ (by omega)
            have we8 : IntKind.u8.wrap (en : Int) = en := IntWalk.u8_in _ (by omega)
            have wk6 : IntKind.i64.wrap (kk : Int) = kk := IntWalk.i64_in _ (by omega)
            have we6 : IntKind.i64.wrap (en : Int) = en := IntWalk.i64_in _ (by omega)
            obtain ⟨hy, hmm⟩ := PN.match_hang HMA.out HLS.out.inv kk en
            obtain ⟨y, hy2⟩ : ∃ y, (PN.hangN N (kk : Int) (en : Int)).2 = y := ⟨_, rfl⟩
            rw [hy2] at hy
            have HY1 := Lib.hid hy
            have HY2 := Lib.hid hy2
            have HMM := Lib.hid hmm
            have HEL := Lib.hid hel
            have HGL := Lib.hid hgl
            have HKK := Lib.hid hkk
            have HEN := Lib.hid hen
            have HB := Lib.hid hb
            have HFH := Lib.hid (fit_hang HFT.out kk en)
            clear hb hkk hen hy hy2 hmm hel hgl
            obtain ⟨wd, hwd⟩ : ∃ z, wr.drew = z := ⟨_, rfl⟩
            have fd : Fr [] wr wd := by rw [← hwd]; exact (Fr.refl [] wr).drew
            have HLD := Lib.hid (HLS.out.new fd)
            have HWD := Lib.hid hwd
            clear hwd fd HLS
            go_upto_region 24 with fail
            go_cut [10, 11] from 95 to 111 (fun s10 s11 wc => ∃ D sL2 sC2, s10 = .pointer (some ⟨D, 0, none⟩) ∧ s11 = .int .i64 y ∧ LP w B V D N (PN.rHang R kk en).1 G sL2 sC2 wc)
            case first =>
              refine wp_region_held_drew (S := fun W => Blk W V 34 (two (slv sL1) (slv sC1)) ∧ W.cell? ⟨g, off + k, none⟩ = some (.int .u8 (b : Int))) (by kernel_rfl) (by rw [HWD.out]; exact ⟨HLD.out.var, HLD.out.fr.keep HEL.out (by simp)⟩) (fun hHeld => ?_)
              rw [HWD.out] at hHeld ⊢
              refine wpAnyH_take (i := 0) (oi := _) (v := .agg (two (slv sL1) (slv sC1)).toArray) rfl (by kernel_rfl) (by kernel_rfl) (by kernel_rfl) (fun _ _ _ h => h) (Or.inl ⟨by rfl, ?_⟩) (by first | assumption | trivial) ?_
              · intro w hSw
                try dsimp only at hSw
                show Sem.run Tryz.prog ((Instr.loadAt 34 (.pointer (some ⟨V, 0, none⟩))) >>= fun x => pure (Next.value x)) w = _
                rw [Sem.run_bind, load_all agg34 size34 (xs := two (slv sL1) (slv sC1)) rfl hSw.1.at]
                rfl
              try simp only [Act.put, List.getElem_toArray, List.getElem_cons_succ, List.getElem_cons_zero, List.setIfInBounds_toArray, List.set_cons_zero, List.set_cons_succ]
              refine wpAnyH_take (i := 1) (oi := _) (v := ?_) rfl (by kernel_rfl) (by kernel_rfl) (by kernel_rfl) (fun _ _ _ h => h) (Or.inl ⟨by rfl, ?_⟩) (by first | assumption | trivial) ?_
              rotate_left
              · intro w hSw; (try dsimp only at hSw); go_simp; try with_reducible rfl
              try simp only [Act.put, List.getElem_toArray, List.getElem_cons_succ, List.getElem_cons_zero, List.setIfInBounds_toArray, List.set_cons_zero, List.set_cons_succ]
              refine wpAnyH_take (i := 2) (oi := _) (v := ?_) rfl (by kernel_rfl) (by kernel_rfl) (by kernel_rfl) (fun _ _ _ h => h) (Or.inl ⟨by rfl, ?_⟩) (by first | assumption | trivial) ?_
              rotate_left
              · intro w hSw; (try dsimp only at hSw); go_simp; try with_reducible rfl
              try simp only [Act.put, List.getElem_toArray, List.getElem_cons_succ, List.getElem_cons_zero, List.setIfInBounds_toArray, List.set_cons_zero, List.set_cons_succ]
              refine wpAnyH_take (i := 3) (oi := _) (v := ?_) rfl (by kernel_rfl) (by kernel_rfl) (by kernel_rfl) (fun _ _ _ h => h) (Or.inl ⟨by rfl, ?_⟩) (by first | assumption | trivial) ?_
              rotate_left
              · intro w hSw; (try dsimp only at hSw); go_simp; try with_reducible rfl
              try simp only [Act.put, List.getElem_toArray, List.getElem_cons_succ, List.getElem_cons_zero, List.setIfInBounds_toArray, List.set_cons_zero, List.set_cons_succ]
              refine wpAnyH_take (i := 4) (oi := _) (v := .int .u8 (b : Int)) rfl (by kernel_rfl) (by kernel_rfl) (by kernel_rfl) (fun _ _ _ h => h) (Or.inl ⟨by rfl, ?_⟩) (by first | assumption | trivial) ?_
              · intro w hSw
                try dsimp only at hSw
                have hc := hSw.2
                go_simp
                try with_reducible rfl
              try simp only [Act.put, List.getElem_toArray, List.getElem_cons_succ, List.getElem_cons_zero, List.setIfInBounds_toArray, List.set_cons_zero, List.set_cons_succ]
              refine wpAnyH_take (i := 5) (oi := _) (v := ?_) rfl (by kernel_rfl) (by kernel_rfl) (by kernel_rfl) (fun _ _ _ h => h) (Or.inl ⟨by rfl, ?_⟩) (by first | assumption | trivial) ?_
              rotate_left
              · intro w hSw; (try dsimp only at hSw); go_simp; try with_reducible rfl
              try simp only [Act.put, List.getElem_toArray, List.getElem_cons_succ, List.getElem_cons_zero, List.setIfInBounds_toArray, List.set_cons_zero, List.set_cons_succ]
              refine wpAnyH_take (i := 6) (oi := _) (v := ?_) rfl (by kernel_rfl) (by kernel_rfl) (by kernel_rfl) (fun _ _ _ h => h) (Or.inl ⟨by rfl, ?_⟩) (by first | assumption | trivial) ?_
              rotate_left
              · intro w hSw; (try dsimp only at hSw); go_simp; try with_reducible rfl
              try simp only [Act.put, List.getElem_toArray, List.getElem_cons_succ, List.getElem_cons_zero, List.setIfInBounds_toArray, List.set_cons_zero, List.set_cons_succ]
              refine wpAnyH_take (i := 7) (oi := _) (v := ?_) rfl (by kernel_rfl) (by kernel_rfl) (by kernel_rfl) (fun _ _ _ h => h) (Or.inl ⟨by rfl, ?_⟩) (by first | assumption | trivial) ?_
              rotate_left
              · intro w hSw; (try dsimp only at hSw); go_simp; try with_reducible rfl
              try simp only [Act.put, List.getElem_toArray, List.getElem_cons_succ, List.getElem_cons_zero, List.setIfInBounds_toArray, List.set_cons_zero, List.set_cons_succ]
              refine wpAnyH_take (i := 8) (oi := _) (v := ?_) rfl (by kernel_rfl) (by kernel_rfl) (by kernel_rfl) (fun _ _ _ h => h) (Or.inl ⟨by rfl, ?_⟩) (by first | assumption | trivial) ?_
              rotate_left
              · intro w hSw; (try dsimp only at hSw); go_simp; try with_reducible rfl
              try simp only [Act.put, List.getElem_toArray, List.getElem_cons_succ, List.getElem_cons_zero, List.setIfInBounds_toArray, List.set_cons_zero, List.set_cons_succ]
              refine wpAnyH_take (i := 9) (oi := _) (v := ?_) rfl (by kernel_rfl) (by kernel_rfl) (by kernel_rfl) (fun _ _ _ h => h) (Or.inl ⟨by rfl, ?_⟩) (by first | assumption | trivial) ?_
              rotate_left
              · intro w hSw; (try dsimp only at hSw); go_simp; try with_reducible rfl
              try simp only [Act.put, List.getElem_toArray, List.getElem_cons_succ, List.getElem_cons_zero, List.setIfInBounds_toArray, List.set_cons_zero, List.set_cons_succ]
              refine wpAnyH_take (i := 10) (oi := _) (v := .int .u8 (b : Int)) rfl (by kernel_rfl) (by kernel_rfl) (by kernel_rfl) (fun _ _ _ h => h) (Or.inl ⟨by rfl, ?_⟩) (by first | assumption | trivial) ?_
              · intro w hSw
                try dsimp only at hSw
                have hc := hSw.2
                go_simp
                try with_reducible rfl
              try simp only [Act.put, List.getElem_toArray, List.getElem_cons_succ, List.getElem_cons_zero, List.setIfInBounds_toArray, List.set_cons_zero, List.set_cons_succ]
              refine wpAnyH_take (i := 11) (oi := _) (v := ?_) rfl (by kernel_rfl) (by kernel_rfl) (by kernel_rfl) (fun _ _ _ h => h) (Or.inl ⟨by rfl, ?_⟩) (by first | assumption | trivial) ?_
              rotate_left
              · intro w hSw; (try dsimp only at hSw); go_simp; try with_reducible rfl
              try simp only [Act.put, List.getElem_toArray, List.getElem_cons_succ, List.getElem_cons_zero, List.setIfInBounds_toArray, List.set_cons_zero, List.set_cons_succ]
              refine wpAnyH_take (i := 12) (oi := _) (v := ?_) rfl (by kernel_rfl) (by kernel_rfl) (by kernel_rfl) (fun _ _ _ h => h) (Or.inl ⟨by rfl, ?_⟩) (by first | assumption | trivial) ?_
              rotate_left
              · intro w hSw; (try dsimp only at hSw); go_simp; try with_reducible rfl
              try simp only [Act.put, List.getElem_toArray, List.getElem_cons_succ, List.getElem_cons_zero, List.setIfInBounds_toArray, List.set_cons_zero, List.set_cons_succ]
              refine wpAnyH_ready (rs := [13, 17]) (by kernel_rfl) (by simp) ?_
              refine AllReadyH.cons (o := _) rfl (fun K hK => ?_) (AllReadyH.cons (o := _) rfl (fun K hK => ?_) AllReadyH.nil)
              · skip
                go_simp
                refine (refHang HLD.out.rows.1 HLD.out.rows.2 HFT.out kk en en1).mono ?_
                rintro e wp ⟨sL2, sC2, rfl, fp, hor⟩
                have HFP := Lib.hid fp
                have HOR := Lib.hid hor
                rw [HY1.out]
                clear fp hor
                refine hK.out _ _ (⟨hHeld.1.keep HFP.out (by simp), HFP.out.keep hHeld.2 (by simp)⟩) (fun hHeld => ?_)
                clear hK K
                try simp only [Act.put, List.getElem_toArray, List.getElem_cons_succ, List.getElem_cons_zero, List.setIfInBounds_toArray, List.set_cons_zero, List.set_cons_succ]
                refine wpAnyH_take (i := 14) (oi := _) (v := ?_) rfl (by kernel_rfl) (by kernel_rfl) (by kernel_rfl) (fun _ _ _ h => h) (Or.inl ⟨by rfl, ?_⟩) (by first | assumption | trivial) ?_
                rotate_left
                · intro w hSw; (try dsimp only at hSw); go_simp; try with_reducible rfl
                try simp only [Act.put, List.getElem_toArray, List.getElem_cons_succ, List.getElem_cons_zero, List.setIfInBounds_toArray, List.set_cons_zero, List.set_cons_succ]
                refine wpAnyH_take (i := 15) (oi := _) (v := ?_) rfl (by kernel_rfl) (by kernel_rfl) (by kernel_rfl) (fun _ _ _ h => h) (Or.inl ⟨by rfl, ?_⟩) (by first | assumption | trivial) ?_
                rotate_left
                · intro w hSw; (try dsimp only at hSw); go_simp; try with_reducible rfl
                try simp only [Act.put, List.getElem_toArray, List.getElem_cons_succ, List.getElem_cons_zero, List.setIfInBounds_toArray, List.set_cons_zero, List.set_cons_succ]
                refine wpAnyH_take (i := 16) (oi := _) (v := ?_) rfl (by kernel_rfl) (by kernel_rfl) (by kernel_rfl) (fun _ _ _ h => h) (Or.inl ⟨by rfl, ?_⟩) (by first | assumption | trivial) ?_
                rotate_left
                · intro w hSw; (try dsimp only at hSw); go_simp; try with_reducible rfl
                try simp only [Act.put, List.getElem_toArray, List.getElem_cons_succ, List.getElem_cons_zero, List.setIfInBounds_toArray, List.set_cons_zero, List.set_cons_succ]
                refine wpAnyH_ready (rs := [17]) (by kernel_rfl) (by simp) ?_
                refine AllReadyH.cons (o := _) rfl (fun K hK => ?_) AllReadyH.nil
                go_simp
                obtain ⟨D, hE_⟩ : ∃ E, wp.heap.size = E := ⟨_, rfl⟩
                obtain ⟨wq, hw_⟩ : ∃ z, wp.alloc (.cells #[.slice none 0 0, .slice none 0 0] 34) = z := ⟨_, rfl⟩
                have hbx : Blk wq D 34 zNt := by rw [← hw_, ← hE_]; exact Blk.made wp 34 zNt
                have fx : Fr [] wp wq := by rw [← hw_]; exact (Fr.refl [] wp).alloc _
                rw [hw_]
                simp only [hE_]
                have HE := Lib.hid hE_
                have HBX := Lib.hid hbx
                have HFX := Lib.hid fx
                clear hw_ hE_ hbx fx
                refine hK.out _ _ (⟨hHeld.1.keep HFX.out (by simp), HFX.out.keep hHeld.2 (by simp)⟩) (fun hHeld => ?_)
                clear hK K
                try simp only [Act.put, List.getElem_toArray, List.getElem_cons_succ, List.getElem_cons_zero, List.setIfInBounds_toArray, List.set_cons_zero, List.set_cons_succ]
                refine wpAnyH_ready (rs := [18]) (by kernel_rfl) (by simp) ?_
                refine AllReadyH.cons (o := _) rfl (fun K hK => ?_) AllReadyH.nil
                obtain ⟨ws, hst, hb_, hf_⟩ := store_all (t := 34) (two (slv sL2) (slv sC2)) size34 rfl (two_one _ _) (HBX.out) rfl
                split
                rotate_left
                · rename_i hno
                  exact absurd rfl hno
                refine wp_skp (w' := ws) ?_ ?_
                · show Sem.run Tryz.prog ((Instr.storeAt 34 (.pointer (some ⟨D, 0, none⟩)) (.agg (two (slv sL2) (slv sC2)).toArray)) >>= fun _ => pure Next.skip) _ = _
                  rw [Sem.run_bind, hst]
                  rfl
                clear hst
                have hlt_ := HBX.out.lt
                have HKV := Lib.hid (show Blk ws V 34 (two (slv sL1) (slv sC1)) from hHeld.1.keep hf_ (fun hm => by rw [List.mem_singleton] at hm; have := HLD.out.var.lt; have := HFP.out.size; have := HE.out; omega))
                have HLP := Lib.hid (HLD.out.hold (Fr.refl [] _) HFP.out HOR.out HFX.out ⟨by have := HFP.out.size; have := HE.out; omega, hlt_⟩ (.inr (by have := HE.out; omega)) hf_ hb_)
                clear hlt_
                clear hb_ hf_
                refine hK.out _ _ (⟨HKV.out, HLP.out.fr.keep HEL.out (by simp)⟩) (fun hHeld => ?_)
                clear hK K
                try simp only [Act.put, List.getElem_toArray, List.getElem_cons_succ, List.getElem_cons_zero, List.setIfInBounds_toArray, List.set_cons_zero, List.set_cons_succ]
                refine wpAnyH_take (i := 19) (oi := _) (v := ?_) rfl (by kernel_rfl) (by kernel_rfl) (by kernel_rfl) (fun _ _ _ h => h) (Or.inl ⟨by rfl, ?_⟩) (by first | assumption | trivial) ?_
                rotate_left
                · intro w hSw; (try dsimp only at hSw); go_simp; try with_reducible rfl
                try simp only [Act.put, List.getElem_toArray, List.getElem_cons_succ, List.getElem_cons_zero, List.setIfInBounds_toArray, List.set_cons_zero, List.set_cons_succ]
                refine wpAnyH_done (by kernel_rfl) ?_ _
                go_wp2
                go_meet
                exact ⟨D, sL2, sC2, rfl, rfl, HLP.out⟩
              · skip
                go_simp
                obtain ⟨D, hE_⟩ : ∃ E, wd.heap.size = E := ⟨_, rfl⟩
                obtain ⟨wq, hw_⟩ : ∃ z, wd.alloc (.cells #[.slice none 0 0, .slice none 0 0] 34) = z := ⟨_, rfl⟩
                have hbx : Blk wq D 34 zNt := by rw [← hw_, ← hE_]; exact Blk.made wd 34 zNt
                have fx : Fr [] wd wq := by rw [← hw_]; exact (Fr.refl [] wd).alloc _
                rw [hw_]
                simp only [hE_]
                have HE := Lib.hid hE_
                have HBX := Lib.hid hbx
                have HFX := Lib.hid fx
                clear hw_ hE_ hbx fx
                refine hK.out _ _ (⟨hHeld.1.keep HFX.out (by simp), HFX.out.keep hHeld.2 (by simp)⟩) (fun hHeld => ?_)
                clear hK K
                try simp only [Act.put, List.getElem_toArray, List.getElem_cons_succ, List.getElem_cons_zero, List.setIfInBounds_toArray, List.set_cons_zero, List.set_cons_succ]
                have HLQ := Lib.hid (HLD.out.new HFX.out)
                refine wpAnyH_ready (rs := [13]) (by kernel_rfl) (by simp) ?_
                refine AllReadyH.cons (o := _) rfl (fun K hK => ?_) AllReadyH.nil
                go_simp
                refine (refHang HLQ.out.rows.1 HLQ.out.rows.2 HFT.out kk en en1).mono ?_
                rintro e wp ⟨sL2, sC2, rfl, fp, hor⟩
                have HFP := Lib.hid fp
                have HOR := Lib.hid hor
                rw [HY1.out]
                clear fp hor
                refine hK.out _ _ (⟨hHeld.1.keep HFP.out (by simp), HFP.out.keep hHeld.2 (by simp)⟩) (fun hHeld => ?_)
                clear hK K
                try simp only [Act.put, List.getElem_toArray, List.getElem_cons_succ, List.getElem_cons_zero, List.setIfInBounds_toArray, List.set_cons_zero, List.set_cons_succ]
                refine wpAnyH_take (i := 14) (oi := _) (v := ?_) rfl (by kernel_rfl) (by kernel_rfl) (by kernel_rfl) (fun _ _ _ h => h) (Or.inl ⟨by rfl, ?_⟩) (by first | assumption | trivial) ?_
                rotate_left
                · intro w hSw; (try dsimp only at hSw); go_simp; try with_reducible rfl
                try simp only [Act.put, List.getElem_toArray, List.getElem_cons_succ, List.getElem_cons_zero, List.setIfInBounds_toArray, List.set_cons_zero, List.set_cons_succ]
                refine wpAnyH_take (i := 15) (oi := _) (v := ?_) rfl (by kernel_rfl) (by kernel_rfl) (by kernel_rfl) (fun _ _ _ h => h) (Or.inl ⟨by rfl, ?_⟩) (by first | assumption | trivial) ?_
                rotate_left
                · intro w hSw; (try dsimp only at hSw); go_simp; try with_reducible rfl
                try simp only [Act.put, List.getElem_toArray, List.getElem_cons_succ, List.getElem_cons_zero, List.setIfInBounds_toArray, List.set_cons_zero, List.set_cons_succ]
                refine wpAnyH_take (i := 16) (oi := _) (v := ?_) rfl (by kernel_rfl) (by kernel_rfl) (by kernel_rfl) (fun _ _ _ h => h) (Or.inl ⟨by rfl, ?_⟩) (by first | assumption | trivial) ?_
                rotate_left
                · intro w hSw; (try dsimp only at hSw); go_simp; try with_reducible rfl
                try simp only [Act.put, List.getElem_toArray, List.getElem_cons_succ, List.getElem_cons_zero, List.setIfInBounds_toArray, List.set_cons_zero, List.set_cons_succ]
                refine wpAnyH_ready (rs := [18]) (by kernel_rfl) (by simp) ?_
                refine AllReadyH.cons (o := _) rfl (fun K hK => ?_) AllReadyH.nil
                obtain ⟨ws, hst, hb_, hf_⟩ := store_all (t := 34) (two (slv sL2) (slv sC2)) size34 rfl (two_one _ _) (HBX.out.keep HFP.out (by simp)) rfl
                split
                rotate_left
                · rename_i hno
                  exact absurd rfl hno
                refine wp_skp (w' := ws) ?_ ?_
                · show Sem.run Tryz.prog ((Instr.storeAt 34 (.pointer (some ⟨D, 0, none⟩)) (.agg (two (slv sL2) (slv sC2)).toArray)) >>= fun _ => pure Next.skip) _ = _
                  rw [Sem.run_bind, hst]
                  rfl
                clear hst
                have hlt_ := HBX.out.lt
                have HKV := Lib.hid (show Blk ws V 34 (two (slv sL1) (slv sC1)) from hHeld.1.keep hf_ (fun hm => by rw [List.mem_singleton] at hm; have := HLD.out.var.lt; have := HE.out; omega))
                have HLP := Lib.hid (HLD.out.hold HFX.out HFP.out HOR.out (Fr.refl [] _) ⟨by have := HE.out; omega, by have := HFP.out.size; omega⟩ (.inl hlt_) hf_ hb_)
                clear hlt_
                clear hb_ hf_
                refine hK.out _ _ (⟨HKV.out, HLP.out.fr.keep HEL.out (by simp)⟩) (fun hHeld => ?_)
                clear hK K
                try simp only [Act.put, List.getElem_toArray, List.getElem_cons_succ, List.getElem_cons_zero, List.setIfInBounds_toArray, List.set_cons_zero, List.set_cons_succ]
                refine wpAnyH_take (i := 19) (oi := _) (v := ?_) rfl (by kernel_rfl) (by kernel_rfl) (by kernel_rfl) (fun _ _ _ h => h) (Or.inl ⟨by rfl, ?_⟩) (by first | assumption | trivial) ?_
                rotate_left
                · intro w hSw; (try dsimp only at hSw); go_simp; try with_reducible rfl
                try simp only [Act.put, List.getElem_toArray, List.getElem_cons_succ, List.getElem_cons_zero, List.setIfInBounds_toArray, List.set_cons_zero, List.set_cons_succ]
                refine wpAnyH_done (by kernel_rfl) ?_ _
                go_wp2
                go_meet
                exact ⟨D, sL2, sC2, rfl, rfl, HLP.out⟩
            case rest =>
              obtain ⟨D, sL2, sC2, rfl, rfl, hlp⟩ := hcut
              obtain ⟨we, hwe⟩ : ∃ z, wc.drew = z := ⟨_, rfl⟩
              have fe : Fr [] wc we := by rw [← hwe]; exact (Fr.refl [] wc).drew
              have HLP := Lib.hid (hlp.new fe)
              have HWE := Lib.hid hwe
              clear hwe fe hlp HLD
              go_upto_region 25 with fail
              refine wp_region_held_drew (S := fun W => W.cell? ⟨g, off + k, none⟩ = some (.int .u8 (b : Int))) (by kernel_rfl) (by rw [HWE.out]; exact HLP.out.fr.keep HEL.out (by simp)) (fun hHeld => ?_)
              rw [HWE.out] at hHeld ⊢
              refine wpAnyH_take (i := 0) (oi := _) (v := ?_) rfl (by kernel_rfl) (by kernel_rfl) (by kernel_rfl) (fun _ _ _ h => h) (Or.inl ⟨by rfl, ?_⟩) (by first | assumption | trivial) ?_
              rotate_left
              · intro w hSw; (try dsimp only at hSw); go_simp; try with_reducible rfl
              try simp only [Act.put, List.getElem_toArray, List.getElem_cons_succ, List.getElem_cons_zero, List.setIfInBounds_toArray, List.set_cons_zero, List.set_cons_succ]
              refine wpAnyH_take (i := 1) (oi := _) (v := ?_) rfl (by kernel_rfl) (by kernel_rfl) (by kernel_rfl) (fun _ _ _ h => h) (Or.inl ⟨by rfl, ?_⟩) (by first | assumption | trivial) ?_
              rotate_left
              · intro w hSw; (try dsimp only at hSw); go_simp; try with_reducible rfl
              try simp only [Act.put, List.getElem_toArray, List.getElem_cons_succ, List.getElem_cons_zero, List.setIfInBounds_toArray, List.set_cons_zero, List.set_cons_succ]
              refine wpAnyH_take (i := 2) (oi := _) (v := ?_) rfl (by kernel_rfl) (by kernel_rfl) (by kernel_rfl) (fun _ _ _ h => h) (Or.inl ⟨by rfl, ?_⟩) (by first | assumption | trivial) ?_
              rotate_left
              · intro w hSw; (try dsimp only at hSw); go_simp; try with_reducible rfl
              try simp only [Act.put, List.getElem_toArray, List.getElem_cons_succ, List.getElem_cons_zero, List.setIfInBounds_toArray, List.set_cons_zero, List.set_cons_succ]
              refine wpAnyH_take (i := 3) (oi := _) (v := ?_) rfl (by kernel_rfl) (by kernel_rfl) (by kernel_rfl) (fun _ _ _ h => h) (Or.inl ⟨by rfl, ?_⟩) (by first | assumption | trivial) ?_
              rotate_left
              · intro w hSw; (try dsimp only at hSw); go_simp; try with_reducible rfl
              try simp only [Act.put, List.getElem_toArray, List.getElem_cons_succ, List.getElem_cons_zero, List.setIfInBounds_toArray, List.set_cons_zero, List.set_cons_succ]
              refine wpAnyH_take (i := 4) (oi := _) (v := ?_) rfl (by kernel_rfl) (by kernel_rfl) (by kernel_rfl) (fun _ _ _ h => h) (Or.inl ⟨by rfl, ?_⟩) (by first | assumption | trivial) ?_
              rotate_left
              · intro w hSw; (try dsimp only at hSw); go_simp; try with_reducible rfl
              try simp only [Act.put, List.getElem_toArray, List.getElem_cons_succ, List.getElem_cons_zero, List.setIfInBounds_toArray, List.set_cons_zero, List.set_cons_succ]
              refine wpAnyH_take (i := 5) (oi := _) (v := ?_) rfl (by kernel_rfl) (by kernel_rfl) (by kernel_rfl) (fun _ _ _ h => h) (Or.inl ⟨by rfl, ?_⟩) (by first | assumption | trivial) ?_
              rotate_left
              · intro w hSw; (try dsimp only at hSw); go_simp; try with_reducible rfl
              try simp only [Act.put, List.getElem_toArray, List.getElem_cons_succ, List.getElem_cons_zero, List.setIfInBounds_toArray, List.set_cons_zero, List.set_cons_succ]
              refine wpAnyH_take (i := 6) (oi := _) (v := ?_) rfl (by kernel_rfl) (by kernel_rfl) (by kernel_rfl) (fun _ _ _ h => h) (Or.inl ⟨by rfl, ?_⟩) (by first | assumption | trivial) ?_
              rotate_left
              · intro w hSw; (try dsimp only at hSw); go_simp; try with_reducible rfl
              try simp only [Act.put, List.getElem_toArray, List.getElem_cons_succ, List.getElem_cons_zero, List.setIfInBounds_toArray, List.set_cons_zero, List.set_cons_succ]
              refine wpAnyH_take (i := 7) (oi := _) (v := ?_) rfl (by kernel_rfl) (by kernel_rfl) (by kernel_rfl) (fun _ _ _ h => h) (Or.inl ⟨by rfl, ?_⟩) (by first | assumption | trivial) ?_
              rotate_left
              · intro w hSw; (try dsimp only at hSw); go_simp; try with_reducible rfl
              try simp only [Act.put, List.getElem_toArray, List.getElem_cons_succ, List.getElem_cons_zero, List.setIfInBounds_toArray, List.set_cons_zero, List.set_cons_succ]
              refine wpAnyH_take (i := 8) (oi := _) (v := ?_) rfl (by kernel_rfl) (by kernel_rfl) (by kernel_rfl) (fun _ _ _ h => h) (Or.inl ⟨by rfl, ?_⟩) (by first | assumption | trivial) ?_
              rotate_left
              · intro w hSw; (try dsimp only at hSw); go_simp; try with_reducible rfl
              try simp only [Act.put, List.getElem_toArray, List.getElem_cons_succ, List.getElem_cons_zero, List.setIfInBounds_toArray, List.set_cons_zero, List.set_cons_succ]
              refine wpAnyH_take (i := 9) (oi := _) (v := ?_) rfl (by kernel_rfl) (by kernel_rfl) (by kernel_rfl) (fun _ _ _ h => h) (Or.inl ⟨by rfl, ?_⟩) (by first | assumption | trivial) ?_
              rotate_left
              · intro w hSw; (try dsimp only at hSw); go_simp; try with_reducible rfl
              try simp only [Act.put, List.getElem_toArray, List.getElem_cons_succ, List.getElem_cons_zero, List.setIfInBounds_toArray, List.set_cons_zero, List.set_cons_succ]
              refine wpAnyH_take (i := 10) (oi := _) (v := ?_) rfl (by kernel_rfl) (by kernel_rfl) (by kernel_rfl) (fun _ _ _ h => h) (Or.inl ⟨by rfl, ?_⟩) (by first | assumption | trivial) ?_
              rotate_left
              · intro w hSw; (try dsimp only at hSw); go_simp; try with_reducible rfl
              try simp only [Act.put, List.getElem_toArray, List.getElem_cons_succ, List.getElem_cons_zero, List.setIfInBounds_toArray, List.set_cons_zero, List.set_cons_succ]
              refine wpAnyH_take (i := 11) (oi := _) (v := ?_) rfl (by kernel_rfl) (by kernel_rfl) (by kernel_rfl) (fun _ _ _ h => h) (Or.inl ⟨by rfl, ?_⟩) (by first | assumption | trivial) ?_
              rotate_left
              · intro w hSw; (try dsimp only at hSw); go_simp; try with_reducible rfl
              try simp only [Act.put, List.getElem_toArray, List.getElem_cons_succ, List.getElem_cons_zero, List.setIfInBounds_toArray, List.set_cons_zero, List.set_cons_succ]
              refine wpAnyH_take (i := 12) (oi := _) (v := ?_) rfl (by kernel_rfl) (by kernel_rfl) (by kernel_rfl) (fun _ _ _ h => h) (Or.inl ⟨by rfl, ?_⟩) (by first | assumption | trivial) ?_
              rotate_left
              · intro w hSw; (try dsimp only at hSw); go_simp; try with_reducible rfl
              try simp only [Act.put, List.getElem_toArray, List.getElem_cons_succ, List.getElem_cons_zero, List.setIfInBounds_toArray, List.set_cons_zero, List.set_cons_succ]
              refine wpAnyH_take (i := 14) (oi := _) (v := ?_) rfl (by kernel_rfl) (by kernel_rfl) (by kernel_rfl) (fun _ _ _ h => h) (Or.inl ⟨by rfl, ?_⟩) (by first | assumption | trivial) ?_
              rotate_left
              · intro w hSw; (try dsimp only at hSw); go_simp; try with_reducible rfl
              try simp only [Act.put, List.getElem_toArray, List.getElem_cons_succ, List.getElem_cons_zero, List.setIfInBounds_toArray, List.set_cons_zero, List.set_cons_succ]
              refine wpAnyH_ready (rs := [13]) (by kernel_rfl) (by simp) ?_
              refine AllReadyH.cons (o := _) rfl (fun K hK => ?_) AllReadyH.nil
              go_simp
              refine (full_hangP HLP.out kk en ⟨by omega, by omega⟩ (by have := HGG.out; omega)).mono ?_
              rw [HY2.out]
              rintro e wt ⟨rfl, hlq⟩
              have HLQ := Lib.hid hlq
              clear hlq
              refine hK.out _ _ (HLQ.out.fr.keep HEL.out (by simp)) (fun hHeld => ?_)
              clear hK K
              try simp only [Act.put, List.getElem_toArray, List.getElem_cons_succ, List.getElem_cons_zero, List.setIfInBounds_toArray, List.set_cons_zero, List.set_cons_succ]
              refine wpAnyH_take (i := 15) (oi := _) (v := ?_) rfl (by kernel_rfl) (by kernel_rfl) (by kernel_rfl) (fun _ _ _ h => h) (Or.inl ⟨by rfl, ?_⟩) (by first | assumption | trivial) ?_
              rotate_left
              · intro w hSw; (try dsimp only at hSw); go_simp; try with_reducible rfl
              try simp only [Act.put, List.getElem_toArray, List.getElem_cons_succ, List.getElem_cons_zero, List.setIfInBounds_toArray, List.set_cons_zero, List.set_cons_succ]
              refine wpAnyH_done (by kernel_rfl) ?_ _
              clear HLP hHeld
              obtain ⟨xa, xb, hbv⟩ := HLQ.out.old
              have HBV := Lib.hid hbv
              clear hbv
              go_upto_region 27 with fail
              refine wp_region_lit ?_
              refine wpList_val rfl (v := .agg (two (slv sL2) (slv sC2)).toArray) (w' := wt) ?_ ?_
              · show Sem.run Tryz.prog ((Instr.loadAt 34 (.pointer (some ⟨D, 0, none⟩))) >>= fun x => pure (Next.value x)) wt = _
                rw [Sem.run_bind, load_all agg34 size34 (xs := two (slv sL2) (slv sC2)) rfl HLQ.out.nx.at]
                rfl
              try simp only [Act.put, List.getElem_toArray, List.getElem_cons_succ, List.getElem_cons_zero, List.setIfInBounds_toArray, List.set_cons_zero, List.set_cons_succ]
              obtain ⟨ws, hst, hb_, hf_⟩ := store_all (t := 34) (two (slv sL2) (slv sC2)) size34 rfl (two_one _ _) HBV.out rfl
              refine wpList_skp rfl (w' := ws) ?_ ?_
              · show Sem.run Tryz.prog ((Instr.storeAt 34 (.pointer (some ⟨V, 0, none⟩)) (.agg (two (slv sL2) (slv sC2)).toArray)) >>= fun _ => pure Next.skip) _ = _
                rw [Sem.run_bind, hst]
                rfl
              clear hst
              try simp only [Act.put, List.getElem_toArray, List.getElem_cons_succ, List.getElem_cons_zero, List.setIfInBounds_toArray, List.set_cons_zero, List.set_cons_succ]
              refine wpList_nil ?_
              try simp only [Act.put, List.getElem_toArray, List.getElem_cons_succ, List.getElem_cons_zero, List.setIfInBounds_toArray, List.set_cons_zero, List.set_cons_succ]
              have HL4 := Lib.hid (HLQ.out.done hf_ hb_)
              clear hb_ hf_ HLQ HBV
              go_wp2
              go_roundw
              case rel => exact ⟨_, k + 1, rfl, by go_num, by omega, _, _, _, _, _, HL4.out, HMM.out, HFH.out, HGG.out⟩
              case measure => simp [intOf]; omega
          · skip
            obtain rfl : k = n := by omega
            have hmp := PN.match_pair HMA.out 3
            obtain ⟨r, e0, hre⟩ : ∃ r e0, (PN.pair N 3).2 = (r, e0) := ⟨_, _, rfl⟩
            have h1 : (PN.rPair R 3).2.1 = r := by rw [hmp.1, hre]
            have h2 : (PN.rPair R 3).2.2 = e0 := by rw [hmp.1, hre]
            have HRE := Lib.hid hre
            have HH1 := Lib.hid h1
            have HH2 := Lib.hid h2
            have HMM := Lib.hid hmp.2
            have HFH := Lib.hid (fit_pair3 HFT.out 3 hmp.2)
            clear hre h1 h2 hmp
            go_upto_region 28 with fail
            refine wp_region_lit ?_
            refine wpList_val rfl (v := .agg (two (slv sL1) (slv sC1)).toArray) (w' := wr) ?_ ?_
            · show Sem.run Tryz.prog ((Instr.loadAt 34 (.pointer (some ⟨V, 0, none⟩))) >>= fun x => pure (Next.value x)) wr = _
              rw [Sem.run_bind, load_all agg34 size34 (xs := two (slv sL1) (slv sC1)) rfl HLS.out.var.at]
              rfl
            try simp only [Act.put, List.getElem_toArray, List.getElem_cons_succ, List.getElem_cons_zero, List.setIfInBounds_toArray, List.set_cons_zero, List.set_cons_succ]
            refine wpList_plain rfl (fun K hK => ?_)
            go_simp
            refine (refPair HLS.out.rows.1 HLS.out.rows.2 HFT.out 3 (by omega)).mono ?_
            rintro e wp ⟨sL2, sC2, rfl, fp, hor⟩
            rw [HH1.out, HH2.out]
            refine hK _ _ ?_
            clear hK K
            have HFP := Lib.hid fp
            have HOR := Lib.hid hor
            clear fp hor
            try simp only [Act.put, List.getElem_toArray, List.getElem_cons_succ, List.getElem_cons_zero, List.setIfInBounds_toArray, List.set_cons_zero, List.set_cons_succ]
            refine wpList_plain rfl (fun K hK => ?_); go_simp; refine hK _ _ ?_; clear hK K
            refine wpList_plain rfl (fun K hK => ?_); go_simp; refine hK _ _ ?_; clear hK K
            refine wpList_plain rfl (fun K hK => ?_); go_simp; refine hK _ _ ?_; clear hK K
            refine wpList_plain rfl (fun K hK => ?_); go_simp; refine hK _ _ ?_; clear hK K
            refine wpList_plain rfl (fun K hK => ?_); go_simp; refine hK _ _ ?_; clear hK K
            try simp only [Act.put, List.getElem_toArray, List.getElem_cons_succ, List.getElem_cons_zero, List.setIfInBounds_toArray, List.set_cons_zero, List.set_cons_succ]
            obtain ⟨D, hE_⟩ : ∃ E, wp.heap.size = E := ⟨_, rfl⟩
            obtain ⟨wq, hw_⟩ : ∃ z, wp.alloc (.cells #[.slice none 0 0, .slice none 0 0] 34) = z := ⟨_, rfl⟩
            have hbx : Blk wq D 34 zNt := by rw [← hw_, ← hE_]; exact Blk.made wp 34 zNt
            have fx : Fr [] wp wq := by rw [← hw_]; exact (Fr.refl [] wp).alloc _
            rw [hw_]
            simp only [hE_]
            have HE := Lib.hid hE_
            have HBX := Lib.hid hbx
            have HFX := Lib.hid fx
            clear hw_ hE_ hbx fx
            obtain ⟨ws, hst, hb_, hf_⟩ := store_all (t := 34) (two (slv sL2) (slv sC2)) size34 rfl (two_one _ _) HBX.out rfl
            refine wpList_skp rfl (w' := ws) ?_ ?_
            · show Sem.run Tryz.prog ((Instr.storeAt 34 (.pointer (some ⟨D, 0, none⟩)) (.agg (two (slv sL2) (slv sC2)).toArray)) >>= fun _ => pure Next.skip) _ = _
              rw [Sem.run_bind, hst]
              rfl
            clear hst
            try simp only [Act.put, List.getElem_toArray, List.getElem_cons_succ, List.getElem_cons_zero, List.setIfInBounds_toArray, List.set_cons_zero, List.set_cons_succ]
            refine wpList_plain rfl (fun K hK => ?_); go_simp; refine hK _ _ ?_; clear hK K
            refine wpList_plain rfl (fun K hK => ?_); go_simp; refine hK _ _ ?_; clear hK K
            refine wpList_nil ?_
            try simp only [Act.put, List.getElem_toArray, List.getElem_cons_succ, List.getElem_cons_zero, List.setIfInBounds_toArray, List.set_cons_zero, List.set_cons_succ]
            have HLP := Lib.hid (HLS.out.hold (Fr.refl [] _) HFP.out HOR.out HFX.out ⟨by have := HFP.out.size; have := HE.out; omega, HBX.out.lt⟩ (.inr (by have := HE.out; omega)) hf_ hb_)
            clear hb_ hf_ HFP HOR HFX HE HBX HLS
            go_upto_region 29 with fail
            refine wp_region_lit ?_
            refine wpList_plain rfl (fun K hK => ?_); go_simp; refine hK _ _ ?_; clear hK K
            refine wpList_plain rfl (fun K hK => ?_); go_simp; refine hK _ _ ?_; clear hK K
            refine wpList_plain rfl (fun K hK => ?_); go_simp; refine hK _ _ ?_; clear hK K
            try simp only [Act.put, List.getElem_toArray, List.getElem_cons_succ, List.getElem_cons_zero, List.setIfInBounds_toArray, List.set_cons_zero, List.set_cons_succ]
            refine wpList_plain rfl (fun K hK => ?_)
            go_simp
            refine (full_pairsP HLP.out 3 (by omega) r e0 HRE.out).mono ?_
            rintro e wt ⟨rfl, hlq⟩
            refine hK _ _ ?_
            clear hK K
            have HLQ := Lib.hid hlq
            clear hlq
            try simp only [Act.put, List.getElem_toArray, List.getElem_cons_succ, List.getElem_cons_zero, List.setIfInBounds_toArray, List.set_cons_zero, List.set_cons_succ]
            refine wpList_plain rfl (fun K hK => ?_); go_simp; refine hK _ _ ?_; clear hK K
            try simp only [Act.put, List.getElem_toArray, List.getElem_cons_succ, List.getElem_cons_zero, List.setIfInBounds_toArray, List.set_cons_zero, List.set_cons_succ]
            refine wpList_want (by rfl) (fun K hK => ?_)
            go_simp
            refine hK _ _ ?_
            clear hK K
            try simp only [Act.put, List.getElem_toArray, List.getElem_cons_succ, List.getElem_cons_zero, List.setIfInBounds_toArray, List.set_cons_zero, List.set_cons_succ]
            refine wpList_want (by rfl) (fun K hK => ?_)
            refine wp_vl (v := .agg (two (slv sL2) (slv sC2)).toArray) (w' := wt) ?_ ?_
            · show Sem.run Tryz.prog ((Instr.loadAt 34 (.pointer (some ⟨D, 0, none⟩))) >>= fun x => pure (Next.value x)) wt = _
              rw [Sem.run_bind, load_all agg34 size34 (xs := two (slv sL2) (slv sC2)) rfl HLQ.out.nx.at]
              rfl
            refine hK _ _ ?_
            clear hK K
            try simp only [Act.put, List.getElem_toArray, List.getElem_cons_succ, List.getElem_cons_zero, List.setIfInBounds_toArray, List.set_cons_zero, List.set_cons_succ]
            refine wpList_want (by rfl) (fun K hK => ?_)
            go_simp
            obtain ⟨KK, hlive⟩ := HLQ.out.live
            refine (is_t _ hlive (by have := HGG.out; omega) HMM.out HFH.out HLQ.out.rows.1 HLQ.out.rows.2).mono ?_
            rintro e wu ⟨rfl, fu⟩
            refine hK _ _ ?_
            clear hK K hlive
            have HFU := Lib.hid (HLQ.out.fr.step fu)
            clear fu
            try simp only [Act.put, List.getElem_toArray, List.getElem_cons_succ, List.getElem_cons_zero, List.setIfInBounds_toArray, List.set_cons_zero, List.set_cons_succ]
            refine wpList_plain rfl (fun K hK => ?_); go_simp; refine hK _ _ ?_; clear hK K
            refine wpList_plain rfl (fun K hK => ?_); go_simp; refine hK _ _ ?_; clear hK K
            try simp only [Act.put, List.getElem_toArray, List.getElem_cons_succ, List.getElem_cons_zero, List.setIfInBounds_toArray, List.set_cons_zero, List.set_cons_succ]
            refine wpList_want (by rfl) (fun K hK => ?_)
            go_simp
            refine (known_true _).mono ?_
            rintro e wv ⟨rfl, fv⟩
            refine hK _ _ ?_
            clear hK K
            have HFV := Lib.hid (HFU.out.step fv)
            clear fv
            try simp only [Act.put, List.getElem_toArray, List.getElem_cons_succ, List.getElem_cons_zero, List.setIfInBounds_toArray, List.set_cons_zero, List.set_cons_succ]
            refine wpList_plain rfl (fun K hK => ?_); go_simp; refine hK _ _ ?_; clear hK K
            refine wpList_plain rfl (fun K hK => ?_); go_simp; refine hK _ _ ?_; clear hK K
            refine wpList_nil ?_
            try simp only [Act.put, List.getElem_toArray, List.getElem_cons_succ, List.getElem_cons_zero, List.setIfInBounds_toArray, List.set_cons_zero, List.set_cons_succ]
            go_wp2
            go_ret
            exact ⟨rfl, HFV.out⟩
end Go.Proofs.YtmdhlodafjpnmaaGreat
