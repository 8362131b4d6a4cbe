/- Ropes: Bytes; bytes cloned. -/
/- Ropes: New. -/
/- Ropes: Take. -/
import Derived.Test.YtmdhlodafjpnmaaGreatMP
import Derived.Lib.AppendZeros
namespace Go.Proofs.YtmdhlodafjpnmaaGreat
open List renaming getElem_toArray → qj1, getElem_cons_succ → qj2, getElem_cons_zero → qj3, setIfInBounds_toArray → qj4, set_cons_zero → qj5, set_cons_succ → qj6
open Go.RowKit
set_option linter.unusedVariables false
set_option linter.unusedSimpArgs false
set_option maxRecDepth 100000
set_option maxHeartbeats 4000000

section
variable {ops : Array Oper} {rest : List Oper} {o : Oper} {a : Act} {w : World} {Q : Exit → Act → World → Prop}
theorem wpList_append_zeros (hgd : o.guard = none) (s x : Operand) (ho : o.op = .call { callee := .builtin .append, args := #[s, x], argTypes := #[22, 3] })
    (hs : a.eval s = .slice none 0 0) (m : Nat) (hX : a.eval x = .int .i64 m) (h0 : 0 < m) (hm : m ≤ 100000)
    (h : ∀ g c w', w'.ownsRow w.heap.size 5 1 (.slice (some ⟨g, 0, none⟩) 0 c) 0 [] → Fr [] w w' → wpList Tryz.prog ops Q rest (a.put o.dst (.slice (some ⟨g, 0, none⟩) m c)) w') : wpList Tryz.prog ops Q (o :: rest) a w := by
  obtain ⟨i, h1, h2, h3, h4⟩ := info_parts (show (Tryz.prog.info? 5).map (fun i => (i.zero, i.size, i.bytes)) = some (some (.int .u8 0), 1, 1) from by kernel_rfl)
  have hrun := Lib.run_append_nil_zeros (P := Tryz.prog) w 22 3 o.type 5 i (.int .u8 0) .i64 .i64 Tryz.underlying22 Tryz.underlying3 h1 h2 m h0 (by omega) (by omega) (by rw [h4]; omega)
  have hcg : m ≤ grownCap w m 0 5 := grownCap_ge w m 0 5
  have hcm : grownCap w m 0 5 ≤ maxLen := grownCap_le_maxLen w m 0 5 (by simp only [maxLen]; omega)
  refine wpList_plain hgd fun K hK => ?_
  unfold Oper.wp
  simp [execOp, ho, resolve, invoke, builtin, hs, hX, hrun, Result.andThen]
  refine hK _ _ (h _ _ _ ⟨by simp, .inr ⟨w.heap.size, _, _, rfl, Nat.le_refl _, heap_alloc_new w.drew _, Nat.zero_le _, hcm, ?_, by simp⟩⟩ ((Fr.refl [] w).drew.alloc _))
  simp only [Array.size_append, size_zeroCells, Value.cells, List.size_toArray, List.length_cons, List.length_nil]
  omega
end
theorem grow_nil (m : Nat) (hm : m ≤ 100000) (w : World) :
    Calls Tryz.prog 181 #[.slice none 0 0, .int .i64 m] w fun e w' => ∃ a c, e = .returned (.slice a 0 c) ∧ w'.ownsRow w.heap.size 5 1 (.slice a 0 c) 0 [] ∧ Fr [] w w' := by
  have hm0 : ¬ (m : Int) < 0 := by omega
  have hw0 : IntKind.i64.wrap ((m : Int) - 0) = m := by rw [IntWalk.i64_in _ (by omega)]; omega
  have hw1 : IntKind.i64.wrap (m : Int) = m := IntWalk.i64_in _ (by omega)
  by_cases h0 : m = 0
  · subst h0
    go_enter Tryz.func181, Tryz.ntmps181
    go_wp2
    go_ret
    exact ⟨none, 0, rfl, World.ownsRow_nil _ _ _ _, Fr.refl [] w⟩
  · have hpos : 0 < m := by omega
    have hposi : (0 : Int) < m := by omega
    go_enter Tryz.func181, Tryz.ntmps181
    go_upto_region 5 with fail
    refine wp_region_lit ?_
    refine wpList_plain rfl (fun K hK => ?_); go_simp; refine hK _ _ ?_; clear hK K
    refine wpList_plain rfl (fun K hK => ?_); go_simp; refine hK _ _ ?_; clear hK K
    refine wpList_plain rfl (fun K hK => ?_); go_simp; refine hK _ _ ?_; clear hK K
    refine wpList_plain rfl (fun K hK => ?_); go_simp; refine hK _ _ ?_; clear hK K
    refine wpList_plain rfl (fun K hK => ?_); go_simp; refine hK _ _ ?_; clear hK K
    try simp only [Act.put, qj1, qj2, qj3, qj4, qj5, qj6]
    refine wpList_append_zeros rfl (.tmp 20) (.tmp 21) rfl rfl m rfl hpos hm ?_
    intro g c w1 ho f1
    try simp only [Act.put, qj1, qj2, qj3, qj4, qj5, qj6]
    refine wpList_plain rfl (fun K hK => ?_); go_simp; refine hK _ _ ?_; clear hK K
    refine wpList_plain rfl (fun K hK => ?_); go_simp; refine hK _ _ ?_; clear hK K
    try simp only [Act.put, qj1, qj2, qj3, qj4, qj5, qj6]
    have hsl : ∀ W : World, (Instr.slice 22 (.slice (some ⟨g, 0, none⟩) m c) none (some (.int .i64 0)) none).run Tryz.prog W = .ok (.slice (some ⟨g, 0, none⟩) 0 c) W := fun W => by
      have hsz : ∀ W : World, (sizeOf (Tryz.prog.elem 22)).run Tryz.prog W = .ok 1 W := fun W => by kernel_rfl
      rw [run_slice_h W _ _ m c und22 .i64 0 (by omega) (by omega), hsz]
      simp [Result.andThen, sliced, Addr.add]
    refine wpList_plain rfl (fun K hK => ?_); go_simp; refine hK _ _ ?_; clear hK K
    refine wpList_plain rfl (fun K hK => ?_); go_simp; refine hK _ _ ?_; clear hK K
    refine wpList_nil ?_
    try simp only [Act.put, qj1, qj2, qj3, qj4, qj5, qj6]
    go_wp2
    go_ret
    exact ⟨_, c, rfl, ho, f1⟩
def BytesOut (l : List UInt8) (w : World) (e : Ending) (w' : World) : Prop := ∃ v : Sli, e = .returned (slv v) ∧ BsO w' w.heap.size v l ∧ Fr [] w w'
theorem concat_any {w : World} {own : Nat → Nat} {p : Sli} {l : List UInt8} (h : RopeB w own p l) (hl : l.length ≤ 65536) :
    Calls Tryz.prog 166 #[.slice p.1 p.2.1 p.2.2] w (BytesOut l w) := by
  rcases h with ⟨rfl, h0⟩ | ⟨b, off, c, x, rfl, h2, h3, h4, h5, h6, h7, h8, h9⟩
  · obtain ⟨a, n, c⟩ := p
    obtain rfl : n = 0 := h0
    have hg := grow_nil 0 (by omega)
    have HG := Lib.hid hg
    clear hg
    go_enter Tryz.func166, Tryz.ntmps166
    go_wp2
    refine wp_loop_rounds 1 ?_
    rw [rounds_succ]
    go_wp2_with fail
    refine (HG.out w).mono ?_
    rintro e w1 ⟨a', c', rfl, ho, f1⟩
    go_wp2
    refine wp_loop_rounds 1 ?_
    rw [rounds_succ]
    go_wp2
    go_ret
    exact ⟨(a', 0, c'), rfl, ho, f1⟩
  · obtain ⟨xa, n, xc⟩ := x
    obtain ⟨m, hm⟩ : ∃ m, l.length = m := ⟨_, rfl⟩
    obtain rfl : n = m := by rw [← hm]; exact h6
    rw [hm] at hl
    have HM := Lib.hid hm
    have HQ := Lib.hid (show RowV w (.slice xa n xc) n 1 (bsV l) from by have := h5; unfold Bs at this; rw [hm] at this; exact this)
    have c1 : w.cell? ⟨b, off, none⟩ = some (.slice xa n xc) := h4
    have C1 := Lib.hid c1
    have hw : IntKind.i64.wrap ((0 : Int) + n) = n := by rw [IntWalk.i64_in _ (by omega)]; omega
    have hw1 : IntKind.i64.wrap (n : Int) = n := IntWalk.i64_in _ (by omega)
    have hn0 : ¬ (n : Int) < 0 := by omega
    have HG := Lib.hid (grow_nil n (by omega) w)
    clear h4 h5 h6 h7 h8 h9 hm
    go_enter Tryz.func166, Tryz.ntmps166
    go_wp2
    refine wp_loop_rounds 2 ?_
    rw [rounds_succ]
    go_wp2
    rw [rounds_succ]
    go_wp2_with fail
    refine HG.out.mono ?_
    rintro e w1 ⟨a', c', rfl, ho, f1⟩
    have HO := Lib.hid ho
    have HF := Lib.hid f1
    have c2 := f1.keep c1 (by simp)
    clear ho f1 c1
    go_wp2
    refine wp_loop_rounds 2 ?_
    rw [rounds_succ]
    go_upto_region 13 with fail
    refine wp_region_lit ?_
    refine wpList_plain rfl (fun K hK => ?_); go_simp; refine hK _ _ ?_; clear hK K
    refine wpList_plain rfl (fun K hK => ?_); go_simp; refine hK _ _ ?_; clear hK K
    try simp only [Act.put, qj1, qj2, qj3, qj4, qj5, qj6]
    refine wpList_append_any elemU8 rfl (.tmp 31) (.tmp 32) rfl w.heap.size (v := .slice a' 0 c') (n := 0) (xs := []) rfl HO.out (X := .slice xa n xc) (m := n) (news := bsV l) rfl (HQ.out.new HF.out) (bsV_one l) (by omega) (by decide) (by have := HF.out.size; omega) ?_
    intro s' w2 ho f2
    have HO2 := Lib.hid (show BsO w2 w.heap.size s' l from by have := ho; rw [Nat.zero_add, List.nil_append] at this; unfold BsO; rw [HM.out]; exact this)
    have HF2 := Lib.hid (HF.out.trans f2 (fun x hx hl => by
      have := World.ownsRow.lt HO.out x (by simpa using hx)
      omega))
    clear ho f2
    try simp only [Act.put, qj1, qj2, qj3, qj4, qj5, qj6]
    refine wpList_plain rfl (fun K hK => ?_); go_simp; refine hK _ _ ?_; clear hK K
    refine wpList_nil ?_
    try simp only [Act.put, qj1, qj2, qj3, qj4, qj5, qj6]
    go_wp2
    rw [rounds_succ]
    go_wp2
    go_ret
    exact ⟨s', rfl, HO2.out, HF2.out⟩
theorem ropeBytes_any {w : World} {own : Nat → Nat} {p : Sli} {l : List UInt8} (h : RopeB w own p l) (hl : l.length ≤ 65536) (k : Nat) :
    Calls Tryz.prog 149 #[.agg #[.slice p.1 p.2.1 p.2.2, .int .i64 k]] w (BytesOut l w) := by
  have fA : Fr [] w (w.alloc (.cells #[.slice p.1 p.2.1 p.2.2, .int .i64 k] 128)) := (Fr.refl [] w).alloc _
  have HC := Lib.hid (concat_any (h.new fA) hl)
  have HF := Lib.hid fA
  clear h fA
  go_enter Tryz.func149, Tryz.ntmps149
  go_wp2_with (go_at_call 166; refine HC.out.mono ?_; rintro e w1 ⟨v, rfl, ho, f1⟩)
  go_ret
  exact ⟨v, rfl, ho.base HF.out.size, HF.out.step f1⟩
/-- slices.Clone of bytes. -/
theorem clone_bytes {w : World} {x : Sli} {l : List UInt8} (h : Bs w x l) (hx : x.2.1 = l.length) (hn : x.1 = none → l.length = 0) (hl : l.length ≤ 65536) :
    Calls Tryz.prog 154 #[.slice x.1 x.2.1 x.2.2] w (BytesOut l w) := by
  obtain ⟨xa, n, xc⟩ := x
  obtain rfl : n = l.length := hx
  obtain ⟨m, hm⟩ : ∃ m, l.length = m := ⟨_, rfl⟩
  have HM := Lib.hid hm
  have HQ := Lib.hid (show RowV w (.slice xa m xc) m 1 (bsV l) from by have := h; unfold Bs at this; rw [hm] at this; exact this)
  rw [hm] at hl ⊢
  have hn' : xa = none → m = 0 := fun h0 => by rw [← hm]; exact hn h0
  clear h hm hn
  rcases xa with _ | ad
  · have HNIL := Lib.hid (hn' rfl)
    clear hn'
    have hnil : ∀ W : World, (binOp .eql 22 (.slice none m xc) (.slice none 0 0)).run Tryz.prog W = .ok (.bool true) W := fun W => by kernel_rfl
    go_enter Tryz.func154, Tryz.ntmps154
    go_wp2
    go_ret
    exact ⟨(none, 0, 0), rfl, by rw [List.eq_nil_of_length_eq_zero (l := l) (by rw [HM.out]; exact HNIL.out)]; exact BsO.nil _ _, Fr.refl [] w⟩
  · clear hn'
    have hnb := fun W => nilB W ad m xc
    go_enter Tryz.func154, Tryz.ntmps154
    go_upto_region 3 with fail
    refine wp_region_lit ?_
    refine wpList_plain rfl (fun K hK => ?_); go_simp; refine hK _ _ ?_; clear hK K
    refine wpList_plain rfl (fun K hK => ?_); go_simp; refine hK _ _ ?_; clear hK K
    try simp only [Act.put, qj1, qj2, qj3, qj4, qj5, qj6]
    obtain ⟨A, hA⟩ : ∃ A, w.heap.size = A := ⟨_, rfl⟩
    obtain ⟨w1, hw1⟩ : ∃ z, w.alloc (.cells #[] 5) = z := ⟨_, rfl⟩
    have hb1 : w1.heap[A]? = some (.cells #[] 5) := by rw [← hw1, ← hA]; exact heap_alloc_new w _
    have f1 : Fr [] w w1 := by rw [← hw1]; exact (Fr.refl [] w).alloc _
    first | rw [hw1] | skip
    simp only [hA]
    have ho1 : w1.ownsRow A 5 1 (.slice (some ⟨A, 0, none⟩) 0 0) 0 [] := ⟨by simp, .inr ⟨A, 0, #[], rfl, Nat.le_refl _, hb1, Nat.zero_le _, Nat.zero_le _, by simp, by simp⟩⟩
    refine wpList_append_any elemU8 rfl (.tmp 5) (.tmp 6) rfl A (v := .slice (some ⟨A, 0, none⟩) 0 0) (n := 0) (xs := []) rfl ho1 (X := .slice (some ad) m xc) (m := m) (news := bsV l) rfl (HQ.out.new f1) (bsV_one l) (by omega) (by decide) (by have := f1.size; omega) ?_
    intro s' w2 ho f2
    have HO2 := Lib.hid (show BsO w2 w.heap.size s' l from by have := ho; rw [Nat.zero_add, List.nil_append] at this; unfold BsO; rw [HM.out, hA]; exact this)
    have HF2 := Lib.hid (f1.trans f2 (fun x hx hl => by simp [Value.ownBlock] at hx; omega))
    clear ho f2 ho1 hb1 f1 hw1 hA
    try simp only [Act.put, qj1, qj2, qj3, qj4, qj5, qj6]
    refine wpList_plain rfl (fun K hK => ?_); go_simp; refine hK _ _ ?_; clear hK K
    refine wpList_nil ?_
    try simp only [Act.put, qj1, qj2, qj3, qj4, qj5, qj6]
    go_wp2
    go_ret
    exact ⟨s', rfl, HO2.out, HF2.out⟩
end Go.Proofs.YtmdhlodafjpnmaaGreat
namespace Go.Proofs.YtmdhlodafjpnmaaGreat
open List renaming getElem_toArray → qj1, getElem_cons_succ → qj2, getElem_cons_zero → qj3, setIfInBounds_toArray → qj4, set_cons_zero → qj5, set_cons_succ → qj6
open Go.RowKit
set_option linter.unusedVariables false
set_option linter.unusedSimpArgs false
set_option maxRecDepth 100000
set_option maxHeartbeats 4000000

/-- bytes.Clone. -/
theorem bclone_bytes {w : World} {x : Sli} {l : List UInt8} (h : Bs w x l) (hx : x.2.1 = l.length) (hn : x.1 = none → l.length = 0) (hl : l.length ≤ 65536) :
    Calls Tryz.prog 112 #[.slice x.1 x.2.1 x.2.2] w (BytesOut l w) := by
  obtain ⟨xa, n, xc⟩ := x
  obtain rfl : n = l.length := hx
  obtain ⟨m, hm⟩ : ∃ m, l.length = m := ⟨_, rfl⟩
  have HM := Lib.hid hm
  have HQ := Lib.hid (show RowV w (.slice xa m xc) m 1 (bsV l) from by have := h; unfold Bs at this; rw [hm] at this; exact this)
  rw [hm] at hl ⊢
  have hn' : xa = none → m = 0 := fun h0 => by rw [← hm]; exact hn h0
  clear h hm hn
  rcases xa with _ | ad
  · have HNIL := Lib.hid (hn' rfl)
    clear hn'
    have hnil : ∀ W : World, (binOp .eql 22 (.slice none m xc) (.slice none 0 0)).run Tryz.prog W = .ok (.bool true) W := fun W => by kernel_rfl
    go_enter Tryz.func112, Tryz.ntmps112
    go_wp2
    go_ret
    exact ⟨(none, 0, 0), rfl, by rw [List.eq_nil_of_length_eq_zero (l := l) (by rw [HM.out]; exact HNIL.out)]; exact BsO.nil _ _, Fr.refl [] w⟩
  · clear hn'
    have hnb := fun W => nilB W ad m xc
    go_enter Tryz.func112, Tryz.ntmps112
    go_upto_region 3 with fail
    refine wp_region_lit ?_
    refine wpList_plain rfl (fun K hK => ?_); go_simp; refine hK _ _ ?_; clear hK K
    refine wpList_plain rfl (fun K hK => ?_); go_simp; refine hK _ _ ?_; clear hK K
    try simp only [Act.put, qj1, qj2, qj3, qj4, qj5, qj6]
    obtain ⟨A, hA⟩ : ∃ A, w.heap.size = A := ⟨_, rfl⟩
    obtain ⟨w1, hw1⟩ : ∃ z, w.alloc (.cells #[] 5) = z := ⟨_, rfl⟩
    have hb1 : w1.heap[A]? = some (.cells #[] 5) := by rw [← hw1, ← hA]; exact heap_alloc_new w _
    have f1 : Fr [] w w1 := by rw [← hw1]; exact (Fr.refl [] w).alloc _
    first | rw [hw1] | skip
    simp only [hA]
    have ho1 : w1.ownsRow A 5 1 (.slice (some ⟨A, 0, none⟩) 0 0) 0 [] := ⟨by simp, .inr ⟨A, 0, #[], rfl, Nat.le_refl _, hb1, Nat.zero_le _, Nat.zero_le _, by simp, by simp⟩⟩
    refine wpList_append_any elemU8 rfl (.tmp 5) (.tmp 6) rfl A (v := .slice (some ⟨A, 0, none⟩) 0 0) (n := 0) (xs := []) rfl ho1 (X := .slice (some ad) m xc) (m := m) (news := bsV l) rfl (HQ.out.new f1) (bsV_one l) (by omega) (by decide) (by have := f1.size; omega) ?_
    intro s' w2 ho f2
    have HO2 := Lib.hid (show BsO w2 w.heap.size s' l from by have := ho; rw [Nat.zero_add, List.nil_append] at this; unfold BsO; rw [HM.out, hA]; exact this)
    have HF2 := Lib.hid (f1.trans f2 (fun x hx hl => by simp [Value.ownBlock] at hx; omega))
    clear ho f2 ho1 hb1 f1 hw1 hA
    try simp only [Act.put, qj1, qj2, qj3, qj4, qj5, qj6]
    refine wpList_plain rfl (fun K hK => ?_); go_simp; refine hK _ _ ?_; clear hK K
    refine wpList_nil ?_
    try simp only [Act.put, qj1, qj2, qj3, qj4, qj5, qj6]
    go_wp2
    go_ret
    exact ⟨s', rfl, HO2.out, HF2.out⟩
theorem elemSl : Elem Tryz.prog 126 22 1 24 := Elem.mk' Tryz.underlying126 (z := .slice none 0 0) (by kernel_rfl) rfl (by decide)
theorem rope_mk {w : World} {own : Nat → Nat} {B B' : Nat} {p x : Sli} {l : List UInt8} (hp : w.ownsRow B 22 1 (slv p) 1 [slv x]) (hx : BsO w B' x l) (hl : 0 < l.length) (hB : ∀ z, B ≤ z → own z = 3) (hBB : B ≤ B') : RopeB w own p l := by
  obtain ⟨a, n, c⟩ := p
  rcases hp.2 with ⟨_, h0⟩ | ⟨g, cap, cur, he, h1, h2, h3, h4, h5⟩
  · cases h0
  simp only [slv, Value.slice.injEq] at he
  obtain ⟨rfl, rfl, rfl⟩ := he
  have hc := World.ownsRow.cells hp (g := g) rfl 0 (slv x) rfl
  rw [Addr.add_lit, Nat.zero_add] at hc
  obtain ⟨xa, xn, xc⟩ := x
  rcases hx.2 with ⟨_, h0⟩ | ⟨g2, cap2, cur2, he2, k1, k2, k3, k4, k5⟩
  · omega
  simp only [slv, Value.slice.injEq] at he2
  obtain ⟨rfl, rfl, rfl⟩ := he2
  exact .inr ⟨g, 0, c, _, rfl, h3, hB _ h1, hc, hx.bs, rfl, k3, hl, fun z hz => by
    simp [slv, Value.ownBlock] at hz
    subst hz
    exact hB _ (Nat.le_trans hBB k1)⟩
def RopeOut (own : Nat → Nat) (l : List UInt8) (w : World) (e : Ending) (w' : World) : Prop := ∃ (p : Sli) (own' : Nat → Nat), e = .returned (.tuple #[.agg #[.slice p.1 p.2.1 p.2.2, .int .i64 l.length], .int .i64 0]) ∧ RopeB w' own' p l ∧ Ext w own own' ∧ Fr [] w w'
theorem ropeNew_any (own : Nat → Nat) {w : World} {b : Nat} {x : Sli} {l : List UInt8} (hb : w.cell? ⟨b, 0, none⟩ = some (slv x)) (h : Bs w x l) (hx : x.2.1 = l.length) (hn : x.1 = none → l.length = 0) (hl : l.length ≤ 65536) :
    Calls Tryz.prog 68 #[.slice (some ⟨b, 0, none⟩) 1 1] w (RopeOut own l w) := by
  obtain ⟨xa, n, xc⟩ := x
  obtain rfl : n = l.length := hx
  obtain ⟨m, hm⟩ : ∃ m, l.length = m := ⟨_, rfl⟩
  have HM := Lib.hid hm
  have HX := Lib.hid h
  have HNIL := Lib.hid hn
  rw [hm] at hl
  have c1 : w.cell? ⟨b, 0, none⟩ = some (.slice xa m xc) := by rw [hb, slv, hm]
  have hbig : ¬ (65536 : Int) < m := by omega
  have hbig2 : ¬ 65536 < m := by omega
  obtain ⟨A, hA⟩ : ∃ A, w.heap.size = A := ⟨_, rfl⟩
  obtain ⟨wA, hwA⟩ : ∃ z, w.alloc (.cells #[.slice none 0 0, .int .i64 0] 128) = z := ⟨_, rfl⟩
  have hbA : Blk wA A 128 [.slice none 0 0, .int .i64 0] := by rw [← hwA, ← hA]; exact Blk.made w 128 _
  have fA : Fr [] w wA := by rw [← hwA]; exact (Fr.refl [] w).alloc _
  have k1 : wA.cell? ⟨b, 0, none⟩ = some (.slice xa m xc) := fA.keep c1 (by simp)
  have HBA := Lib.hid hbA
  have HFA := Lib.hid fA
  have HWA := Lib.hid hwA
  have HA := Lib.hid hA
  have HOF := Lib.hid (fun (W : World) (p : Sli) (ow : Nat → Nat) (hp : RopeB W ow p l) => ropeOf_any hp (by omega))
  clear h hn hm hbA fA hwA hA hb c1
  go_enter Tryz.func68, Tryz.ntmps68
  go_upto_region 1 with fail
  rw [HWA.out]
  simp only [HA.out]
  go_wp2
  refine wp_loop_rounds 2 ?_
  rw [rounds_succ]
  by_cases h0 : m = 0
  · have hz : ¬ 0 < m := by omega
    have hzi : ¬ (0 : Int) < m := by omega
    have hd : decide ((0 : Int) < m) = false := decide_eq_false hzi
    have HOWN := Lib.hid (show (fun z => if z < w.heap.size then own z else 4) A ≠ 3 from by have := HA.out; simp only; rw [if_neg (by omega)]; omega)
    have HLZ := Lib.hid (show l = [] from List.eq_nil_of_length_eq_zero (by rw [HM.out]; exact h0))
    go_wp2
    rw [rounds_succ]
    have HBL := HBA
    go_upto_region 10 with fail
    refine wp_region_lit ?_
    refine wpList_plain rfl (fun K hK => ?_); go_simp; refine hK _ _ ?_; clear hK K
    refine wpList_plain rfl (fun K hK => ?_)
    go_simp
    refine (HOF.out wA ((none, 0, 0) : Sli) (fun z => if z < w.heap.size then own z else 4) (show RopeB wA (fun z => if z < w.heap.size then own z else 4) (none, 0, 0) l from by rw [HLZ.out]; exact RopeB.nil _ _)).mono ?_
    rintro e wE ⟨rfl, fE⟩
    refine hK _ _ ?_
    clear hK K
    try simp only [Act.put, qj1, qj2, qj3, qj4, qj5, qj6]
    refine wpList_plain rfl (fun K hK => ?_); go_simp; refine hK _ _ ?_; clear hK K
    refine wpList_plain rfl (fun K hK => ?_); go_simp; refine hK _ _ ?_; clear hK K
    try simp only [Act.put, qj1, qj2, qj3, qj4, qj5, qj6]
    have hbE := HBL.out.keep fE (by simp)
    obtain ⟨wF, hst, hb_, hf_⟩ := store_all (t := 128) [.slice (((none, 0, 0) : Sli)).1 (((none, 0, 0) : Sli)).2.1 (((none, 0, 0) : Sli)).2.2, .int .i64 (l.length : Nat)] sizeRope rfl (rope_one _ _ _ _) hbE rfl
    refine wpList_skp rfl (w' := wF) ?_ ?_
    · show Sem.run Tryz.prog ((Instr.storeAt 128 (.pointer (some ⟨A, 0, none⟩)) (.agg #[.slice (((none, 0, 0) : Sli)).1 (((none, 0, 0) : Sli)).2.1 (((none, 0, 0) : Sli)).2.2, .int .i64 (l.length : Nat)])) >>= fun _ => pure Next.skip) _ = _
      rw [Sem.run_bind, hst]
      rfl
    clear hst
    try simp only [Act.put, qj1, qj2, qj3, qj4, qj5, qj6]
    refine wpList_plain rfl (fun K hK => ?_); go_simp; refine hK _ _ ?_; clear hK K
    refine wpList_nil ?_
    try simp only [Act.put, qj1, qj2, qj3, qj4, qj5, qj6]
    have hl := load_var aggRope sizeRope (xs := [.slice (((none, 0, 0) : Sli)).1 (((none, 0, 0) : Sli)).2.1 (((none, 0, 0) : Sli)).2.2, .int .i64 (l.length : Nat)]) rfl hb_.at
    go_wp2
    refine bodyPost_ret (v := .tuple #[.agg #[.slice (((none, 0, 0) : Sli)).1 (((none, 0, 0) : Sli)).2.1 (((none, 0, 0) : Sli)).2.2, .int .i64 (l.length : Nat)], .int .i64 0]) (by simp [results, Tryz.results68, as_addr, hl]) rfl ?_
    have fA : Fr [] w wF := (HFA.out.step fE).trans hf_ (fun x hx hl => by rw [List.mem_singleton] at hx; have := HA.out; omega)
    exact ⟨((none, 0, 0) : Sli), (fun z => if z < w.heap.size then own z else 4), rfl, (((show RopeB wA (fun z => if z < w.heap.size then own z else 4) (none, 0, 0) l from by rw [HLZ.out]; exact RopeB.nil _ _)).new fE).keep hf_ (fun z hz hlt => by rw [List.mem_singleton] at hz; subst hz; exact HOWN.out), (fun z hz => if_pos hz), fA⟩
  · have hz : 0 < m := by omega
    have hzi : (0 : Int) < m := by omega
    have hd : decide ((0 : Int) < m) = true := decide_eq_true hzi
    have h0le : ¬ (1024 : Int) < 0 := by omega
    go_upto_region 8 with fail
    refine wp_region_lit ?_
    refine wpList_plain rfl (fun K hK => ?_); go_simp; refine hK _ _ ?_; clear hK K
    refine wpList_plain rfl (fun K hK => ?_); go_simp; refine hK _ _ ?_; clear hK K
    refine wpList_plain rfl (fun K hK => ?_)
    go_simp
    refine (bclone_bytes (x := (xa, m, xc)) (l := l) (by have := HX.out; rw [HM.out] at this; exact this.new HFA.out) HM.out.symm (fun h => HNIL.out h) (by rw [HM.out]; exact hl)).mono ?_
    rintro e w1 ⟨v, rfl, ho, f1⟩
    have HO := Lib.hid ho
    have HF1 := Lib.hid f1
    clear ho f1
    obtain ⟨va, vn, vc⟩ := v
    simp only [slv]
    refine hK _ _ ?_
    clear hK K
    try simp only [Act.put, qj1, qj2, qj3, qj4, qj5, qj6]
    refine wpList_plain rfl (fun K hK => ?_); go_simp; refine hK _ _ ?_; clear hK K
    try simp only [Act.put, qj1, qj2, qj3, qj4, qj5, qj6]
    obtain ⟨C, hA_⟩ : ∃ A, w1.heap.size = A := ⟨_, rfl⟩
    obtain ⟨w2, hw_⟩ : ∃ z, w1.alloc (.cells #[.slice va vn vc] 22) = z := ⟨_, rfl⟩
    have hB_ : Blk w2 C 22 [.slice va vn vc] := by rw [← hw_, ← hA_]; exact Blk.made w1 22 _
    have hF_ : Fr [] w1 w2 := by rw [← hw_]; exact (Fr.refl [] w1).alloc _
    rw [hw_]
    simp only [hA_]
    have HC := Lib.hid hA_
    have HBC := Lib.hid hB_
    have HFw2 := Lib.hid hF_
    clear hA_ hw_ hB_ hF_
    refine wpList_append_any elemSl rfl (.tmp 26) (.tmp 29) rfl w2.heap.size (v := .slice none 0 0) (n := 0) (xs := []) rfl (World.ownsRow_nil _ _ _ _) (X := .slice (some ⟨C, 0, none⟩) 1 1) (m := 1) (news := [.slice va vn vc]) rfl (RowV.of_own (base := 0) (e := 22) ⟨rfl, .inr ⟨C, 1, #[.slice va vn vc], rfl, Nat.zero_le _, HBC.out, Nat.le_refl _, by decide, rfl, rfl⟩⟩) (fun u hu => by rw [List.mem_singleton] at hu; rw [hu]; rfl) (by decide) (by decide) (Nat.le_refl _) ?_
    intro p w3 hp f3
    have HP := Lib.hid hp
    have HF3 := Lib.hid (show Fr [] wA w3 from (HF1.out.step HFw2.out).trans f3 (fun x hx hl => by cases hx))
    have HO3 := Lib.hid (HO.out.new (HFw2.out.trans f3 (fun x hx hl => by cases hx)))
    have HG := Lib.hid (show w.heap.size < wA.heap.size ∧ wA.heap.size ≤ w2.heap.size from ⟨by have := HBA.out.lt; have := HA.out; omega, (HF1.out.step HFw2.out).size⟩)
    have HBL := Lib.hid (HBA.out.keep HF3.out (by simp))
    have HFL := Lib.hid (HFA.out.step HF3.out)
    clear hp f3 HO HF1 HFw2 HBC HBA
    try simp only [Act.put, qj1, qj2, qj3, qj4, qj5, qj6]
    refine wpList_plain rfl (fun K hK => ?_); go_simp; refine hK _ _ ?_; clear hK K
    refine wpList_nil ?_
    try simp only [Act.put, qj1, qj2, qj3, qj4, qj5, qj6]
    obtain ⟨own2, hown2⟩ : ∃ o : Nat → Nat, o = (fun z => if z < w.heap.size then own z else if z = A then 4 else 3) := ⟨_, rfl⟩
    have HOWN := Lib.hid (show own2 A ≠ 3 from by rw [hown2]; have := HA.out; simp only; rw [if_neg (by omega)]; simp)
    have HEXT := Lib.hid (show Ext w own own2 from fun z hz => by rw [hown2]; exact if_pos hz)
    have HR := Lib.hid (show RopeB w3 own2 p l from rope_mk (B := wA.heap.size) (B' := wA.heap.size) (rowBase HP.out (by have := HG.out; omega)) HO3.out (by rw [HM.out]; exact hz) (fun z hz => by have := HG.out; have := HA.out; rw [hown2]; simp only; rw [if_neg (by omega), if_neg (by omega)]) (Nat.le_refl _))
    clear hown2
    go_wp2
    rw [rounds_succ]
    go_upto_region 10 with fail
    refine wp_region_lit ?_
    refine wpList_plain rfl (fun K hK => ?_); go_simp; refine hK _ _ ?_; clear hK K
    refine wpList_plain rfl (fun K hK => ?_)
    go_simp
    refine (HOF.out w3 p own2 HR.out).mono ?_
    rintro e wE ⟨rfl, fE⟩
    refine hK _ _ ?_
    clear hK K
    try simp only [Act.put, qj1, qj2, qj3, qj4, qj5, qj6]
    refine wpList_plain rfl (fun K hK => ?_); go_simp; refine hK _ _ ?_; clear hK K
    refine wpList_plain rfl (fun K hK => ?_); go_simp; refine hK _ _ ?_; clear hK K
    try simp only [Act.put, qj1, qj2, qj3, qj4, qj5, qj6]
    have hbE := HBL.out.keep fE (by simp)
    obtain ⟨wF, hst, hb_, hf_⟩ := store_all (t := 128) [.slice (p).1 (p).2.1 (p).2.2, .int .i64 (l.length : Nat)] sizeRope rfl (rope_one _ _ _ _) hbE rfl
    refine wpList_skp rfl (w' := wF) ?_ ?_
    · show Sem.run Tryz.prog ((Instr.storeAt 128 (.pointer (some ⟨A, 0, none⟩)) (.agg #[.slice (p).1 (p).2.1 (p).2.2, .int .i64 (l.length : Nat)])) >>= fun _ => pure Next.skip) _ = _
      rw [Sem.run_bind, hst]
      rfl
    clear hst
    try simp only [Act.put, qj1, qj2, qj3, qj4, qj5, qj6]
    refine wpList_plain rfl (fun K hK => ?_); go_simp; refine hK _ _ ?_; clear hK K
    refine wpList_nil ?_
    try simp only [Act.put, qj1, qj2, qj3, qj4, qj5, qj6]
    have hl := load_var aggRope sizeRope (xs := [.slice (p).1 (p).2.1 (p).2.2, .int .i64 (l.length : Nat)]) rfl hb_.at
    go_wp2
    refine bodyPost_ret (v := .tuple #[.agg #[.slice (p).1 (p).2.1 (p).2.2, .int .i64 (l.length : Nat)], .int .i64 0]) (by simp [results, Tryz.results68, as_addr, hl]) rfl ?_
    have fA : Fr [] w wF := (HFL.out.step fE).trans hf_ (fun x hx hl => by rw [List.mem_singleton] at hx; have := HA.out; omega)
    exact ⟨p, own2, rfl, ((HR.out).new fE).keep hf_ (fun z hz hlt => by rw [List.mem_singleton] at hz; subst hz; exact HOWN.out), HEXT.out, fA⟩
end Go.Proofs.YtmdhlodafjpnmaaGreat
namespace Go.Proofs.YtmdhlodafjpnmaaGreat
open List renaming getElem_toArray → qj1, getElem_cons_succ → qj2, getElem_cons_zero → qj3, setIfInBounds_toArray → qj4, set_cons_zero → qj5, set_cons_succ → qj6
open Go.RowKit
set_option linter.unusedVariables false
set_option linter.unusedSimpArgs false
set_option maxRecDepth 100000
set_option maxHeartbeats 4000000

section
variable {P : Program} {o : Oper} {a : Act} {w w' : World} {v : Value}
theorem exec_slice_up {t : TypeId} {x hi : Operand} {V H : Value} (ho : o.op = .slice t x none (some hi) none) (hx : a.eval x = V) (hh : a.eval hi = H) (ht : P.underlying t = some (.slice (P.elem t))) (hrun : (Instr.slice t V none (some H) none).run P w = .ok v w') : (execOp a.eval o).run P w = .ok (.value v) w' := by
  simp [execOp, ho, hx, hh, run_sliceAt_slice w t V none (some H) none ht, hrun]
end
theorem bs_upto {w : World} {a : Option Addr} {n cap : Nat} {src : List UInt8} (h : Bs w (a, n, cap) src) (hn : src.length = n) (hcap : n ≤ cap) (hi : Nat) (h2 : hi ≤ n) :
    ∃ a', (∀ W : World, (Instr.slice 22 (.slice a n cap) none (some (.int .i64 hi)) none).run Tryz.prog W = .ok (.slice a' hi cap) W) ∧ Bs w (a', hi, cap) (src.take hi) ∧ (∀ b, (slv (a', hi, cap)).ownBlock = some b → (slv (a, n, cap)).ownBlock = some b) := by
  have hsz : ∀ W : World, (sizeOf (Tryz.prog.elem 22)).run Tryz.prog W = .ok 1 W := fun W => by kernel_rfl
  obtain ⟨a', h3, h4, h5⟩ := bs_slice h hn hcap 0 hi (Nat.zero_le _) h2
  refine ⟨a', fun W => ?_, by simpa using h4, by simpa using h5⟩
  have h6 := h3 W
  rw [run_slice_lh W 22 a n cap und22 .i64 .i64 (0 : Nat) hi (by omega) (by omega) (by omega), hsz] at h6
  rw [run_slice_h W 22 a n cap und22 .i64 hi (by omega) (by omega), hsz]
  simpa using h6
theorem bs_rest {w : World} {a : Option Addr} {n cap : Nat} {src : List UInt8} (h : Bs w (a, n, cap) src) (hn : src.length = n) (hcap : n ≤ cap) (lo : Nat) (h2 : lo ≤ n) :
    ∃ a', (∀ W : World, (Instr.slice 22 (.slice a n cap) (some (.int .i64 lo)) none none).run Tryz.prog W = .ok (.slice a' (n - lo) (cap - lo)) W) ∧ Bs w (a', n - lo, cap - lo) (src.drop lo) ∧ (∀ b, (slv (a', n - lo, cap - lo)).ownBlock = some b → (slv (a, n, cap)).ownBlock = some b) := by
  have hsz : ∀ W : World, (sizeOf (Tryz.prog.elem 22)).run Tryz.prog W = .ok 1 W := fun W => by kernel_rfl
  obtain ⟨a', h3, h4, h5⟩ := bs_slice h hn hcap lo n h2 (Nat.le_refl _)
  rw [List.take_of_length_le (by rw [List.length_drop]; omega)] at h4
  refine ⟨a', fun W => ?_, h4, h5⟩
  have h6 := h3 W
  rw [run_slice_lh W 22 a n cap und22 .i64 .i64 lo n (by omega) (by omega) (by omega), hsz] at h6
  rw [run_slice_l W 22 a n cap und22 .i64 lo (by omega) (by omega), hsz]
  simpa using h6
theorem und81 : Tryz.prog.underlying 126 = some (.slice (Tryz.prog.elem 126)) := by kernel_rfl
theorem rope_mk2 {w : World} {own : Nat → Nat} {B : Nat} {p x : Sli} {l : List UInt8} (hp : w.ownsRow B 22 1 (slv p) 1 [slv x]) (hx : Bs w x l) (hxl : x.2.1 = l.length) (hxc : x.2.1 ≤ x.2.2) (hl : 0 < l.length) (hB : ∀ z, B ≤ z → own z = 3) (h3 : ∀ g, (slv x).ownBlock = some g → own g = 3) : RopeB w own p l := by
  obtain ⟨a, n, c⟩ := p
  rcases hp.2 with ⟨_, h0⟩ | ⟨g, cap, cur, he, h1, h2, h3', h4, h5⟩
  · cases h0
  simp only [slv, Value.slice.injEq] at he
  obtain ⟨rfl, rfl, rfl⟩ := he
  have hc := World.ownsRow.cells hp (g := g) rfl 0 (slv x) rfl
  rw [Addr.add_lit, Nat.zero_add] at hc
  exact .inr ⟨g, 0, c, x, rfl, h3', hB _ h1, hc, hx, hxl, hxc, hl, h3⟩
/-- The first element of a row of one, stored. -/
theorem own_set0 {w : World} {B g c : Nat} {u v : Value} (h : w.ownsRow B 22 1 (.slice (some ⟨g, 0, none⟩) 1 c) 1 [u]) (hv : v.cells = #[v]) (h1 : v.oneCell' = true) :
    ∃ w', (Instr.storeAt 22 (.pointer (some ⟨g, 0, none⟩)) v).run Tryz.prog w = .ok () w' ∧ w'.ownsRow B 22 1 (.slice (some ⟨g, 0, none⟩) 1 c) 1 [v] ∧ Fr [g] w w' := by
  rcases h.2 with ⟨_, h0⟩ | ⟨g', cap, cur, he, h2, h3, h4, h5, h6, h7⟩
  · cases h0
  simp only [Value.slice.injEq, Option.some.injEq, Addr.mk.injEq] at he
  obtain ⟨⟨rfl, _⟩, _, rfl⟩ := he
  have hb : Blk w g 22 cur.toList := by unfold Blk; rw [h3]
  have hlen : cur.toList.length = c * 1 := by simpa using h6
  obtain ⟨w', k1, k2, k3⟩ := store_cell (t := 22) (o := 0) v size22 hv h1 hb (by omega)
  refine ⟨w', k1, ⟨rfl, .inr ⟨g, c, _, rfl, h2, k2, h4, h5, ?_, ?_⟩⟩, k3⟩
  · simp only [List.size_toArray, List.length_append, List.length_take, List.length_drop, List.length_cons, List.length_nil]
    omega
  · simp
/-- slices.Clone of a row of slices. -/
theorem clone_parts {w : World} {ad : Addr} {n c : Nat} {xs : List Value} (h : RowV w (.slice (some ad) n c) n 1 xs) (h1 : ∀ u ∈ xs, u.oneCell' = true) (hn : n ≤ 1000) :
    Calls Tryz.prog 214 #[.slice (some ad) n c] w fun e w' => ∃ (a' : Option Addr) (c' : Nat), e = .returned (.slice a' n c') ∧ w'.ownsRow w.heap.size 22 1 (.slice a' n c') n xs ∧ Fr [] w w' := by
  have HQ := Lib.hid h
  have H1 := Lib.hid h1
  have hnb : ∀ W : World, (binOp .eql 126 (.slice (some ad) n c) (.slice none 0 0)).run Tryz.prog W = .ok (.bool false) W := fun W => Lib.run_eql_slice_nil W _ _ (some ad) n c 0 0 Tryz.underlying126
  clear h h1
  go_enter Tryz.func214, Tryz.ntmps214
  go_upto_region 3 with fail
  refine wp_region_lit ?_
  refine wpList_plain rfl (fun K hK => ?_); go_simp; refine hK _ _ ?_; clear hK K
  refine wpList_plain rfl (fun K hK => ?_); go_simp; refine hK _ _ ?_; clear hK K
  try simp only [Act.put, qj1, qj2, qj3, qj4, qj5, qj6]
  obtain ⟨A, hA⟩ : ∃ A, w.heap.size = A := ⟨_, rfl⟩
  obtain ⟨w1, hw1⟩ : ∃ z, w.alloc (.cells #[] 22) = z := ⟨_, rfl⟩
  have hb1 : w1.heap[A]? = some (.cells #[] 22) := by rw [← hw1, ← hA]; exact heap_alloc_new w _
  have f1 : Fr [] w w1 := by rw [← hw1]; exact (Fr.refl [] w).alloc _
  first | rw [hw1] | skip
  simp only [hA]
  have ho1 : w1.ownsRow A 22 1 (.slice (some ⟨A, 0, none⟩) 0 0) 0 [] := ⟨by simp, .inr ⟨A, 0, #[], rfl, Nat.le_refl _, hb1, Nat.zero_le _, Nat.zero_le _, by simp, by simp⟩⟩
  refine wpList_append_any elemSl rfl (.tmp 5) (.tmp 6) rfl A (v := .slice (some ⟨A, 0, none⟩) 0 0) (n := 0) (xs := []) rfl ho1 (X := .slice (some ad) n c) (m := n) (news := xs) rfl (HQ.out.new f1) H1.out (by omega) (by decide) (by have := f1.size; omega) ?_
  intro s' w2 ho f2
  obtain ⟨sa, sn, sc⟩ := s'
  rw [Nat.zero_add, List.nil_append] at ho
  obtain rfl : sn = n := by
    obtain ⟨a', c', he⟩ := RowV.val (RowV.of_own ho)
    simp only [slv, Value.slice.injEq] at he
    exact he.2.1
  have HO2 := Lib.hid (show w2.ownsRow w.heap.size 22 1 (.slice sa sn sc) sn xs from by rw [hA]; exact ho)
  have HF2 := Lib.hid (f1.trans f2 (fun x hx hl => by simp [Value.ownBlock] at hx; omega))
  simp only [slv]
  clear ho f2 ho1 hb1 f1 hw1 hA
  try simp only [Act.put, qj1, qj2, qj3, qj4, qj5, qj6]
  refine wpList_plain rfl (fun K hK => ?_); go_simp; refine hK _ _ ?_; clear hK K
  refine wpList_nil ?_
  try simp only [Act.put, qj1, qj2, qj3, qj4, qj5, qj6]
  go_wp2
  go_ret
  exact ⟨sa, sc, rfl, HO2.out, HF2.out⟩
def TakeOut (own : Nat → Nat) (l : List UInt8) (m : Nat) (w : World) (e : Ending) (w' : World) : Prop := ∃ (p1 p2 : Sli) (own' : Nat → Nat), e = .returned (.tuple #[.agg #[.slice p1.1 p1.2.1 p1.2.2, .int .i64 (l.take m).length], .agg #[.slice p2.1 p2.2.1 p2.2.2, .int .i64 (l.drop m).length], .int .i64 0]) ∧ RopeB w' own' p1 (l.take m) ∧ RopeB w' own' p2 (l.drop m) ∧ Ext w own own' ∧ Fr [] w w'
theorem ropeTake_any {w : World} {own : Nat → Nat} {p : Sli} {l : List UInt8} (h : RopeB w own p l) (hl : l.length ≤ 65536) (m : Nat) (hmm : m ≤ 1000000) :
    Calls Tryz.prog 213 #[.agg #[.slice p.1 p.2.1 p.2.2, .int .i64 l.length], .int .i64 m] w (TakeOut own l m w) := by
  obtain ⟨pa, pn, pc⟩ := p
  obtain ⟨n, hn⟩ : ∃ n, l.length = n := ⟨_, rfl⟩
  have HN := Lib.hid hn
  have HR := Lib.hid h
  rw [hn] at hl ⊢
  obtain ⟨X, hX⟩ : ∃ A, w.heap.size = A := ⟨_, rfl⟩
  obtain ⟨wA, hwA⟩ : ∃ z, ((w.alloc (.cells #[.slice pa pn pc, .int .i64 n] 128)).alloc (.cells #[.slice none 0 0, .int .i64 0] 128)).alloc (.cells #[.slice none 0 0, .int .i64 0] 128) = z := ⟨_, rfl⟩
  have hs1 : (w.alloc (.cells #[.slice pa pn pc, .int .i64 n] 128)).heap.size = X + 1 := by rw [← hX]; simp
  have hs2 : ((w.alloc (.cells #[.slice pa pn pc, .int .i64 n] 128)).alloc (.cells #[.slice none 0 0, .int .i64 0] 128)).heap.size = X + 2 := by rw [← hX]; simp
  have b0 : Blk wA X 128 [.slice pa pn pc, .int .i64 n] := by
    rw [← hwA, ← hX]
    exact ((Blk.made w 128 [.slice pa pn pc, .int .i64 n]).keep ((Fr.refl [] _).alloc _) (by simp)).keep ((Fr.refl [] _).alloc _) (by simp)
  have b1 : Blk wA (X + 1) 128 [.slice none 0 0, .int .i64 0] := by
    have h := Blk.made (w.alloc (.cells #[.slice pa pn pc, .int .i64 n] 128)) 128 [.slice none 0 0, .int .i64 0]
    rw [hs1] at h
    rw [← hwA]
    exact h.keep ((Fr.refl [] _).alloc _) (by simp)
  have b2 : Blk wA (X + 2) 128 [.slice none 0 0, .int .i64 0] := by
    have h := Blk.made ((w.alloc (.cells #[.slice pa pn pc, .int .i64 n] 128)).alloc (.cells #[.slice none 0 0, .int .i64 0] 128)) 128 [.slice none 0 0, .int .i64 0]
    rw [hs2] at h
    rw [← hwA]
    exact h
  have fA : Fr [] w wA := by rw [← hwA]; exact (((Fr.refl [] w).alloc _).alloc _).alloc _
  have B0 := Lib.hid b0
  have B1 := Lib.hid b1
  have B2 := Lib.hid b2
  have HFA := Lib.hid fA
  have HWA := Lib.hid hwA
  have HX := Lib.hid hX
  have k1 : wA.cell? ⟨X, 1, none⟩ = some (.int .i64 n) := b0.at 1 _ rfl
  have hm0 : ¬ (m : Int) < 0 := by omega
  have hd0 : decide ((m : Int) < 0) = false := decide_eq_false hm0
  clear h hn b0 b1 b2 fA hwA hs1 hs2 hX
  by_cases hge : n ≤ m
  · have hgi : (n : Int) ≤ m := by omega
    go_enter Tryz.func213, Tryz.ntmps213
    go_upto_region 1 with fail
    rw [HWA.out]
    simp only [HX.out]
    have hb0 := bldRope0
    go_upto_region 4 with fail
    refine wp_region_lit ?_
    refine wpList_val rfl (v := .agg ([.slice pa pn pc, .int .i64 n]).toArray) (w' := wA) ?_ ?_
    · show Sem.run Tryz.prog ((Instr.loadAt 128 (.pointer (some ⟨X, 0, none⟩))) >>= fun x => pure (Next.value x)) wA = _
      rw [Sem.run_bind, load_all aggRope sizeRope (xs := [.slice pa pn pc, .int .i64 n]) rfl B0.out.at]
      rfl
    try simp only [Act.put, qj1, qj2, qj3, qj4, qj5, qj6]
    refine wpList_plain rfl (fun K hK => ?_); go_simp; refine hK _ _ ?_; clear hK K
    try simp only [Act.put, qj1, qj2, qj3, qj4, qj5, qj6]
    obtain ⟨wB, hst, hb_, hf_⟩ := store_all (t := 128) [.slice pa pn pc, .int .i64 n] sizeRope rfl (rope_one pa pn pc n) B1.out rfl
    refine wpList_skp rfl (w' := wB) ?_ ?_
    · show Sem.run Tryz.prog ((Instr.storeAt 128 (.pointer (some ⟨X + 1, 0, none⟩)) (.agg ([.slice pa pn pc, .int .i64 n] : List Value).toArray)) >>= fun _ => pure Next.skip) _ = _
      rw [Sem.run_bind, hst]
      rfl
    clear hst
    try simp only [Act.put, qj1, qj2, qj3, qj4, qj5, qj6]
    have HB1 := Lib.hid hb_
    have HF1 := Lib.hid hf_
    have HB2 := Lib.hid (B2.out.keep hf_ (by simp))
    clear hb_ hf_
    obtain ⟨wC, hst, hb_, hf_⟩ := store_all (t := 128) [.slice none 0 0, .int .i64 0] sizeRope rfl (rope_one none 0 0 0) HB2.out rfl
    refine wpList_skp rfl (w' := wC) ?_ ?_
    · show Sem.run Tryz.prog ((Instr.storeAt 128 (.pointer (some ⟨X + 2, 0, none⟩)) (.agg #[.slice none 0 0, .int .i64 0])) >>= fun _ => pure Next.skip) _ = _
      rw [Sem.run_bind, hst]
      rfl
    clear hst
    try simp only [Act.put, qj1, qj2, qj3, qj4, qj5, qj6]
    refine wpList_plain rfl (fun K hK => ?_); go_simp; refine hK _ _ ?_; clear hK K
    refine wpList_nil ?_
    try simp only [Act.put, qj1, qj2, qj3, qj4, qj5, qj6]
    have hl1 := load_var aggRope sizeRope (xs := [.slice pa pn pc, .int .i64 n]) rfl (HB1.out.keep hf_ (by simp)).at
    have hl2 := load_var aggRope sizeRope (xs := [.slice none 0 0, .int .i64 0]) rfl hb_.at
    go_wp2
    refine bodyPost_ret (v := .tuple #[.agg #[.slice pa pn pc, .int .i64 n], .agg #[.slice none 0 0, .int .i64 0], .int .i64 0]) (by simp [results, Tryz.results213, as_addr, hl1, hl2]) rfl ?_
    have fC : Fr [] w wC := (HFA.out.trans HF1.out (fun x hx hl => by rw [List.mem_singleton] at hx; have := HX.out; omega)).trans hf_ (fun x hx hl => by rw [List.mem_singleton] at hx; have := HX.out; omega)
    have ht : l.take m = l := List.take_of_length_le (by rw [HN.out]; exact hge)
    have hd : l.drop m = [] := List.drop_of_length_le (by rw [HN.out]; exact hge)
    refine ⟨(pa, pn, pc), (none, 0, 0), own, ?_, ?_, ?_, Ext.refl _ _, fC⟩
    · rw [ht, hd, HN.out]
      rfl
    · rw [ht]
      exact HR.out.new fC
    · rw [hd]
      exact RopeB.nil _ _
  · have hlt : m < n := by omega
    have hlti : ¬ (n : Int) ≤ m := by omega
    rcases HR.out with ⟨hl0, _⟩ | ⟨b, off, c, ⟨xa, xn, xc⟩, hp, h2, h3, h4, h5, h6, h7, h8, h9⟩
    · have := HN.out
      rw [hl0] at this
      simp at this
      omega
    simp only [Prod.mk.injEq] at hp
    obtain ⟨rfl, rfl, rfl⟩ := hp
    obtain rfl : xn = n := by rw [← HN.out]; exact h6
    have hcap : xn ≤ xc := h7
    have HCAP := Lib.hid hcap
    have HX5 := Lib.hid h5
    have HX9 := Lib.hid h9
    have HC4 := Lib.hid h4
    have HNL := Lib.hid (show (l.take m).length = m ∧ (l.drop m).length = xn - m from ⟨by rw [List.length_take, HN.out]; omega, by rw [List.length_drop, HN.out]⟩)
    have hw2 : IntKind.i64.wrap ((xn : Int) - m) = ((xn - m : Nat) : Int) := by rw [IntWalk.i64_in _ (by omega)]; omega
    obtain ⟨wd, hwd⟩ : ∃ z, wA.drew = z := ⟨_, rfl⟩
    have fd : Fr [] wA wd := by rw [← hwd]; exact (Fr.refl [] wA).drew
    have k0 : wA.cell? ⟨X, 0, none⟩ = some (.slice (some ⟨b, off, none⟩) 1 pc) := B0.out.at 0 _ rfl
    have kb : wA.cell? ⟨b, off, none⟩ = some (.slice xa xn xc) := HFA.out.keep h4 (by simp)
    have HWD := Lib.hid hwd
    have hs0 : ∀ W : World, (Instr.slice 126 (.slice (some ⟨b, off, none⟩) 1 pc) none (some (.int .i64 0)) none).run Tryz.prog W = .ok (.slice (some ⟨b, off, none⟩) 0 pc) W := fun W => by
      have hsz : ∀ W : World, (sizeOf (Tryz.prog.elem 126)).run Tryz.prog W = .ok 1 W := fun W => by kernel_rfl
      rw [run_slice_h W _ _ 1 pc und81 .i64 0 (by omega) (by omega), hsz]
      simp [Result.andThen, sliced, Addr.add]
    have hs1 : ∀ W : World, (Instr.slice 126 (.slice (some ⟨b, off, none⟩) 1 pc) (some (.int .i64 0)) none none).run Tryz.prog W = .ok (.slice (some ⟨b, off, none⟩) 1 pc) W := fun W => by
      have hsz : ∀ W : World, (sizeOf (Tryz.prog.elem 126)).run Tryz.prog W = .ok 1 W := fun W => by kernel_rfl
      rw [run_slice_l W _ _ 1 pc und81 .i64 0 (by omega) (by omega), hsz]
      simp [Result.andThen, sliced, Addr.add]
    have HFD := Lib.hid (HFA.out.step fd)
    have HFD1 := Lib.hid fd
    have HS01 := Lib.hid (And.intro hs0 hs1)
    have HRB := Lib.hid (show RowV wA (.slice (some ⟨b, off, none⟩) 1 pc) 1 1 [slv (xa, xn, xc)] from ⟨rfl, .inr ⟨b, off, pc, rfl, cell_lt kb, fun j u hj => by
      cases j with
      | zero => simp only [List.getElem?_cons_zero, Option.some.injEq] at hj; subst hj; exact kb
      | succ j => simp at hj⟩⟩)
    clear h3 h4 h5 h6 h7 h8 h9 hcap fd hwd hs0 hs1
    go_enter Tryz.func213, Tryz.ntmps213
    go_upto_region 1 with fail
    rw [HWA.out]
    simp only [HX.out]
    go_wp2
    refine wp_loop_rounds 1 ?_
    rw [rounds_succ]
    go_upto_region 9 with fail
    refine wp_region_held_drew (S := fun W => W.cell? ⟨X, 0, none⟩ = some (.slice (some ⟨b, off, none⟩) 1 pc)) (by kernel_rfl) (by rw [HWD.out]; exact HFD1.out.keep k0 (by simp)) (fun hHeld => ?_)
    rw [HWD.out] at hHeld ⊢
    refine wpAnyH_take (i := 0) (oi := _) (v := ?_) rfl (by kernel_rfl) (by kernel_rfl) (by kernel_rfl) (fun _ _ _ h => h) (Or.inl ⟨by rfl, ?_⟩) (by first | assumption | trivial) ?_
    rotate_left
    · intro w hSw; (try dsimp only at hSw); go_simp; try with_reducible rfl
    try simp only [Act.put, qj1, qj2, qj3, qj4, qj5, qj6]
    refine wpAnyH_take (i := 1) (oi := _) (v := ?_) rfl (by kernel_rfl) (by kernel_rfl) (by kernel_rfl) (fun _ _ _ h => h) (Or.inl ⟨by rfl, ?_⟩) (by first | assumption | trivial) ?_
    rotate_left
    · intro w hSw; (try dsimp only at hSw); go_simp; try with_reducible rfl
    try simp only [Act.put, qj1, qj2, qj3, qj4, qj5, qj6]
    refine wpAnyH_take (i := 2) (oi := _) (v := ?_) rfl (by kernel_rfl) (by kernel_rfl) (by kernel_rfl) (fun _ _ _ h => h) (Or.inl ⟨by rfl, ?_⟩) (by first | assumption | trivial) ?_
    rotate_left
    · intro w hSw; (try dsimp only at hSw); go_simp; try with_reducible rfl
    try simp only [Act.put, qj1, qj2, qj3, qj4, qj5, qj6]
    refine wpAnyH_take (i := 3) (oi := _) (v := .slice (some ⟨b, off, none⟩) 0 pc) rfl (by kernel_rfl) (by kernel_rfl) (by kernel_rfl) (fun _ _ _ h => h) (Or.inl ⟨by rfl, ?_⟩) (by first | assumption | trivial) ?_
    · intro w hSw
      try dsimp only at hSw
      exact exec_slice_up rfl rfl rfl und81 (HS01.out.1 w)
    try simp only [Act.put, qj1, qj2, qj3, qj4, qj5, qj6]
    refine wpAnyH_take (i := 5) (oi := _) (v := ?_) rfl (by kernel_rfl) (by kernel_rfl) (by kernel_rfl) (fun _ _ _ h => h) (Or.inl ⟨by rfl, ?_⟩) (by first | assumption | trivial) ?_
    rotate_left
    · intro w hSw; (try dsimp only at hSw); go_simp; try with_reducible rfl
    try simp only [Act.put, qj1, qj2, qj3, qj4, qj5, qj6]
    refine wpAnyH_take (i := 6) (oi := _) (v := ?_) rfl (by kernel_rfl) (by kernel_rfl) (by kernel_rfl) (fun _ _ _ h => h) (Or.inl ⟨by rfl, ?_⟩) (by first | assumption | trivial) ?_
    rotate_left
    · intro w hSw; (try dsimp only at hSw); go_simp; try with_reducible rfl
    try simp only [Act.put, qj1, qj2, qj3, qj4, qj5, qj6]
    refine wpAnyH_take (i := 7) (oi := _) (v := ?_) rfl (by kernel_rfl) (by kernel_rfl) (by kernel_rfl) (fun _ _ _ h => h) (Or.inl ⟨by rfl, ?_⟩) (by first | assumption | trivial) ?_
    rotate_left
    · intro w hSw; (try dsimp only at hSw); go_simp; try with_reducible rfl
    try simp only [Act.put, qj1, qj2, qj3, qj4, qj5, qj6]
    refine wpAnyH_take (i := 8) (oi := _) (v := .slice (some ⟨b, off, none⟩) 1 pc) rfl (by kernel_rfl) (by kernel_rfl) (by kernel_rfl) (fun _ _ _ h => h) (Or.inl ⟨by rfl, ?_⟩) (by first | assumption | trivial) ?_
    · intro w hSw
      try dsimp only at hSw
      exact exec_slice_fr rfl rfl rfl und81 (HS01.out.2 w)
    try simp only [Act.put, qj1, qj2, qj3, qj4, qj5, qj6]
    refine wpAnyH_ready (rs := [4]) (by kernel_rfl) (by simp) ?_
    refine AllReadyH.cons (o := _) rfl (fun K hK => ?_) AllReadyH.nil
    go_simp
    refine (clone_parts (n := 0) (xs := []) (RowV.nil _ _ _ _) (fun u hu => by cases hu) (by omega)).mono ?_
    rintro e w1 ⟨a1, c1, rfl, ho1, f1⟩
    have HO1 := Lib.hid ho1
    have HF1 := Lib.hid f1
    clear ho1 f1
    refine hK.out _ _ (HF1.out.keep hHeld (by simp)) (fun hHeld => ?_)
    clear hK K
    try simp only [Act.put, qj1, qj2, qj3, qj4, qj5, qj6]
    refine wpAnyH_ready (rs := [9]) (by kernel_rfl) (by simp) ?_
    refine AllReadyH.cons (o := _) rfl (fun K hK => ?_) AllReadyH.nil
    go_simp
    refine (clone_parts (n := 1) ((HRB.out.new HFD1.out).new HF1.out) (fun u hu => by rw [List.mem_singleton] at hu; rw [hu]; rfl) (by omega)).mono ?_
    rintro e w2 ⟨a2, c2, rfl, ho2, f2⟩
    have HO2 := Lib.hid ho2
    have HF2 := Lib.hid f2
    clear ho2 f2
    refine hK.out _ _ (HF2.out.keep hHeld (by simp)) (fun hHeld => ?_)
    clear hK K
    try simp only [Act.put, qj1, qj2, qj3, qj4, qj5, qj6]
    refine wpAnyH_take (i := 10) (oi := _) (v := ?_) rfl (by kernel_rfl) (by kernel_rfl) (by kernel_rfl) (fun _ _ _ h => h) (Or.inl ⟨by rfl, ?_⟩) (by first | assumption | trivial) ?_
    rotate_left
    · intro w hSw; (try dsimp only at hSw); go_simp; try with_reducible rfl
    try simp only [Act.put, qj1, qj2, qj3, qj4, qj5, qj6]
    refine wpAnyH_take (i := 11) (oi := _) (v := ?_) rfl (by kernel_rfl) (by kernel_rfl) (by kernel_rfl) (fun _ _ _ h => h) (Or.inl ⟨by rfl, ?_⟩) (by first | assumption | trivial) ?_
    rotate_left
    · intro w hSw; (try dsimp only at hSw); go_simp; try with_reducible rfl
    try simp only [Act.put, qj1, qj2, qj3, qj4, qj5, qj6]
    refine wpAnyH_done (by kernel_rfl) ?_ _
    clear hHeld
    obtain ⟨g2, hg2⟩ : ∃ g, a2 = some ⟨g, 0, none⟩ := by
      rcases HO2.out.2 with ⟨_, h0⟩ | ⟨g, cap, cur, he, _⟩
      · cases h0
      · simp only [Value.slice.injEq] at he
        exact ⟨g, he.1⟩
    subst hg2
    have HO1L := Lib.hid HO1.out
    have HO12 := Lib.hid (rowNew HO1.out HF2.out)
    have HF := Lib.hid ((HFD.out.step HF1.out).step HF2.out)
    have HB0 := Lib.hid (((B0.out.keep HFD1.out (by simp)).keep HF1.out (by simp)).keep HF2.out (by simp))
    have HB1 := Lib.hid (((B1.out.keep HFD1.out (by simp)).keep HF1.out (by simp)).keep HF2.out (by simp))
    have HB2 := Lib.hid (((B2.out.keep HFD1.out (by simp)).keep HF1.out (by simp)).keep HF2.out (by simp))
    have HZ := Lib.hid (show X + 2 < wd.heap.size ∧ wd.heap.size ≤ w1.heap.size ∧ w.heap.size = X from ⟨(B2.out.keep HFD1.out (by simp)).lt, HF1.out.size, HX.out⟩)
    clear B0 B1 B2 HO1 HFD HFD1 HRB k0 k1 kb
    by_cases hm1 : m = 0
    · skip
      have HM0 := Lib.hid hm1
      have hmn : ¬ (0 : Int) < m := by omega
      have hmd : decide ((0 : Int) < m) = false := decide_eq_false hmn
      clear hm1
      have hbd1 := bldRope2 a1 0 c1 m
      have hbd2 := bldRope2 (some ⟨g2, 0, none⟩) 1 c2 ((xn - m : Nat) : Int)
      go_upto_region 13 with fail
      obtain ⟨wq, hwq⟩ : ∃ z, w2.drew = z := ⟨_, rfl⟩
      have fq : Fr [] w2 wq := by rw [← hwq]; exact (Fr.refl [] _).drew
      have HWQ := Lib.hid hwq
      have HFQ := Lib.hid fq
      clear hwq fq
      refine wp_region_held_drew (S := fun W => W.cell? ⟨X, 1, none⟩ = some (.int .i64 xn)) (by kernel_rfl) (by rw [HWQ.out]; exact HFQ.out.keep (HB0.out.at 1 _ rfl) (by simp)) (fun hHeld => ?_)
      rw [HWQ.out] at hHeld ⊢
      refine wpAnyH_take (i := 0) (oi := _) (v := ?_) rfl (by kernel_rfl) (by kernel_rfl) (by kernel_rfl) (fun _ _ _ h => h) (Or.inl ⟨by rfl, ?_⟩) (by first | assumption | trivial) ?_
      rotate_left
      · intro w hSw; (try dsimp only at hSw); go_simp; try with_reducible rfl
      try simp only [Act.put, qj1, qj2, qj3, qj4, qj5, qj6]
      refine wpAnyH_take (i := 1) (oi := _) (v := ?_) rfl (by kernel_rfl) (by kernel_rfl) (by kernel_rfl) (fun _ _ _ h => h) (Or.inl ⟨by rfl, ?_⟩) (by first | assumption | trivial) ?_
      rotate_left
      · intro w hSw; (try dsimp only at hSw); go_simp; try with_reducible rfl
      try simp only [Act.put, qj1, qj2, qj3, qj4, qj5, qj6]
      refine wpAnyH_take (i := 2) (oi := _) (v := ?_) rfl (by kernel_rfl) (by kernel_rfl) (by kernel_rfl) (fun _ _ _ h => h) (Or.inl ⟨by rfl, ?_⟩) (by first | assumption | trivial) ?_
      rotate_left
      · intro w hSw; (try dsimp only at hSw); go_simp; try with_reducible rfl
      try simp only [Act.put, qj1, qj2, qj3, qj4, qj5, qj6]
      refine wpAnyH_take (i := 3) (oi := _) (v := ?_) rfl (by kernel_rfl) (by kernel_rfl) (by kernel_rfl) (fun _ _ _ h => h) (Or.inl ⟨by rfl, ?_⟩) (by first | assumption | trivial) ?_
      rotate_left
      · intro w hSw; (try dsimp only at hSw); go_simp; try with_reducible rfl
      try simp only [Act.put, qj1, qj2, qj3, qj4, qj5, qj6]
      refine wpAnyH_take (i := 4) (oi := _) (v := ?_) rfl (by kernel_rfl) (by kernel_rfl) (by kernel_rfl) (fun _ _ _ h => h) (Or.inl ⟨by rfl, ?_⟩) (by first | assumption | trivial) ?_
      rotate_left
      · intro w hSw; (try dsimp only at hSw); go_simp; try with_reducible rfl
      try simp only [Act.put, qj1, qj2, qj3, qj4, qj5, qj6]
      refine wpAnyH_take (i := 5) (oi := _) (v := ?_) rfl (by kernel_rfl) (by kernel_rfl) (by kernel_rfl) (fun _ _ _ h => h) (Or.inl ⟨by rfl, ?_⟩) (by first | assumption | trivial) ?_
      rotate_left
      · intro w hSw; (try dsimp only at hSw); go_simp; try with_reducible rfl
      try simp only [Act.put, qj1, qj2, qj3, qj4, qj5, qj6]
      refine wpAnyH_take (i := 6) (oi := _) (v := ?_) rfl (by kernel_rfl) (by kernel_rfl) (by kernel_rfl) (fun _ _ _ h => h) (Or.inl ⟨by rfl, ?_⟩) (by first | assumption | trivial) ?_
      rotate_left
      · intro w hSw; (try dsimp only at hSw); go_simp; try with_reducible rfl
      try simp only [Act.put, qj1, qj2, qj3, qj4, qj5, qj6]
      refine wpAnyH_take (i := 7) (oi := _) (v := ?_) rfl (by kernel_rfl) (by kernel_rfl) (by kernel_rfl) (fun _ _ _ h => h) (Or.inl ⟨by rfl, ?_⟩) (by first | assumption | trivial) ?_
      rotate_left
      · intro w hSw; (try dsimp only at hSw); go_simp; try with_reducible rfl
      try simp only [Act.put, qj1, qj2, qj3, qj4, qj5, qj6]
      refine wpAnyH_take (i := 8) (oi := _) (v := ?_) rfl (by kernel_rfl) (by kernel_rfl) (by kernel_rfl) (fun _ _ _ h => h) (Or.inl ⟨by rfl, ?_⟩) (by first | assumption | trivial) ?_
      rotate_left
      · intro w hSw; (try dsimp only at hSw); go_simp; try with_reducible rfl
      try simp only [Act.put, qj1, qj2, qj3, qj4, qj5, qj6]
      refine wpAnyH_ready (rs := [9]) (by kernel_rfl) (by simp) ?_
      refine AllReadyH.cons (o := _) rfl (fun K hK => ?_) AllReadyH.nil
      obtain ⟨wr, hst, hb_, hf_⟩ := store_all (t := 128) [.slice a1 0 c1, .int .i64 m] sizeRope rfl (rope_one _ _ _ _) (HB1.out.keep HFQ.out (by simp)) rfl
      split
      rotate_left
      · rename_i hno
        exact absurd rfl hno
      refine wp_skp (w' := wr) ?_ ?_
      · show Sem.run Tryz.prog ((Instr.storeAt 128 (.pointer (some ⟨X + 1, 0, none⟩)) (.agg #[.slice a1 0 c1, .int .i64 m])) >>= fun _ => pure Next.skip) _ = _
        rw [Sem.run_bind, hst]
        rfl
      clear hst
      have HR1 := Lib.hid hb_
      have HRF := Lib.hid hf_
      have HR2 := Lib.hid ((HB2.out.keep HFQ.out (by simp)).keep hf_ (by simp))
      clear hb_ hf_
      refine hK.out _ _ (HRF.out.keep hHeld (by simp)) (fun hHeld => ?_)
      clear hK K
      try simp only [Act.put, qj1, qj2, qj3, qj4, qj5, qj6]
      refine wpAnyH_ready (rs := [10]) (by kernel_rfl) (by simp) ?_
      refine AllReadyH.cons (o := _) rfl (fun K hK => ?_) AllReadyH.nil
      obtain ⟨ws, hst, hb_, hf_⟩ := store_all (t := 128) [.slice (some ⟨g2, 0, none⟩) 1 c2, .int .i64 ((xn - m : Nat) : Int)] sizeRope rfl (rope_one _ _ _ _) HR2.out rfl
      split
      rotate_left
      · rename_i hno
        exact absurd rfl hno
      refine wp_skp (w' := ws) ?_ ?_
      · show Sem.run Tryz.prog ((Instr.storeAt 128 (.pointer (some ⟨X + 2, 0, none⟩)) (.agg #[.slice (some ⟨g2, 0, none⟩) 1 c2, .int .i64 ((xn - m : Nat) : Int)])) >>= fun _ => pure Next.skip) _ = _
        rw [Sem.run_bind, hst]
        rfl
      clear hst
      have HS2 := Lib.hid hb_
      have HSF := Lib.hid hf_
      have HS1 := Lib.hid (HR1.out.keep hf_ (by simp))
      clear hb_ hf_
      refine hK.out _ _ (HSF.out.keep hHeld (by simp)) (fun hHeld => ?_)
      clear hK K
      try simp only [Act.put, qj1, qj2, qj3, qj4, qj5, qj6]
      refine wpAnyH_take (i := 11) (oi := _) (v := ?_) rfl (by kernel_rfl) (by kernel_rfl) (by kernel_rfl) (fun _ _ _ h => h) (Or.inl ⟨by rfl, ?_⟩) (by first | assumption | trivial) ?_
      rotate_left
      · intro w hSw; (try dsimp only at hSw); go_simp; try with_reducible rfl
      try simp only [Act.put, qj1, qj2, qj3, qj4, qj5, qj6]
      refine wpAnyH_done (by kernel_rfl) ?_ _
      clear hHeld
      have hl1 := load_var aggRope sizeRope (xs := [.slice a1 0 c1, .int .i64 m]) rfl HS1.out.at
      have hl2 := load_var aggRope sizeRope (xs := [.slice (some ⟨g2, 0, none⟩) 1 c2, .int .i64 ((xn - m : Nat) : Int)]) rfl HS2.out.at
      go_wp2
      refine bodyPost_ret (v := .tuple #[.agg #[.slice a1 0 c1, .int .i64 m], .agg #[.slice (some ⟨g2, 0, none⟩) 1 c2, .int .i64 ((xn - m : Nat) : Int)], .int .i64 0]) (by simp [results, Tryz.results213, as_addr, hl1, hl2]) rfl ?_
      have fq : Fr [X + 1, X + 2] w2 ws := ((HFQ.out.mono (fun x hx _ => by cases hx)).trans (HRF.out.mono (T := [X + 1, X + 2]) (fun x hx _ => by rw [List.mem_singleton] at hx; subst hx; simp)) (fun x hx _ => hx)).trans (HSF.out.mono (T := [X + 1, X + 2]) (fun x hx _ => by rw [List.mem_singleton] at hx; subst hx; simp)) (fun x hx _ => hx)
      have fC : Fr [] w ws := HF.out.trans fq (fun x hx hl => by simp only [List.mem_cons, List.not_mem_nil, or_false] at hx; have := HZ.out; omega)
      have h3 : ∀ z, wd.heap.size ≤ z → ownNew w own 3 z = 3 := fun z hz => ownNew_ge (by have := HZ.out; omega)
      have hxb : ∀ g, (slv (xa, xn, xc)).ownBlock = some g → ownNew w own 3 g = 3 := fun g hg => (Ext.new w own 3 g (bs_low HX5.out (by rw [HN.out]; omega) g hg)).trans (HX9.out g hg)
      have hf2 : ∀ g, wd.heap.size ≤ g → g ∉ [X + 1, X + 2] := fun g hg hm => by simp only [List.mem_cons, List.not_mem_nil, or_false] at hm; have := HZ.out; omega
      refine ⟨(a1, 0, c1), (some ⟨g2, 0, none⟩, 1, c2), ownNew w own 3, ?_, ?_, ?_, Ext.new w own 3, fC⟩
      · rw [HNL.out.1, HNL.out.2]
      · exact .inl ⟨by rw [HM0.out]; rfl, rfl⟩
      · rw [HM0.out, List.drop_zero]
        exact rope_mk2 (B := wd.heap.size) (x := (xa, xn, xc)) (rowFr' (rowBase HO2.out HZ.out.2.1) fq (fun g hg => hf2 g (Nat.le_trans HZ.out.2.1 (World.ownsRow.lt HO2.out g hg).1))) (HX5.out.new fC) HN.out.symm HCAP.out (by rw [HN.out]; omega) h3 hxb
    · skip
      have hmp : 0 < m := by omega
      have hmi : (0 : Int) < m := by omega
      have hmd : decide ((0 : Int) < m) = true := decide_eq_true hmi
      have HMP := Lib.hid hmp
      obtain ⟨u1, hu1, hu2, hu3⟩ := bs_upto HX5.out HN.out HCAP.out m (Nat.le_of_lt hlt)
      obtain ⟨u2, hv1, hv2, hv3⟩ := bs_rest HX5.out HN.out HCAP.out m (Nat.le_of_lt hlt)
      have HU := Lib.hid (And.intro hu1 (And.intro hu2 hu3))
      have HV := Lib.hid (And.intro hv1 (And.intro hv2 hv3))
      have kg : w2.cell? ⟨g2, 0, none⟩ = some (.slice xa xn xc) := by
        have := World.ownsRow.cells HO2.out (g := g2) rfl 0 (slv (xa, xn, xc)) rfl
        rwa [Addr.add_lit, Nat.zero_add] at this
      have KG := Lib.hid kg
      clear hu1 hu2 hu3 hv1 hv2 hv3 hm1
      go_upto_region 11 with fail
      refine wp_region_lit ?_
      refine wpList_plain rfl (fun K hK => ?_); go_simp; refine hK _ _ ?_; clear hK K
      refine wpList_plain rfl (fun K hK => ?_); go_simp; refine hK _ _ ?_; clear hK K
      refine wpList_plain rfl (fun K hK => ?_); go_simp; refine hK _ _ ?_; clear hK K
      refine wpList_plain rfl (fun K hK => ?_); go_simp; refine hK _ _ ?_; clear hK K
      refine wpList_plain rfl (fun K hK => ?_); go_simp; refine hK _ _ ?_; clear hK K
      try simp only [Act.put, qj1, qj2, qj3, qj4, qj5, qj6]
      refine wpList_val rfl (v := .slice u1 m xc) (w' := w2) (exec_slice_up rfl rfl rfl und22 (HU.out.1 w2)) ?_
      try simp only [Act.put, qj1, qj2, qj3, qj4, qj5, qj6]
      refine wpList_plain rfl (fun K hK => ?_); go_simp; refine hK _ _ ?_; clear hK K
      try simp only [Act.put, qj1, qj2, qj3, qj4, qj5, qj6]
      obtain ⟨C, hA_⟩ : ∃ A, w2.heap.size = A := ⟨_, rfl⟩
      obtain ⟨w3, hw_⟩ : ∃ z, w2.alloc (.cells #[.slice u1 m xc] 22) = z := ⟨_, rfl⟩
      have hB_ : Blk w3 C 22 [.slice u1 m xc] := by rw [← hw_, ← hA_]; exact Blk.made w2 22 _
      have hF_ : Fr [] w2 w3 := by rw [← hw_]; exact (Fr.refl [] w2).alloc _
      rw [hw_]
      simp only [hA_]
      have HC := Lib.hid hA_
      have HBC := Lib.hid hB_
      have HFw3 := Lib.hid hF_
      clear hA_ hw_ hB_ hF_
      refine wpList_append_any elemSl rfl (.tmp 52) (.tmp 58) rfl wd.heap.size (v := .slice a1 0 c1) (n := 0) (xs := []) rfl (rowNew HO12.out HFw3.out) (X := .slice (some ⟨C, 0, none⟩) 1 1) (m := 1) (news := [.slice u1 m xc]) rfl (RowV.of_own (base := 0) (e := 22) ⟨rfl, .inr ⟨C, 1, #[.slice u1 m xc], rfl, Nat.zero_le _, HBC.out, Nat.le_refl _, by decide, rfl, rfl⟩⟩) (fun u hu => by rw [List.mem_singleton] at hu; rw [hu]; rfl) (by decide) (by decide) (by have := HZ.out; have := HF2.out.size; have := HFw3.out.size; omega) ?_
      intro p1 w4 hp f4
      obtain ⟨pa1, pn1, pc1⟩ := p1
      obtain rfl : pn1 = 1 := by
        obtain ⟨a', c', he⟩ := RowV.val (RowV.of_own hp)
        simp only [slv, Value.slice.injEq] at he
        exact he.2.1
      simp only [slv]
      have HP1 := Lib.hid (show w4.ownsRow wd.heap.size 22 1 (slv (pa1, 1, pc1)) 1 [slv (u1, m, xc)] from hp)
      have HA1 := Lib.hid (show ∀ g, (Value.slice a1 0 c1).ownBlock = some g → wd.heap.size ≤ g ∧ g < w1.heap.size from fun g hg => by
        have h1 := World.ownsRow.lt HO12.out g hg
        refine ⟨h1.1, ?_⟩
        exact (World.ownsRow.lt HO1L.out g hg).2)
      have fb4 : Fr [] w2 w4 ∨ True := .inr trivial
      clear fb4
      have hno : ∀ z, z < w2.heap.size → (z < wd.heap.size ∨ w1.heap.size ≤ z) → z ∉ ((Value.slice a1 0 c1).ownBlock).toList := fun z hz hor hm => by
        have := HA1.out z (by simpa using hm)
        omega
      have HG2 := Lib.hid (show w1.heap.size ≤ g2 ∧ g2 < w2.heap.size from World.ownsRow.lt HO2.out g2 rfl)
      have HO24 := Lib.hid (rowFr' (rowNew HO2.out HFw3.out) f4 (fun g hg => hno g (World.ownsRow.lt HO2.out g hg).2 (.inr (World.ownsRow.lt HO2.out g hg).1)))
      have HNE := Lib.hid (show (slv (pa1, 1, pc1)).ownBlock ≠ some g2 from fun hg => by
        have h1 := World.ownsRow.cells HP1.out (g := g2) hg 0 (slv (u1, m, xc)) rfl
        have h2 := World.ownsRow.cells HO24.out (g := g2) rfl 0 (slv (xa, xn, xc)) rfl
        rw [h1] at h2
        simp only [slv, Option.some.injEq, Value.slice.injEq] at h2
        omega)
      have HB04 := Lib.hid ((HB0.out.keep HFw3.out (by simp)).keep f4 (hno X HB0.out.lt (.inl (by have := HZ.out; omega))))
      have HB14 := Lib.hid ((HB1.out.keep HFw3.out (by simp)).keep f4 (hno (X + 1) HB1.out.lt (.inl (by have := HZ.out; omega))))
      have HB24 := Lib.hid ((HB2.out.keep HFw3.out (by simp)).keep f4 (hno (X + 2) HB2.out.lt (.inl (by have := HZ.out; omega))))
      have HF4 := Lib.hid ((HF.out.step HFw3.out).trans f4 (fun x hx hl => by have := HA1.out x (by simpa using hx); have := HZ.out; omega))
      have kg4 : w4.cell? ⟨g2, 0, none⟩ = some (.slice xa xn xc) := by
        have := World.ownsRow.cells HO24.out (g := g2) rfl 0 (slv (xa, xn, xc)) rfl
        rwa [Addr.add_lit, Nat.zero_add] at this
      clear hp f4 hno kg
      try simp only [Act.put, qj1, qj2, qj3, qj4, qj5, qj6]
      refine wpList_plain rfl (fun K hK => ?_); go_simp; refine hK _ _ ?_; clear hK K
      refine wpList_nil ?_
      try simp only [Act.put, qj1, qj2, qj3, qj4, qj5, qj6]
      go_upto_region 12 with fail
      refine wp_region_lit ?_
      refine wpList_plain rfl (fun K hK => ?_); go_simp; refine hK _ _ ?_; clear hK K
      refine wpList_plain rfl (fun K hK => ?_); go_simp; refine hK _ _ ?_; clear hK K
      refine wpList_plain rfl (fun K hK => ?_); go_simp; refine hK _ _ ?_; clear hK K
      refine wpList_plain rfl (fun K hK => ?_); go_simp; refine hK _ _ ?_; clear hK K
      refine wpList_plain rfl (fun K hK => ?_); go_simp; refine hK _ _ ?_; clear hK K
      try simp only [Act.put, qj1, qj2, qj3, qj4, qj5, qj6]
      refine wpList_val rfl (v := .slice u2 (xn - m) (xc - m)) (w' := w4) (exec_slice_fr rfl rfl rfl und22 (HV.out.1 w4)) ?_
      try simp only [Act.put, qj1, qj2, qj3, qj4, qj5, qj6]
      refine wpList_plain rfl (fun K hK => ?_); go_simp; refine hK _ _ ?_; clear hK K
      try simp only [Act.put, qj1, qj2, qj3, qj4, qj5, qj6]
      obtain ⟨w5, hst, hb_, hf_⟩ := own_set0 (v := .slice u2 (xn - m) (xc - m)) HO24.out rfl rfl
      refine wpList_skp rfl (w' := w5) ?_ ?_
      · show Sem.run Tryz.prog ((Instr.storeAt 22 (.pointer (some ⟨g2, 0, none⟩)) (.slice u2 (xn - m) (xc - m))) >>= fun _ => pure Next.skip) _ = _
        rw [Sem.run_bind, hst]
        rfl
      clear hst
      try simp only [Act.put, qj1, qj2, qj3, qj4, qj5, qj6]
      refine wpList_nil ?_
      try simp only [Act.put, qj1, qj2, qj3, qj4, qj5, qj6]
      have HP2 := Lib.hid (show w5.ownsRow w1.heap.size 22 1 (slv (some ⟨g2, 0, none⟩, 1, c2)) 1 [slv (u2, xn - m, xc - m)] from hb_)
      have HP15 := Lib.hid (rowFr' HP1.out hf_ (fun g hg hm => by
        rw [List.mem_singleton] at hm
        subst hm
        exact HNE.out hg))
      have HB05 := Lib.hid (HB04.out.keep hf_ (by have := HZ.out; have := HG2.out; simp; omega))
      have HB15 := Lib.hid (HB14.out.keep hf_ (by have := HZ.out; have := HG2.out; simp; omega))
      have HB25 := Lib.hid (HB24.out.keep hf_ (by have := HZ.out; have := HG2.out; simp; omega))
      have HF5 := Lib.hid (HF4.out.trans hf_ (fun x hx hl => by rw [List.mem_singleton] at hx; have := HZ.out; have := HG2.out; omega))
      clear hb_ hf_ kg4
      have hbd1 := bldRope2 pa1 1 pc1 m
      have hbd2 := bldRope2 (some ⟨g2, 0, none⟩) 1 c2 ((xn - m : Nat) : Int)
      go_upto_region 13 with fail
      obtain ⟨wq, hwq⟩ : ∃ z, w5.drew = z := ⟨_, rfl⟩
      have fq : Fr [] w5 wq := by rw [← hwq]; exact (Fr.refl [] _).drew
      have HWQ := Lib.hid hwq
      have HFQ := Lib.hid fq
      clear hwq fq
      refine wp_region_held_drew (S := fun W => W.cell? ⟨X, 1, none⟩ = some (.int .i64 xn)) (by kernel_rfl) (by rw [HWQ.out]; exact HFQ.out.keep (HB05.out.at 1 _ rfl) (by simp)) (fun hHeld => ?_)
      rw [HWQ.out] at hHeld ⊢
      refine wpAnyH_take (i := 0) (oi := _) (v := ?_) rfl (by kernel_rfl) (by kernel_rfl) (by kernel_rfl) (fun _ _ _ h => h) (Or.inl ⟨by rfl, ?_⟩) (by first | assumption | trivial) ?_
      rotate_left
      · intro w hSw; (try dsimp only at hSw); go_simp; try with_reducible rfl
      try simp only [Act.put, qj1, qj2, qj3, qj4, qj5, qj6]
      refine wpAnyH_take (i := 1) (oi := _) (v := ?_) rfl (by kernel_rfl) (by kernel_rfl) (by kernel_rfl) (fun _ _ _ h => h) (Or.inl ⟨by rfl, ?_⟩) (by first | assumption | trivial) ?_
      rotate_left
      · intro w hSw; (try dsimp only at hSw); go_simp; try with_reducible rfl
      try simp only [Act.put, qj1, qj2, qj3, qj4, qj5, qj6]
      refine wpAnyH_take (i := 2) (oi := _) (v := ?_) rfl (by kernel_rfl) (by kernel_rfl) (by kernel_rfl) (fun _ _ _ h => h) (Or.inl ⟨by rfl, ?_⟩) (by first | assumption | trivial) ?_
      rotate_left
      · intro w hSw; (try dsimp only at hSw); go_simp; try with_reducible rfl
      try simp only [Act.put, qj1, qj2, qj3, qj4, qj5, qj6]
      refine wpAnyH_take (i := 3) (oi := _) (v := ?_) rfl (by kernel_rfl) (by kernel_rfl) (by kernel_rfl) (fun _ _ _ h => h) (Or.inl ⟨by rfl, ?_⟩) (by first | assumption | trivial) ?_
      rotate_left
      · intro w hSw; (try dsimp only at hSw); go_simp; try with_reducible rfl
      try simp only [Act.put, qj1, qj2, qj3, qj4, qj5, qj6]
      refine wpAnyH_take (i := 4) (oi := _) (v := ?_) rfl (by kernel_rfl) (by kernel_rfl) (by kernel_rfl) (fun _ _ _ h => h) (Or.inl ⟨by rfl, ?_⟩) (by first | assumption | trivial) ?_
      rotate_left
      · intro w hSw; (try dsimp only at hSw); go_simp; try with_reducible rfl
      try simp only [Act.put, qj1, qj2, qj3, qj4, qj5, qj6]
      refine wpAnyH_take (i := 5) (oi := _) (v := ?_) rfl (by kernel_rfl) (by kernel_rfl) (by kernel_rfl) (fun _ _ _ h => h) (Or.inl ⟨by rfl, ?_⟩) (by first | assumption | trivial) ?_
      rotate_left
      · intro w hSw; (try dsimp only at hSw); go_simp; try with_reducible rfl
      try simp only [Act.put, qj1, qj2, qj3, qj4, qj5, qj6]
      refine wpAnyH_take (i := 6) (oi := _) (v := ?_) rfl (by kernel_rfl) (by kernel_rfl) (by kernel_rfl) (fun _ _ _ h => h) (Or.inl ⟨by rfl, ?_⟩) (by first | assumption | trivial) ?_
      rotate_left
      · intro w hSw; (try dsimp only at hSw); go_simp; try with_reducible rfl
      try simp only [Act.put, qj1, qj2, qj3, qj4, qj5, qj6]
      refine wpAnyH_take (i := 7) (oi := _) (v := ?_) rfl (by kernel_rfl) (by kernel_rfl) (by kernel_rfl) (fun _ _ _ h => h) (Or.inl ⟨by rfl, ?_⟩) (by first | assumption | trivial) ?_
      rotate_left
      · intro w hSw; (try dsimp only at hSw); go_simp; try with_reducible rfl
      try simp only [Act.put, qj1, qj2, qj3, qj4, qj5, qj6]
      refine wpAnyH_take (i := 8) (oi := _) (v := ?_) rfl (by kernel_rfl) (by kernel_rfl) (by kernel_rfl) (fun _ _ _ h => h) (Or.inl ⟨by rfl, ?_⟩) (by first | assumption | trivial) ?_
      rotate_left
      · intro w hSw; (try dsimp only at hSw); go_simp; try with_reducible rfl
      try simp only [Act.put, qj1, qj2, qj3, qj4, qj5, qj6]
      refine wpAnyH_ready (rs := [9]) (by kernel_rfl) (by simp) ?_
      refine AllReadyH.cons (o := _) rfl (fun K hK => ?_) AllReadyH.nil
      obtain ⟨wr, hst, hb_, hf_⟩ := store_all (t := 128) [.slice pa1 1 pc1, .int .i64 m] sizeRope rfl (rope_one _ _ _ _) (HB15.out.keep HFQ.out (by simp)) rfl
      split
      rotate_left
      · rename_i hno
        exact absurd rfl hno
      refine wp_skp (w' := wr) ?_ ?_
      · show Sem.run Tryz.prog ((Instr.storeAt 128 (.pointer (some ⟨X + 1, 0, none⟩)) (.agg #[.slice pa1 1 pc1, .int .i64 m])) >>= fun _ => pure Next.skip) _ = _
        rw [Sem.run_bind, hst]
        rfl
      clear hst
      have HR1 := Lib.hid hb_
      have HRF := Lib.hid hf_
      have HR2 := Lib.hid ((HB25.out.keep HFQ.out (by simp)).keep hf_ (by simp))
      clear hb_ hf_
      refine hK.out _ _ (HRF.out.keep hHeld (by simp)) (fun hHeld => ?_)
      clear hK K
      try simp only [Act.put, qj1, qj2, qj3, qj4, qj5, qj6]
      refine wpAnyH_ready (rs := [10]) (by kernel_rfl) (by simp) ?_
      refine AllReadyH.cons (o := _) rfl (fun K hK => ?_) AllReadyH.nil
      obtain ⟨ws, hst, hb_, hf_⟩ := store_all (t := 128) [.slice (some ⟨g2, 0, none⟩) 1 c2, .int .i64 ((xn - m : Nat) : Int)] sizeRope rfl (rope_one _ _ _ _) HR2.out rfl
      split
      rotate_left
      · rename_i hno
        exact absurd rfl hno
      refine wp_skp (w' := ws) ?_ ?_
      · show Sem.run Tryz.prog ((Instr.storeAt 128 (.pointer (some ⟨X + 2, 0, none⟩)) (.agg #[.slice (some ⟨g2, 0, none⟩) 1 c2, .int .i64 ((xn - m : Nat) : Int)])) >>= fun _ => pure Next.skip) _ = _
        rw [Sem.run_bind, hst]
        rfl
      clear hst
      have HS2 := Lib.hid hb_
      have HSF := Lib.hid hf_
      have HS1 := Lib.hid (HR1.out.keep hf_ (by simp))
      clear hb_ hf_
      refine hK.out _ _ (HSF.out.keep hHeld (by simp)) (fun hHeld => ?_)
      clear hK K
      try simp only [Act.put, qj1, qj2, qj3, qj4, qj5, qj6]
      refine wpAnyH_take (i := 11) (oi := _) (v := ?_) rfl (by kernel_rfl) (by kernel_rfl) (by kernel_rfl) (fun _ _ _ h => h) (Or.inl ⟨by rfl, ?_⟩) (by first | assumption | trivial) ?_
      rotate_left
      · intro w hSw; (try dsimp only at hSw); go_simp; try with_reducible rfl
      try simp only [Act.put, qj1, qj2, qj3, qj4, qj5, qj6]
      refine wpAnyH_done (by kernel_rfl) ?_ _
      clear hHeld
      have hl1 := load_var aggRope sizeRope (xs := [.slice pa1 1 pc1, .int .i64 m]) rfl HS1.out.at
      have hl2 := load_var aggRope sizeRope (xs := [.slice (some ⟨g2, 0, none⟩) 1 c2, .int .i64 ((xn - m : Nat) : Int)]) rfl HS2.out.at
      go_wp2
      refine bodyPost_ret (v := .tuple #[.agg #[.slice pa1 1 pc1, .int .i64 m], .agg #[.slice (some ⟨g2, 0, none⟩) 1 c2, .int .i64 ((xn - m : Nat) : Int)], .int .i64 0]) (by simp [results, Tryz.results213, as_addr, hl1, hl2]) rfl ?_
      have fq : Fr [X + 1, X + 2] w5 ws := ((HFQ.out.mono (fun x hx _ => by cases hx)).trans (HRF.out.mono (T := [X + 1, X + 2]) (fun x hx _ => by rw [List.mem_singleton] at hx; subst hx; simp)) (fun x hx _ => hx)).trans (HSF.out.mono (T := [X + 1, X + 2]) (fun x hx _ => by rw [List.mem_singleton] at hx; subst hx; simp)) (fun x hx _ => hx)
      have fC : Fr [] w ws := HF5.out.trans fq (fun x hx hl => by simp only [List.mem_cons, List.not_mem_nil, or_false] at hx; have := HZ.out; omega)
      have h3 : ∀ z, wd.heap.size ≤ z → ownNew w own 3 z = 3 := fun z hz => ownNew_ge (by have := HZ.out; omega)
      have hxb : ∀ g, (slv (xa, xn, xc)).ownBlock = some g → ownNew w own 3 g = 3 := fun g hg => (Ext.new w own 3 g (bs_low HX5.out (by rw [HN.out]; omega) g hg)).trans (HX9.out g hg)
      have hf2 : ∀ g, wd.heap.size ≤ g → g ∉ [X + 1, X + 2] := fun g hg hm => by simp only [List.mem_cons, List.not_mem_nil, or_false] at hm; have := HZ.out; omega
      refine ⟨(pa1, 1, pc1), (some ⟨g2, 0, none⟩, 1, c2), ownNew w own 3, ?_, ?_, ?_, Ext.new w own 3, fC⟩
      · rw [HNL.out.1, HNL.out.2]
      · exact rope_mk2 (B := wd.heap.size) (x := (u1, m, xc)) (rowFr' HP15.out fq (fun g hg => hf2 g (World.ownsRow.lt HP15.out g hg).1)) (HU.out.2.1.new fC) HNL.out.1.symm (by have := HCAP.out; show m ≤ xc; omega) (by rw [HNL.out.1]; exact HMP.out) h3 (fun g hg => hxb g (HU.out.2.2 g hg))
      · exact rope_mk2 (B := wd.heap.size) (x := (u2, xn - m, xc - m)) (rowFr' (rowBase HP2.out HZ.out.2.1) fq (fun g hg => hf2 g (Nat.le_trans HZ.out.2.1 (World.ownsRow.lt HP2.out g hg).1))) (HV.out.2.1.new fC) HNL.out.2.symm (by have := HCAP.out; show xn - m ≤ xc - m; omega) (by rw [HNL.out.2]; omega) h3 (fun g hg => hxb g (HV.out.2.2 g hg))
end Go.Proofs.YtmdhlodafjpnmaaGreat
