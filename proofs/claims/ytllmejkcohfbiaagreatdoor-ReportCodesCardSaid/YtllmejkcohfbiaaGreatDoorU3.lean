/- Report: OfCodes, walked. -/
import Derived.Test.YtllmejkcohfbiaaGreatDoorU2
namespace Go.Proofs.YtllmejkcohfbiaaGreatDoor
open Go.RowKit Go.Maps Go.Shelf Go.Sort Go.Lib
set_option linter.unusedVariables false
set_option linter.unusedSimpArgs false
set_option maxRecDepth 100000
set_option maxHeartbeats 16000000

/-- What has come of the map, as it was laid into the list. -/
def Came (D O : CD) (done : List (Value × Value)) : Prop := done = (cdPairs O).reverse ∧ O.Nodup ∧ ∀ p ∈ O, p ∈ D
theorem Came.zero (D : CD) : Came D [] [] := ⟨rfl, List.nodup_nil, (fun p hp => by cases hp)⟩
theorem cdPairs_inj {p q : (Int × Int) × Nat} (h : (keyV p.1, Value.int .i64 (p.2 : Int)) = (keyV q.1, .int .i64 (q.2 : Int))) : p = q := by
  simp only [Prod.mk.injEq, Value.int.injEq, true_and] at h
  exact Prod.ext (keyV_inj h.1) (by omega)
theorem Came.more {D O : CD} {done : List (Value × Value)} {p : (Int × Int) × Nat} (h : Came D O done) (hp : p ∈ D) (hn : (keyV p.1, Value.int .i64 (p.2 : Int)) ∉ done) : Came D (O ++ [p]) ((keyV p.1, .int .i64 (p.2 : Int)) :: done) := by
  obtain ⟨rfl, h2, h3⟩ := h
  have hnO : p ∉ O := fun hm => hn (by
    rw [List.mem_reverse]
    exact List.mem_map.2 ⟨p, hm, rfl⟩)
  refine ⟨?_, ?_, fun q hq => ?_⟩
  · rw [cdPairs_app, List.reverse_append]
    rfl
  · rw [List.nodup_append]
    exact ⟨h2, by simp, fun a ha b hb e => by
      rw [List.mem_singleton] at hb
      subst hb e
      exact hnO ha⟩
  · rcases List.mem_append.1 hq with hq | hq
    · exact h3 q hq
    · rw [List.mem_singleton] at hq
      rw [hq]
      exact hp
theorem perm_of_mem {α : Type} [DecidableEq α] : ∀ {a b : List α}, a.Nodup → b.Nodup → (∀ x, x ∈ a ↔ x ∈ b) → a.Perm b := by
  intro a b ha hb h
  rw [List.perm_iff_count]
  intro x
  have e : ∀ {l : List α}, l.Nodup → l.count x = if x ∈ l then 1 else 0 := fun {l} hl => by
    by_cases hx : x ∈ l
    · rw [if_pos hx]
      have h1 := List.count_pos_iff.2 hx
      have h2 := List.nodup_iff_count.1 hl x
      omega
    · rw [if_neg hx]
      exact List.count_eq_zero_of_not_mem hx
  rw [e ha, e hb]
  by_cases hx : x ∈ a
  · rw [if_pos hx, if_pos ((h x).1 hx)]
  · rw [if_neg hx, if_neg (fun hm => hx ((h x).2 hm))]
theorem Came.all {D O : CD} {done : List (Value × Value)} (h : Came D O done) (hD : D.Nodup) (ha : ∀ x ∈ cdPairs D, x ∈ done) : O.Perm D := by
  obtain ⟨rfl, h2, h3⟩ := h
  refine perm_of_mem h2 hD (fun p => ⟨fun hp => h3 p hp, fun hp => ?_⟩)
  have := ha _ (List.mem_map.2 ⟨p, hp, rfl⟩)
  rw [List.mem_reverse] at this
  obtain ⟨q, hq, he⟩ := List.mem_map.1 this
  rw [← cdPairs_inj he]
  exact hq
theorem nodup_len {α : Type} [DecidableEq α] : ∀ {a b : List α}, a.Nodup → (∀ x ∈ a, x ∈ b) → a.length ≤ b.length
  | [], _, _, _ => Nat.zero_le _
  | x :: r, b, h, hs => by
    rw [List.nodup_cons] at h
    have hx := hs x (by simp)
    have ih := nodup_len (a := r) (b := b.erase x) h.2 (fun y hy => (List.mem_erase_of_ne (fun e => h.1 (by rw [← e]; exact hy))).2 (hs y (List.mem_cons_of_mem _ hy)))
    rw [List.length_erase_of_mem hx] at ih
    have := List.length_pos_of_mem hx
    simp only [List.length_cons]
    omega
theorem Came.len {D O : CD} {done : List (Value × Value)} (h : Came D O done) : O.length ≤ D.length := nodup_len h.2.1 h.2.2
theorem rangeLeft_eq {w w' : World} {b r : Nat} (h1 : w'.heap[b]? = w.heap[b]?) (h2 : w'.heap[r]? = w.heap[r]?) : w'.rangeLeft b r = w.rangeLeft b r := by
  unfold World.rangeLeft
  rw [h1, h2]
theorem rowFrS {S : List Nat} {n k : Nat} {W W' : World} {v : Value} {xs : List Value} {E : TypeId} {sz : Nat} (hs : W.ownsRow n E sz v k xs) (h : Fr S W W') (hn : ∀ q, v.ownBlock = some q → q ∉ S) : W'.ownsRow n E sz v k xs := by
  refine ⟨hs.1, hs.2.imp id ?_⟩
  rintro ⟨g, cap, cur, hv, hb, hh, rest⟩
  exact ⟨g, cap, cur, hv, hb, (h.block g (Array.getElem?_eq_some_iff.1 hh).1 (hn g (by rw [hv]; rfl))).trans hh, rest⟩
theorem CdR.nodup' {l : List Ev} {D : CD} (h : CdR l D) : D.Nodup := by
  have := h.nodup
  rw [List.nodup_iff_pairwise_ne, List.pairwise_map] at this
  rw [List.nodup_iff_pairwise_ne]
  exact this.imp (fun {a b} h e => h (by rw [e]))
theorem ofCodes_any (v : Value) (xs : List Ev) (w : World) (h : EvRow w v xs) (hn : xs.length ≤ 5000) (hok : ∀ x ∈ xs, I64 x.eKind ∧ I64 x.eErr) :
    Calls Tryz.prog 34 #[v] w fun e w' => ∃ v' L, e = .returned (.tuple #[v', .int .i64 0]) ∧ CdRow w' v' L ∧ CodesAre xs L ∧ Fr [] w w' := by
  obtain ⟨a, cap, rfl⟩ := h.val
  obtain ⟨n, hnl⟩ : ∃ n, xs.length = n := ⟨_, rfl⟩
  have HM := Lib.hid hnl
  have HR := Lib.hid h
  have HI := Lib.hid hok
  rw [hnl] at hn HR ⊢
  have hn' : ¬ (5000 : Int) < (n : Int) := by omega
  have HM0 := Lib.hid (MapIs.made Tryz.prog 62 w)
  have F0 := Lib.hid (show Fr [] w (w.alloc (.map #[] 0)) from (Fr.refl [] w).alloc _)
  clear h hok hnl
  have hmm := @run_makeMap Tryz.prog
  go_enter Tryz.func34, Tryz.ntmps34
  go_wp2
  obtain ⟨w0, hw0⟩ : ∃ z, w.alloc (.map #[] 0) = z := ⟨_, rfl⟩
  rw [hw0] at HM0 F0
  rw [hw0]
  obtain ⟨M, hM⟩ : ∃ M, w.heap.size = M := ⟨_, rfl⟩
  have HMW := Lib.hid hM
  rw [hM] at HM0
  simp only [hM]
  clear hw0 hM
  go_loopw [16] (fun i wr => ∃ (wz : World) (q : Nat) (D : CD), wz = wr ∧ i = .int .i64 q ∧ q ≤ n ∧ MapIs Tryz.prog 62 wr M (cdPairs D) ∧ CdR (xs.take q) D ∧ Fr [] w wr) (fun i _ => n - (intOf i).toNat)
  case atStart => exact ⟨_, 0, [], rfl, rfl, by omega, HM0.out, CdR.zero, F0.out⟩
  case round =>
    obtain ⟨wr, q, D, hwz, rfl, hq, hS, hD, hF⟩ := hrel
    subst hwz
    have HS := Lib.hid hS
    have HD := Lib.hid hD
    have HF := Lib.hid hF
    clear hS hD hF
    by_cases hlt : q < n
    · have hx := List.getElem?_eq_getElem (l := xs) (i := q) (by rw [HM.out]; exact hlt)
      obtain ⟨o, hoe⟩ : ∃ o, xs[q]'(by rw [HM.out]; exact hlt) = o := ⟨_, rfl⟩
      rw [hoe] at hx
      have hoo := HI.out o (List.mem_of_getElem? hx)
      have htk : xs.take (q + 1) = xs.take q ++ [o] := by rw [List.take_add_one, hx]; rfl
      have htl : (xs.take q).length ≤ 5000 := by rw [List.length_take]; omega
      rcases HR.out.new HF.out with ⟨e1, _⟩ | ⟨g, off, cap', hv, hg, hcells⟩
      · rw [e1] at hx
        simp at hx
      rw [HM.out] at hv
      simp only [Value.slice.injEq] at hv
      obtain ⟨rfl, _, rfl⟩ := hv
      have hld := ev_load (hcells q o hx)
      obtain ⟨w5, hst, hblk, hfr⟩ := ev_store (w := wr.alloc (.cells #[.int .i64 0, .int .i64 0, .int .i64 0, .int .i64 0, .int .i64 0, .int .i64 0, .int .i64 0, .string ⟨#[]⟩, .int .i64 0, .slice none 0 0, .int .i64 0, .int .i64 0, .int .i64 0, .int .u64 0, .int .i64 0, .bool false, .int .i64 0, .int .i64 0, .int .i64 0, .int .i64 0, .slice none 0 0, .int .i64 0, .int .i64 0, .int .i64 0, .int .i64 0, .string ⟨#[]⟩, .int .i64 0, .int .u64 0, .slice none 0 0, .int .u64 0] 103)) (b := wr.heap.size) o (World.alloc_heap_new wr _) rfl
      have f5 : Fr [] wr w5 := ((Fr.refl [] wr).alloc _).trans hfr (fun x hx hl => by
        rw [List.mem_singleton] at hx
        omega)
      have HF5 := Lib.hid f5
      have HTK := Lib.hid (And.intro htk htl)
      have HOO := Lib.hid hoo
      have HLD := Lib.hid hld
      have HST := Lib.hid hst
      have HBK := Lib.hid hblk
      have hME : M < wr.heap.size := HS.out.lt
      obtain ⟨V, hV⟩ : ∃ V, evV o = V := ⟨_, rfl⟩
      have HEV := Lib.hid hV
      rw [hV] at HLD HST
      have HEN := Lib.hid (fun W => (show Calls Tryz.prog 68 #[V] W fun e w' => e = .returned (.bool o.ended) ∧ Fr [] W w' from by
        have h := ended_any o W
        rw [← HEV.out]
        exact h))
      have hl2 := ev_load HBK.out.at
      rw [HEV.out] at hl2
      have HL2 := Lib.hid hl2
      clear hx hoe hcells hld hst hblk hfr hV hoo f5 htk htl hl2
      go_upto_region 6 with fail
      refine wp_region_lit ?_
      refine wpList_plain rfl (fun K hK => ?_)
      go_simp
      refine hK _ _ ?_
      clear hK K
      refine wpList_val rfl (v := V) (w' := wr) ?_ ?_
      · show Sem.run Tryz.prog ((Instr.loadAt 103 (.pointer (some ⟨g, off + q * 30, none⟩))) >>= fun x => pure (Next.value x)) wr = _
        rw [Sem.run_bind, HLD.out]
        rfl
      refine wpList_plain rfl (fun K hK => ?_)
      go_simp
      refine hK _ _ ?_
      clear hK K
      refine wpList_skp rfl (w' := w5) ?_ ?_
      · show Sem.run Tryz.prog ((Instr.storeAt 103 (.pointer (some ⟨wr.heap.size, 0, none⟩)) V) >>= fun _ => pure Next.skip) _ = _
        rw [Sem.run_bind, HST.out]
        rfl
      refine wpList_nil ?_
      try simp only [Act.put, List.getElem_toArray, List.getElem_cons_succ, List.getElem_cons_zero, List.setIfInBounds_toArray, List.set_cons_zero, List.set_cons_succ]
      obtain ⟨E, hE⟩ : ∃ E, wr.heap.size = E := ⟨_, rfl⟩
      rw [hE] at HBK HL2 hME
      simp only [hE]
      clear hE HLD HST
      have HG := Lib.hid hg
      clear hg
      go_upto_region 7 with fail
      refine wp_region_lit ?_
      refine wpList_val rfl (v := V) (w' := w5) ?_ ?_
      · show Sem.run Tryz.prog ((Instr.loadAt 103 (.pointer (some ⟨E, 0, none⟩))) >>= fun x => pure (Next.value x)) w5 = _
        rw [Sem.run_bind, HL2.out]
        rfl
      try simp only [Act.put, List.getElem_toArray, List.getElem_cons_succ, List.getElem_cons_zero, List.setIfInBounds_toArray, List.set_cons_zero, List.set_cons_succ]
      go_wp2_with fail
      refine (HEN.out _).mono ?_
      rintro e w6 ⟨rfl, f6⟩
      have HF6 := Lib.hid (HF5.out.step f6)
      have HB6 := Lib.hid (HBK.out.keep f6 (by simp))
      clear f6 HF5 HBK HL2 HEN
      have hS6 := HS.out.keep HF6.out (by simp)
      obtain ⟨en, hen⟩ : ∃ z, o.ended = z := ⟨_, rfl⟩
      rw [hen]
      have HED := Lib.hid hen
      clear hen
      cases en with
      | false =>
        have HS6 := Lib.hid hS6
        clear hS6
        go_wp2
        go_roundw
        case rel => exact ⟨_, q + 1, D, rfl, by go_num, by omega, HS6.out, by rw [HTK.out.1]; exact HD.out.idle HED.out, HF.out.step HF6.out⟩
        case measure => simp [intOf]; omega
      | true =>
        obtain ⟨c, D', hc, hD', hb⟩ := cd_bump HD.out HED.out HOO.out HTK.out.2
        obtain ⟨hlk, v0, st, W1, hme, fme, hl1, hes⟩ := hb w6.drew M (hS6.drewN 1)
        obtain ⟨W3, hst3, hM3, f3⟩ := hes W1 rfl
        have hc2 : (c : Int) ≤ 5000 := by have := HTK.out.2; omega
        have hwc : IntKind.i64.wrap ((c : Int) + 1) = (c : Int) + 1 := IntWalk.i64_in _ (by omega)
        have HFM := Lib.hid (show Fr [M] w6 W3 from (((Fr.refl [M] w6).drew).trans fme (fun _ h _ => h)).trans f3 (fun _ h _ => h))
        have HM3 := Lib.hid hM3
        have HD3 := Lib.hid hD'
        have HF1 := Lib.hid fme
        have HF3 := Lib.hid f3
        have hEM : E ∉ [M] := by rw [List.mem_singleton]; omega
        have k17 : w6.drew.cell? ⟨E, 17, none⟩ = some (.int .i64 o.eKind) := HB6.out.c 17 _ rfl
        have k18 : w6.drew.cell? ⟨E, 18, none⟩ = some (.int .i64 o.eErr) := HB6.out.c 18 _ rfl
        clear fme hM3 f3 hS6 hD' hb hc hes
        go_upto_region 8 with fail
        refine wp_region_held_drew (S := fun w' => w'.cell? ⟨E, 17, none⟩ = some (.int .i64 o.eKind) ∧ w'.cell? ⟨E, 18, none⟩ = some (.int .i64 o.eErr)) (by kernel_rfl) (⟨k17, k18⟩) (fun hHeld => ?_)
        refine wpAnyH_take (i := 0) (oi := _) (v := ?_) rfl (by kernel_rfl) (by kernel_rfl) (by kernel_rfl) (fun _ _ _ h => h) (Or.inl ⟨by rfl, ?_⟩) (by assumption) ?_
        rotate_left
        · intro w hSw
          try dsimp only at hSw
          go_simp
          try with_reducible rfl
        try simp only [Act.put, List.getElem_toArray, List.getElem_cons_succ, List.getElem_cons_zero, List.setIfInBounds_toArray, List.set_cons_zero, List.set_cons_succ]
        refine wpAnyH_take (i := 1) (oi := _) (v := ?_) rfl (by kernel_rfl) (by kernel_rfl) (by kernel_rfl) (fun _ _ _ h => h) (Or.inl ⟨by rfl, ?_⟩) (by assumption) ?_
        rotate_left
        · intro w hSw
          try dsimp only at hSw
          go_simp
          try with_reducible rfl
        try simp only [Act.put, List.getElem_toArray, List.getElem_cons_succ, List.getElem_cons_zero, List.setIfInBounds_toArray, List.set_cons_zero, List.set_cons_succ]
        refine wpAnyH_take (i := 2) (oi := _) (v := ?_) rfl (by kernel_rfl) (by kernel_rfl) (by kernel_rfl) (fun _ _ _ h => h) (Or.inl ⟨by rfl, ?_⟩) (by assumption) ?_
        rotate_left
        · intro w hSw
          try dsimp only at hSw
          go_simp
          try with_reducible rfl
        try simp only [Act.put, List.getElem_toArray, List.getElem_cons_succ, List.getElem_cons_zero, List.setIfInBounds_toArray, List.set_cons_zero, List.set_cons_succ]
        refine wpAnyH_take (i := 3) (oi := _) (v := ?_) rfl (by kernel_rfl) (by kernel_rfl) (by kernel_rfl) (fun _ _ _ h => h) (Or.inl ⟨by rfl, ?_⟩) (by assumption) ?_
        rotate_left
        · intro w hSw
          try dsimp only at hSw
          go_simp
          try with_reducible rfl
        try simp only [Act.put, List.getElem_toArray, List.getElem_cons_succ, List.getElem_cons_zero, List.setIfInBounds_toArray, List.set_cons_zero, List.set_cons_succ]
        refine wpAnyH_take (i := 4) (oi := _) (v := ?_) rfl (by kernel_rfl) (by kernel_rfl) (by kernel_rfl) (fun _ _ _ h => h) (Or.inl ⟨by rfl, ?_⟩) (by assumption) ?_
        rotate_left
        · intro w hSw
          try dsimp only at hSw
          go_simp
          try with_reducible rfl
        try simp only [Act.put, List.getElem_toArray, List.getElem_cons_succ, List.getElem_cons_zero, List.setIfInBounds_toArray, List.set_cons_zero, List.set_cons_succ]
        refine wpAnyH_take (i := 5) (oi := _) (v := ?_) rfl (by kernel_rfl) (by kernel_rfl) (by kernel_rfl) (fun _ _ _ h => h) (Or.inl ⟨by rfl, ?_⟩) (by assumption) ?_
        rotate_left
        · intro w hSw
          try dsimp only at hSw
          go_simp
          try with_reducible rfl
        try simp only [Act.put, List.getElem_toArray, List.getElem_cons_succ, List.getElem_cons_zero, List.setIfInBounds_toArray, List.set_cons_zero, List.set_cons_succ]
        refine wpAnyH_take (i := 6) (oi := _) (v := ?_) rfl (by kernel_rfl) (by kernel_rfl) (by kernel_rfl) (fun _ _ _ h => h) (Or.inl ⟨by rfl, ?_⟩) (by assumption) ?_
        rotate_left
        · intro w hSw
          try dsimp only at hSw
          go_simp
          try with_reducible rfl
        try simp only [Act.put, List.getElem_toArray, List.getElem_cons_succ, List.getElem_cons_zero, List.setIfInBounds_toArray, List.set_cons_zero, List.set_cons_succ]
        refine wpAnyH_take (i := 7) (oi := _) (v := ?_) rfl (by kernel_rfl) (by kernel_rfl) (by kernel_rfl) (fun _ _ _ h => h) (Or.inl ⟨by rfl, ?_⟩) (by assumption) ?_
        rotate_left
        · intro w hSw
          try dsimp only at hSw
          go_simp
          try with_reducible rfl
        try simp only [Act.put, List.getElem_toArray, List.getElem_cons_succ, List.getElem_cons_zero, List.setIfInBounds_toArray, List.set_cons_zero, List.set_cons_succ]
        refine wpAnyH_ready (rs := [8, 10]) (by kernel_rfl) (by simp) ?_
        refine AllReadyH.cons (o := _) rfl (fun K hK => ?_) (AllReadyH.cons (o := _) rfl (fun K hK => ?_) AllReadyH.nil)
        · skip
          go_simp
          refine hK.out _ _ (hHeld) (fun hHeld => ?_)
          clear hK K
          try simp only [Act.put, List.getElem_toArray, List.getElem_cons_succ, List.getElem_cons_zero, List.setIfInBounds_toArray, List.set_cons_zero, List.set_cons_succ]
          refine wpAnyH_take (i := 9) (oi := _) (v := ?_) rfl (by kernel_rfl) (by kernel_rfl) (by kernel_rfl) (fun _ _ _ h => h) (Or.inl ⟨by rfl, ?_⟩) (by assumption) ?_
          rotate_left
          · intro w hSw
            try dsimp only at hSw
            go_simp
            try with_reducible rfl
          try simp only [Act.put, List.getElem_toArray, List.getElem_cons_succ, List.getElem_cons_zero, List.setIfInBounds_toArray, List.set_cons_zero, List.set_cons_succ]
          refine wpAnyH_ready (rs := [10]) (by kernel_rfl) (by simp) ?_
          refine AllReadyH.cons (o := _) rfl (fun K hK => ?_) AllReadyH.nil
          go_simp
          refine hK.out _ _ (⟨HF1.out.keep hHeld.1 hEM, HF1.out.keep hHeld.2 hEM⟩) (fun hHeld => ?_)
          clear hK K
          try simp only [Act.put, List.getElem_toArray, List.getElem_cons_succ, List.getElem_cons_zero, List.setIfInBounds_toArray, List.set_cons_zero, List.set_cons_succ]
          refine wpAnyH_take (i := 11) (oi := _) (v := ?_) rfl (by kernel_rfl) (by kernel_rfl) (by kernel_rfl) (fun _ _ _ h => h) (Or.inl ⟨by rfl, ?_⟩) (by assumption) ?_
          rotate_left
          · intro w hSw
            try dsimp only at hSw
            go_simp
            try with_reducible rfl
          try simp only [Act.put, List.getElem_toArray, List.getElem_cons_succ, List.getElem_cons_zero, List.setIfInBounds_toArray, List.set_cons_zero, List.set_cons_succ]
          refine wpAnyH_ready (rs := [12]) (by kernel_rfl) (by simp) ?_
          refine AllReadyH.cons (o := _) rfl (fun K hK => ?_) AllReadyH.nil
          go_simp
          refine hK.out _ _ (⟨HF3.out.keep hHeld.1 hEM, HF3.out.keep hHeld.2 hEM⟩) (fun hHeld => ?_)
          clear hK K
          try simp only [Act.put, List.getElem_toArray, List.getElem_cons_succ, List.getElem_cons_zero, List.setIfInBounds_toArray, List.set_cons_zero, List.set_cons_succ]
          refine wpAnyH_done (by kernel_rfl) ?_ _
          clear k17 k18 hlk hme hl1 hst3 hHeld hwc
          go_wp2
          go_roundw
          case rel => exact ⟨_, q + 1, D', rfl, by go_num, by omega, HM3.out, by rw [HTK.out.1]; exact HD3.out, (HF.out.step HF6.out).trans HFM.out (fun x hx hl => by
            rw [List.mem_singleton] at hx
            have := HMW.out
            omega)⟩
          case measure => simp [intOf]; omega
        · skip
          go_simp
          refine hK.out _ _ (⟨HF1.out.keep hHeld.1 hEM, HF1.out.keep hHeld.2 hEM⟩) (fun hHeld => ?_)
          clear hK K
          try simp only [Act.put, List.getElem_toArray, List.getElem_cons_succ, List.getElem_cons_zero, List.setIfInBounds_toArray, List.set_cons_zero, List.set_cons_succ]
          refine wpAnyH_take (i := 11) (oi := _) (v := ?_) rfl (by kernel_rfl) (by kernel_rfl) (by kernel_rfl) (fun _ _ _ h => h) (Or.inl ⟨by rfl, ?_⟩) (by assumption) ?_
          rotate_left
          · intro w hSw
            try dsimp only at hSw
            go_simp
            try with_reducible rfl
          try simp only [Act.put, List.getElem_toArray, List.getElem_cons_succ, List.getElem_cons_zero, List.setIfInBounds_toArray, List.set_cons_zero, List.set_cons_succ]
          refine wpAnyH_ready (rs := [8]) (by kernel_rfl) (by simp) ?_
          refine AllReadyH.cons (o := _) rfl (fun K hK => ?_) AllReadyH.nil
          go_simp
          refine hK.out _ _ (hHeld) (fun hHeld => ?_)
          clear hK K
          try simp only [Act.put, List.getElem_toArray, List.getElem_cons_succ, List.getElem_cons_zero, List.setIfInBounds_toArray, List.set_cons_zero, List.set_cons_succ]
          refine wpAnyH_take (i := 9) (oi := _) (v := ?_) rfl (by kernel_rfl) (by kernel_rfl) (by kernel_rfl) (fun _ _ _ h => h) (Or.inl ⟨by rfl, ?_⟩) (by assumption) ?_
          rotate_left
          · intro w hSw
            try dsimp only at hSw
            go_simp
            try with_reducible rfl
          try simp only [Act.put, List.getElem_toArray, List.getElem_cons_succ, List.getElem_cons_zero, List.setIfInBounds_toArray, List.set_cons_zero, List.set_cons_succ]
          refine wpAnyH_ready (rs := [12]) (by kernel_rfl) (by simp) ?_
          refine AllReadyH.cons (o := _) rfl (fun K hK => ?_) AllReadyH.nil
          go_simp
          refine hK.out _ _ (⟨HF3.out.keep hHeld.1 hEM, HF3.out.keep hHeld.2 hEM⟩) (fun hHeld => ?_)
          clear hK K
          try simp only [Act.put, List.getElem_toArray, List.getElem_cons_succ, List.getElem_cons_zero, List.setIfInBounds_toArray, List.set_cons_zero, List.set_cons_succ]
          refine wpAnyH_done (by kernel_rfl) ?_ _
          clear k17 k18 hlk hme hl1 hst3 hHeld hwc
          go_wp2
          go_roundw
          case rel => exact ⟨_, q + 1, D', rfl, by go_num, by omega, HM3.out, by rw [HTK.out.1]; exact HD3.out, (HF.out.step HF6.out).trans HFM.out (fun x hx hl => by
            rw [List.mem_singleton] at hx
            have := HMW.out
            omega)⟩
          case measure => simp [intOf]; omega
    · have hqn : q = n := by omega
      subst hqn
      have hDx : CdR xs D := by
        have := HD.out
        rwa [List.take_of_length_le (by rw [HM.out]; exact Nat.le_refl _)] at this
      have hDl : D.length ≤ 5000 := by
        have h1 := hDx.len
        rw [HM.out] at h1
        omega
      have HDX := Lib.hid hDx
      have HDL := Lib.hid hDl
      have hMI := HS.out
      clear hDx hDl HD
      go_wp2_with (first
        | (at_range; refine wpList_range_l _ rfl _ 134 rfl 3 Tryz.underlying134 rfl hMI ?_; intro w7 hrg hg7 hs7)
        | fail)
      have HF7 := Lib.hid (HF.out.step hg7)
      have HRG := Lib.hid hrg
      have hMr : M < wr.heap.size := hMI.lt
      clear hrg hMI hg7
      obtain ⟨R, hR⟩ : ∃ R, wr.heap.size = R := ⟨_, rfl⟩
      rw [hR] at HRG hMr
      simp only [hR]
      obtain ⟨Z, hZ⟩ : ∃ Z, w7.heap.size = Z := ⟨_, rfl⟩
      have HZ := Lib.hid (And.intro hZ (show Z = R + 1 from by omega))
      have HWR := Lib.hid (show w.heap.size ≤ R from by rw [← hR]; exact HF.out.size)
      clear hR hZ hs7
      obtain ⟨i0, hi, hz0, hz1, hz2⟩ := info_parts infoCd
      go_frame
      go_loopw [7] (fun v wz => ∃ (wzz : World) (O : CD) (done : List (Value × Value)) (aw : Option Addr) (p cw : Nat), wzz = wz ∧ O.length = p ∧ v = .slice aw p cw ∧ RangeL Tryz.prog 62 wz M R (cdPairs D) done ∧ Came D O done ∧ wz.ownsRow Z 62 3 (.slice aw p cw) p (cdCells (O.map cdOf)) ∧ Fr [R] w7 wz) (fun _ wz => wz.rangeLeft M R)
      case atStart => exact ⟨_, [], [], none, 0, 0, rfl, rfl, rfl, HRG.out, Came.zero D, World.ownsRow_nil _ _ _ _, Fr.refl _ _⟩
      case round =>
        obtain ⟨wz, O, done, aw, p, cw, hwz, hOl, rfl, hrg, hcm, hrow, hfz⟩ := hrel
        subst hwz
        have HCM := Lib.hid hcm
        have HRW := Lib.hid hrow
        have HFZ := Lib.hid hfz
        have HOL := Lib.hid hOl
        clear hcm hrow hfz hOl
        go_wp2_with (first
          | (at_next; refine wpList_next_l _ rfl _ rfl rfl hrg ?_ ?_)
          | fail)
        · intro hall
          have hpd := HCM.out.all HDX.out.nodup' (fun x hx => hall x.1 x.2 hx)
          have hlen : (O.map cdOf).length = p := by rw [List.length_map]; exact HOL.out
          have hpl : (O.map cdOf).length ≤ 100000 := by
            have h1 := hpd.length_eq
            have h2 := HDL.out
            rw [List.length_map]
            omega
          have hsort := sortC_any Z (.slice aw p cw) (O.map cdOf) wz (by rw [hlen]; exact HRW.out) hpl
          have HSO := Lib.hid hsort
          have HPD := Lib.hid hpd
          have HOB := Lib.hid (show ∀ k ∈ (Value.slice aw p cw).ownBlock.toList, Z ≤ k from fun k hk => by
            rcases HRW.out.2 with ⟨h1, h2⟩ | ⟨gg, cp, cur, h1, h2, h3, _⟩
            · rw [h1] at hk
              simp [Value.ownBlock] at hk
            · rw [h1] at hk
              simp [Value.ownBlock] at hk
              omega)
          clear hall hpd hlen hpl hsort
          go_wp2_with fail
          refine HSO.out.mono ?_
          rintro e w8 ⟨rfl, L, hr8, hp8, hs8, f8⟩
          have HL8 := Lib.hid (show CodesAre xs L from CodesAre.of HDX.out (hp8.trans (HPD.out.map cdOf)) hs8)
          have HR8 := Lib.hid hr8
          have HF8 := Lib.hid (show Fr [] w w8 from (HF7.out.trans HFZ.out (fun x hx hl => by
            rw [List.mem_singleton] at hx
            have := HWR.out
            omega)).trans f8 (fun x hx hl => by
            have h1 := HOB.out x hx
            have h2 := HZ.out.2
            have h3 := HWR.out
            omega))
          clear hr8 hp8 hs8 f8 HSO
          go_wp2
          go_ret2
          exact ⟨_, L, rfl, HR8.out, HL8.out, HF8.out⟩
        · intro kk vv w1 hin hnd hrg1 hf1 hs1 hlt1 hen
          obtain ⟨⟨⟨k1, k2⟩, c⟩, hpp, he⟩ := List.mem_map.1 hin
          simp only [Prod.mk.injEq] at he
          obtain ⟨rfl, rfl⟩ := he
          have HCM1 := Lib.hid (HCM.out.more hpp hnd)
          have hpc : (c : Int) ≤ 5000 := by
            have h1 := (HDX.out.num ((k1, k2), c) hpp).1
            have h2 : cnt xs (k1, k2) ≤ xs.length := List.countP_le_length
            rw [HM.out] at h2
            dsimp only at h1
            omega
          have hp5 : p + 1 ≤ 5000 := by
            have h3 := HCM1.out.len
            have h4 := HDL.out
            rw [List.length_append, HOL.out] at h3
            simp at h3
            omega
          have HRG1 := Lib.hid hrg1
          have HF1 := Lib.hid hf1
          have HLT := Lib.hid (And.intro hlt1 hs1)
          clear hin hnd hrg1 hf1 hlt1 hpp hs1
          unfold keyV at hen
          go_upto_region 15 with fail
          obtain ⟨W2, hW2⟩ : ∃ z, w1.alloc (.cells #[.int .i64 k1, .int .i64 k2, .int .i64 (c : Int)] 62) = z := ⟨_, rfl⟩
          have hX : CdAt W2 w1.heap.size ⟨k1, k2, c⟩ := by rw [← hW2]; exact CdAt.made w1 ⟨k1, k2, c⟩
          have f2 : Fr [] w1 W2 := by rw [← hW2]; exact (Fr.refl [] w1).alloc _
          rw [hW2]
          have x0 := hX.c0
          have x1 := hX.c1
          have x2 := hX.c2
          simp only at x0 x1 x2
          have HRG2 := Lib.hid (HRG1.out.keep f2 (by simp) (by simp))
          have HF12 := Lib.hid f2
          have HF2 := Lib.hid (show Fr [R] wz W2 from HF1.out.step f2)
          have HOB := Lib.hid (show ∀ k, (Value.slice aw p cw).ownBlock = some k → Z ≤ k from fun k e => by
            rcases HRW.out.2 with ⟨h1, h2⟩ | ⟨gg, cp, cur, h1, h2, h3, _⟩
            · rw [h1] at e
              cases e
            · rw [h1] at e
              cases e
              exact h2)
          have fA : Fr [] W2 (W2.alloc (.cells #[.int .i64 k1, .int .i64 k2, .int .i64 c] 62)) := (Fr.refl [] W2).alloc _
          have HRA := Lib.hid (row_fr (rowFrS HRW.out HF2.out (fun q e => by
            have h1 := HOB.out q e
            have h2 := HZ.out.2
            rw [List.mem_singleton]
            omega)) fA)
          have HZS := Lib.hid (show Z ≤ (W2.alloc (.cells #[.int .i64 k1, .int .i64 k2, .int .i64 c] 62)).heap.size from by
            have h1 := ((HFZ.out.trans HF2.out (fun _ h _ => h)).step fA).size
            have h2 := HZ.out.1
            omega)
          have hMl := hMr
          have HRG3 := Lib.hid (HRG2.out.keep fA (by simp) (by simp))
          have HCC := Lib.hid (show cdCells ((O ++ [((k1, k2), c)]).map cdOf) = cdCells (O.map cdOf) ++ cdVals ⟨k1, k2, c⟩ from by
            rw [List.map_append, cdCells_app]
            simp [cdCells, cdOf])
          clear hX f2 hMl hW2
          go_wp2_with (first
            | (at_builtin; refine wpList_append_own _ rfl _ _ 53 rfl Z 62 i0 _ 3 24 Tryz.underlying53 hi hz0 hz1 hz2 rfl (by omega) _ _ _ rfl HRA.out ⟨W2.heap.size, 0, none⟩ 1 1 (cdVals ⟨k1, k2, c⟩) rfl rfl (cdVals_new W2 ⟨k1, k2, c⟩) (cdVals_one ⟨k1, k2, c⟩) (by unfold maxLen; omega) (by omega) HZS.out ?_; intro v' w4 hown' hgrow hnil; obtain ⟨a', cap', rfl⟩ := row_val' hown'; have HGR := Lib.hid hgrow; have HOW := Lib.hid hown'; clear hgrow hown' hnil)
            | fail)
          have F4 : Fr (Value.slice aw p cw).ownBlock.toList (W2.alloc (.cells #[.int .i64 k1, .int .i64 k2, .int .i64 c] 62)) w4 := grownFr (S := (Value.slice aw p cw).ownBlock.toList) HGR.out (fun k e => by have e' : (Value.slice aw p cw).ownBlock = some k := e; rw [e']; simp)
          have hno : ∀ b, b < Z → b ∉ (Value.slice aw p cw).ownBlock.toList := fun b hb hm => by
            have := HOB.out b (by simpa using hm)
            omega
          have hRZ : R < Z := by have := HZ.out.2; omega
          have HRG4 := Lib.hid (HRG3.out.keep F4 (hno M (by omega)) (hno R hRZ))
          have HF4 := Lib.hid (show Fr [R] w7 w4 from ((HFZ.out.trans HF2.out (fun _ h _ => h)).step fA).trans F4 (fun x hx hl => by
            have h1 := HOB.out x (by simpa using hx)
            have h2 := HZ.out.1
            omega))
          have hz2 : w4.rangeLeft M R = w1.rangeLeft M R := rangeLeft_eq ((F4.block M (HRG3.out.map.lt) (hno M (by omega))).trans ((fA.block M HRG2.out.map.lt (by simp)).trans (HF12.out.block M HRG1.out.map.lt (by simp)))) ((F4.block R (HRG3.out.lt) (hno R hRZ)).trans ((fA.block R HRG2.out.lt (by simp)).trans (HF12.out.block R HRG1.out.lt (by simp))))
          have HML := Lib.hid (show w4.rangeLeft M R < wz.rangeLeft M R from by
            rw [hz2]
            exact HLT.out.1)
          clear F4 hno hRZ hz2
          go_roundw
          case rel => exact ⟨_, O ++ [((k1, k2), c)], _, a', p + 1, cap', rfl, by rw [List.length_append, HOL.out]; rfl, rfl, HRG4.out, HCM1.out, by rw [HCC.out]; exact HOW.out, HF4.out⟩
          case measure => exact HML.out
end Go.Proofs.YtllmejkcohfbiaaGreatDoor
