/- Contract of chaos's effect. -/
import Derived.Test.YtededfkenlhokaaDoorC6
namespace Go.Proofs.YtededfkenlhokaaDoor
open Go.RowKit Go.Shelf
open Go.Maps (Keyed)
set_option linter.unusedVariables false
set_option maxRecDepth 100000
set_option maxHeartbeats 8000000

/-- The delays, the bytes up to the cuts, the shortened ones: as the words of 64 bits that are computed. -/
def delS (q : Int) (l : List Ft) : Int := l.foldl (fun D f => if f.a = q then IntKind.u64.wrap (D + IntKind.u64.wrap f.g) else D) 0
def cutS (b n : Int) (l : List Ft) : Int := l.foldl (fun m f => min m (wrap64 (f.a - b))) n
def shortS (q n : Int) (l : List Ft) : Int := l.foldl (fun m f => if f.a = q then min m f.g else m) n
theorem delS_snoc (q : Int) (l : List Ft) (x : Ft) : delS q (l ++ [x]) = if x.a = q then IntKind.u64.wrap (delS q l + IntKind.u64.wrap x.g) else delS q l := by simp [delS]
theorem cutS_snoc (b n : Int) (l : List Ft) (x : Ft) : cutS b n (l ++ [x]) = min (cutS b n l) (wrap64 (x.a - b)) := by simp [cutS]
theorem shortS_snoc (q n : Int) (l : List Ft) (x : Ft) : shortS q n (l ++ [x]) = if x.a = q then min (shortS q n l) x.g else shortS q n l := by simp [shortS]

attribute [local go_sem] Oper.semAt_some

/-- The lane and the state of a call of effect. -/
structure LS (w : World) (B : Nat) (c d q b : Int) : Prop where
  x0 : w.cell? ⟨B, 0, none⟩ = some (.int .i64 c)
  x1 : w.cell? ⟨B, 1, none⟩ = some (.int .i64 d)
  s0 : w.cell? ⟨B + 1, 0, none⟩ = some (.int .i64 q)
  s1 : w.cell? ⟨B + 1, 1, none⟩ = some (.int .i64 b)
theorem LS.keep {S : List Nat} {w w' : World} {B : Nat} {c d q b : Int} (h : LS w B c d q b) (hf : Fr S w w') (hS : ∀ x ∈ S, B + 2 ≤ x) : LS w' B c d q b :=
  ⟨hf.keep h.x0 (fun hm => by have := hS _ hm; omega), hf.keep h.x1 (fun hm => by have := hS _ hm; omega), hf.keep h.s0 (fun hm => by have := hS _ hm; omega), hf.keep h.s1 (fun hm => by have := hS _ hm; omega)⟩
/-- A plan lies apart from what a call of effect may turn. -/
theorem PlanIs.over {S : List Nat} {w w' : World} {p m : Nat} {v : Value} {fs : List Ft} {F : LF} (h : PlanIs w p m v fs F) {N : Nat} (hl : p < N ∧ m < N ∧ ∀ g off n c, v = .slice (some ⟨g, off, none⟩) n c → g < N) (hf : Fr S w w') (hS : ∀ x ∈ S, N ≤ x) : PlanIs w' p m v fs F :=
  h.keep hf (fun hm => by have := hS _ hm; omega) (fun hm => by have := hS _ hm; omega) (fun g off n c he hm => by have := hS _ hm; have := hl.2.2 g off n c he; omega)
theorem PlanIs.lows {w : World} {p m : Nat} {v : Value} {fs : List Ft} {F : LF} (h : PlanIs w p m v fs F) : p < w.heap.size ∧ m < w.heap.size ∧ ∀ g off n c, v = .slice (some ⟨g, off, none⟩) n c → g < w.heap.size := by
  exact ⟨cell_lt h.c0, h.lanes.lt, h.low⟩
theorem eff_start (w : World) (c d q b le n : Int) {w1 : World}
    (f1 : Fr [] ((((w.alloc (.cells #[.int .i64 c, .int .i64 d] 93)).alloc (.cells #[.int .i64 q, .int .i64 b, .int .i64 le] 91)).alloc (.cells #[.int .i64 0, .int .u64 0, .int .i64 0] 51)).alloc (.cells #[.int .i64 n, .int .u64 0, .int .i64 0] 51)) w1) :
    LS w1 w.heap.size c d q b ∧ OutAt w1 (w.heap.size + 1 + 1) (0, 0, 0) ∧ OutAt w1 (w.heap.size + 1 + 1 + 1) (n, 0, 0) ∧ Fr [] w w1 := by
  have fa : Fr [] w (w.alloc (.cells #[.int .i64 c, .int .i64 d] 93)) := (Fr.refl [] w).alloc _
  generalize hA : w.alloc (.cells #[.int .i64 c, .int .i64 d] 93) = A at f1 fa
  have zA : A.heap.size = w.heap.size + 1 := by rw [← hA]; simp
  have a0 : A.cell? ⟨w.heap.size, 0, none⟩ = some (.int .i64 c) := by rw [← hA]; simp
  have a1 : A.cell? ⟨w.heap.size, 1, none⟩ = some (.int .i64 d) := by rw [← hA]; simp
  have fb : Fr [] A (A.alloc (.cells #[.int .i64 q, .int .i64 b, .int .i64 le] 91)) := (Fr.refl [] A).alloc _
  generalize hB : A.alloc (.cells #[.int .i64 q, .int .i64 b, .int .i64 le] 91) = C at f1 fb
  have zC : C.heap.size = w.heap.size + 2 := by rw [← hB]; simp [zA]
  have b0 : C.cell? ⟨w.heap.size + 1, 0, none⟩ = some (.int .i64 q) := by rw [← hB, ← zA]; simp
  have b1 : C.cell? ⟨w.heap.size + 1, 1, none⟩ = some (.int .i64 b) := by rw [← hB, ← zA]; simp
  have fc : Fr [] C (C.alloc (.cells #[.int .i64 0, .int .u64 0, .int .i64 0] 51)) := (Fr.refl [] C).alloc _
  generalize hD : C.alloc (.cells #[.int .i64 0, .int .u64 0, .int .i64 0] 51) = D at f1 fc
  have zD : D.heap.size = w.heap.size + 3 := by rw [← hD]; simp [zC]
  have r0 : OutAt D (w.heap.size + 2) (0, 0, 0) := by rw [← hD, ← zC]; exact World.alloc_heap_new C _
  have fd : Fr [] D (D.alloc (.cells #[.int .i64 n, .int .u64 0, .int .i64 0] 51)) := (Fr.refl [] D).alloc _
  have o0 : OutAt (D.alloc (.cells #[.int .i64 n, .int .u64 0, .int .i64 0] 51)) (w.heap.size + 3) (n, 0, 0) := by rw [← zD]; exact World.alloc_heap_new D _
  have g4 := fd.step f1
  have g3 := fc.step g4
  have g2 := fb.step g3
  exact ⟨⟨g2.keep a0 (by simp), g2.keep a1 (by simp), g3.keep b0 (by simp), g3.keep b1 (by simp)⟩, r0.keep g4 (by simp), o0.keep f1 (by simp), fa.step g2⟩

/-- What effect hands back, as it is computed. -/
def effW (fs : List Ft) (c d q b n : Int) : Int × Int × Int :=
  if (fs.filter (mt 4 c d)).any (fun f => decide (f.a ≤ b)) = true then (0, delS q (fs.filter (mt 2 c d)), 14)
  else match (fs.filter (mt 3 c d)).find? (fun f => decide (f.a = q)) with
    | some f => (0, delS q (fs.filter (mt 2 c d)), f.g)
    | none => (shortS q (cutS b n (fs.filter (mt 4 c d))) (fs.filter (mt 1 c d)), delS q (fs.filter (mt 2 c d)), 0)
def EffPost (w : World) (y : Int × Int × Int) (e : Ending) (w' : World) : Prop := e = .returned (.agg #[.int .i64 y.1, .int .u64 y.2.1, .int .i64 y.2.2]) ∧ Fr [] w w'
theorem effRet {w W W' : World} {OUT RES : Nat} {Pi : List Ft → Prop} {st : List Ft → Int × Int × Int} {Px : List Ft → Int × Int × Int → Prop} {pre : List Ft} {x : Ft} {a : Act} (y : Int × Int × Int) (h1 : Px (pre ++ [x]) y) (h2 : OutAt W' RES y) (h3 : Fr [OUT, RES] w W') (h4 : KeepsFrom w.heap.size W W') : EffEnd w OUT RES Pi st Px (pre ++ [x]) W .ret a W' :=
  ⟨h4, rfl, y, h1, h2, h3⟩
theorem effStay {w W : World} {OUT RES : Nat} {Pi : List Ft → Prop} {st : List Ft → Int × Int × Int} {Px : List Ft → Int × Int × Int → Prop} {pre : List Ft} {x : Ft} {a : Act} (h1 : Pi (pre ++ [x])) (h2 : OutAt W OUT (st (pre ++ [x]))) (h3 : Fr [OUT] w W) : EffEnd w OUT RES Pi st Px (pre ++ [x]) W .normal a W :=
  ⟨KeepsFrom.refl _ _, Kx.new (Fr.refl _ _), h1, h2, h3⟩
theorem effSet {w W : World} {OUT RES o : Nat} {u : Value} {Pi : List Ft → Prop} {st : List Ft → Int × Int × Int} {Px : List Ft → Int × Int × Int → Prop} {pre : List Ft} {x : Ft} {a : Act} (h1 : Pi (pre ++ [x])) (h2 : OutAt (W.setCell ⟨OUT, o, none⟩ u) OUT (st (pre ++ [x]))) (h3 : Fr [OUT] w W) : EffEnd w OUT RES Pi st Px (pre ++ [x]) W .normal a (W.setCell ⟨OUT, o, none⟩ u) :=
  ⟨(KeepsOthers.setCell _ _ _).from _, ⟨[OUT], (Fr.refl _ _).setCell (fun _ => by simp) _, fun x hx => .inl (by simpa using hx)⟩, h1, h2, h3.setCell (fun _ => by simp) _⟩

theorem effEndL (tmps : Array Value) (RES : Nat) (y : Int × Int × Int) (w : World) (ht : tmps[8]? = some (.pointer (some ⟨RES, 0, none⟩))) : ∀ (Ds : List Nat) (W : World), (∀ D ∈ Ds, W.heap[D]? = some (.deferred (some []))) → Ds.Nodup → (∀ D ∈ Ds, D ≠ RES ∧ w.heap.size ≤ D) → OutAt W RES y → Fr [] w W →
    LeavesInM Fence.wide 6 Tryd.prog Tryd.f38 tmps (EffPost w y) (Ds.map fun D => { target := Target.collected D, args := #[] }) FrameMode.returning W
  | [], W, _, _, _, hO, hf => by
    have c0 := hO.c0
    have c1 := hO.c1
    have c2 := hO.c2
    exact ⟨.agg #[.int .i64 y.1, .int .u64 y.2.1, .int .i64 y.2.2], by simp [results, Tryd.f38, go_sem, Array.getD_eq_getD_getElem?, ht, c0, c1, c2], rfl, hf⟩
  | D :: Ds, W, h1, h2, h3, hO, hf => by
    have hK := h1 D List.mem_cons_self
    obtain ⟨g1, g2⟩ := h3 D List.mem_cons_self
    have fp : Fr [D] W (W.putObj D (.deferred none)) := grownFr (grownBy_putObj' W D _) (fun k e => by cases e; simp)
    refine ⟨by simp, .inl ⟨_, _, rfl, run_takeDeferred hK, ?_⟩⟩
    refine effEndL tmps RES y w ht Ds _ (fun D' hD' => ?_) (List.nodup_cons.1 h2).2 (fun D' hD' => h3 D' (List.mem_cons_of_mem _ hD')) (hO.keep fp (by simpa using g1.symm)) (hf.trans fp (fun x hx hl => by simp at hx; omega))
    have hne : D' ≠ D := fun e => (List.nodup_cons.1 h2).1 (e ▸ hD')
    have hK' := h1 D' (List.mem_cons_of_mem _ hD')
    exact (fp.block D' (Array.getElem?_eq_some_iff.1 hK').1 (by simpa using hne)).trans hK'

theorem effect_any {p m : Nat} {v : Value} {fs : List Ft} {F : LF} (c d q b le n : Int) (w : World) (h : PlanIs w p m v fs F) :
    Calls Tryd.prog 38 #[.pointer (some ⟨p, 0, none⟩), .agg #[.int .i64 c, .int .i64 d], .agg #[.int .i64 q, .int .i64 b, .int .i64 le], .int .i64 n] w fun e w' => EffPost w (effW fs c d q b n) e w' := by
  have hlow := h.lows
  refine (callsIn_wide (n := 6)).1 ?_
  refine callsIn_of_wp_marks Tryd.func38 rfl trivial ?_ rfl
  simp only [Tryd.ntmps38, List.size_toArray, List.length_cons, List.length_nil, Nat.reduceAdd, Nat.reduceSub, Array.replicate_succ, Array.replicate_zero, List.push_toArray, List.append_toArray, List.nil_append, List.cons_append]
  have HH := Lib.hid h
  have HL := Lib.hid hlow
  clear h hlow
  gi_wp2_with (refine ⟨trivial, ?_⟩; gi_at_call 59; refine (callsIn_wide.2 (of_any p 2 c d _)).mono ?_; rintro e w1 ⟨rfl, ⟨b1, b2, b3, b4⟩, f1, z1⟩)
  obtain ⟨hS, hR, hO, fr⟩ := eff_start w c d q b le n f1
  simp only [World.size_alloc] at b1 b2 b3 b4 z1
  have hP := HH.out.new fr
  obtain ⟨B, hB⟩ : ∃ B, w.heap.size = B := ⟨_, rfl⟩
  rw [hB] at hS hR hO b1 b2 b3 b4 z1 ⊢
  have hlow1 := HL.out
  rw [hB] at hlow1
  have hOf : OfIs w1 (B + 1 + 1 + 1 + 1) (B + 1 + 1 + 1 + 1 + 1) (B + 1 + 1 + 1 + 1 + 1 + 1) p v fs 2 c d := ⟨b1, b2, b3, b4, hP.c0, hP.row⟩
  refine effLoop (s := 10) (OUT := B + 1 + 1 + 1) (RES := B + 1 + 1) (by omega) rfl hOf ⟨by omega, by omega, by omega, by omega, fun g off n c he => by have := hlow1.2.2 g off n c he; omega⟩ hP.len (by omega) (by omega) (fun _ => True) (fun pre => (n, delS q pre, 0)) (fun _ _ => False) ⟨trivial, hO⟩ ?assign ?body ?done ?stop
  case assign =>
    intro l x W K hK
    unfold ftV at hK ⊢
    simp only [List.setIfInBounds_toArray, List.set_cons_succ, List.set_cons_zero] at hK ⊢
    gi_wp2
    exact hK
  case body =>
    intro l pre x Bx W hBx hF ⟨_, hOut, hFr⟩ hlt
    unfold ftV
    simp only [List.setIfInBounds_toArray, List.set_cons_succ, List.set_cons_zero]
    have o1 := hOut.c1
    have oz := hOut.fz 1
    have x3 := hF.c3
    have x4 := hF.c4
    have s0 := (hS.keep hFr (by intro x hx; simp at hx; omega)).s0
    have HO := Lib.hid hOut
    have HFr := Lib.hid hFr
    simp only at o1
    clear hOut hFr
    by_cases hq : x.a = q
    · have e1 : (x.a == q) = true := by simp [hq]
      gi_wp2
      exact effSet trivial (by rw [delS_snoc, if_pos hq]; exact HO.out.set1 _) HFr.out
    · have e1 : (x.a == q) = false := by rw [beq_eq_false_iff_ne]; exact hq
      gi_wp2
      exact effStay trivial (by rw [delS_snoc, if_neg hq]; exact HO.out) HFr.out
  case done =>
    intro D1 W hD1 _ hO1 hF1 hK1
    have hlen := hP.len
    have hS1 := hS.keep hF1 (by intro x hx; simp at hx; omega)
    have hR1 := hR.keep hF1 (by simp)
    have hP1 := hP.over (N := B) hlow1 hF1 (by intro x hx; simp at hx; omega)
    have z1' := hF1.size
    have f1' : Fr [] w W := fr.trans hF1 (fun x hx hl => by simp at hx; omega)
    clear hOf hP hS hR hO b1 b2 b3 b4 hF1 f1
    have y0 := hS1.x0
    have y1 := hS1.x1
    obtain ⟨Dl, hDl⟩ : ∃ Dl, delS q (fs.filter (mt 2 c d)) = Dl := ⟨_, rfl⟩
    rw [hDl] at hO1
    have HDl := Lib.hid hDl
    clear hDl
    gi_wp2_with (refine ⟨trivial, ?_⟩; gi_at_call 59; refine (callsIn_wide.2 (of_any p 4 c d _)).mono ?_; rintro e w2 ⟨rfl, ⟨b1, b2, b3, b4⟩, f2, z2⟩)
    clear y0 y1
    have hK2 : w2.heap[D1]? = some (.deferred (some [])) := (f2.block D1 (Array.getElem?_eq_some_iff.1 hK1).1 (by simp)).trans hK1
    have hS2 := hS1.keep f2 (by simp)
    have hR2 := hR1.keep f2 (by simp)
    have hO2 := hO1.keep f2 (by simp)
    have hP2 := hP1.over (N := B) hlow1 f2 (by simp)
    have z3 := f2.size
    have dl := (Array.getElem?_eq_some_iff.1 hK2).1
    clear hS1 hR1 hO1 hP1 hK1
    refine effLoop (s := 11) (OUT := B + 1 + 1 + 1) (RES := B + 1 + 1) (by omega) rfl ⟨b1, b2, b3, b4, hP2.c0, hP2.row⟩ ⟨by omega, by omega, by omega, by omega, fun g off n c he => by have := hlow1.2.2 g off n c he; omega⟩ hP2.len (by omega) (by omega)
      (fun pre => ∀ f ∈ pre, ¬ f.a ≤ b) (fun pre => (cutS b n pre, Dl, 0)) (fun pre y => (∃ f ∈ pre, f.a ≤ b) ∧ y = (0, Dl, 14)) ⟨by simp, hO2⟩ ?assign2 ?body2 ?done2 ?stop2
    case assign2 =>
      intro l x W K hK
      unfold ftV at hK ⊢
      simp only [List.setIfInBounds_toArray, List.set_cons_succ, List.set_cons_zero] at hK ⊢
      gi_wp2
      exact hK
    case body2 =>
      intro l pre x Bx W hBx hF ⟨hPi, hOut, hFr⟩ hlt
      unfold ftV
      simp only [List.setIfInBounds_toArray, List.set_cons_succ, List.set_cons_zero]
      have o0 := hOut.c0
      have o1 := hOut.c1
      have oz := hOut.fz 0
      have x3 := hF.c3
      have s1 := (hS2.keep hFr (by intro x hx; simp at hx; omega)).s1
      have hRW := hR2.keep hFr (by simp)
      have rz0 := hRW.fz 0
      have rz1 := hRW.fz 1
      have rz2 := hRW.fz 2
      have r0 := hRW.c0
      have r1 := hRW.c1
      have r2 := hRW.c2
      have HO := Lib.hid hOut
      have HR := Lib.hid hRW
      have HFr := Lib.hid hFr
      have HPi := Lib.hid hPi
      simp only at o0 o1
      have hne : Bx ≠ B + 1 + 1 + 1 := by omega
      clear hOut hFr hRW hPi
      by_cases hq : x.a ≤ b
      · have e1 : decide (x.a ≤ b) = true := decide_eq_true hq
        gi_wp2
        refine effRet (0, Dl, 14) ⟨⟨x, by simp, hq⟩, rfl⟩ ?_ ?_ ?_
        · exact (((HR.out.keep (S := [B + 1 + 1 + 1]) ((Fr.refl _ _).setCell (fun _ => by simp) _) (by simp)).set0 _).set1 _).set2 _
        · exact ((((HFr.out.mono (T := [B + 1 + 1 + 1, B + 1 + 1]) (fun x hx _ => by simp at hx; simp [hx])).setCell (fun _ => by simp) _).setCell (fun _ => by simp) _).setCell (fun _ => by simp) _).setCell (fun _ => by simp) _
        · exact ((((KeepsOthers.setCell _ _ _).trans (KeepsOthers.setCell _ _ _)).trans (KeepsOthers.setCell _ _ _)).trans (KeepsOthers.setCell _ _ _)).from _
      · have e1 : decide (x.a ≤ b) = false := decide_eq_false hq
        gi_wp2
        refine effSet ?_ (by rw [cutS_snoc]; exact HO.out.set0 _) HFr.out
        intro f hf
        rcases List.mem_append.1 hf with hf | hf
        · exact HPi.out f hf
        · rw [List.mem_singleton] at hf
          subst hf
          exact hq
    case stop2 =>
      intro D2 pre y W hD2 hpre ⟨⟨f, hf, hfb⟩, hy⟩ hRa hF3 hK3
      have hK4 : W.heap[D1]? = some (.deferred (some [])) := (hF3.block D1 dl (by simp; omega)).trans hK2
      have hW : effW fs c d q b n = y := by
        unfold effW
        rw [if_pos (List.any_eq_true.2 ⟨f, hpre.subset hf, by simpa using hfb⟩), HDl.out, hy]
      have HW := Lib.hid hW
      clear hW
      gi_wp2
      rw [HW.out]
      exact effEndL _ (B + 1 + 1) y w rfl [D2, D1] W (by simp [hK3, hK4]) (by simp; omega) (by simp; omega) hRa ((f1'.step f2).trans hF3 (fun x hx hl => by simp at hx; omega))
    case done2 =>
      intro D2 W hD2 hPi hO3 hF3 hK3
      have hcut : (fs.filter (mt 4 c d)).any (fun f => decide (f.a ≤ b)) = false := by
        rw [List.any_eq_false]
        intro f hf
        simpa using hPi f hf
      have HCut := Lib.hid hcut
      clear hcut hPi
      obtain ⟨Ml, hMl⟩ : ∃ Ml, cutS b n (fs.filter (mt 4 c d)) = Ml := ⟨_, rfl⟩
      rw [hMl] at hO3
      have HMl := Lib.hid hMl
      clear hMl
      have hS3 := hS2.keep hF3 (by intro x hx; simp at hx; omega)
      have hR3 := hR2.keep hF3 (by simp)
      have hP3 := hP2.over (N := B) hlow1 hF3 (by intro x hx; simp at hx; omega)
      have hK4 : W.heap[D1]? = some (.deferred (some [])) := (hF3.block D1 dl (by simp; omega)).trans hK2
      have frW : Fr [] w W := (f1'.step f2).trans hF3 (fun x hx hl => by simp at hx; omega)
      have z4 := hF3.size
      clear hS2 hR2 hO2 hP2 hF3 b1 b2 b3 b4
      have y0 := hS3.x0
      have y1 := hS3.x1
      gi_wp2_with (refine ⟨trivial, ?_⟩; gi_at_call 59; refine (callsIn_wide.2 (of_any p 3 c d _)).mono ?_; rintro e w3 ⟨rfl, ⟨b1, b2, b3, b4⟩, f3, z5⟩)
      clear y0 y1
      have hK5 : w3.heap[D1]? = some (.deferred (some [])) := (f3.block D1 (Array.getElem?_eq_some_iff.1 hK4).1 (by simp)).trans hK4
      have hK6 : w3.heap[D2]? = some (.deferred (some [])) := (f3.block D2 (Array.getElem?_eq_some_iff.1 hK3).1 (by simp)).trans hK3
      have hS4 := hS3.keep f3 (by simp)
      have hR4 := hR3.keep f3 (by simp)
      have hO4 := hO3.keep f3 (by simp)
      have hP4 := hP3.over (N := B) hlow1 f3 (by simp)
      have z6 := f3.size
      have d1l := (Array.getElem?_eq_some_iff.1 hK5).1
      have d2l := (Array.getElem?_eq_some_iff.1 hK6).1
      have fr3 : Fr [] w w3 := frW.step f3
      clear hS3 hR3 hO3 hP3 hK3 hK4 hK2 frW f3
      refine effLoop (s := 12) (OUT := B + 1 + 1 + 1) (RES := B + 1 + 1) (by omega) rfl ⟨b1, b2, b3, b4, hP4.c0, hP4.row⟩ ⟨by omega, by omega, by omega, by omega, fun g off n c he => by have := hlow1.2.2 g off n c he; omega⟩ hP4.len (by omega) (by omega)
        (fun pre => ∀ f ∈ pre, ¬ f.a = q) (fun pre => (Ml, Dl, 0)) (fun pre y => ∃ pre' f, pre = pre' ++ [f] ∧ (∀ g ∈ pre', ¬ g.a = q) ∧ f.a = q ∧ y = (0, Dl, f.g)) ⟨by simp, hO4⟩ ?assign3 ?body3 ?done3 ?stop3
      case assign3 =>
        intro l x W K hK
        unfold ftV at hK ⊢
        simp only [List.setIfInBounds_toArray, List.set_cons_succ, List.set_cons_zero] at hK ⊢
        gi_wp2
        exact hK
      case body3 =>
        intro l pre x Bx W hBx hF ⟨hPi, hOut, hFr⟩ hlt
        unfold ftV
        simp only [List.setIfInBounds_toArray, List.set_cons_succ, List.set_cons_zero]
        have o1 := hOut.c1
        have x3 := hF.c3
        have x4 := hF.c4
        have s0 := (hS4.keep hFr (by intro x hx; simp at hx; omega)).s0
        have hRW := hR4.keep hFr (by simp)
        have rz0 := hRW.fz 0
        have rz1 := hRW.fz 1
        have rz2 := hRW.fz 2
        have r0 := hRW.c0
        have r1 := hRW.c1
        have r2 := hRW.c2
        have HO := Lib.hid hOut
        have HR := Lib.hid hRW
        have HFr := Lib.hid hFr
        have HPi := Lib.hid hPi
        simp only at o1
        clear hOut hFr hRW hPi
        by_cases hq : x.a = q
        · have e1 : (x.a == q) = true := by simp [hq]
          have HQ := Lib.hid hq
          clear hq
          gi_wp2
          refine effRet (0, Dl, x.g) ⟨pre, x, rfl, HPi.out, HQ.out, rfl⟩ ?_ ?_ ?_
          · exact ((HR.out.set0 _).set1 _).set2 _
          · exact (((HFr.out.mono (T := [B + 1 + 1 + 1, B + 1 + 1]) (fun x hx _ => by simp at hx; simp [hx])).setCell (fun _ => by simp) _).setCell (fun _ => by simp) _).setCell (fun _ => by simp) _
          · exact (((KeepsOthers.setCell _ _ _).trans (KeepsOthers.setCell _ _ _)).trans (KeepsOthers.setCell _ _ _)).from _
        · have e1 : (x.a == q) = false := by rw [beq_eq_false_iff_ne]; exact hq
          have HQ := Lib.hid hq
          clear hq
          gi_wp2
          refine effStay ?_ HO.out HFr.out
          intro f hf
          rcases List.mem_append.1 hf with hf | hf
          · exact HPi.out f hf
          · rw [List.mem_singleton] at hf
            subst hf
            exact HQ.out
      case stop3 =>
        intro D3 pre y W hD3 hpre ⟨pre', f, hpf, hg, hfq, hy⟩ hRa hF3 hK3
        have hK7 : W.heap[D1]? = some (.deferred (some [])) := (hF3.block D1 d1l (by simp; omega)).trans hK5
        have hK8 : W.heap[D2]? = some (.deferred (some [])) := (hF3.block D2 d2l (by simp; omega)).trans hK6
        have hW : effW fs c d q b n = y := by
          unfold effW
          rw [HCut.out]
          have hfind : (fs.filter (mt 3 c d)).find? (fun f => decide (f.a = q)) = some f := by
            obtain ⟨r, hr⟩ := hpre
            rw [← hr, hpf, List.append_assoc, List.find?_append]
            have : pre'.find? (fun f => decide (f.a = q)) = none := by
              rw [List.find?_eq_none]
              intro g hg'
              simpa using hg g hg'
            rw [this]
            simp [hfq]
          rw [if_neg (by simp), hfind, HDl.out, hy]
        have HW := Lib.hid hW
        clear hW
        gi_wp2
        rw [HW.out]
        exact effEndL _ (B + 1 + 1) y w rfl [D3, D2, D1] W (by simp [hK3, hK7, hK8]) (by simp; omega) (by simp; omega) hRa (fr3.trans hF3 (fun x hx hl => by simp at hx; omega))
      case done3 =>
        intro D3 W hD3 hPi hO5 hF3 hK3
        have hfind : (fs.filter (mt 3 c d)).find? (fun f => decide (f.a = q)) = none := by
          rw [List.find?_eq_none]
          intro g hg'
          simpa using hPi g hg'
        have HFind := Lib.hid hfind
        clear hfind hPi
        have hS5 := hS4.keep hF3 (by intro x hx; simp at hx; omega)
        have hR5 := hR4.keep hF3 (by simp)
        have hP5 := hP4.over (N := B) hlow1 hF3 (by intro x hx; simp at hx; omega)
        have hK7 : W.heap[D1]? = some (.deferred (some [])) := (hF3.block D1 d1l (by simp; omega)).trans hK5
        have hK8 : W.heap[D2]? = some (.deferred (some [])) := (hF3.block D2 d2l (by simp; omega)).trans hK6
        have frW : Fr [] w W := fr3.trans hF3 (fun x hx hl => by simp at hx; omega)
        have z7 := hF3.size
        clear hS4 hR4 hO4 hP4 hF3 b1 b2 b3 b4 hK5 hK6
        have y0 := hS5.x0
        have y1 := hS5.x1
        gi_wp2_with (refine ⟨trivial, ?_⟩; gi_at_call 59; refine (callsIn_wide.2 (of_any p 1 c d _)).mono ?_; rintro e w4 ⟨rfl, ⟨b1, b2, b3, b4⟩, f4, z8⟩)
        clear y0 y1
        have hK9 : w4.heap[D1]? = some (.deferred (some [])) := (f4.block D1 (Array.getElem?_eq_some_iff.1 hK7).1 (by simp)).trans hK7
        have hK10 : w4.heap[D2]? = some (.deferred (some [])) := (f4.block D2 (Array.getElem?_eq_some_iff.1 hK8).1 (by simp)).trans hK8
        have hK11 : w4.heap[D3]? = some (.deferred (some [])) := (f4.block D3 (Array.getElem?_eq_some_iff.1 hK3).1 (by simp)).trans hK3
        have hS6 := hS5.keep f4 (by simp)
        have hR6 := hR5.keep f4 (by simp)
        have hO6 := hO5.keep f4 (by simp)
        have hP6 := hP5.over (N := B) hlow1 f4 (by simp)
        have z9 := f4.size
        have d1m := (Array.getElem?_eq_some_iff.1 hK9).1
        have d2m := (Array.getElem?_eq_some_iff.1 hK10).1
        have d3m := (Array.getElem?_eq_some_iff.1 hK11).1
        have fr4 : Fr [] w w4 := frW.step f4
        clear hS5 hR5 hO5 hP5 hK3 hK7 hK8 frW f4
        refine effLoop (s := 13) (OUT := B + 1 + 1 + 1) (RES := B + 1 + 1) (by omega) rfl ⟨b1, b2, b3, b4, hP6.c0, hP6.row⟩ ⟨by omega, by omega, by omega, by omega, fun g off n c he => by have := hlow1.2.2 g off n c he; omega⟩ hP6.len (by omega) (by omega)
          (fun _ => True) (fun pre => (shortS q Ml pre, Dl, 0)) (fun _ _ => False) ⟨trivial, hO6⟩ ?assign4 ?body4 ?done4 ?stop4
        case assign4 =>
          intro l x W K hK
          unfold ftV at hK ⊢
          simp only [List.setIfInBounds_toArray, List.set_cons_succ, List.set_cons_zero] at hK ⊢
          gi_wp2
          exact hK
        case body4 =>
          intro l pre x Bx W hBx hF ⟨_, hOut, hFr⟩ hlt
          unfold ftV
          simp only [List.setIfInBounds_toArray, List.set_cons_succ, List.set_cons_zero]
          have o0 := hOut.c0
          have oz := hOut.fz 0
          have x3 := hF.c3
          have x4 := hF.c4
          have s0 := (hS6.keep hFr (by intro x hx; simp at hx; omega)).s0
          have HO := Lib.hid hOut
          have HFr := Lib.hid hFr
          simp only at o0
          clear hOut hFr
          by_cases hq : x.a = q
          · have e1 : (x.a == q) = true := by simp [hq]
            have HQ := Lib.hid hq
            clear hq
            gi_wp2
            exact effSet trivial (by rw [shortS_snoc, if_pos HQ.out]; exact HO.out.set0 _) HFr.out
          · have e1 : (x.a == q) = false := by rw [beq_eq_false_iff_ne]; exact hq
            have HQ := Lib.hid hq
            clear hq
            gi_wp2
            exact effStay trivial (by rw [shortS_snoc, if_neg HQ.out]; exact HO.out) HFr.out
        case stop4 =>
          intro D pre y W _ _ h
          exact h.elim
        case done4 =>
          intro D4 W hD4 _ hO7 hF4 hK4
          have hK12 : W.heap[D1]? = some (.deferred (some [])) := (hF4.block D1 d1m (by simp; omega)).trans hK9
          have hK13 : W.heap[D2]? = some (.deferred (some [])) := (hF4.block D2 d2m (by simp; omega)).trans hK10
          have hK14 : W.heap[D3]? = some (.deferred (some [])) := (hF4.block D3 d3m (by simp; omega)).trans hK11
          have hRW := hR6.keep hF4 (by simp)
          have hW : effW fs c d q b n = (shortS q Ml (fs.filter (mt 1 c d)), Dl, 0) := by
            unfold effW
            rw [HCut.out, if_neg (by simp), HFind.out, HDl.out, HMl.out]
          have HW := Lib.hid hW
          clear hW
          generalize shortS q Ml (fs.filter (mt 1 c d)) = Sl at hO7 HW
          have o0 := hO7.c0
          have o1 := hO7.c1
          have o2 := hO7.c2
          have rz0 := hRW.fz 0
          have rz1 := hRW.fz 1
          have rz2 := hRW.fz 2
          have r0 := hRW.c0
          have r1 := hRW.c1
          have r2 := hRW.c2
          simp only at o0 o1 o2
          gi_wp2
          rw [HW.out]
          have f7 : Fr [B + 1 + 1] W (((W.setCell ⟨B + 1 + 1, 0, none⟩ (.int .i64 Sl)).setCell ⟨B + 1 + 1, 1, none⟩ (.int .u64 Dl)).setCell ⟨B + 1 + 1, 2, none⟩ (.int .i64 0)) := (((Fr.refl _ _).setCell (fun _ => by simp) _).setCell (fun _ => by simp) _).setCell (fun _ => by simp) _
          have kk : ∀ D, B + 1 + 1 + 1 < D → W.heap[D]? = some (.deferred (some [])) → (((W.setCell ⟨B + 1 + 1, 0, none⟩ (.int .i64 Sl)).setCell ⟨B + 1 + 1, 1, none⟩ (.int .u64 Dl)).setCell ⟨B + 1 + 1, 2, none⟩ (.int .i64 0)).heap[D]? = some (.deferred (some [])) := fun D hD hK => (f7.block D (Array.getElem?_eq_some_iff.1 hK).1 (by simp; omega)).trans hK
          have q1 := kk D1 (by omega) hK12
          have q2 := kk D2 (by omega) hK13
          have q3 := kk D3 (by omega) hK14
          have q4 := kk D4 (by omega) hK4
          exact effEndL _ (B + 1 + 1) (Sl, Dl, 0) w rfl [D4, D3, D2, D1] _ (by simp [q1, q2, q3, q4]) (by simp; omega) (by simp; omega) (((hRW.set0 _).set1 _).set2 _) ((fr4.trans hF4 (fun x hx hl => by simp at hx; omega)).trans f7 (fun x hx hl => by simp at hx; omega))
  case stop =>
    intro D pre y W _ _ h
    exact h.elim
end Go.Proofs.YtededfkenlhokaaDoor
