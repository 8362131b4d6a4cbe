/- The law of a loop of chaos's effect: a range over the faults of a kind of a lane, whose body may turn the effect's own block. -/
import Derived.Test.YtededfkenlhokaaDoorC5
namespace Go.Proofs.YtededfkenlhokaaDoor
open Go.RowKit Go.Shelf
open Go.Maps (Keyed)
set_option linter.unusedVariables false
set_option maxRecDepth 100000
set_option maxHeartbeats 4000000

/-- An effect in block b. -/
def OutAt (W : World) (b : Nat) (x : Int × Int × Int) : Prop := W.heap[b]? = some (.cells #[.int .i64 x.1, .int .u64 x.2.1, .int .i64 x.2.2] 51 (0, 0))
section
variable {W : World} {b : Nat} {x : Int × Int × Int}
theorem OutAt.lt (h : OutAt W b x) : b < W.heap.size := (Array.getElem?_eq_some_iff.1 h).1
theorem OutAt.c0 (h : OutAt W b x) : W.cell? ⟨b, 0, none⟩ = some (.int .i64 x.1) := by simp [World.cell?, show W.heap[b]? = _ from h]
theorem OutAt.c1 (h : OutAt W b x) : W.cell? ⟨b, 1, none⟩ = some (.int .u64 x.2.1) := by simp [World.cell?, show W.heap[b]? = _ from h]
theorem OutAt.c2 (h : OutAt W b x) : W.cell? ⟨b, 2, none⟩ = some (.int .i64 x.2.2) := by simp [World.cell?, show W.heap[b]? = _ from h]
theorem OutAt.fz (h : OutAt W b x) (o : Nat) : W.frozen? ⟨b, o, none⟩ = false := by simp [World.frozen?, show W.heap[b]? = _ from h]
theorem OutAt.keep {S : List Nat} {W' : World} (h : OutAt W b x) (hf : Fr S W W') (hn : b ∉ S) : OutAt W' b x := (hf.block b h.lt hn).trans h
theorem OutAt.set0 (h : OutAt W b x) (y : Int) : OutAt (W.setCell ⟨b, 0, none⟩ (.int .i64 y)) b (y, x.2.1, x.2.2) := by
  unfold OutAt at *
  show (W.heap.modify b _)[b]? = _
  rw [Array.getElem?_modify, if_pos rfl, h]
  rfl
theorem OutAt.set1 (h : OutAt W b x) (y : Int) : OutAt (W.setCell ⟨b, 1, none⟩ (.int .u64 y)) b (x.1, y, x.2.2) := by
  unfold OutAt at *
  show (W.heap.modify b _)[b]? = _
  rw [Array.getElem?_modify, if_pos rfl, h]
  rfl
theorem OutAt.set2 (h : OutAt W b x) (y : Int) : OutAt (W.setCell ⟨b, 2, none⟩ (.int .i64 y)) b (x.1, x.2.1, y) := by
  unfold OutAt at *
  show (W.heap.modify b _)[b]? = _
  rw [Array.getElem?_modify, if_pos rfl, h]
  rfl
end
/-- A loop's own fault. -/
def FtAt (W : World) (b : Nat) (x : Ft) : Prop := W.heap[b]? = some (.cells #[.int .i64 x.k, .int .i64 x.c, .int .i64 x.d, .int .i64 x.a, .int .i64 x.g] 32 (0, 0))
theorem FtAt.c3 {W : World} {b : Nat} {x : Ft} (h : FtAt W b x) : W.cell? ⟨b, 3, none⟩ = some (.int .i64 x.a) := by simp [World.cell?, show W.heap[b]? = _ from h]
theorem FtAt.c4 {W : World} {b : Nat} {x : Ft} (h : FtAt W b x) : W.cell? ⟨b, 4, none⟩ = some (.int .i64 x.g) := by simp [World.cell?, show W.heap[b]? = _ from h]

theorem ownFrom_fr {β : Type} {S : List Nat} {w : World} : OwnFrom w.heap.size (fun (_ : β) W => Fr S w W) := fun _ A B row hs hg hr =>
  hs.trans (grownFr (S := row.toList) hg (fun k e => by simp [e])) (fun x hx hl => by
    have := hr x (by simpa using hx)
    omega)
theorem ownFrom_block {β : Type} {B b : Nat} (hb : b < B) (f : β → Obj) : OwnFrom B (fun s W => W.heap[b]? = some (f s)) := fun s A C row hs hg hr =>
  (hg.block b (Array.getElem?_eq_some_iff.1 hs).1 (fun e => by have := (hr b e.symm).1; omega)).trans hs

/-- What holds between two rounds. -/
def EffI (w : World) (OUT : Nat) (Pi : List Ft → Prop) (st : List Ft → Int × Int × Int) (pre : List Ft) (W : World) : Prop := Pi pre ∧ OutAt W OUT (st pre) ∧ Fr [OUT] w W
/-- What holds where a round has returned. -/
def EffX (w : World) (OUT RES : Nat) (Px : List Ft → Int × Int × Int → Prop) (c : Code) (pre : List Ft) (W : World) : Prop := c = .ret ∧ ∃ y, Px pre y ∧ OutAt W RES y ∧ Fr [OUT, RES] w W
/-- How a body may end. -/
def EffEnd (w : World) (OUT RES : Nat) (Pi : List Ft → Prop) (st : List Ft → Int × Int × Int) (Px : List Ft → Int × Int × Int → Prop) (pre : List Ft) (W : World) : Exit → Act → World → Prop :=
  ownPostG w.heap.size (Kx OUT w.heap.size) (EffI w OUT Pi st) (EffX w OUT RES Px) pre W

theorem effLoop {n : Nat} {g : Operand} {assign body : Code} {Q : Exit → Act → World → Prop} {a : Act} {w : World} {q s OUT RES B1 B2 B3 p : Nat} {v : Value} {fs : List Ft} {k c d : Int} (hn : 3 ≤ n)
    (hg : a.eval g = .func (.func 70) #[] #[.pointer (some ⟨B1, 0, none⟩), .pointer (some ⟨B2, 0, none⟩), .pointer (some ⟨B3, 0, none⟩)])
    (hO : OfIs w B1 B2 B3 p v fs k c d) (hA : Apart OUT w.heap.size B1 B2 B3 p v) (hl : fs.length ≤ 64) (hOUT : OUT < w.heap.size) (hRES : RES < w.heap.size)
    (Pi : List Ft → Prop) (st : List Ft → Int × Int × Int) (Px : List Ft → Int × Int × Int → Prop) (h0 : Pi [] ∧ OutAt w OUT (st []))
    (hassign : ∀ (l : Nat) (x : Ft) (W : World) (K : Act → World → Prop),
      K { tmps := (a.tmps.setIfInBounds q (ftV x)).setIfInBounds s (.pointer (some ⟨W.heap.size, 0, none⟩)), defers := [] } (W.alloc (.cells #[.int .i64 x.k, .int .i64 x.c, .int .i64 x.d, .int .i64 x.a, .int .i64 x.g] 32)) →
      assign.wpIn (Fence.wide.inRound l) (n - 1 - 1) Tryd.prog (Exit.then K (fun _ _ _ => False)) { tmps := a.tmps.setIfInBounds q (ftV x), defers := [] } W)
    (hbody : ∀ (l : Nat) (pre : List Ft) (x : Ft) (Bx : Nat) (W : World), w.heap.size ≤ Bx → FtAt W Bx x → EffI w OUT Pi st pre W → pre.length < fs.length →
      body.wpIn (Fence.wide.inRound l) (n - 1 - 1) Tryd.prog (EffEnd w OUT RES Pi st Px (pre ++ [x]) W) { tmps := (a.tmps.setIfInBounds q (ftV x)).setIfInBounds s (.pointer (some ⟨Bx, 0, none⟩)), defers := [] } W)
    (hdone : ∀ (D : Nat) (W : World), w.heap.size ≤ D → Pi (fs.filter (mt k c d)) → OutAt W OUT (st (fs.filter (mt k c d))) → Fr [OUT] w W → W.heap[D]? = some (.deferred (some [])) → Q .normal { a with defers := { target := .collected D, args := #[] } :: a.defers } W)
    (hstop : ∀ (D : Nat) (pre : List Ft) (y : Int × Int × Int) (W : World), w.heap.size ≤ D → pre <+: fs.filter (mt k c d) → Px pre y → OutAt W RES y → Fr [OUT, RES] w W → W.heap[D]? = some (.deferred (some [])) → (Code.ret).wpIn Fence.wide n Tryd.prog Q { a with defers := { target := .collected D, args := #[] } :: a.defers } W) :
    (Code.rangeFunc g #[q] assign body).wpIn Fence.wide n Tryd.prog Q a w := by
  refine wpIn_rangeFunc_ownH rfl (by omega) (gf := 70) (lb := #[.pointer (some ⟨B1, 0, none⟩), .pointer (some ⟨B2, 0, none⟩), .pointer (some ⟨B3, 0, none⟩)]) hg trivial (enters_of Tryd.func70 (by kernel_rfl) rfl)
    (of_stops Fence.wide (n - 1) trivial rfl (by omega) B1 B2 B3 OUT w.heap.size p v fs k c d hl w hO hA (Nat.le_refl _)) Kx.trans (Kx.put (Nat.le_refl _)) (Below.refl _ _) (fun _ => rfl)
    (EffI w OUT Pi st) (EffX w OUT RES Px) ?hI ?hIx ⟨h0.1, h0.2, Fr.refl _ _⟩
    (fun x a' W => ∃ Bx, w.heap.size ≤ Bx ∧ FtAt W Bx x ∧ a' = { tmps := (a.tmps.setIfInBounds q (ftV x)).setIfInBounds s (.pointer (some ⟨Bx, 0, none⟩)), defers := [] }) ?hAx ?assign ?body ?done ?stop
  case hI =>
    exact OwnFrom.and (fun _ _ _ _ hs _ _ => hs) (OwnFrom.and (ownFrom_block hOUT _) ownFrom_fr)
  case hIx =>
    intro c0 pre A C row hs hg hr
    obtain ⟨h1, y, h2, h3, h4⟩ := hs
    exact ⟨h1, y, h2, ownFrom_block (β := Unit) hRES (fun _ => .cells #[.int .i64 y.1, .int .u64 y.2.1, .int .i64 y.2.2] 51 (0, 0)) () A C row h3 hg hr, ownFrom_fr (β := Unit) () A C row h4 hg hr⟩
  case hAx =>
    intro x a' _ A C row hs hg hr
    obtain ⟨Bx, h1, h2, h3⟩ := hs
    refine ⟨Bx, h1, (hg.block Bx (Array.getElem?_eq_some_iff.1 h2).1 (fun e => ?_)).trans h2, h3⟩
    obtain ⟨_, o, ho, hc⟩ := hr Bx e.symm
    rw [show A.heap[Bx]? = _ from h2] at ho
    cases ho
    cases hc
  case assign =>
    intro l pre x W K hi hK
    have e : (#[q].zip #[ftV x]).foldl (fun t (p, v) => t.setIfInBounds p v) a.tmps = a.tmps.setIfInBounds q (ftV x) := by simp
    rw [e]
    refine hassign l x W K ?_
    have f1 : Fr [] W (W.alloc (.cells #[.int .i64 x.k, .int .i64 x.c, .int .i64 x.d, .int .i64 x.a, .int .i64 x.g] 32)) := (Fr.refl [] W).alloc _
    refine hK _ _ ((KeepsOthers.alloc _ _).from _) (Kx.new f1) ⟨hi.1, hi.2.1.keep f1 (by simp), hi.2.2.step f1⟩ ⟨W.heap.size, hi.2.2.size, ?_, rfl⟩
    exact World.alloc_heap_new W _
  case body =>
    rintro l pre x a' W _ _ hi ⟨Bx, h1, h2, rfl⟩ hlt
    exact hbody l pre x Bx W h1 h2 hi hlt
  case done =>
    rintro D xs W hD rfl ⟨h1, h2, h3⟩ hK
    exact hdone D W hD h1 h2 h3 hK
  case stop =>
    rintro D c0 pre W hD hp ⟨rfl, y, h1, h2, h3⟩ hK
    exact hstop D pre y W hD hp h1 h2 h3 hK
end Go.Proofs.YtededfkenlhokaaDoor
