/- Contract of the law's own step: the start (the walk follows). -/
import Derived.Test.YtededfkenlhokaaDoorQ5
import Derived.Test.YtededfkenlhokaaDoorOpenC
namespace Go.Proofs.YtededfkenlhokaaDoor
open Go.RowKit Go.Shelf
set_option linter.unusedVariables false
set_option linter.unusedSimpArgs false
set_option maxRecDepth 100000
set_option maxHeartbeats 8000000

def ActAt (W : World) (b : Nat) (x : Ac) : Prop := W.heap[b]? = some (.cells #[.int .i64 x.what, .int .i64 x.c, .int .i64 x.d, .int .i64 x.n] 44)
theorem ActAt.lt {W : World} {b : Nat} {x : Ac} (h : ActAt W b x) : b < W.heap.size := (Array.getElem?_eq_some_iff.1 h).1
theorem ActAt.c0 {W : World} {b : Nat} {x : Ac} (h : ActAt W b x) : W.cell? ⟨b, 0, none⟩ = some (.int .i64 x.what) := by simp [World.cell?, show W.heap[b]? = _ from h]
theorem ActAt.c1 {W : World} {b : Nat} {x : Ac} (h : ActAt W b x) : W.cell? ⟨b, 1, none⟩ = some (.int .i64 x.c) := by simp [World.cell?, show W.heap[b]? = _ from h]
theorem ActAt.c2 {W : World} {b : Nat} {x : Ac} (h : ActAt W b x) : W.cell? ⟨b, 2, none⟩ = some (.int .i64 x.d) := by simp [World.cell?, show W.heap[b]? = _ from h]
theorem ActAt.c3 {W : World} {b : Nat} {x : Ac} (h : ActAt W b x) : W.cell? ⟨b, 3, none⟩ = some (.int .i64 x.n) := by simp [World.cell?, show W.heap[b]? = _ from h]
theorem ActAt.keep {S : List Nat} {W W' : World} {b : Nat} {x : Ac} (h : ActAt W b x) (hf : Fr S W W') (hn : b ∉ S) : ActAt W' b x := (hf.block b h.lt hn).trans h
theorem ActAt.made (w : World) (x : Ac) : ActAt (w.alloc (.cells #[.int .i64 x.what, .int .i64 x.c, .int .i64 x.d, .int .i64 x.n] 44)) w.heap.size x := World.alloc_heap_new w _
theorem step_start (w : World) (u v : Value) (x : Ac) {w1 : World}
    (h : ((w.alloc (.cells #[u, v] 58)).alloc (.cells #[.int .i64 x.what, .int .i64 x.c, .int .i64 x.d, .int .i64 x.n] 44)).alloc (.cells #[.slice none 0 0, .slice none 0 0] 58) = w1) :
    MdAt w1 w.heap.size u v ∧ ActAt w1 (w.heap.size + 1) x ∧ MdAt w1 (w.heap.size + 1 + 1) (.slice none 0 0) (.slice none 0 0) ∧ Fr [] w w1 := by
  have fa : Fr [] w (w.alloc (.cells #[u, v] 58)) := (Fr.refl [] w).alloc _
  have ma := MdAt.made w u v
  have za : (w.alloc (.cells #[u, v] 58)).heap.size = w.heap.size + 1 := by simp
  generalize w.alloc (.cells #[u, v] 58) = A at h fa ma za
  have fb : Fr [] A (A.alloc (.cells #[.int .i64 x.what, .int .i64 x.c, .int .i64 x.d, .int .i64 x.n] 44)) := (Fr.refl [] A).alloc _
  have mb := ActAt.made A x
  have zb : (A.alloc (.cells #[.int .i64 x.what, .int .i64 x.c, .int .i64 x.d, .int .i64 x.n] 44)).heap.size = w.heap.size + 1 + 1 := by simp [za]
  generalize A.alloc (.cells #[.int .i64 x.what, .int .i64 x.c, .int .i64 x.d, .int .i64 x.n] 44) = C at h fb mb zb
  have fc : Fr [] C (C.alloc (.cells #[.slice none 0 0, .slice none 0 0] 58)) := (Fr.refl [] C).alloc _
  have mc := MdAt.made C (.slice none 0 0) (.slice none 0 0)
  rw [h] at fc mc
  rw [za] at mb
  rw [zb] at mc
  exact ⟨ma.keep (fb.step fc) (by simp), mb.keep fc (by simp), mc, fa.step (fb.step fc)⟩
end Go.Proofs.YtededfkenlhokaaDoor
