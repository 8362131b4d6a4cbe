/- The reference's streams in memory, with their bytes: Copy, CloseWrite, CloseRead. -/
import Derived.Test.YtmdhlodafjpnmaaGreatRM1
import Derived.Deep.Cut
import Derived.Outline
namespace Go.Proofs.YtmdhlodafjpnmaaGreat
open Go.RowKit
set_option linter.unusedVariables false
set_option linter.unusedSimpArgs false
set_option maxRecDepth 100000
set_option maxHeartbeats 8000000

/-- A stream, plain. -/
structure SS where
  cap : Int
  buf : List UInt8
  busy : Bool
  rest : List UInt8
  acc : Int
  wr : Int
  rd : Int
def byteV (x : UInt8) : Value := .int .u8 (x.toNat : Int)
def bsV (l : List UInt8) : List Value := l.map byteV
theorem bsV_len (l : List UInt8) : (bsV l).length = l.length * 1 := by simp [bsV]
theorem bsV_one (l : List UInt8) : ∀ u ∈ bsV l, u.oneCell' = true := by
  intro u hu
  obtain ⟨x, _, rfl⟩ := List.mem_map.1 hu
  rfl
/-- Its cells, with the slices of its bytes. -/
def stC (x : SS) (b r : Sli) : List Value := [.int .i64 x.cap, .slice b.1 b.2.1 b.2.2, .bool x.busy, .slice r.1 r.2.1 r.2.2, .int .i64 x.acc, .int .i64 x.wr, .int .i64 x.rd]
theorem stC_one (x : SS) (b r : Sli) : ∀ u ∈ stC x b r, u.oneCell' = true := by
  intro u hu
  simp only [stC, List.mem_cons, List.not_mem_nil, or_false] at hu
  rcases hu with rfl | rfl | rfl | rfl | rfl | rfl | rfl <;> rfl
def Bs (w : World) (s : Sli) (l : List UInt8) : Prop := RowV w (slv s) l.length 1 (bsV l)
def BsO (w : World) (B : Nat) (s : Sli) (l : List UInt8) : Prop := w.ownsRow B 5 1 (slv s) l.length (bsV l)
theorem Bs.new {w w' : World} {s : Sli} {l : List UInt8} (h : Bs w s l) (f : Fr [] w w') : Bs w' s l := RowV.new h f
theorem BsO.new {w w' : World} {B : Nat} {s : Sli} {l : List UInt8} (h : BsO w B s l) (f : Fr [] w w') : BsO w' B s l := rowNew h f
theorem BsO.bs {w : World} {B : Nat} {s : Sli} {l : List UInt8} (h : BsO w B s l) : Bs w s l := RowV.of_own h
theorem BsO.base {w : World} {B B' : Nat} {s : Sli} {l : List UInt8} (h : BsO w B s l) (hb : B' ≤ B) : BsO w B' s l := rowBase h hb
theorem BsO.nil (w : World) (B : Nat) : BsO w B (none, 0, 0) [] := World.ownsRow_nil _ _ _ _
theorem size22 : ∀ w, (sizeOf 22).run Tryz.prog w = .ok 1 w := fun w => by kernel_rfl
theorem size3 : ∀ w, (sizeOf 3).run Tryz.prog w = .ok 1 w := fun w => by kernel_rfl
/-- One cell of a block, stored. -/
theorem store_cell {w : World} {b o : Nat} {t t' : TypeId} {ys : List Value} (v : Value) (hS : ∀ w, (sizeOf t).run Tryz.prog w = .ok 1 w) (hv : v.cells = #[v]) (h1 : v.oneCell' = true) (hb : Blk w b t' ys) (hc : o + 1 ≤ ys.length) :
    ∃ w', (Instr.storeAt t (.pointer (some ⟨b, o, none⟩)) v).run Tryz.prog w = .ok () w' ∧ Blk w' b t' (ys.take o ++ [v] ++ ys.drop (o + 1)) ∧ Fr [b] w w' := by
  have hst := run_storeCells_at Tryz.prog b o t' [v] 0 ys.toArray w hb (by simp only [List.size_toArray, List.length_singleton]; omega) (fun u hu => by rw [List.mem_singleton] at hu; rw [hu]; exact h1)
  have hs : (Instr.sureAddr (.pointer (some ⟨b, o, none⟩))).run Tryz.prog w = .ok ⟨b, o, none⟩ w := by simp [Instr.sureAddr]
  have hrow : (List.take (o + 0) ys.toArray.toList ++ [v] ++ List.drop (o + 0 + [v].length) ys.toArray.toList) = ys.take o ++ [v] ++ ys.drop (o + 1) := by simp
  rw [hrow] at hst
  refine ⟨_, ?_, setRow_heap w b ys.toArray _ _ _ hb, ?_⟩
  · unfold Instr.storeAt
    rw [Sem.run_bind, hs]
    simp only [Result.andThen_ok]
    unfold storeVar
    rw [Sem.run_bind, hS]
    simp only [Result.andThen_ok]
    rw [if_neg (by rw [hv]; simp)]
    rw [hv]
    exact hst
  · exact ⟨rfl, rfl, rfl, by simp [World.setRow], fun k hk hn => setRow_other w b k _ (by simpa using hn)⟩
def zSt : List Value := [.int .i64 0, .slice none 0 0, .bool false, .slice none 0 0, .int .i64 0, .int .i64 0, .int .i64 0]
theorem Fr.own1 {S : List Nat} {B b : Nat} {w w1 w2 : World} (h : Fr [] w w1) (f : Fr [b] w1 w2) (hb : w.heap.size ≤ b) : Fr [] w w2 := h.trans f (fun x hx hl => by rw [List.mem_singleton] at hx; omega)
theorem blkNe {w : World} {b base n sz : Nat} {t e : TypeId} {ys xs : List Value} {v : Value} (hb : Blk w b t ys) (h : w.ownsRow base e sz v n xs) (hne : t ≠ e) : v.ownBlock ≠ some b := by
  intro hv
  rcases h.2 with ⟨rfl, _⟩ | ⟨g, cap, cur, rfl, h2, h3, h4⟩
  · simp [Value.ownBlock] at hv
  · simp [Value.ownBlock] at hv
    subst hv
    unfold Blk at hb
    rw [hb] at h3
    simp only [Option.some.injEq, Obj.cells.injEq] at h3
    exact hne h3.2.1
theorem RowV.low {w : World} {v : Value} {n sz : Nat} {xs : List Value} (h : RowV w v n sz xs) (hn : 0 < n) : ∀ g, v.ownBlock = some g → g < w.heap.size := by
  intro g hg
  rcases h.2 with ⟨h0, _⟩ | ⟨g', off, c, rfl, h1, _⟩
  · omega
  · simp [Value.ownBlock] at hg
    subst hg
    exact h1
end Go.Proofs.YtmdhlodafjpnmaaGreat
