/- The reference's connections in memory, with their bytes: Copy. -/
/- The reference's streams in memory, with their bytes: the ends closed. -/
import Derived.Test.YtmdhlodafjpnmaaGreatG1
import Derived.RegionTactic
import Derived.RegionCalls
import Derived.Deep.RegionHeld3
namespace Go.Proofs.YtmdhlodafjpnmaaGreat
open Go.RowKit
set_option linter.unusedVariables false
set_option linter.unusedSimpArgs false
set_option maxRecDepth 100000
set_option maxHeartbeats 8000000

theorem wp_vl {P : Program} {o : Oper} {a : Act} {w w' : World} {Q : Exit → Act → World → Prop} {K : Act → World → Prop} {v : Value} (hrun : (execOp a.eval o).run P w = .ok (.value v) w') (hK : K (a.put o.dst v) w') : o.wp P a w K Q := by
  unfold Oper.wp
  rw [hrun]
  exact hK
/-- A connection, plain. -/
structure CC where
  s0 : SS
  s1 : SS
  a0 : Bool
  a1 : Bool
/-- The slices of its bytes. -/
structure Q4 where
  b0 : Sli
  r0 : Sli
  b1 : Sli
  r1 : Sli
def cnC (x : CC) (q : Q4) : List Value := stC x.s0 q.b0 q.r0 ++ (stC x.s1 q.b1 q.r1 ++ [.bool x.a0, .bool x.a1])
theorem cnC_one (x : CC) (q : Q4) : ∀ u ∈ cnC x q, u.oneCell' = true := by
  intro u hu
  unfold cnC at hu
  rcases List.mem_append.1 hu with hu | hu
  · exact stC_one _ _ _ u hu
  · rcases List.mem_append.1 hu with hu | hu
    · exact stC_one _ _ _ u hu
    · simp only [List.mem_cons, List.not_mem_nil, or_false] at hu
      rcases hu with rfl | rfl <;> rfl
def zCn : List Value := zSt ++ (zSt ++ [.bool false, .bool false])
/-- What the slices hold. -/
structure CnB (w : World) (x : CC) (q : Q4) : Prop where
  b0 : Bs w q.b0 x.s0.buf
  r0 : Bs w q.r0 x.s0.rest
  b1 : Bs w q.b1 x.s1.buf
  r1 : Bs w q.r1 x.s1.rest
structure CnO (w : World) (B : Nat) (x : CC) (q : Q4) : Prop where
  b0 : BsO w B q.b0 x.s0.buf
  r0 : BsO w B q.r0 x.s0.rest
  b1 : BsO w B q.b1 x.s1.buf
  r1 : BsO w B q.r1 x.s1.rest
theorem CnB.new {w w' : World} {x : CC} {q : Q4} (h : CnB w x q) (f : Fr [] w w') : CnB w' x q := ⟨h.b0.new f, h.r0.new f, h.b1.new f, h.r1.new f⟩
theorem CnO.new {w w' : World} {B : Nat} {x : CC} {q : Q4} (h : CnO w B x q) (f : Fr [] w w') : CnO w' B x q := ⟨h.b0.new f, h.r0.new f, h.b1.new f, h.r1.new f⟩
theorem CnO.base {w : World} {B B' : Nat} {x : CC} {q : Q4} (h : CnO w B x q) (hb : B' ≤ B) : CnO w B' x q := ⟨h.b0.base hb, h.r0.base hb, h.b1.base hb, h.r1.base hb⟩
theorem CnO.b {w : World} {B : Nat} {x : CC} {q : Q4} (h : CnO w B x q) : CnB w x q := ⟨h.b0.bs, h.r0.bs, h.b1.bs, h.r1.bs⟩
/-- A store into a block of another kind. -/
theorem BsO.store {w w' : World} {B b : Nat} {t : TypeId} {ys : List Value} {s : Sli} {l : List UInt8} (h : BsO w B s l) (hb : Blk w b t ys) (f : Fr [b] w w') (hne : t ≠ 5) : BsO w' B s l :=
  rowFr' h f (fun g hg hm => by rw [List.mem_singleton] at hm; subst hm; exact blkNe hb h hne hg)
theorem CnO.store {w w' : World} {B b : Nat} {t : TypeId} {ys : List Value} {x : CC} {q : Q4} (h : CnO w B x q) (hb : Blk w b t ys) (f : Fr [b] w w') (hne : t ≠ 5) : CnO w' B x q :=
  ⟨h.b0.store hb f hne, h.r0.store hb f hne, h.b1.store hb f hne, h.r1.store hb f hne⟩
structure CC.fit (x : CC) : Prop where
  n0 : x.s0.buf.length + x.s0.rest.length ≤ 200000
  n1 : x.s1.buf.length + x.s1.rest.length ≤ 200000
end Go.Proofs.YtmdhlodafjpnmaaGreat
namespace Go.Proofs.YtmdhlodafjpnmaaGreat
open Go.RowKit
set_option linter.unusedVariables false
set_option linter.unusedSimpArgs false
set_option maxRecDepth 100000
set_option maxHeartbeats 8000000

def SS.closeW (x : SS) (e : Int) : SS × Int := if x.wr = 0 then ({ x with wr := e }, 0) else (x, 14)
def SS.closeRb (x : SS) (b : Sli) : Sli := if x.rd = 0 then (none, 0, 0) else b
def SS.closeR (x : SS) (e : Int) : SS × Int := if x.rd = 0 then ({ x with rd := e, buf := [] }, 0) else (x, 14)
end Go.Proofs.YtmdhlodafjpnmaaGreat
