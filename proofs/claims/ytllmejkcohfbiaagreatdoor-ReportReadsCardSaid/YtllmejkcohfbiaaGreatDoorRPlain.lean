/- Plain: the words and the lines of reports. -/
import Derived.Lib.ItoaNum
import Derived.Lib.Join
import Derived.WalkKit
namespace Go.Proofs.YtllmejkcohfbiaaGreatDoor
set_option linter.unusedVariables false
set_option linter.unusedSimpArgs false

def bs (l : List UInt8) : ByteArray := ⟨l.toArray⟩
theorem bs_size (l : List UInt8) : (bs l).size = l.length := by simp [bs, ByteArray.size]
theorem bs_append (l m : List UInt8) : bs l ++ bs m = bs (l ++ m) := by
  simp [bs, ByteArray.ext_iff]
theorem bs_list (l : List UInt8) : (bs l).data.toList = l := by simp [bs]
def codeWs : List (List UInt8) := [[111, 107], [110, 105, 108], [97, 114, 103], [114, 97, 110, 103, 101], [115, 104, 111, 114, 116], [108, 111, 110, 103], [102, 111, 114, 109, 97, 116], [102, 117, 108, 108], [115, 116, 97, 116, 101], [110, 111, 110, 101], [99, 104, 101, 99, 107], [98, 117, 115, 121], [116, 105, 109, 101, 111, 117, 116], [101, 111, 102], [99, 108, 111, 115, 101, 100], [114, 101, 102, 117, 115, 101, 100], [98, 108, 111, 99, 107]]
def callWs : List (List UInt8) := [[], [108, 105, 115, 116, 101, 110], [97, 99, 99, 101, 112, 116], [100, 105, 97, 108], [112, 97, 105, 114], [114, 101, 97, 100], [119, 114, 105, 116, 101], [99, 108, 111, 115, 101], [99, 108, 111, 115, 101, 45, 114, 101, 97, 100], [99, 108, 111, 115, 101, 45, 119, 114, 105, 116, 101], [100, 101, 97, 100, 108, 105, 110, 101], [99, 111, 112, 121], [115, 108, 101, 101, 112]]
def whyWs : List (List UInt8) := [[110, 111, 116, 104, 105, 110, 103], [114, 101, 97, 100], [119, 114, 105, 116, 101], [116, 117, 114, 110], [97, 99, 99, 101, 112, 116], [100, 105, 97, 108], [115, 108, 101, 101, 112]]
def partWs : List (List UInt8) := [[99, 97, 108, 108, 115], [114, 101, 102, 117, 115, 101, 100], [115, 116, 101, 112, 115], [101, 110, 100, 101, 100], [102, 97, 105, 108, 101, 100], [114, 101, 97, 100], [119, 114, 105, 116, 116, 101, 110]]
def codeB (e : Int) : List UInt8 := if 0 ≤ e ∧ e < 17 then codeWs.getD e.toNat [] else Lib.itoa e
def callB (k : Int) : List UInt8 := if 0 < k ∧ k < 13 then callWs.getD k.toNat [] else [99, 97, 108, 108, 45] ++ Lib.itoa k
/-- What a task has done. -/
structure Tk where
  t : Int
  calls : Int
  refused : Int
  steps : Int
  ended : Int
  failed : Int
  read : Int
  written : Int
deriving DecidableEq
def Tk.nums (x : Tk) : List Int := [x.calls, x.refused, x.steps, x.ended, x.failed, x.read, x.written]
def Tk.ok (x : Tk) : Bool := x.nums.all fun n => decide (0 ≤ n)
def taskB (x : Tk) : List UInt8 := Lib.join [[116, 97, 115, 107], Lib.itoa x.t ++ [58], Lib.join ((List.range 7).map fun i => Lib.join [partWs.getD i [], Lib.itoa (x.nums.getD i 0)] [32]) [44, 32]] [32] ++ [10]
/-- How many calls have ended so. -/
structure Cd where
  call : Int
  err : Int
  n : Int
deriving DecidableEq
def Cd.ok (x : Cd) : Bool := decide (0 < x.call ∧ x.call < 13 ∧ 0 ≤ x.err ∧ 0 ≤ x.n)
def cdB (x : Cd) : List UInt8 := Lib.join [callB x.call, codeB x.err, Lib.itoa x.n] [32] ++ [10]
/-- A task that waits. -/
structure Bk where
  t : Int
  why : Int
  till : Int
deriving DecidableEq
def Bk.ok (x : Bk) : Bool := decide (0 ≤ x.t ∧ 0 ≤ x.why ∧ x.why < 7)
def timeB (t : Int) : List UInt8 := if t = 18446744073709551615 then [110, 101, 118, 101, 114] else Lib.decDigits t.toNat
def bkB (x : Bk) : List UInt8 := Lib.join [Lib.itoa x.t, whyWs.getD x.why.toNat [], [117, 110, 116, 105, 108], timeB x.till] [32] ++ [10]
end Go.Proofs.YtllmejkcohfbiaaGreatDoor
