/-
  The text of a mark.
-/
import Derived.Test.YthmgpkcijolljaaH1
import Derived.Test.YthmgpkcijolljaaKS
import Derived.Laws.BytesArg
import Derived.Deep.RegionHeld3
namespace Go.Proofs.Ythmgpkcijolljaa
open Go.RowKit
set_option linter.unusedSimpArgs false
set_option linter.unusedVariables false
/-- the decimal digits of n, none of 0 -/
def digs (n : Nat) : List UInt8 := if h : n = 0 then [] else digs (n / 10) ++ [UInt8.ofNat (48 + n % 10)]
/-- the text that marks k -/
def markS (k : Int) : ByteArray := ⟨(109 :: digs k.toNat).toArray⟩
end Go.Proofs.Ythmgpkcijolljaa
/-
  What functions over slices of saids return: their count, a copy, equality of equals, marks.
-/
namespace Go.Proofs.Ythmgpkcijolljaa
open Go.RowKit
set_option linter.unusedSimpArgs false
set_option linter.unusedVariables false
theorem said_info : (Try.prog.info? 41).map (fun i => (i.zero, i.size, i.bytes)) = some (some (Value.agg #[.string ByteArray.empty, .int .i64 0, .int .i64 0]), 3, 32) := by kernel_rfl
theorem RD.of_own {w : World} {base : Nat} {e : TypeId} {A : Option Addr} {c : Nat} {l : List Dd} (h : w.ownsRow base e 3 (.slice A l.length c) l.length (cells3 l)) : RD w w.heap.size A l := Reads.of_own h
/-- n marks of deeds from k on -/
def markD (k : Int) (n : Nat) : List Dd := (List.range n).map fun (i : Nat) => (markS (k + 3 * i), k + 3 * i + 1, k + 3 * i + 1 + 1)
@[simp] theorem markD_length (k : Int) (n : Nat) : (markD k n).length = n := by simp [markD]
/-- the first i of l marked from k on -/
def markDTo (l : List Dd) (k : Int) (i : Nat) : List Dd := l.mapIdx fun j x => if j < i then (markS (k + 3 * (j : Int)), k + 3 * (j : Int) + 1, k + 3 * (j : Int) + 1 + 1) else x
@[simp] theorem markDTo_length (l : List Dd) (k : Int) (i : Nat) : (markDTo l k i).length = l.length := by simp [markDTo]
end Go.Proofs.Ythmgpkcijolljaa
