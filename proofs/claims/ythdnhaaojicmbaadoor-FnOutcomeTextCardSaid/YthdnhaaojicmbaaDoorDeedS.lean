/-
  What functions over slices of deeds return: their count, a copy, equality of equals.
-/
import Derived.Test.YthdnhaaojicmbaaDoorList
import Derived.Test.YthdnhaaojicmbaaDoorDeeds
import Derived.Deep.RegionHeld3
namespace Go.Proofs.YthdnhaaojicmbaaDoor
open Go.RowKit
set_option linter.unusedSimpArgs false
set_option linter.unusedVariables false

theorem below_drewd_ {w w' : World} (h : Below w.drew.heap.size w.drew w') : Below w.heap.size w w' := ((Below.refl _ _).drew).trans h
/-- the texts of the first k deeds -/
def szT (l : List Dd) (k : Nat) : Nat := ((l.map fun d => d.1.size).take k).sum
theorem szT_zero (l : List Dd) : szT l 0 = 0 := by simp [szT]
theorem szT_all (l : List Dd) : l.length + szT l l.length = szD l := by
  unfold szT szD
  rw [List.take_of_length_le (by simp)]
theorem szT_succ {l : List Dd} {k : Nat} (h : k < l.length) : szT l (k + 1) = szT l k + l[k].1.size := by
  unfold szT
  rw [sum_take_succ _ k (by simpa using h)]
  simp
theorem szT_le (l : List Dd) (k : Nat) : l.length + szT l k ≤ szD l := by
  unfold szT szD
  have := sum_take_le (l.map fun d => d.1.size) k
  omega
/-- what is left of a count -/
def leftD (l : List Dd) (left : Int) : Int := if (szD l : Int) ≤ left then left - szD l else -1
theorem leftD_ok {l : List Dd} {left : Int} (h : (szD l : Int) ≤ left) : leftD l left = left - szD l := if_pos h
theorem leftD_no {l : List Dd} {left : Int} (h : left < (szD l : Int)) : leftD l left = -1 := if_neg (by omega)

def zD : Dd := (ByteArray.empty, 0, 0)
theorem deed_info : (Tryd.prog.info? 67).map (fun i => (i.zero, i.size, i.bytes)) = some (some (Value.agg #[.string ByteArray.empty, .int .i64 0, .int .i64 0]), 3, 32) := by kernel_rfl
end Go.Proofs.YthdnhaaojicmbaaDoor
