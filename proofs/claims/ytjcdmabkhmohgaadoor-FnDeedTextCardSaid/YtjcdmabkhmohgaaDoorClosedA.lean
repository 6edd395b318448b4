/-
  A closed fact of the program alone: which functions may be entered.
-/
import Derived.Test.YtjcdmabkhmohgaaDoorRows
namespace Go.Proofs.YtjcdmabkhmohgaaDoor
theorem c_mayEnter : Tryd.pinned.checked.prog.mayEnter = true := by kernel_rfl
end Go.Proofs.YtjcdmabkhmohgaaDoor
