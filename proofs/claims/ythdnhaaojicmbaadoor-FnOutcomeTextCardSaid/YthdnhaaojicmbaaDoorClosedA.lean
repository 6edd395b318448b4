/-
  A closed fact of the program alone: which functions may be entered.
-/
import Derived.Test.YthdnhaaojicmbaaDoorRows
namespace Go.Proofs.YthdnhaaojicmbaaDoor
theorem c_mayEnter : Tryd.pinned.checked.prog.mayEnter = true := by kernel_rfl
end Go.Proofs.YthdnhaaojicmbaaDoor
