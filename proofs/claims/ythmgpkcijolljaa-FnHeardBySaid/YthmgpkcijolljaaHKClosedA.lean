/-
  A closed fact of the program alone: which functions may be entered.
-/
import Derived.Test.YthmgpkcijolljaaRows
namespace Go.Proofs.Ythmgpkcijolljaa
theorem c_mayEnter : Try.pinned.checked.prog.mayEnter = true := by kernel_rfl
end Go.Proofs.Ythmgpkcijolljaa
