/-
  A closed fact of the program alone: which functions may be entered.
-/
import Derived.Test.YtbihnjfckaeioaaRows
namespace Go.Proofs.Ytbihnjfckaeioaa
theorem c_mayEnter : Try.pinned.checked.prog.mayEnter = true := by kernel_rfl
end Go.Proofs.Ytbihnjfckaeioaa
