/-
  A closed fact of the program alone: how it was made.
-/
import Derived.Test.YthmgpkcijolljaaRows
namespace Go.Proofs.Ythmgpkcijolljaa
theorem c_make : ∀ m, m = Rows.fnExactCountHeardRow.make → (Try.pinned.checked.prog.make == some m) = true := by
 rintro m rfl
 kernel_rfl
theorem c_laid : laidOutB Try.pinned.checked.prog = true := by kernel_rfl
theorem c_rowed : mapsRowed Try.pinned.checked.prog = true := by kernel_rfl
theorem c_heard : Try.pinned.checked.prog.stopsHeard = true := by kernel_rfl
end Go.Proofs.Ythmgpkcijolljaa
