/-
  A closed fact of the program alone: how it was made.
-/
import Derived.Test.YthdnhaaojicmbaaDoorRows
namespace Go.Proofs.YthdnhaaojicmbaaDoor
theorem c_make : ∀ m, m = Rows.fnExactFormatOutcomeRow.make → (Tryd.pinned.checked.prog.make == some m) = true := by
  rintro m rfl
  kernel_rfl
theorem c_laid : laidOutB Tryd.pinned.checked.prog = true := by kernel_rfl
theorem c_rowed : mapsRowed Tryd.pinned.checked.prog = true := by kernel_rfl
theorem c_heard : Tryd.pinned.checked.prog.stopsHeard = true := by kernel_rfl
end Go.Proofs.YthdnhaaojicmbaaDoor
