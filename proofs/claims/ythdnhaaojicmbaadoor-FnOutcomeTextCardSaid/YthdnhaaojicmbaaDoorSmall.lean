/-
  What small functions over integers return, for all arguments.
-/
import Derived.Test.YthdnhaaojicmbaaDoorBase
namespace Go.Proofs.YthdnhaaojicmbaaDoor
open Go.RowKit
set_option linter.unusedSimpArgs false
set_option linter.unusedVariables false

theorem l1In_any (x lo hi : Int) (w : World) : Calls Tryd.prog 44 #[.int .i64 x, .int .i64 lo, .int .i64 hi] w fun e w' => e = .returned (.bool (inB x lo hi)) ∧ w = w' := by
  go_enter Tryd.func44, Tryd.ntmps44
  go_wp2
  all_goals
    go_ret
    refine ⟨ret_bool ?_, rfl⟩
    simp [inB]
    try omega

end Go.Proofs.YthdnhaaojicmbaaDoor
