/-
  What the functions over fields of the program and of the reference return.
-/
import Derived.Test.YtelaeepkajbfnaaField
namespace Go.Proofs.Ytelaeepkajbfnaa
open Go.RowKit
set_option linter.unusedSimpArgs false
set_option linter.unusedVariables false


/-- the plugs of a line -/
def plugsL (l : List Int) (x : Int) : List Int := if fieldB l = true then posOf l x else []
theorem plugsL_len {l : List Int} {x : Int} (h : l.length ≤ 1048576) : (plugsL l x).length ≤ 1048576 := by
  unfold plugsL
  split
  · exact Nat.le_trans (posOf_length_le _ _) h
  · simp
theorem posOf_out {l : List Int} {x : Int} (h : ∀ y ∈ l, 0 ≤ y ∧ y ≤ 6) (hx : inB x 0 6 = false) : posOf l x = [] := by
  rw [List.eq_nil_iff_forall_not_mem]
  intro i hi
  obtain ⟨k, _, hk⟩ := mem_posOf.1 hi
  exact inB_false.1 hx (h x (List.mem_of_getElem? hk))
end Go.Proofs.Ytelaeepkajbfnaa
