/-
  What functions over slices of integers return: validity of rooms and fields, equality, a copy.
-/
import Derived.Test.YtpdbkohfmkmemaaDoorSmall
namespace Go.Proofs.YtpdbkohfmkmemaaDoor
open Go.RowKit
set_option linter.unusedSimpArgs false
set_option linter.unusedVariables false

def allIn (l : List Int) (lo hi : Int) : Bool := l.all fun x => inB x lo hi
theorem allIn_take_succ {l : List Int} {lo hi : Int} {k : Nat} (h : k < l.length) (h1 : allIn (l.take k) lo hi = true) : allIn (l.take (k + 1)) lo hi = inB l[k] lo hi := by
  unfold allIn at *
  rw [take_snoc l k h, List.all_append, h1]
  simp
theorem allIn_false {l : List Int} {lo hi : Int} {k : Nat} (h : k < l.length) (h1 : inB l[k] lo hi = false) : allIn l lo hi = false := by
  unfold allIn
  rw [List.all_eq_false]
  exact ⟨l[k], List.getElem_mem h, by simp [h1]⟩






end Go.Proofs.YtpdbkohfmkmemaaDoor
