/-
  FormatDeed, by the reference and by the program; the law FnExactFormatDeed, walked.
-/
import Derived.Test.YthdnhaaojicmbaaDoorFmt
namespace Go.Proofs.YthdnhaaojicmbaaDoor
open Go.RowKit
set_option linter.unusedSimpArgs false
set_option linter.unusedVariables false

theorem below_drew_ {w w' : World} (h : Below w.drew.heap.size w.drew w') : Below w.heap.size w w' := ((Below.refl _ _).drew).trans h
theorem deed_parts {L : List UInt8} {x y : Int} (h : deedB L x y 6 = true) : actB L = true ∧ (0 ≤ x ∧ x ≤ 6) ∧ (0 ≤ y ∧ y ≤ 1000) ∧ ((L == putL) = true ∨ y = 0) := by
  simp only [deedB, Bool.and_eq_true, Bool.or_eq_true] at h
  exact ⟨h.2.1.1.1, inB_true.1 h.2.1.1.2, inB_true.1 h.2.1.2, by simpa using h.2.2⟩
/-- what lies in a deed's box -/
def boxD (w : World) (b : Nat) (s : ByteArray) (x y : Int) : Prop := w.cell? ⟨b, 0, none⟩ = some (.string s) ∧ w.cell? ⟨b, 1, none⟩ = some (.int .i64 x) ∧ w.cell? ⟨b, 2, none⟩ = some (.int .i64 y)
theorem box_new (w : World) (s : ByteArray) (x y : Int) : boxD (w.alloc (.cells #[.string s, .int .i64 x, .int .i64 y] 67)) w.heap.size s x y := by
  have h := Blk.new w 67 #[.string s, .int .i64 x, .int .i64 y]
  exact ⟨(h.cell 0).trans rfl, (h.cell 1).trans rfl, (h.cell 2).trans rfl⟩
theorem boxD.below {w w' : World} {b : Nat} {s : ByteArray} {x y : Int} (h : boxD w b s x y) (hb : Below w.heap.size w w') (hlt : b < w.heap.size) : boxD w' b s x y :=
  ⟨(hb.cell (p := ⟨b, 0, none⟩) hlt).trans h.1, (hb.cell (p := ⟨b, 1, none⟩) hlt).trans h.2.1, (hb.cell (p := ⟨b, 2, none⟩) hlt).trans h.2.2⟩
/-- the word of a deed that puts one -/
def tailD (s : ByteArray) (y : Nat) : ByteArray := if (s.toList == putL) = true then ⟨#[32]⟩ ++ decS y else ByteArray.empty
theorem tailD_put {s : ByteArray} (h : (s.toList == putL) = true) (y : Nat) : tailD s y = ⟨#[32]⟩ ++ decS y := by unfold tailD; rw [if_pos h]
theorem tailD_no {s : ByteArray} (h : (s.toList == putL) = false) (y : Nat) : tailD s y = ByteArray.empty := by unfold tailD; rw [h]; rfl
end Go.Proofs.YthdnhaaojicmbaaDoor
