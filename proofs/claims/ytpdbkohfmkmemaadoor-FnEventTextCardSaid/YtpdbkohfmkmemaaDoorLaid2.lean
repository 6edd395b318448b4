/-
  What the laid tables and errors give a walk; a world in which they lie.
-/
import Derived.Test.YtpdbkohfmkmemaaDoorRows
import Derived.Test.YtpdbkohfmkmemaaDoorParse
import Derived.ProofKit
import Derived.LaidMore
import Derived.OpenShut
import Derived.Stop.Joined
import Derived.Stop.LaidErr
import Derived.Lib.LaidTab
import Derived.Lay
namespace Go.Proofs.YtpdbkohfmkmemaaDoor
open Go.ChangeShapes Go.WideShapes Go.ChangeAt Go.RowKit
set_option linter.unusedSimpArgs false
set_option linter.unusedVariables false

theorem gPow : Tryd.prog.globalNamed "internal/strconv.uint64pow10" = some 0 := by kernel_rfl
theorem tPow : (Tryd.prog.globals[0]?).map (·.type) = some 101 := by kernel_rfl
theorem pow_datum {H : Type} : (Rows.laid_internal_strconv_uint64pow10 : DataW H) = Lib.tabData .u64 Lib.pow10Tab := rfl
theorem tab_head {r : List (String × DataW Unit)} {W : World} (h : laidMet Tryd.prog (("internal/strconv.uint64pow10", Rows.laid_internal_strconv_uint64pow10) :: r) W) : Tab W := by
  obtain ⟨ps, ⟨g2, t2, cs2, f2, p2, q2, hg2, ht2, hv2, hd2, _, _⟩, _, _⟩ := h
  obtain rfl := Option.some.inj (gPow.symm.trans hg2)
  obtain rfl := Option.some.inj (tPow.symm.trans ht2)
  unfold Tab Lib.TabIs
  rw [hv2, ← Lib.cells_of_tab Tryd.underlying101 Tryd.underlying81 (by kernel_rfl) (by kernel_rfl) (pow_datum ▸ hd2)]
theorem star_err : "*" ++ "errors.errorString" = "*errors.errorString" := by decide
theorem row_err (u : TypeId) (h : Tryd.prog.typeName? 3 u = some "*errors.errorString") : u = 121 :=
  typeName_ptr_named (nm := "errors.errorString") (by rw [star_err]; kernel_rfl) (by kernel_rfl) (by decide) u (by rw [star_err]; exact h)
theorem err_head {r : List (String × DataW Unit)} {W : World} (h : laidMet Tryd.prog (("strconv.ErrSyntax", Rows.laid_strconv_ErrSyntax) :: r) W) : ErrIs W := by
  obtain ⟨a, s, hv, _⟩ := laid_sentinel h (g := 2) (ti := 67) (tp := 121) (te := 123) (ts := 9) (by kernel_rfl) (by kernel_rfl) Tryd.underlying67 row_err Tryd.underlying121 Tryd.underlying123 rfl rfl Tryd.underlying9 (by kernel_rfl) (by kernel_rfl)
  exact ⟨_, _, hv⟩
-- of the row of 3
theorem tab_of_laid8 {W : World} (h : laidMetH Tryd.prog Rows.fnExactParseEventRow.laid W) : Tab W ∧ ErrIs W := by
  rw [MakeChecks.laidMetH_plain _ _ _ (by kernel_rfl)] at h
  exact ⟨tab_head h.tail.tail, err_head h.tail.tail.tail.tail.tail⟩
theorem door_met8 (os : Os) (args : Array Value) : laidMetH Tryd.prog Rows.fnExactParseEventRow.laid ((World.laidAll Tryd.prog os Rows.fnExactParseEventRow.laid).forCall (fun _ _ => 0) ⟨#[], args, []⟩).memory := by
  rw [MakeChecks.laidMetH_plain _ _ _ (by kernel_rfl)]
  exact laidMet_laidAll _ (by kernel_rfl) (by kernel_rfl)
theorem door_shaped8 (os : Os) (args : Array Value) : ((World.laidAll Tryd.prog os Rows.fnExactParseEventRow.laid).forCall (fun _ _ => 0) ⟨#[], args, []⟩).Shaped Tryd.prog :=
  World.shaped_of_ZipB (by kernel_rfl) (by kernel_rfl)
-- of the row of 5
theorem tab_of_laid10 {W : World} (h : laidMetH Tryd.prog Rows.fnEventTextRow.laid W) : Tab W ∧ ErrIs W := by
  rw [MakeChecks.laidMetH_plain _ _ _ (by kernel_rfl)] at h
  exact ⟨tab_head h.tail.tail, err_head h.tail.tail.tail.tail.tail⟩
theorem door_met10 (os : Os) (args : Array Value) : laidMetH Tryd.prog Rows.fnEventTextRow.laid ((World.laidAll Tryd.prog os Rows.fnEventTextRow.laid).forCall (fun _ _ => 0) ⟨#[], args, []⟩).memory := by
  rw [MakeChecks.laidMetH_plain _ _ _ (by kernel_rfl)]
  exact laidMet_laidAll _ (by kernel_rfl) (by kernel_rfl)
theorem door_shaped10 (os : Os) (args : Array Value) : ((World.laidAll Tryd.prog os Rows.fnEventTextRow.laid).forCall (fun _ _ => 0) ⟨#[], args, []⟩).Shaped Tryd.prog :=
  World.shaped_of_ZipB (by kernel_rfl) (by kernel_rfl)
end Go.Proofs.YtpdbkohfmkmemaaDoor
