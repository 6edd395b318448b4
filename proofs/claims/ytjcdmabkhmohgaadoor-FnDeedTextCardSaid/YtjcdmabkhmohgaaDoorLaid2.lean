/-
  What the laid tables and errors give a walk; a world in which they lie.
-/
import Derived.Test.YtjcdmabkhmohgaaDoorRows
import Derived.Test.YtjcdmabkhmohgaaDoorParse
import Derived.ProofKit
import Derived.LaidMore
import Derived.OpenShut
import Derived.Stop.Joined
import Derived.Stop.LaidErr
import Derived.Lib.LaidTab
import Derived.Lay
namespace Go.Proofs.YtjcdmabkhmohgaaDoor
open Go.ChangeShapes Go.WideShapes Go.ChangeAt Go.RowKit
set_option linter.unusedSimpArgs false
set_option linter.unusedVariables false

theorem gPow : Tryd.prog.globalNamed "internal/strconv.uint64pow10" = some 0 := by kernel_rfl
theorem tPow : (Tryd.prog.globals[0]?).map (·.type) = some 76 := by kernel_rfl
theorem pow_datum {H : Type} : (Rows.laid_internal_strconv_uint64pow10 : DataW H) = Lib.tabData .u64 Lib.pow10Tab := rfl
theorem tab_head {r : List (String × DataW Unit)} {W : World} (h : laidMet Tryd.prog (("internal/strconv.uint64pow10", Rows.laid_internal_strconv_uint64pow10) :: r) W) : Tab W := by
  obtain ⟨ps, ⟨g2, t2, cs2, f2, p2, q2, hg2, ht2, hv2, hd2, _, _⟩, _, _⟩ := h
  obtain rfl := Option.some.inj (gPow.symm.trans hg2)
  obtain rfl := Option.some.inj (tPow.symm.trans ht2)
  unfold Tab Lib.TabIs
  rw [hv2, ← Lib.cells_of_tab Tryd.underlying76 Tryd.underlying67 (by kernel_rfl) (by kernel_rfl) (pow_datum ▸ hd2)]
theorem star_err : "*" ++ "errors.errorString" = "*errors.errorString" := by decide
theorem row_err (u : TypeId) (h : Tryd.prog.typeName? 3 u = some "*errors.errorString") : u = 110 :=
  typeName_ptr_named (nm := "errors.errorString") (by rw [star_err]; kernel_rfl) (by kernel_rfl) (by decide) u (by rw [star_err]; exact h)
theorem err_head {r : List (String × DataW Unit)} {W : World} (h : laidMet Tryd.prog (("strconv.ErrSyntax", Rows.laid_strconv_ErrSyntax) :: r) W) : ErrIs W := by
  obtain ⟨a, s, hv, _⟩ := laid_sentinel h (g := 2) (ti := 63) (tp := 110) (te := 112) (ts := 9) (by kernel_rfl) (by kernel_rfl) Tryd.underlying63 row_err Tryd.underlying110 Tryd.underlying112 rfl rfl Tryd.underlying9 (by kernel_rfl) (by kernel_rfl)
  exact ⟨_, _, hv⟩
-- of the row of 4
theorem tab_of_laid7 {W : World} (h : laidMetH Tryd.prog Rows.fnExactParseDeedRow.laid W) : Tab W ∧ ErrIs W := by
  rw [MakeChecks.laidMetH_plain _ _ _ (by kernel_rfl)] at h
  exact ⟨tab_head h.tail.tail, err_head h.tail.tail.tail.tail.tail⟩
theorem door_met7 (os : Os) (args : Array Value) : laidMetH Tryd.prog Rows.fnExactParseDeedRow.laid ((World.laidAll Tryd.prog os Rows.fnExactParseDeedRow.laid).forCall (fun _ _ => 0) ⟨#[], args, []⟩).memory := by
  rw [MakeChecks.laidMetH_plain _ _ _ (by kernel_rfl)]
  exact laidMet_laidAll _ (by kernel_rfl) (by kernel_rfl)
theorem door_shaped7 (os : Os) (args : Array Value) : ((World.laidAll Tryd.prog os Rows.fnExactParseDeedRow.laid).forCall (fun _ _ => 0) ⟨#[], args, []⟩).Shaped Tryd.prog :=
  World.shaped_of_ZipB (by kernel_rfl) (by kernel_rfl)
-- of the row of 3
theorem tab_of_laid9 {W : World} (h : laidMetH Tryd.prog Rows.fnDeedTextRow.laid W) : Tab W ∧ ErrIs W := by
  rw [MakeChecks.laidMetH_plain _ _ _ (by kernel_rfl)] at h
  exact ⟨tab_head h.tail.tail, err_head h.tail.tail.tail.tail.tail⟩
theorem door_met9 (os : Os) (args : Array Value) : laidMetH Tryd.prog Rows.fnDeedTextRow.laid ((World.laidAll Tryd.prog os Rows.fnDeedTextRow.laid).forCall (fun _ _ => 0) ⟨#[], args, []⟩).memory := by
  rw [MakeChecks.laidMetH_plain _ _ _ (by kernel_rfl)]
  exact laidMet_laidAll _ (by kernel_rfl) (by kernel_rfl)
theorem door_shaped9 (os : Os) (args : Array Value) : ((World.laidAll Tryd.prog os Rows.fnDeedTextRow.laid).forCall (fun _ _ => 0) ⟨#[], args, []⟩).Shaped Tryd.prog :=
  World.shaped_of_ZipB (by kernel_rfl) (by kernel_rfl)
end Go.Proofs.YtjcdmabkhmohgaaDoor
