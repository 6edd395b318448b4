/-
  FormatOutcome, by the program.
-/
import Derived.Test.YthdnhaaojicmbaaDoorOut
import Derived.Test.YthdnhaaojicmbaaDoorOwn
import Derived.Test.YthdnhaaojicmbaaDoorBuild
namespace Go.Proofs.YthdnhaaojicmbaaDoor
open Go.RowKit
set_option linter.unusedSimpArgs false
set_option linter.unusedVariables false

/-- a builder that holds s -/
def Bld (w : World) (B b : Nat) (s : ByteArray) : Prop := Lib.IsBuilder 39 5 B b (Lib.strCells s) w
theorem strCells_app (a b : ByteArray) : Lib.strCells (a ++ b) = Lib.strCells a ++ Lib.strCells b := by simp [Lib.strCells, ByteArray.data_append]
theorem bldAt_below {w w' : World} {T e : TypeId} {B b : Nat} {p : Value} {bs : List Value} (h : Lib.BuilderAt T e B b p bs w) (hb : Below w.heap.size w w') : Lib.BuilderAt T e B b p bs w' := by
  obtain ⟨h1, v, h2, h3, h4⟩ := h
  exact ⟨h1, v, (hb.block b (Array.getElem?_eq_some_iff.1 h2).1).trans h2, own_below h3 hb, h4⟩
theorem Bld.below {w w' : World} {B b : Nat} {s : ByteArray} (h : Bld w B b s) (hb : Below w.heap.size w w') : Bld w' B b s := by
  rcases h with h | h
  · exact .inl (bldAt_below h hb)
  · exact .inr (bldAt_below h hb)
theorem bld_new (w : World) : Bld (w.alloc (.cells #[.pointer none, .slice none 0 0] 39)) w.heap.size w.heap.size ⟨#[]⟩ :=
  .inl ⟨Nat.le_refl _, .slice none 0 0, heap_alloc_new w _, World.ownsRow_nil _ _ _ _, by simp [Value.ownBlock]⟩
theorem write_any (B b : Nat) (T s : ByteArray) (w : World) (h : Bld w B b T) (hl : T.size + s.size ≤ 100000000000) (hB : B ≤ w.heap.size) :
    Calls Tryd.prog 14 #[.pointer (some ⟨b, 0, none⟩), .string s] w fun e w' => e = .returned (.tuple #[.int .i64 s.size, .nilIface]) ∧ Bld w' B b (T ++ s) ∧ Below B w w' := by
  refine (Any.Builder_WriteString Tryd.build166 Tryd.build_x B b (Lib.strCells T) s w h (by rw [Lib.strCells_length]; omega) hB).mono ?_
  rintro e w' ⟨rfl, h1, h2⟩
  refine ⟨rfl, ?_, h2⟩
  unfold Bld
  rw [strCells_app]
  exact .inr h1
theorem string_any (B b : Nat) (T : ByteArray) (w : World) (h : Bld w B b T) (hB : B ≤ w.heap.size) :
    Calls Tryd.prog 16 #[.pointer (some ⟨b, 0, none⟩)] w fun e w' => e = .returned (.string T) ∧ Below B w w' := by
  refine (Any.Builder_String_any Tryd.build169 Tryd.build_x B b T.data.toList w h hB).mono ?_
  rintro e w' ⟨rfl, h1⟩
  exact ⟨ret_str (bytes_ext (by simp)), h1⟩
theorem itoa_all (n : Int) (w : World) (h : Tab w) (h0 : -9223372036854775808 ≤ n) (h1 : n ≤ 9223372036854775807) : Calls Tryd.prog 15 #[.int .i64 n] w fun e w' => e = .returned (.string (itoS n)) ∧ Below w.heap.size w w' := by
  refine (Tryd.strconv_Itoa n h0 h1 w h).mono ?_
  rintro e w' ⟨rfl, k, os, rfl⟩
  exact ⟨rfl, below_grow w k os⟩
end Go.Proofs.YthdnhaaojicmbaaDoor
