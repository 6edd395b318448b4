/-
  The text of a deed, by the reference and by the program.
-/
import Derived.Test.YthdnhaaojicmbaaDoorDec
import Derived.Test.YthdnhaaojicmbaaDoorShelf
import Derived.Deep.RegionHeld3
namespace Go.Proofs.YthdnhaaojicmbaaDoor
open Go.RowKit
set_option linter.unusedSimpArgs false
set_option linter.unusedVariables false

def Tab (w : World) : Prop := Lib.TabIs Tryd.prog w "internal/strconv.uint64pow10" .u64 Lib.pow10Tab
theorem var_below {w w' : World} {P : Program} {name : String} {cs : Array Value} (h : w.var? P name = some cs) (hb : Below w.heap.size w w') : w'.var? P name = some cs := by
  unfold World.var? at h ⊢
  cases hg : P.globalNamed name with
  | none => rw [hg] at h; cases h
  | some g =>
    rw [hg] at h
    have hlt : g < w.heap.size := by
      rcases Nat.lt_or_ge g w.heap.size with h1 | h1
      · exact h1
      · simp only [Option.bind_some] at h
        rw [Array.getElem?_eq_none h1] at h
        cases h
    simp only [Option.bind_some] at h ⊢
    rw [hb.block g hlt]
    exact h
theorem Tab.below {w w' : World} (h : Tab w) (hb : Below w.heap.size w w') : Tab w' := var_below h hb
theorem below_grow (w : World) (k : Nat) (os : Array Obj) : Below w.heap.size w (Go.Sort.grow (w.drewN k) os) := by
  refine ⟨rfl, rfl, rfl, ?_, fun i hi => ?_⟩
  · show w.heap.size ≤ (w.heap ++ os).size
    simp
  · show (w.heap ++ os)[i]? = w.heap[i]?
    rw [Array.getElem?_append_left hi]
theorem itoa_any (n : Nat) (w : World) (h : Tab w) (hn : n ≤ 1000000) : Calls Tryd.prog 15 #[.int .i64 n] w fun e w' => e = .returned (.string (decS n)) ∧ Below w.heap.size w w' := by
  refine (Tryd.strconv_Itoa n (by omega) (by omega) w h).mono ?_
  rintro e w' ⟨rfl, k, os, rfl⟩
  refine ⟨ret_str ?_, below_grow w k os⟩
  unfold decS Lib.itoa
  rw [if_neg (by omega), Int.toNat_natCast]
theorem decS_size {n : Nat} (h : n ≤ 1000000) : (decS n).size ≤ 10 := by
  have h1 := dec_len 9 n (by omega)
  have : (decS n).size = (Lib.decDigits n).length := by simp [decS, ByteArray.size]
  omega
theorem str_info : (Tryd.prog.info? 9).map (fun i => (i.zero, i.size, i.bytes)) = some (some (Value.string ⟨#[]⟩), 1, 16) := by kernel_rfl
end Go.Proofs.YthdnhaaojicmbaaDoor
