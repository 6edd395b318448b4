/-
  Lists of plans: how they read, their count, a copy, equality of equals.
-/
import Derived.Test.YthdnhaaojicmbaaDoorPlan
namespace Go.Proofs.YthdnhaaojicmbaaDoor
open Go.RowKit
set_option linter.unusedSimpArgs false
set_option linter.unusedVariables false

/-- a row of a list of plans -/
abbrev DRow := Option Addr × List Dd × Nat
/-- a slice of plans -/
def RLD (w : World) (B : Nat) (A : Option Addr) (R : List DRow) : Prop := RL encD 3 w B A R
section
variable {w w' : World} {B B' : Nat} {A : Option Addr} {R : List DRow}
theorem RLD.below (h : RLD w B A R) (hb : Below B w w') : RLD w' B A R := RL.below h hb
theorem RLD.more (h : RLD w B A R) (hB : B ≤ B') : RLD w B' A R := RL.more h hB
theorem RLD.at_ (h : RLD w B A R) {k : Nat} (hk : k < R.length) : ∃ ad, A = some ad ∧ ad.block < B ∧ w.cell? (ad.add k) = some (.slice R[k].1 R[k].2.1.length R[k].2.2) ∧
    R[k].2.1.length ≤ R[k].2.2 ∧ R[k].2.2 ≤ maxLen ∧ RD w B R[k].1 R[k].2.1 := RL.at_ h hk
end
/-- what a list of plans counts -/
def szDD (R : List DRow) : Nat := R.length + (R.map fun r => szD r.2.1).sum
def szTT (R : List DRow) (k : Nat) : Nat := ((R.map fun r => szD r.2.1).take k).sum
theorem szTT_zero (R : List DRow) : szTT R 0 = 0 := by simp [szTT]
theorem szTT_all (R : List DRow) : R.length + szTT R R.length = szDD R := by
  unfold szTT szDD
  rw [List.take_of_length_le (by simp)]
theorem szTT_succ {R : List DRow} {k : Nat} (h : k < R.length) : szTT R (k + 1) = szTT R k + szD R[k].2.1 := by
  unfold szTT
  rw [sum_take_succ _ k (by simpa using h)]
  simp
theorem szTT_le (R : List DRow) (k : Nat) : R.length + szTT R k ≤ szDD R := by
  unfold szTT szDD
  have := sum_take_le (R.map fun r => szD r.2.1) k
  omega
theorem szDD_len {R : List DRow} : R.length ≤ szDD R := by unfold szDD; omega
theorem szDD_mem {R : List DRow} {k : Nat} (h : k < R.length) : szD R[k].2.1 ≤ szDD R := by
  have h1 := szTT_succ h
  have h2 := szTT_le R (k + 1)
  omega
def leftDD (R : List DRow) (left : Int) : Int := if (szDD R : Int) ≤ left then left - szDD R else -1
theorem leftDD_ok {R : List DRow} {left : Int} (h : (szDD R : Int) ≤ left) : leftDD R left = left - szDD R := if_pos h
theorem leftDD_no {R : List DRow} {left : Int} (h : left < (szDD R : Int)) : leftDD R left = -1 := if_neg (by omega)
def gdR (R : List DRow) : Prop := ∀ r ∈ R, ∀ d ∈ r.2.1, d.1.size ≤ maxLen
theorem pslice_info : (Tryd.prog.info? 68).map (fun i => (i.zero, i.size, i.bytes)) = some (some (Value.slice none 0 0), 1, 24) := by kernel_rfl
/-- a copy of a list of plans: the same deeds -/
def NewPlans (w : World) (R : List DRow) (e : Ending) (w' : World) : Prop :=
  ∃ (A : Option Addr) (R' : List DRow), e = .returned (.slice A R'.length R'.length) ∧ R'.map (·.2.1) = R.map (·.2.1) ∧ RLD w' w'.heap.size A R' ∧ Below w.heap.size w w'
def zR : DRow := (none, [], 0)
/-- the first k rows of R, the rest empty -/
def rowsArr (R : List DRow) (k n : Nat) : Array Value := ((R.take k).map rowV ++ List.replicate (n - k) (Value.slice none 0 0)).toArray
theorem rowsArr_zero (R : List DRow) (n : Nat) : rowsArr R 0 n = Array.replicate n (Value.slice none 0 0) := by simp [rowsArr]
theorem rowsArr_size (R : List DRow) (k n : Nat) (h : k ≤ R.length) (hn : k ≤ n) : (rowsArr R k n).size = n := by
  simp [rowsArr, List.length_take]
  omega
theorem rowsArr_set (R : List DRow) (n : Nat) (hk : R.length < n) (x : DRow) : (rowsArr R R.length n).setIfInBounds R.length (rowV x) = rowsArr (R ++ [x]) (R.length + 1) n := by
  apply Array.ext_getElem?
  intro j
  rw [Array.getElem?_setIfInBounds]
  unfold rowsArr
  have e1 : (R ++ [x]).take (R.length + 1) = R ++ [x] := List.take_of_length_le (by simp)
  rw [e1, List.take_length]
  simp only [List.getElem?_toArray, List.size_toArray, List.length_append, List.length_map, List.length_replicate]
  by_cases hj : R.length = j
  · subst hj
    rw [if_pos rfl, if_pos (by omega)]
    simp
  · rw [if_neg hj]
    by_cases hl : j < R.length
    · rw [List.getElem?_append_left (by simpa using hl), List.getElem?_append_left (by simp; omega), List.map_append, List.getElem?_append_left (by simpa using hl)]
    · rw [List.getElem?_append_right (by simp; omega), List.getElem?_append_right (by simp; omega)]
      simp only [List.length_map, List.length_append, List.length_singleton, List.getElem?_replicate]
      by_cases hjn : j < n
      · rw [if_pos (by omega), if_pos (by omega)]
      · rw [if_neg (by omega), if_neg (by omega)]
theorem rowsArr_all (R : List DRow) : rowsArr R R.length R.length = (R.map rowV).toArray := by simp [rowsArr]
end Go.Proofs.YthdnhaaojicmbaaDoor
