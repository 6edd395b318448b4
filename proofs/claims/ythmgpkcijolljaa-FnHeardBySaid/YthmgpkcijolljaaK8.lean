/-
  How the arguments of a law are opened.
-/
import Derived.Test.YthmgpkcijolljaaH1
import Derived.Test.YthmgpkcijolljaaKS
import Derived.OpenShut
import Derived.ShutString
import Derived.ChangeOld
import Derived.Carry
import Derived.Lib.SmallJoins
import Derived.Deep.SlicePairs
namespace Go.Proofs.Ythmgpkcijolljaa
open Go.ChangeShapes Go.WideShapes Go.ChangeAt Go.RowKit Go.Deep
open Go.ChangeMaps (open_string shut_string)
theorem own : ownKnob Try.prog.godebug = none := by kernel_rfl
theorem laidOut : laidOutB Try.prog = true := by kernel_rfl
theorem lt_of_cell {w : World} {a : Addr} {v : Value} (h : w.cell? a = some v) : a.block < w.heap.size := by
 rcases Nat.lt_or_ge a.block w.heap.size with hlt | hge
 ·exact hlt
 ·unfold World.cell? at h
  rw [Array.getElem?_eq_none hge] at h
  cases h
section
variable {H : Type} {enc : TypeId × Value → H} {P : Program} {W : World}
theorem open_num {k : IntKind} {T : TypeId} {e : TypeId} {b : Nat} {r : Reach} {v : Value} {d : DataW H} {p : List MemPlace} (hT : P.underlying T = some (.slice e)) (hE : P.underlying e = some (.int k)) (hC : P.cellsOf e = 1)
  (hok : Value.okWide P W r b T v) (h : DataW.Trod enc P W 0 (fun _ => true) true T v d p) :
  ∃ (A : Option Addr) (l : List Int) (c : Nat), v = .slice A l.length c ∧ l.length ≤ c ∧ c ≤ maxLen ∧ Reads W W.heap.size 1 A l.length (l.map (Value.int k)) ∧ ∀ x ∈ l, (Lit.int k x).wf = true := by
 obtain ⟨A, len, cap, rfl⟩ := okWide_slice hT hok
 obtain ⟨fuel, hf⟩ := h
 rcases open_ints hT hE hC hf with ⟨hcs, _⟩ | ⟨x, l, c, zs, hcs, _, hl, hm, hz, _, hcell, hwz⟩
 ·simp [Value.cells] at hcs
  obtain ⟨rfl, rfl, rfl⟩ := hcs
  exact ⟨none, [], 0, rfl, Nat.le_refl _, Nat.zero_le _, by simpa using Reads.none_, by simp⟩
 ·simp [Value.cells] at hcs
  obtain ⟨rfl, rfl, rfl⟩ := hcs
  have hz' : zs.length = cap := by simpa using hz
  have hlen : (zs.take len).length = len := by rw [List.length_take]; omega
  refine ⟨some x, zs.take len, cap, by rw [hlen], by omega, hm, ⟨by simp, fun hn => ⟨x, rfl, ?_, fun j u hu => ?_⟩⟩, fun y hy => hwz y (List.mem_of_mem_take hy)⟩
  ·have h0 := hcell 0 (by omega)
   have := lt_of_cell h0
   rwa [block_of_add] at this
  ·rw [List.getElem?_map] at hu
   have hj : j < (zs.take len).length := by
    rcases Nat.lt_or_ge j (zs.take len).length with h' | h'
    ·exact h'
    ·rw [List.getElem?_eq_none h'] at hu
     cases hu
   rw [hcell j (by omega), ← hu, List.getElem?_take, if_pos (by omega), List.getElem?_eq_getElem (by omega)]
   simp [List.getD_eq_getElem?_getD, List.getElem?_eq_getElem (show j < zs.length by omega)]
end
end Go.Proofs.Ythmgpkcijolljaa
