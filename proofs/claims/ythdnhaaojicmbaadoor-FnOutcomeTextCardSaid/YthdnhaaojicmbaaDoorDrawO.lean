/-
  Strings that are drawn (where no texts are parsed).
-/
import Derived.Test.YthdnhaaojicmbaaDoorDraw3
import Derived.Deep.DeepCutAuto
import Derived.Deep.RegionHeld3
namespace Go.Proofs.YthdnhaaojicmbaaDoor
open Go.RowKit
set_option linter.unusedSimpArgs false
set_option linter.unusedVariables false

/-- a string that is drawn -/
def DrawnStr (w : World) (R B : Nat) (A : Option Addr) (c : Nat) (l : List Int) (p : Int) (L : List ByteArray) (e : Ending) (w' : World) : Prop :=
  ∃ x : ByteArray, x ∈ L ∧ e = .returned (.string x) ∧ Rdr w' R B A c l (p + 1) ∧ w.grownBy w' (some R)
theorem of_any (R B c : Nat) (A : Option Addr) (l : List Int) (p : Int) (A' : Option Addr) (c' : Nat) (L : List ByteArray) (w : World) (h : Rdr w R B A c l p) (hp : p < 20000) (hL : w.ownsRow (R + 1) 9 1 (.slice A' L.length c') L.length (L.map Value.string)) (n1 : 1 ≤ L.length) (n2 : L.length ≤ 1000) :
    Calls Tryd.prog 32 #[.pointer (some ⟨R, 0, none⟩), .slice A' L.length c'] w (DrawnStr w R B A c l p L) := by
  go_enter Tryd.func32, Tryd.ntmps32
  go_wp2_with fail
  refine (pick_any R B c A l p (L.length : Int) w h hp (by omega) (by omega)).mono ?_
  rintro e w1 ⟨x, x0, x1, rfl, h1, hg1⟩
  have hL1 := hL.kept hg1 (.inr (fun e => by have := (hL.lt R e).1; omega))
  have hr := Reads.of_own hL1
  obtain ⟨ad, u, rfl, _, hx, hc⟩ := hr.at_ (k := x.toNat) (by omega)
  have hlt : x.toNat < L.length := by omega
  have hm : L[x.toNat]'hlt ∈ L := List.getElem_mem _
  have hu : u = .string (L[x.toNat]'hlt) := by
    rw [List.getElem?_map, List.getElem?_eq_getElem hlt] at hx
    exact (Option.some.inj hx).symm
  rw [hu] at hc
  generalize L[x.toNat]'hlt = v at hc hm
  go_wp2
  go_ret
  exact ⟨v, hm, rfl, h1, hg1⟩
/-- a list of strings that is written out -/
theorem lit_strs (w : World) (base : Nat) (L : List ByteArray) (hb : base ≤ w.heap.size) (hl : L.length ≤ 1000) : (w.alloc (.cells (L.map Value.string).toArray 9)).ownsRow base 9 1 (.slice (some ⟨w.heap.size, 0, none⟩) L.length L.length) L.length (L.map Value.string) :=
  ⟨by simp, .inr ⟨_, L.length, _, rfl, hb, heap_alloc_new w _, Nat.le_refl _, by unfold maxLen; omega, by simp, by simpa using List.take_of_length_le (l := L.map Value.string) (i := L.length) (by simp)⟩⟩
end Go.Proofs.YthdnhaaojicmbaaDoor
