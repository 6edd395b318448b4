/-
  Strings that are drawn; deeds that are drawn.
-/
import Derived.Test.YtpdbkohfmkmemaaDoorDraw3
import Derived.Test.YtpdbkohfmkmemaaDoorCut
import Derived.Test.YtpdbkohfmkmemaaDoorFmt2
import Derived.Deep.DeepCutAuto
import Derived.Deep.RegionHeld3
namespace Go.Proofs.YtpdbkohfmkmemaaDoor
open Go.RowKit
set_option linter.unusedSimpArgs false
set_option linter.unusedVariables false

/-- a string that is drawn -/
def DrawnStr (w : World) (R B : Nat) (A : Option Addr) (c : Nat) (l : List Int) (p : Int) (L : List ByteArray) (e : Ending) (w' : World) : Prop :=
  ∃ x : ByteArray, x ∈ L ∧ e = .returned (.string x) ∧ Rdr w' R B A c l (p + 1) ∧ w.grownBy w' (some R)
theorem of_any (R B c : Nat) (A : Option Addr) (l : List Int) (p : Int) (A' : Option Addr) (c' : Nat) (L : List ByteArray) (w : World) (h : Rdr w R B A c l p) (hp : p < 20000) (hL : w.ownsRow (R + 1) 9 1 (.slice A' L.length c') L.length (L.map Value.string)) (n1 : 1 ≤ L.length) (n2 : L.length ≤ 1000) :
    Calls Tryd.prog 27 #[.pointer (some ⟨R, 0, none⟩), .slice A' L.length c'] w (DrawnStr w R B A c l p L) := by
  go_enter Tryd.func27, Tryd.ntmps27
  go_wp2_with fail
  refine (pick_any R B c A l p (L.length : Int) w h hp (by omega) (by omega)).mono ?_
  rintro e w1 ⟨x, x0, x1, rfl, h1, hg1⟩
  have hL1 := hL.kept hg1 (.inr (fun e => by have := (hL.lt R e).1; omega))
  have hr := Reads.of_own hL1
  obtain ⟨ad, u, rfl, _, hx, hc⟩ := hr.at_ (k := x.toNat) (by omega)
  have hlt : x.toNat < L.length := by omega
  have hm : L[x.toNat]'hlt ∈ L := List.getElem_mem _
  have hu : u = .string (L[x.toNat]'hlt) := by
    rw [List.getElem?_map, List.getElem?_eq_getElem hlt] at hx
    exact (Option.some.inj hx).symm
  rw [hu] at hc
  generalize L[x.toNat]'hlt = v at hc hm
  go_wp2
  go_ret
  exact ⟨v, hm, rfl, h1, hg1⟩
/-- a list of strings that is written out -/
theorem lit_strs (w : World) (base : Nat) (L : List ByteArray) (hb : base ≤ w.heap.size) (hl : L.length ≤ 1000) : (w.alloc (.cells (L.map Value.string).toArray 9)).ownsRow base 9 1 (.slice (some ⟨w.heap.size, 0, none⟩) L.length L.length) L.length (L.map Value.string) :=
  ⟨by simp, .inr ⟨_, L.length, _, rfl, hb, heap_alloc_new w _, Nat.le_refl _, by unfold maxLen; omega, by simp, by simpa using List.take_of_length_le (l := L.map Value.string) (i := L.length) (by simp)⟩⟩
/-- an int -/
def isI (x : Int) : Prop := -9223372036854775808 ≤ x ∧ x ≤ 9223372036854775807
/-- a deed in a box of the call's own, and the reader -/
structure DBox (w0 w : World) (R B : Nat) (A : Option Addr) (c : Nat) (l : List Int) (p : Int) (D : Nat) (a : ByteArray) (x y : Int) (p' : Int) : Prop where
  res : Blk w w0.heap.size 41 #[.string ⟨#[]⟩, .int .i64 0, .int .i64 0]
  box : Blk w D 41 #[.string a, .int .i64 x, .int .i64 y]
  hD : w0.heap.size < D
  ha : a.size ≤ 10
  hx : isI x
  hy : isI y
  rdr : Rdr w R B A c l p'
  hp : p' ≤ p
  grown : w0.grownBy w (some R)
  hR : R < w0.heap.size
theorem DBox.set_ {w0 w : World} {R B : Nat} {A : Option Addr} {c : Nat} {l : List Int} {p : Int} {D : Nat} {a : ByteArray} {x y : Int} {p' : Int} (h : DBox w0 w R B A c l p D a x y p') (i : Nat) (v : Value) (a' : ByteArray) (x' y' : Int)
    (e : (#[.string a, .int .i64 x, .int .i64 y] : Array Value).setIfInBounds i v = #[.string a', .int .i64 x', .int .i64 y']) (ha : a'.size ≤ 10) (hx : isI x') (hy : isI y') : DBox w0 (w.setCell ⟨D, i, none⟩ v) R B A c l p D a' x' y' p' := by
  have hR := h.hR
  have hD := h.hD
  have hg := grownBy_new (a := w0) (row := some R) (row' := some D) h.grown (only_setCell_ (World.grownBy.refl w _) i v) (fun g hg => by injection hg with hg; omega)
  refine ⟨h.res.far (by show w0.heap.size ≠ D; omega) _, by rw [← e]; exact h.box.set_ i v, h.hD, ha, hx, hy, ?_, h.hp, hg, hR⟩
  exact h.rdr.grown (row := some D) (only_setCell_ (World.grownBy.refl w _) i v) (fun k hk => by injection hk with hk; omega)
theorem DBox.picked {w0 w w' : World} {R B : Nat} {A : Option Addr} {c : Nat} {l : List Int} {p : Int} {D : Nat} {a : ByteArray} {x y : Int} {p' p2 : Int} (h : DBox w0 w R B A c l p D a x y p') (hg : w.grownBy w' (some R)) (hr : Rdr w' R B A c l p2) (hp : p2 ≤ p + 1) : DBox w0 w' R B A c l (p + 1) D a x y p2 := by
  have hR := h.hR
  have hD := h.hD
  exact ⟨h.res.grown hg (fun e => by injection e with e; omega), h.box.grown hg (fun e => by injection e with e; omega), h.hD, h.ha, h.hx, h.hy, hr, hp, grownBy_trans h.grown hg, hR⟩
theorem DBox.fin {w0 w : World} {R B : Nat} {A : Option Addr} {c : Nat} {l : List Int} {p : Int} {D : Nat} {a : ByteArray} {x y : Int} {p' : Int} (h : DBox w0 w R B A c l p D a x y p') (v0 v1 v2 : Value) :
    Rdr (((w.setCell ⟨w0.heap.size, 0, none⟩ v0).setCell ⟨w0.heap.size, 1, none⟩ v1).setCell ⟨w0.heap.size, 2, none⟩ v2) R B A c l p' ∧ w0.grownBy (((w.setCell ⟨w0.heap.size, 0, none⟩ v0).setCell ⟨w0.heap.size, 1, none⟩ v1).setCell ⟨w0.heap.size, 2, none⟩ v2) (some R) := by
  have hR := h.hR
  have hg : w.grownBy (((w.setCell ⟨w0.heap.size, 0, none⟩ v0).setCell ⟨w0.heap.size, 1, none⟩ v1).setCell ⟨w0.heap.size, 2, none⟩ v2) (some w0.heap.size) := only_setCell_ (only_setCell_ (only_setCell_ (World.grownBy.refl w _) 0 v0) 1 v1) 2 v2
  exact ⟨h.rdr.grown hg (fun k hk => by injection hk with hk; omega), grownBy_new h.grown hg (fun g hg => by injection hg with hg; omega)⟩
end Go.Proofs.YtpdbkohfmkmemaaDoor
