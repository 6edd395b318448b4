/-
  What the drawing of fields returns.
-/
import Derived.Test.YthdnhaaojicmbaaDoorDraw
namespace Go.Proofs.YthdnhaaojicmbaaDoor
open Go.RowKit
set_option linter.unusedSimpArgs false
set_option linter.unusedVariables false

theorem Rdr.grown {w w' : World} {R B c : Nat} {A : Option Addr} {l : List Int} {p : Int} {row : Option Nat} (h : Rdr w R B A c l p) (hg : w.grownBy w' row) (hr : ∀ k, row = some k → R < k) : Rdr w' R B A c l p := by
  have hlt := h.blk.lt
  refine ⟨h.blk.grown hg (fun e => by have := hr _ e.symm; omega), h.rb.keep fun q hq => World.cell?_of_block (hg.block q.block (by have := h.hB; omega) (fun e => by have := hr _ e.symm; have := h.hB; omega)), h.hB, h.hl, h.hp0, h.hp⟩
theorem Rdr.below {w w' : World} {R B c : Nat} {A : Option Addr} {l : List Int} {p : Int} (h : Rdr w R B A c l p) (hb : Below w.heap.size w w') : Rdr w' R B A c l p :=
  h.grown (row := none) ⟨hb.os, hb.tape, hb.output, hb.size, fun k hk _ => hb.block k hk⟩ (fun k e => by cases e)
theorem Rdr.alloc {w : World} {R B c : Nat} {A : Option Addr} {l : List Int} {p : Int} (h : Rdr w R B A c l p) (o : Obj) : Rdr (w.alloc o) R B A c l p := h.below ((Below.refl _ _).alloc (Nat.le_refl _) o)
theorem Rdr.le {w : World} {R B c : Nat} {A : Option Addr} {l : List Int} {p p' : Int} (h : Rdr w R B A c l p) (e : p = p') : Rdr w R B A c l p' := e ▸ h
theorem grownBy_trans {a b c : World} {row : Option Nat} (h : a.grownBy b row) (k : b.grownBy c row) : a.grownBy c row :=
  ⟨k.os.trans h.os, k.tape.trans h.tape, k.output.trans h.output, Nat.le_trans h.size k.size, fun i hi hne => (k.block i (Nat.lt_of_lt_of_le hi h.size) hne).trans (h.block i hi hne)⟩
/-- a row that is new in b may be written, too -/
theorem grownBy_new {a b c : World} {row row' : Option Nat} (h : a.grownBy b row) (k : b.grownBy c row') (hn : ∀ g, row' = some g → a.heap.size ≤ g) : a.grownBy c row :=
  ⟨k.os.trans h.os, k.tape.trans h.tape, k.output.trans h.output, Nat.le_trans h.size k.size, fun i hi hne => (k.block i (Nat.lt_of_lt_of_le hi h.size) (fun e => by have := hn _ e.symm; omega)).trans (h.block i hi hne)⟩
/-- a number that is drawn -/
def Drawn (w : World) (R B : Nat) (A : Option Addr) (c : Nat) (l : List Int) (p : Int) (L : List Int) (e : Ending) (w' : World) : Prop :=
  ∃ x : Int, x ∈ L ∧ e = .returned (.int .i64 x) ∧ Rdr w' R B A c l (p + 1) ∧ w.grownBy w' (some R)
theorem num_any (R B c : Nat) (A : Option Addr) (l : List Int) (p : Int) (A' : Option Addr) (c' : Nat) (L : List Int) (w : World) (h : Rdr w R B A c l p) (hp : p < 20000) (hL : w.ownsRow (R + 1) 3 1 (.slice A' L.length c') L.length (ints L)) (n1 : 1 ≤ L.length) (n2 : L.length ≤ 1000) :
    Calls Tryd.prog 31 #[.pointer (some ⟨R, 0, none⟩), .slice A' L.length c'] w (Drawn w R B A c l p L) := by
  go_enter Tryd.func31, Tryd.ntmps31
  go_wp2_with fail
  refine (pick_any R B c A l p (L.length : Int) w h hp (by omega) (by omega)).mono ?_
  rintro e w1 ⟨x, x0, x1, rfl, h1, hg1⟩
  have hL1 := hL.kept hg1 (.inr (fun e => by have := (hL.lt R e).1; omega))
  obtain ⟨ad, rfl, _, hc⟩ := (RI.of_own hL1).at_ (k := x.toNat) (by omega)
  have hm : L[x.toNat]'(by omega) ∈ L := List.getElem_mem _
  generalize L[x.toNat]'(by omega) = v at hc hm
  go_wp2
  go_ret
  exact ⟨v, hm, rfl, h1, hg1⟩
/-- a list that is written out -/
theorem lit_ints (w : World) (base : Nat) (L : List Int) (hb : base ≤ w.heap.size) (hl : L.length ≤ 1000) : (w.alloc (.cells (ints L).toArray 3)).ownsRow base 3 1 (.slice (some ⟨w.heap.size, 0, none⟩) L.length L.length) L.length (ints L) :=
  ownsRow_blk (Blk.new w _ _) hb (by omega)
/-- a slice of ints that is drawn: some short list -/
def DrawnInts (w : World) (R B : Nat) (A : Option Addr) (c : Nat) (l : List Int) (p : Int) (n : Nat) (e : Ending) (w' : World) : Prop :=
  ∃ (L : List Int) (A' : Option Addr) (c' : Nat) (p' : Int), e = .returned (.slice A' L.length c') ∧ L.length ≤ n ∧ w'.ownsRow w.heap.size 3 1 (.slice A' L.length c') L.length (ints L) ∧ Rdr w' R B A c l p' ∧ p' ≤ p + 100 ∧ w.grownBy w' (some R)
end Go.Proofs.YthdnhaaojicmbaaDoor
