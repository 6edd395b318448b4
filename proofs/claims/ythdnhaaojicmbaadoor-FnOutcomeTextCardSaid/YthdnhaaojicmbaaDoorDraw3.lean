/-
  What the functions that draw the arguments of laws on fields return: some short field and some numbers.
-/
import Derived.Test.YthdnhaaojicmbaaDoorDraw2
namespace Go.Proofs.YthdnhaaojicmbaaDoor
open Go.RowKit
set_option linter.unusedSimpArgs false
set_option linter.unusedVariables false

/-- a reader that has been opened -/
def Opened (w : World) (e : Ending) (w' : World) : Prop :=
  ∃ (R : Nat) (A : Option Addr) (c : Nat) (l : List Int), e = .returned (.pointer (some ⟨R, 0, none⟩)) ∧ Rdr w' R w.heap.size A c l 0 ∧ Below w.heap.size w w'
theorem RB.take {w : World} {B : Nat} {A : Option Addr} {l : List Int} (h : RB w B A l) (n : Nat) (hn : n ≤ l.length) : RB w B A (l.take n) := by
  refine ⟨⟨by simp, fun h0 => ?_⟩, fun x hx => h.2 x (List.mem_of_mem_take hx)⟩
  obtain ⟨ad, e, hb, hc⟩ := h.1.2 (by simp at h0; omega)
  refine ⟨ad, e, hb, fun j u hu => hc j u ?_⟩
  rw [List.map_take, List.getElem?_take] at hu
  split at hu
  · exact hu
  · cases hu
theorem l11Open_any (A : Option Addr) (c : Nat) (l : List Int) (w : World) (h : RB w w.heap.size A l) (hc : l.length ≤ c) (hm : c ≤ maxLen) (hn : l.length ≤ 1048576) :
    Calls Tryd.prog 18 #[.slice A l.length c] w (Opened w) := by
  unfold maxLen at hm
  by_cases h2 : l.length ≤ 2000
  · go_enter Tryd.func18, Tryd.ntmps18
    go_wp2
    go_ret
    exact ⟨w.heap.size, A, c, l, rfl, ⟨Blk.new w _ _, ⟨Reads.alloc h.1 (Nat.le_refl _) _, h.2⟩, Nat.le_refl _, h2, Int.le_refl 0, by omega⟩, (Below.refl _ _).alloc (Nat.le_refl _) _⟩
  · have h3 : 2000 < l.length := by omega
    have hlen : (l.take 2000).length = 2000 := by rw [List.length_take]; omega
    have ht := h.take 2000 (by omega)
    have Ht := Lib.hid ht
    have Hlen := Lib.hid hlen
    clear ht hlen h
    go_enter Tryd.func18, Tryd.ntmps18
    go_wp2
    go_ret
    refine ⟨w.heap.size, A, c, l.take 2000, rfl, ⟨?_, ⟨Reads.alloc Ht.out.1 (Nat.le_refl _) _, Ht.out.2⟩, Nat.le_refl _, by rw [Hlen.out]; omega, Int.le_refl 0, by omega⟩, (Below.refl _ _).alloc (Nat.le_refl _) _⟩
    rw [Hlen.out]
    exact Blk.new w _ _
/-- some number that is drawn -/
def DrawnInt (w : World) (R B : Nat) (A : Option Addr) (c : Nat) (l : List Int) (p : Int) (e : Ending) (w' : World) : Prop :=
  ∃ x : Int, e = .returned (.int .i64 x) ∧ Rdr w' R B A c l (p + 1) ∧ w.grownBy w' (some R)
theorem below_of_R {w w1 w2 : World} {R : Nat} (hb : Below w.heap.size w w1) (hg : w1.grownBy w2 (some R)) (hR : w.heap.size ≤ R) : Below w.heap.size w w2 :=
  hb.grown hg hb.size (fun k hk => by injection hk with hk; omega)
/-- a field and two numbers -/
def DrawnF2 (w : World) (e : Ending) (w' : World) : Prop :=
  ∃ (L : List Int) (A : Option Addr) (c : Nat) (x y : Int), e = .returned (.tuple #[.slice A L.length c, .int .i64 x, .int .i64 y]) ∧ L.length ≤ 30 ∧ w'.ownsRow w.heap.size 3 1 (.slice A L.length c) L.length (ints L) ∧ Below w.heap.size w w'
end Go.Proofs.YthdnhaaojicmbaaDoor
