/-
  A goroutine's way to a stop in its seen world, as a tree without a bound; ranks; the measure of a machine of many.
-/
import Derived.Test.YthmgpkcijolljaaHKLift6
namespace Go.Proofs.Ythmgpkcijolljaa
open Go.Conc
set_option linter.unusedSimpArgs false
set_option linter.unusedVariables false
inductive Rk where
 | nil
 | sup (f : World → Rk)
def Rk.lt (a b : Rk) : Prop := ∃ f w, b = .sup f ∧ a = f w
theorem Rk.wf : WellFounded Rk.lt := ⟨fun r => by
 induction r with
 | nil => exact ⟨_, fun a h => by obtain ⟨f, w, e, _⟩ := h; cases e⟩
 | sup f ih => exact ⟨_, fun a h => by obtain ⟨g, w, e, rfl⟩ := h; cases e; exact ih w⟩⟩
def ThR (P : Program) (main gr st : Bool) (Live : World → Prop) (Stop : Goroutine → World → Prop) : Rk → Goroutine → World → Prop
 | .nil, g, v => Stop g v
 | .sup f, g, v => g.status = .running ∧ ∀ w, Veil P v w → (gr = false → w.heap.size = v.heap.size) → Live w →
   ∃ g' v' w' es, stepG P main g w = .go g' w' es ∧ Fol P ((v.upto w.heap.size).re w.tape w.drawn) w v' w' ∧ (∀ e ∈ es, EvOk v' e) ∧ (st = true → w'.heap.size = w.heap.size) ∧ ThR P main gr st Live Stop (f w) g' v'
def Th (P : Program) (main gr st : Bool) (Live : World → Prop) (Stop : Goroutine → World → Prop) (g : Goroutine) (v : World) : Prop := ∃ r, ThR P main gr st Live Stop r g v
/-- A stop bears another tape and hidden blocks behind. -/
structure SOk (P : Program) (gr : Bool) (Stop : Goroutine → World → Prop) : Prop where
 re : ∀ g v t d, Stop g (v.re t d) → Stop g v
 more : gr = true → ∀ g v n, Flat P v → Stop g v → Stop g (v.upto n)
theorem upto_upto {v : World} {n m : Nat} (h : n ≤ m) : (v.upto n).upto m = v.upto m := by
 have hsz : (v.upto n).heap.size = max n v.heap.size := upto_size
 refine world_ext (fun b => ?_) rfl rfl rfl rfl
 by_cases hb : b < v.heap.size
 ·have h1 : b < (v.upto n).heap.size := by omega
  rw [upto_get h1, upto_get hb, upto_get hb]
 ·by_cases hm : b < m
  ·have e2 : (v.upto m).heap[b]? = some hid := upto_new (by omega) hm
   rw [e2]
   by_cases hn : b < n
   ·have h1 : b < (v.upto n).heap.size := by omega
    rw [upto_get h1]
    exact upto_new (by omega) hn
   ·exact upto_new (by omega) hm
  ·have h1 : ((v.upto n).upto m).heap.size ≤ b := by rw [upto_size]; omega
   have h2 : (v.upto m).heap.size ≤ b := by rw [upto_size]; omega
   rw [Array.getElem?_eq_none h1, Array.getElem?_eq_none h2]
theorem Veil.of_upto {P : Program} {v w : World} {n : Nat} (hF : Flat P v) (h : Veil P (v.upto n) w) : Veil P v w :=
 ⟨by have := h.size; rw [upto_size] at this; omega, fun b o e => h.blk b o (by rw [upto_get (Array.getElem?_eq_some_iff.1 e).1]; exact e), hF⟩
theorem Flat.of_upto {P : Program} {v : World} {n : Nat} (hr : P.globals.size ≤ v.heap.size) (h : Flat P (v.upto n)) : Flat P v :=
 ⟨hr, fun b o e => h.obj b o (by rw [upto_get (Array.getElem?_eq_some_iff.1 e).1]; exact e), fun b e => h.low b (by rw [upto_get (Array.getElem?_eq_some_iff.1 e).1]; exact e)⟩
section
variable {P : Program} {main gr st : Bool} {Live : World → Prop} {Stop : Goroutine → World → Prop}
theorem ThR.re (hS : SOk P gr Stop) : ∀ {r : Rk} {g : Goroutine} {v : World} {t : Nat → Question → Nat} {d : Nat}, ThR P main gr st Live Stop r g (v.re t d) → ThR P main gr st Live Stop r g v
 | .nil, g, v, t, d, h => hS.re g v t d h
 | .sup f, g, v, t, d, h => ⟨h.1, fun w hV hz hl => h.2 w (hV.re t d) hz hl⟩
theorem ThR.more (hS : SOk P gr Stop) (hg : gr = true) : ∀ {r : Rk} {g : Goroutine} {v : World} {n : Nat}, Flat P v → ThR P main gr st Live Stop r g v → ThR P main gr st Live Stop r g (v.upto n)
 | .nil, g, v, n, hF, h => hS.more hg g v n hF h
 | .sup f, g, v, n, hr, h => ⟨h.1, fun w hV hz hl => by
   have hsz := hV.size
   rw [upto_size] at hsz
   rw [upto_upto (show n ≤ w.heap.size by omega)]
   exact h.2 w (hV.of_upto hr) (fun e => by rw [hg] at e; cases e) hl⟩
theorem Th.stop {g : Goroutine} {v : World} (h : Stop g v) : Th P main gr st Live Stop g v := ⟨.nil, h⟩
theorem Th.step {g : Goroutine} {v : World} (hr : g.status = .running)
  (h : ∀ w, Veil P v w → (gr = false → w.heap.size = v.heap.size) → Live w → ∃ g' v' w' es, stepG P main g w = .go g' w' es ∧ Fol P ((v.upto w.heap.size).re w.tape w.drawn) w v' w' ∧ (∀ e ∈ es, EvOk v' e) ∧ (st = true → w'.heap.size = w.heap.size) ∧ Th P main gr st Live Stop g' v') : Th P main gr st Live Stop g v := by
 have h' : ∀ w, ∃ r, (Veil P v w ∧ (gr = false → w.heap.size = v.heap.size) ∧ Live w) → ∃ g' v' w' es, stepG P main g w = .go g' w' es ∧ Fol P ((v.upto w.heap.size).re w.tape w.drawn) w v' w' ∧ (∀ e ∈ es, EvOk v' e) ∧ (st = true → w'.heap.size = w.heap.size) ∧ ThR P main gr st Live Stop r g' v' := by
  intro w
  by_cases hw : Veil P v w ∧ (gr = false → w.heap.size = v.heap.size) ∧ Live w
  ·obtain ⟨g', v', w', es, h1, h2, h3, h5, r, h4⟩ := h w hw.1 hw.2.1 hw.2.2
   exact ⟨r, fun _ => ⟨g', v', w', es, h1, h2, h3, h5, h4⟩⟩
  ·exact ⟨.nil, fun hh => absurd hh hw⟩
 exact ⟨.sup fun w => (h' w).choose, hr, fun w hV hz hl => (h' w).choose_spec ⟨hV, hz, hl⟩⟩
theorem Th.re (hS : SOk P gr Stop) {g : Goroutine} {v : World} {t : Nat → Question → Nat} {d : Nat} (h : Th P main gr st Live Stop g (v.re t d)) : Th P main gr st Live Stop g v := let ⟨r, h⟩ := h; ⟨r, h.re hS⟩
theorem th_ok (hS : SOk P gr Stop) : KOk P main gr st Live (Th P main gr st Live Stop) :=
 ⟨fun g v hs h => Th.step hs h, fun g v t d h => h.re hS, fun hg g v n hF h => let ⟨r, h⟩ := h; ⟨r, h.more hS hg hF⟩⟩
theorem Th.bind {Stop' : Goroutine → World → Prop} (hs : ∀ g v, Stop g v → Th P main gr st Live Stop' g v) : ∀ {r : Rk} {g : Goroutine} {v : World}, ThR P main gr st Live Stop r g v → Th P main gr st Live Stop' g v
 | .nil, g, v, h => hs g v h
 | .sup f, g, v, h => Th.step h.1 fun w hV hz hl => by
   obtain ⟨g', v', w', es, h1, h2, h3, h5, h4⟩ := h.2 w hV hz hl
   exact ⟨g', v', w', es, h1, h2, h3, h5, Th.bind hs h4⟩
end
/-! ### The measure: one entry falls -/
/-- Of the first J entries one falls, the others stand. -/
def OneDown {α : Type} (r : α → α → Prop) (J : Nat) (f' f : Nat → α) : Prop := ∃ i, i < J ∧ r (f' i) (f i) ∧ ∀ k, k < J → k ≠ i → f' k = f k
theorem oneDown_acc {α : Type} {r : α → α → Prop} (wf : WellFounded r) : ∀ (J : Nat) (f : Nat → α), Acc (OneDown r J) f
 | 0, f => ⟨_, fun f' h => by obtain ⟨i, hi, _⟩ := h; omega⟩
 | J + 1, f => by
  have key : ∀ a : α, ∀ f : Nat → α, f J = a → Acc (OneDown r (J + 1)) f := by
   intro a
   induction a using wf.induction with
   | _ a iha =>
    intro f hf
    have hJ := oneDown_acc wf J f
    -- inner induction: on the first J entries, f J ≤ a fixed
    have inner : ∀ f : Nat → α, Acc (OneDown r J) f → f J = a → Acc (OneDown r (J + 1)) f := by
     intro f hacc
     induction hacc with
     | intro f _ ih =>
      intro hfa
      refine ⟨_, fun f' h => ?_⟩
      obtain ⟨i, hi, hr, ho⟩ := h
      by_cases hiJ : i = J
      ·subst hiJ
       rw [hfa] at hr
       exact iha (f' i) hr f' rfl
      ·refine ih f' ⟨i, by omega, hr, fun k hk hne => ho k (by omega) hne⟩ ?_
       rw [ho J (by omega) (fun e => hiJ e.symm), hfa]
    exact inner f hJ ‹_›
  exact key (f J) f rfl
end Go.Proofs.Ythmgpkcijolljaa
