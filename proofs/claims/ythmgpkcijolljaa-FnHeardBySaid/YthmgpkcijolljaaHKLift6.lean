/-
  THE LIFT: a piece of simple code whose lone walk is proved (Code.wp, on every tape) is walked by a goroutine in company.
-/
import Derived.Test.YthmgpkcijolljaaHKLift5
namespace Go.Proofs.Ythmgpkcijolljaa
open Go.Conc
set_option linter.unusedSimpArgs false
set_option linter.unusedVariables false
/-- What may be said of a goroutine and its seen world, closed under its own steps. 'gr': others may allot; 'st': it may not. -/
structure KOk (P : Program) (main gr st : Bool) (Live : World → Prop) (K : Goroutine → World → Prop) : Prop where
 step : ∀ (g : Goroutine) (v : World), g.status = .running →
  (∀ w, Veil P v w → (gr = false → w.heap.size = v.heap.size) → Live w → ∃ g' v' w' es, stepG P main g w = .go g' w' es ∧ Fol P ((v.upto w.heap.size).re w.tape w.drawn) w v' w' ∧ (∀ e ∈ es, EvOk v' e) ∧ (st = true → w'.heap.size = w.heap.size) ∧ K g' v') → K g v
 re : ∀ (g : Goroutine) (v : World) (t : Nat → Question → Nat) (d : Nat), K g (v.re t d) → K g v
 more : gr = true → ∀ (g : Goroutine) (v : World) (n : Nat), Flat P v → K g v → K g (v.upto n)
theorem Flat.upto {P : Program} {v : World} (h : Flat P v) (n : Nat) : Flat P (v.upto n) := by
 refine ⟨by rw [upto_size]; have := h.room; omega, fun b o e => ?_, fun b e => ?_⟩
 ·by_cases hb : b < v.heap.size
  ·rw [upto_get hb] at e; exact h.obj b o e
  ·by_cases hn : b < n
   ·rw [upto_new (by omega) hn] at e; cases e; exact ⟨rfl, rfl⟩
   ·rw [Array.getElem?_eq_none (by rw [upto_size]; omega)] at e; cases e
 ·by_cases hb : b < v.heap.size
  ·rw [upto_get hb] at e; exact h.low b e
  ·have := h.room; omega
theorem Veil.upto {P : Program} {v w : World} (h : Veil P v w) {n : Nat} (hn : n ≤ w.heap.size) : Veil P (v.upto n) w := by
 refine ⟨by rw [upto_size]; have := h.size; omega, fun b o e => ?_, h.flat.upto n⟩
 by_cases hb : b < v.heap.size
 ·rw [upto_get hb] at e; exact h.blk b o e
 ·by_cases hbn : b < n
  ·rw [upto_new (by omega) hbn] at e; cases e
   exact ⟨_, Array.getElem?_eq_getElem (show b < w.heap.size by omega), .hid _⟩
  ·rw [Array.getElem?_eq_none (by rw [upto_size]; omega)] at e; cases e
theorem Veil.re {P : Program} {v w : World} (h : Veil P v w) (t : Nat → Question → Nat) (d : Nat) : Veil P (v.re t d) w := ⟨h.size, h.blk, re_flat h.flat⟩
section
variable {P : Program} {S : List FuncId} {main gr st : Bool} {Live : World → Prop} {K : Goroutine → World → Prop} {B : Below_}
theorem conc_running (up : List Fa) (x : Fa) : (conc B up x).status = .running := by cases up <;> rfl
theorem lift_tree (hC : Closed P S) (hK : KOk P main gr st Live K) (hg : gr = false) (hst : st = false) (hk : B.kd ≠ .early) {F : Fa → World → Prop} (hF : ∀ x v, F x v → K (conc B [] x) v) {up : List Fa} {x : Fa} {v : World}
  (h : TA P F up x v) : CfgOk P S up x → Flat P v → K (conc B up x) v := by
 induction h with
 | fin t d h => exact fun _ _ => hK.re _ _ t d (hF _ _ h)
 | @step up x v nx hs _ ih =>
  intro hok hfl
  refine hK.step _ _ (conc_running up x) fun w hV hz _ => ?_
  have hz' := hz hg
  have e : v.upto w.heap.size = v := upto_le (by omega)
  obtain ⟨hok', _, w', es, f1, o1, _, hgo⟩ := cstep_real (main := main) (B := B) hC hk hok (hV.re w.tape w.drawn) hz' rfl rfl (hs w.tape w.drawn)
  exact ⟨_, _, w', es, hgo, by rw [e]; exact f1, o1, (fun e => by rw [hst] at e; cases e), ih w.tape w.drawn hok' f1.veil.flat⟩
/-- What is asked behind the piece of code. -/
def Behind (K : Goroutine → World → Prop) (b : Frame) (d : List Deferred) (k : List Item) (cs : List Frame) : Exit → Act → World → Prop
 | .normal, a, v => K (G (b.at ⟨a.tmps, d⟩ k) cs) v
 | .ret, a, v => ∀ todo, K (G { b.at ⟨a.tmps, d⟩ todo with mode := .returning } cs) v
 | _, _, _ => False
theorem tree_of_wp (hC : Closed P S) {c : Code} (hc : codeOk P S c = true) {b : Frame} {d : List Deferred} {k : List Item} {cs : List Frame} {tmps : Array Value} {v : World} (hfl : Flat P v)
  (h : ∀ t, c.wp P (Behind K b d k cs) ⟨tmps, []⟩ (v.re t 0)) : TA P (fun x v => K (conc ⟨d, k, b.kind, cs⟩ [] x) v ∧ x.fn = b.fn) [] ⟨b.fn, tmps, [.code c], true⟩ v := by
 have hok : CfgOk P S [] ⟨b.fn, tmps, [.code c], true⟩ := ⟨fun y hy => by simp at hy, fun y hy => by simp at hy, fun i hi => by rw [List.mem_singleton.1 hi]; exact hc, fun hh => absurd rfl hh⟩
 refine bar hC hok hfl fun t => ?_
 obtain ⟨e, a', v', hq, harr⟩ := h t { (default : Frame) with fn := b.fn, kind := .normal } [trapI] [trapF]
 cases e with
 | normal =>
  obtain ⟨N, hN⟩ := harr
  obtain ⟨n, x', h1, h2, h3⟩ := arrive hC N [] ⟨b.fn, tmps, [.code c], true⟩ (v.re t 0) hok (re_flat hfl) _ v' hN (.inl rfl)
  refine ⟨n, x', v', h1, ?_, h2⟩
  obtain ⟨fn, tm, items, run⟩ := x'
  simp only [Frame.at, frm, Frame.mk.injEq] at h3
  obtain ⟨_, rfl, h4, _, h5, _⟩ := h3
  have hrun : run = true := by
   cases run with
   | true => rfl
   | false => exact absurd h5 (by simp)
  have hit : items = [] := by
   have := congrArg List.length h4
   simpa using this
  subst hrun hit
  dsimp only at h2
  subst h2
  exact hq
 | ret =>
  obtain ⟨todo, N, hN⟩ := harr
  obtain ⟨n, x', h1, h2, h3⟩ := arrive hC N [] ⟨b.fn, tmps, [.code c], true⟩ (v.re t 0) hok (re_flat hfl) _ v' hN (.inr rfl)
  refine ⟨n, x', v', h1, ?_, h2⟩
  obtain ⟨fn, tm, items, run⟩ := x'
  simp only [Frame.at, frm, Frame.mk.injEq] at h3
  obtain ⟨_, rfl, h4, _, h5, _⟩ := h3
  have hrun : run = false := by
   cases run with
   | false => rfl
   | true => exact absurd h5 (by simp)
  subst hrun
  dsimp only at h2
  subst h2
  exact hq _
 | exit id => exact hq.elim
 | goto l => exact hq.elim
 | panic ch => exact hq.elim
 | outgrown => exact hq.elim
end
end Go.Proofs.Ythmgpkcijolljaa
