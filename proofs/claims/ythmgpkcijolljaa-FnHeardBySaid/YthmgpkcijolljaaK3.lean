/-
  The law FnSaidAlone, walked beside leavers.
-/
import Derived.Test.YthmgpkcijolljaaK7
import Derived.Test.YthmgpkcijolljaaK2
import Derived.Test.YthmgpkcijolljaaKKDrw3
import Derived.Lib.MinMax
namespace Go.Proofs.Ythmgpkcijolljaa
open Go.Conc Go.RowKit Go.Conc.Lib Go.ConcR.Gen
set_option linter.unusedSimpArgs false
set_option linter.unusedVariables false
theorem wf_u8' {x : Int} (h : (Lit.int .u8 x).wf = true) : 0 ≤ x ∧ x ≤ 255 := by simpa [Lit.wf, IntKind.min, IntKind.max, IntKind.signed, IntKind.bits] using h
/-- how often one says something -/
def saysTo (l : List Dd) (k : Nat) : Nat := ((l.take k).filter isSay).length
theorem saysTo_succ {l : List Dd} {k : Nat} (h : k < l.length) : saysTo l (k + 1) = saysTo l k + (if isSay l[k] then 1 else 0) := by
 unfold saysTo
 rw [take_one h, List.filter_append, List.length_append]
 cases hs : isSay l[k] <;> simp [hs]
theorem saysTo_len (l : List Dd) (k : Nat) : saysTo l k ≤ l.length := by
 unfold saysTo
 refine Nat.le_trans (List.length_filter_le _ _) ?_
 rw [List.length_take]; omega
theorem alone_says (n : Nat) (l : List Dd) : ∀ k, (aloneAt n l k).length ≤ saysTo l k := by
 intro k
 induction k with
 | zero => rw [aloneAt_zero]; exact Nat.zero_le _
 | succ k ih =>
  by_cases h : k < l.length
  ·rw [aloneAt_succ n h, saysTo_succ h, List.length_append]
   cases isSay l[k] <;> simp <;> first | omega | (split <;> simp <;> omega)
  ·have e1 : aloneAt n l (k + 1) = aloneAt n l k := by unfold aloneAt; rw [List.take_of_length_le (by omega), List.take_of_length_le (by omega)]
   have e2 : saysTo l (k + 1) = saysTo l k := by unfold saysTo; rw [List.take_of_length_le (by omega), List.take_of_length_le (by omega)]
   rw [e1, e2]; exact ih
theorem okAll_take {p : Dd → Bool} {l : List Dd} (k : Nat) (h : okAll p l = true) : okAll p (l.take k) = true := by
 unfold okAll at *
 rw [List.all_eq_true] at *
 exact fun x hx => h x (List.mem_of_mem_take hx)
theorem meetB_take {g : Int} {l : List Dd} (k : Nat) (h : meetB g l = true) : meetB g (l.take k) = true := by
 unfold meetB at *
 simp only [Bool.and_eq_true, decide_eq_true_eq] at *
 exact ⟨⟨h.1.1, by rw [List.length_take]; omega⟩, okAll_take k h.2⟩
/-- the company before deed k -/
theorem coL_at {g : Int} {l : List Dd} {k : Nat} (hm : meetB g l = true) (h : k < l.length) : coL g (l.take k) l[k].2.1 = (co g.toNat (onAt l k) l[k].2.1.toNat).map fun (q : Nat) => (q : Int) := by
 obtain ⟨h1, h2, h3, h4⟩ := meetB_true hm
 obtain ⟨d1, d2, _⟩ := (h4 _ (List.getElem_mem h)).cases
 exact coL_yes (meetB_take k hm) (by omega)
theorem RD.take {w : World} {B : Nat} {A : Option Addr} {l : List Dd} (h : RD w B A l) {k : Nat} (hk : k ≤ l.length) : RD w B A (l.take k) := by
 have hl : (l.take k).length = k := by rw [List.length_take]; omega
 have e : cells3 l = cells3 (l.take k) ++ cells3 (l.drop k) := by unfold cells3; rw [← List.flatMap_append, List.take_append_drop]
 refine ⟨by simp, fun hn => ?_⟩
 obtain ⟨ad, e1, e2, e3⟩ := h.2 (by rw [hl] at hn; omega)
 refine ⟨ad, e1, e2, fun j u hu => e3 j u ?_⟩
 rw [e, List.getElem?_append_left (by exact (List.getElem?_eq_some_iff.1 hu).1)]
 exact hu
/-- the slots at the loop's head -/
structure HdSd (g : Int) (A : Option Addr) (n c : Nat) (Aa : Option Addr) (la ca : Nat) (nn sm sd k : Nat) (T : Array Value) : Prop where
 size : T.size = 143
 t3 : T.getD 3 undef = .int .i64 g
 t4 : T.getD 4 undef = .slice A n c
 t5 : T.getD 5 undef = .slice Aa la ca
 t9 : T.getD 9 undef = .int .i64 nn
 t10 : T.getD 10 undef = .int .i64 sm
 t11 : T.getD 11 undef = .int .i64 sd
 t12 : T.getD 12 undef = .int .i64 k
end Go.Proofs.Ythmgpkcijolljaa
/-
  The law FnSaidAlone, walked beside leavers: its loop, what follows, the whole.
-/
namespace Go.Proofs.Ythmgpkcijolljaa
open Go.Conc Go.RowKit Go.Conc.Lib Go.ConcR.Gen
set_option linter.unusedSimpArgs false
set_option linter.unusedVariables false
theorem kCode {K : Goroutine → World → Prop} {b : Frame} {a : Act} {k : List Item} {cs : List Frame} {v : World} {c c' : Code} (e : c = c') (h : KA K (G (b.at a (.code c' :: k)) cs) v) : KA K (G (b.at a (.code c :: k)) cs) v := e ▸ h
def leaveD : Dd := (⟨#[108, 101, 97, 118, 101]⟩, 1, 0)
end Go.Proofs.Ythmgpkcijolljaa
