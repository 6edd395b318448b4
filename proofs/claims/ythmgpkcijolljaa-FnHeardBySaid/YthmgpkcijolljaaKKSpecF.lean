/-
  What the reference's functions on guests return.
-/
import Derived.Test.YthmgpkcijolljaaHKRunR
import Derived.Test.YthmgpkcijolljaaKS
import Derived.Test.YthmgpkcijolljaaK5
namespace Go.Proofs.Ythmgpkcijolljaa
open Go.RowKit
open Go.ConcN (upd upd_same upd_ne)
set_option linter.unusedSimpArgs false
set_option linter.unusedVariables false
theorem l7Run_no {A : Option Addr} {cp : Nat} {g : Int} {l : List Dd} {w : World} (h : RD w w.heap.size A l) (hlen : l.length ≤ 1048576) (hm : meetB g l = false) :
  Calls Try.prog 33 #[.int .i64 g, .slice A l.length cp] w fun e w' => ∃ AA kA, e = .returned (.tuple #[.agg #[.slice none 0 0, .slice none 0 0, .slice AA 0 kA], .bool false]) ∧ w'.ownsRow w.heap.size 3 1 (.slice AA 0 kA) 0 [] ∧ Below w.heap.size w w' := by
 refine (l7Run_any A cp g l w h hlen).mono ?_
 rintro e w' (⟨_, vA, rfl, h1, h2⟩ | ⟨h1, _⟩)
 ·obtain ⟨AA, kA, rfl⟩ := own_form h1
  exact ⟨AA, kA, rfl, h1, h2⟩
 ·rw [hm] at h1; cases h1
/-- what a run leaves -/
structure RanOk (w : World) (n : Nat) (l : List Dd) (go kO gh kH : Nat) (AA : Option Addr) (kA : Nat) (V : List Value) (w' : World) : Prop where
 rm : Rm w' w.heap.size n (onEnd on0 l) (fut on0 l) (aloneF n on0 l) (.slice (some ⟨go, 0, none⟩) (n + 1) kO) (.slice (some ⟨gh, 0, none⟩) (n + 1) kH) (.slice AA (aloneF n on0 l).length kA) V
 bel : Below w.heap.size w w'
 cO : n + 1 ≤ kO
 cH : n + 1 ≤ kH
 gO : go < w'.heap.size
 gH : gh < w'.heap.size
theorem own_cap {w : World} {base n sz g c : Nat} {e : TypeId} {xs : List Value} (h : w.ownsRow base e sz (.slice (some ⟨g, 0, none⟩) n c) n xs) : n ≤ c := by
 rcases h.2 with ⟨h1, _⟩ | ⟨g', cap, cur, h1, _, _, h2, _⟩
 ·cases h1
 ·injection h1 with _ _ h1
  subst h1
  exact h2
theorem l7Run_yes {A : Option Addr} {cp : Nat} {g : Int} {l : List Dd} {w : World} (h : RD w w.heap.size A l) (hlen : l.length ≤ 1048576) (hm : meetB g l = true) :
  Calls Try.prog 33 #[.int .i64 g, .slice A l.length cp] w fun e w' => ∃ go kO gh kH AA kA V, e = .returned (.tuple #[.agg #[.slice (some ⟨go, 0, none⟩) (g.toNat + 1) kO, .slice (some ⟨gh, 0, none⟩) (g.toNat + 1) kH, .slice AA (aloneF g.toNat on0 l).length kA], .bool true]) ∧ RanOk w g.toNat l go kO gh kH AA kA V w' := by
 refine (l7Run_any A cp g l w h hlen).mono ?_
 rintro e w' (⟨h1, _⟩ | ⟨_, vO, vH, vA, V, rfl, h1, h2⟩)
 ·rw [hm] at h1; cases h1
 ·obtain ⟨go, kO, rfl, _, g1⟩ := h1.formO
  obtain ⟨gh, kH, rfl, _, g2⟩ := h1.formH
  obtain ⟨AA, kA, rfl⟩ := own_form h1.hA
  have hV : V.length = g.toNat + 1 := by have := h1.hH.len; rw [hdL_len] at this; exact this.symm
  have hd := h1.hH.hdr
  rw [hV] at hd
  exact ⟨go, kO, gh, kH, AA, kA, V, rfl, h1, h2, own_cap h1.hO, own_cap hd, g1, g2⟩
section
variable {w w' : World} {n : Nat} {l : List Dd} {go kO gh kH : Nat} {AA : Option Addr} {kA : Nat} {V : List Value}
theorem RanOk.atO (h : RanOk w n l go kO gh kH AA kA V w') {q : Nat} (hq : q ≤ n) : w'.cell? ⟨go, q, none⟩ = some (.int .i64 ((onEnd on0 l q : Nat) : Int)) := h.rm.atO hq
theorem RanOk.atH (h : RanOk w n l go kO gh kH AA kA V w') {q : Nat} (hq : q ≤ n) : ∃ A1 c1, w'.cell? ⟨gh, q, none⟩ = some (.slice A1 (fut on0 l q).length c1) ∧ RI w' w'.heap.size A1 (fut on0 l q) := by
 have hV : V.length = n + 1 := by have := h.rm.hH.len; rw [hdL_len] at this; exact this.symm
 have hd := h.rm.hH.hdr
 rw [hV] at hd
 have hq' : q < V.length := by omega
 have h1 := h.rm.hH.row q V[q] (fut on0 l q) (List.getElem?_eq_getElem hq') (hdL_get _ hq)
 obtain ⟨A1, c1, e⟩ := own_form h1
 refine ⟨A1, c1, ?_, ?_⟩
 ·rw [hd.cellAt q (by omega), List.getElem?_eq_getElem hq', e]
 ·rw [e] at h1
  exact RI.of_own h1
end
/-- a slice that reads as l, and a bool -/
def ReadInts2 (w : World) (l : List Int) (b : Bool) (e : Ending) (w' : World) : Prop :=
 ∃ A c, e = .returned (.tuple #[.slice A l.length c, .bool b]) ∧ RI w' w'.heap.size A l ∧ Below w.heap.size w w'
theorem OwnInts2.reads {w w' : World} {l : List Int} {b : Bool} {e : Ending} (h : OwnInts2 w l b e w') : ReadInts2 w l b e w' := by
 obtain ⟨A, c, rfl, h1, h2⟩ := h
 exact ⟨A, c, rfl, RI.of_own h1, h2⟩
end Go.Proofs.Ythmgpkcijolljaa
