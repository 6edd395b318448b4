/-
  What a step of a party leaves; a party that was given a word.
-/
import Derived.Test.YthdnhaaojicmbaaDoorBd6
import Derived.Test.YthdnhaaojicmbaaDoorGiven
namespace Go.Proofs.YthdnhaaojicmbaaDoor
open Go.RowKit
set_option linter.unusedSimpArgs false
set_option linter.unusedVariables false

/-- behind a step: the board, and whether something was done -/
def Stepped (base gL gO gV gP cL cO cV cP nl : Nat) (ls : List Ln) (os : List Int) (vs : List Value) (ps : List Pt) (w : World) (e : Ending) (w' : World) : Prop :=
  ∃ (d : Bool) (ls' : List Ln) (vs' : List Value) (ps' : List Pt), e = .returned (.tuple #[.agg #[.slice (some ⟨gL, 0, none⟩) ls.length cL, .slice (some ⟨gO, 0, none⟩) os.length cO, .slice (some ⟨gV, 0, none⟩) vs.length cV, .slice (some ⟨gP, 0, none⟩) ps.length cP], .bool d]) ∧
    ls'.length = ls.length ∧ vs'.length = vs.length ∧ ps'.length = ps.length ∧ BD w' base gL gO gV gP cL cO cV cP ls' os vs' ps' ∧ BOk nl ls' os vs' ps' ∧ mu ls' ps' + (if d = true then 1 else 0) ≤ mu ls ps ∧ Below base w w' ∧ Boxes w w'
theorem Boxes.trans {w1 w2 w3 : World} (h : Boxes w1 w2) (k : Boxes w2 w3) : Boxes w1 w3 := fun b cs hb => k b cs (h b cs hb)
theorem Boxes.below {w w' : World} (h : Below w.heap.size w w') : Boxes w w' := fun b cs hb => hb.below h hb.lt
theorem Given.ok {word : Int} {q x : Pt} {nl : Nat} (g : Given word q x) (hq : ptOk nl q) (hat : q.at_ < q.plan.2.1.length) (h1 : -1 ≤ word) (h2 : word ≤ 1000) :
    ptOk nl x ∧ muP x ≤ muP q ∧ x.heard.2.1.length = q.heard.2.1.length + 1 ∧ (((q.plan.2.1.getD q.at_ (ByteArray.empty, 0, 0)).1.toList == takeL) = true → muP x + 2 ≤ muP q) := by
  obtain ⟨e1, e2, e3, e4, e5⟩ := g
  obtain ⟨a1, a2, a3, a4, a5, a6, a7⟩ := hq
  have hx : q.at_ ≤ x.at_ ∧ x.at_ ≤ q.plan.2.1.length := by
    split at e2 <;> omega
  refine ⟨⟨by rw [e1]; exact hx.2, by rw [e1]; exact a2, by rw [e1]; exact a3, by rw [e4]; exact a4, e5.1, e5.2, fun y hy => ?_⟩, ?_, by rw [e3]; simp, fun ht => ?_⟩
  · rw [e3] at hy
    rcases List.mem_append.1 hy with h | h
    · exact a7 y h
    · obtain rfl := List.mem_singleton.1 h
      exact ⟨h1, h2⟩
  · unfold muP; rw [e1, e4]; omega
  · rw [if_pos ht] at e2
    unfold muP; rw [e1, e4]; omega
/-- the answer's box is stored -/
theorem BD.res {w W : World} {base gL gO gV gP cL cO cV cP b : Nat} {ls : List Ln} {os : List Int} {vs : List Value} {ps : List Pt} {z0 z1 z2 z3 : Value} (h : BD W base gL gO gV gP cL cO cV cP ls os vs ps) (k : Blk W b 79 #[z0, z1, z2, z3]) (hb : base ≤ b) (B : Below base w W) (X : Boxes w W) (hw : w.heap.size ≤ b) (u0 u1 u2 u3 : Value) :
    BD ((((W.setCell ⟨b, 0, none⟩ u0).setCell ⟨b, 1, none⟩ u1).setCell ⟨b, 2, none⟩ u2).setCell ⟨b, 3, none⟩ u3) base gL gO gV gP cL cO cV cP ls os vs ps ∧ Below base w ((((W.setCell ⟨b, 0, none⟩ u0).setCell ⟨b, 1, none⟩ u1).setCell ⟨b, 2, none⟩ u2).setCell ⟨b, 3, none⟩ u3) ∧ Boxes w ((((W.setCell ⟨b, 0, none⟩ u0).setCell ⟨b, 1, none⟩ u1).setCell ⟨b, 2, none⟩ u2).setCell ⟨b, 3, none⟩ u3) ∧ Blk ((((W.setCell ⟨b, 0, none⟩ u0).setCell ⟨b, 1, none⟩ u1).setCell ⟨b, 2, none⟩ u2).setCell ⟨b, 3, none⟩ u3) b 79 #[u0, u1, u2, u3] :=
  ⟨((((h.box (i := 0) k u0).box (i := 1) (k.set_ 0 u0) u1).box (i := 2) ((k.set_ 0 u0).set_ 1 u1) u2).box (i := 3) (((k.set_ 0 u0).set_ 1 u1).set_ 2 u2) u3), ((((B.setCell (p := ⟨b, 0, none⟩) (by show base ≤ b; exact hb) u0).setCell (p := ⟨b, 1, none⟩) (by show base ≤ b; exact hb) u1).setCell (p := ⟨b, 2, none⟩) (by show base ≤ b; exact hb) u2).setCell (p := ⟨b, 3, none⟩) (by show base ≤ b; exact hb) u3), fun c cs hc => (((((X c cs hc).far (p := ⟨b, 0, none⟩) (by have := hc.lt; intro e; have e2 : c = b := e; omega) u0).far (p := ⟨b, 1, none⟩) (by have := hc.lt; intro e; have e2 : c = b := e; omega) u1).far (p := ⟨b, 2, none⟩) (by have := hc.lt; intro e; have e2 : c = b := e; omega) u2).far (p := ⟨b, 3, none⟩) (by have := hc.lt; intro e; have e2 : c = b := e; omega) u3), ((((k.set_ 0 u0).set_ 1 u1).set_ 2 u2).set_ 3 u3)⟩
end Go.Proofs.YthdnhaaojicmbaaDoor
