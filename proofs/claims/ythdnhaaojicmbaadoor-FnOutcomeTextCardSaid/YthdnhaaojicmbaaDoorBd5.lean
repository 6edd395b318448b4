/-
  A party of a board, stored whole.
-/
import Derived.Test.YthdnhaaojicmbaaDoorBd4
namespace Go.Proofs.YthdnhaaojicmbaaDoor
open Go.RowKit
set_option linter.unusedSimpArgs false
set_option linter.unusedVariables false

section
variable {w w' : World} {base gL gO gV gP cL cO cV cP : Nat} {ls : List Ln} {os : List Int} {vs : List Value} {ps : List Pt}
/-- one cell of the party that lies at k now -/
theorem BD.stepP {k j : Nat} {y : Pt} (hk : k < ps.length) (h : BD w base gL gO gV gP cL cO cV cP ls os vs (ps.set k y)) (hj : j < 6) (x : Pt) (u : Value) (hx : encP x = (encP y).set j u) (hpl : x.plan = y.plan)
    (hh : x.heard = y.heard ∨ w.ownsRow base 3 1 (rowV x.heard) x.heard.2.1.length (ints x.heard.2.1) ∧ ∀ v ∈ vs, Apart v (rowV x.heard)) :
    BD (w.setCell ⟨gP, k * 6 + j, none⟩ u) base gL gO gV gP cL cO cV cP ls os vs (ps.set k x) := by
  have hk' : k < (ps.set k y).length := by rw [List.length_set]; exact hk
  have e : (ps.set k y)[k] = y := List.getElem_set_self hk'
  have hm : y ∈ ps.set k y := by
    have := List.getElem_mem hk'
    rwa [e] at this
  have r := h.setP hk' hj x u (by rw [e]; exact hx) (by rw [e]; exact hpl) (by rcases hh with h1 | h1
                                                                               · rw [h1]; exact h.heard y hm
                                                                               · exact h1.1) (fun v hv => by rcases hh with h1 | h1
                                                                                                             · rw [h1]; exact h.apQ v hv y hm
                                                                                                             · exact h1.2 v hv)
  rwa [List.set_set] at r
theorem BD.six (h : BD w base gL gO gV gP cL cO cV cP ls os vs ps) {k : Nat} (hk : k < ps.length) (x : Pt) (hpl : x.plan = ps[k].plan) (hh : w.ownsRow base 3 1 (rowV x.heard) x.heard.2.1.length (ints x.heard.2.1)) (hap : ∀ v ∈ vs, Apart v (rowV x.heard)) :
    BD ((((((w.setCell ⟨gP, k * 6, none⟩ (rowV x.plan)).setCell ⟨gP, k * 6 + 1, none⟩ (.int .i64 x.at_)).setCell ⟨gP, k * 6 + 2, none⟩ (rowV x.heard)).setCell ⟨gP, k * 6 + 3, none⟩ (.string x.fin)).setCell ⟨gP, k * 6 + 4, none⟩ (.int .i64 x.last)).setCell ⟨gP, k * 6 + 5, none⟩ (.int .i64 x.ear)) base gL gO gV gP cL cO cV cP ls os vs (ps.set k x) := by
  obtain ⟨p, hp⟩ : ∃ p, p = ps[k] := ⟨_, rfl⟩
  have h0 : BD w base gL gO gV gP cL cO cV cP ls os vs (ps.set k p) := by
    rw [hp, List.set_getElem_self]; exact h
  rw [← hp] at hpl
  have ne : (rowV x.heard).ownBlock ≠ some gP := apart_ty h.pts hh (by decide) gP rfl
  have s1 := BD.stepP (j := 0) hk h0 (by omega) ⟨x.plan, p.at_, p.heard, p.fin, p.last, p.ear⟩ (rowV x.plan) (by simp [encP]) hpl (.inl rfl)
  have s2 := BD.stepP (j := 1) hk s1 (by omega) ⟨x.plan, x.at_, p.heard, p.fin, p.last, p.ear⟩ (.int .i64 x.at_) (by simp [encP]) rfl (.inl rfl)
  have hh2 := ownsRow_setCell_other (ownsRow_setCell_other hh (a := ⟨gP, k * 6 + 0, none⟩) ne (rowV x.plan)) (a := ⟨gP, k * 6 + 1, none⟩) ne (.int .i64 x.at_)
  have s3 := BD.stepP (j := 2) hk s2 (by omega) ⟨x.plan, x.at_, x.heard, p.fin, p.last, p.ear⟩ (rowV x.heard) (by simp [encP]) rfl (.inr ⟨hh2, hap⟩)
  have s4 := BD.stepP (j := 3) hk s3 (by omega) ⟨x.plan, x.at_, x.heard, x.fin, p.last, p.ear⟩ (.string x.fin) (by simp [encP]) rfl (.inl rfl)
  have s5 := BD.stepP (j := 4) hk s4 (by omega) ⟨x.plan, x.at_, x.heard, x.fin, x.last, p.ear⟩ (.int .i64 x.last) (by simp [encP]) rfl (.inl rfl)
  exact BD.stepP (j := 5) hk s5 (by omega) x (.int .i64 x.ear) (by simp [encP]) rfl (.inl rfl)
/-- a store into a box of a board -/
theorem BD.box (h : BD w base gL gO gV gP cL cO cV cP ls os vs ps) {b i : Nat} {cs : Array Value} (hb : Blk w b 79 cs) (u : Value) : BD (w.setCell ⟨b, i, none⟩ u) base gL gO gV gP cL cO cV cP ls os vs ps := by
  have t : ∀ {n sz : Nat} {e : TypeId} {v : Value} {xs : List Value}, w.ownsRow base e sz v n xs → e ≠ 79 → (w.setCell ⟨b, i, none⟩ u).ownsRow base e sz v n xs := fun hr hne => ownsRow_setCell_other hr (a := ⟨b, i, none⟩) (own_blk_ne hr hb hne) u
  exact ⟨⟨t h.lines.row (by decide), fun x hx => t (h.lines.held x hx) (by decide)⟩, t h.own (by decide), t h.ovr (by decide), t h.pts (by decide), fun q hq => t (h.heard q hq) (by decide), fun q hq => t (h.plan q hq) (by decide), fun v hv => by obtain ⟨xs, h2⟩ := h.each v hv; exact ⟨xs, t h2 (by decide)⟩, h.apH, h.apQ, h.apO, h.apV⟩
end
/-- a box of another kind stands beside a store into a row -/
theorem Blk.beside {w : World} {b g k : Nat} {t e : TypeId} {cs : Array Value} {base n sz : Nat} {c : Nat} {xs : List Value} (h : Blk w b t cs) (hr : w.ownsRow base e sz (.slice (some ⟨g, 0, none⟩) n c) n xs) (hne : e ≠ t) (u : Value) : Blk (w.setCell ⟨g, k, none⟩ u) b t cs :=
  h.far (p := ⟨g, k, none⟩) (by intro e; have := own_blk_ne hr h hne; exact this (by show some g = some b; rw [e])) u
end Go.Proofs.YthdnhaaojicmbaaDoor
