/-
  A board that is changed: one cell of a party, of a line.
-/
import Derived.Test.YthdnhaaojicmbaaDoorBd3
namespace Go.Proofs.YthdnhaaojicmbaaDoor
open Go.RowKit
set_option linter.unusedSimpArgs false
set_option linter.unusedVariables false

theorem keepC {w w' : World} (hb : Below w.heap.size w w') {a : Addr} {v : Value} (h : w.cell? a = some v) : w'.cell? a = some v := (hb.cell (World.block_lt_of_cell? w a h)).trans h
theorem sum_set {α : Type} (f : α → Nat) : ∀ (l : List α) (k : Nat) (hk : k < l.length) (x : α), ((l.set k x).map f).sum + f l[k] = (l.map f).sum + f x
  | [], k, hk, x => absurd hk (by simp)
  | a :: l, 0, hk, x => by simp; omega
  | a :: l, k + 1, hk, x => by
    have h := sum_set f l k (by simpa using hk) x
    simp only [List.set_cons_succ, List.map_cons, List.sum_cons, List.getElem_cons_succ]
    omega
theorem mu_setP {ls : List Ln} {ps : List Pt} {k : Nat} (hk : k < ps.length) (x : Pt) : mu ls (ps.set k x) + muP ps[k] = mu ls ps + muP x := by
  unfold mu
  have := sum_set muP ps k hk x
  omega
theorem mu_setL {ls : List Ln} {ps : List Pt} {k : Nat} (hk : k < ls.length) (x : Ln) : mu (ls.set k x) ps + ls[k].held.2.1.length = mu ls ps + x.held.2.1.length := by
  unfold mu
  have := sum_set (fun x : Ln => x.held.2.1.length) ls k hk x
  omega
theorem own_gb {w w' : World} {base n sz : Nat} {e : TypeId} {v : Value} {xs : List Value} {g : Nat} (h : w.ownsRow base e sz v n xs) (hg : w.grownBy w' (some g)) (hne : v.ownBlock ≠ some g) : w'.ownsRow base e sz v n xs :=
  own_mark h hg fun k hk e => by cases e; exact hne hk
section
variable {w w' : World} {base gL gO gV gP cL cO cV cP : Nat} {ls : List Ln} {os : List Int} {vs : List Value} {ps : List Pt}
theorem BD.setP (h : BD w base gL gO gV gP cL cO cV cP ls os vs ps) {k j : Nat} (hk : k < ps.length) (hj : j < 6) (x : Pt) (u : Value) (hx : encP x = (encP ps[k]).set j u) (hpl : x.plan = ps[k].plan)
    (hh : w.ownsRow base 3 1 (rowV x.heard) x.heard.2.1.length (ints x.heard.2.1)) (hap : ∀ v ∈ vs, Apart v (rowV x.heard)) :
    BD (w.setCell ⟨gP, k * 6 + j, none⟩ u) base gL gO gV gP cL cO cV cP ls os vs (ps.set k x) := by
  obtain ⟨s1, s2⟩ := h.pts.stored (k * 6 + j) u
  rw [flat_set encP_length ps hk hj x u hx] at s1
  have ne : ∀ {n sz : Nat} {e : TypeId} {v : Value} {xs : List Value}, w.ownsRow base e sz v n xs → 93 ≠ e → v.ownBlock ≠ some gP := fun hv hne => apart_ty h.pts hv hne gP rfl
  have hq : ∀ q ∈ ps.set k x, q = x ∨ q ∈ ps := fun q hq => by
    rcases List.mem_or_eq_of_mem_set hq with h1 | h1
    · exact .inr h1
    · exact .inl h1
  refine ⟨⟨own_gb h.lines.row s2 (ne h.lines.row (by decide)), fun y hy => own_gb (h.lines.held y hy) s2 (ne (h.lines.held y hy) (by decide))⟩, own_gb h.own s2 (ne h.own (by decide)), own_gb h.ovr s2 (ne h.ovr (by decide)), ?_, fun q hq' => ?_, fun q hq' => ?_, fun v hv => ?_, h.apH, fun v hv q hq' => ?_, h.apO, h.apV⟩
  · rw [List.length_set]; exact s1
  · rcases hq q hq' with rfl | h1
    · exact own_gb hh s2 (ne hh (by decide))
    · exact own_gb (h.heard q h1) s2 (ne (h.heard q h1) (by decide))
  · rcases hq q hq' with rfl | h1
    · rw [hpl]
      have h2 := h.plan _ (List.getElem_mem hk)
      exact own_gb h2 s2 (ne h2 (by decide))
    · exact own_gb (h.plan q h1) s2 (ne (h.plan q h1) (by decide))
  · obtain ⟨xs, h2⟩ := h.each v hv
    exact ⟨xs, own_gb h2 s2 (ne h2 (by decide))⟩
  · rcases hq q hq' with rfl | h1
    · exact hap v hv
    · exact h.apQ v hv q h1
theorem BD.setL (h : BD w base gL gO gV gP cL cO cV cP ls os vs ps) {k j : Nat} (hk : k < ls.length) (hj : j < 4) (x : Ln) (u : Value) (hx : encL x = (encL ls[k]).set j u)
    (hh : w.ownsRow base 3 1 (rowV x.held) x.held.2.1.length (ints x.held.2.1)) (hap : ∀ v ∈ vs, Apart v (rowV x.held)) :
    BD (w.setCell ⟨gL, k * 4 + j, none⟩ u) base gL gO gV gP cL cO cV cP (ls.set k x) os vs ps := by
  obtain ⟨s1, s2⟩ := h.lines.row.stored (k * 4 + j) u
  rw [flat_set encL_length ls hk hj x u hx] at s1
  have ne : ∀ {n sz : Nat} {e : TypeId} {v : Value} {xs : List Value}, w.ownsRow base e sz v n xs → 112 ≠ e → v.ownBlock ≠ some gL := fun hv hne => apart_ty h.lines.row hv hne gL rfl
  have hq : ∀ q ∈ ls.set k x, q = x ∨ q ∈ ls := fun q hq => by
    rcases List.mem_or_eq_of_mem_set hq with h1 | h1
    · exact .inr h1
    · exact .inl h1
  refine ⟨⟨?_, fun y hy => ?_⟩, own_gb h.own s2 (ne h.own (by decide)), own_gb h.ovr s2 (ne h.ovr (by decide)), own_gb h.pts s2 (ne h.pts (by decide)), fun q hq' => own_gb (h.heard q hq') s2 (ne (h.heard q hq') (by decide)), fun q hq' => own_gb (h.plan q hq') s2 (ne (h.plan q hq') (by decide)), fun v hv => ?_, fun v hv y hy => ?_, h.apQ, h.apO, h.apV⟩
  · rw [List.length_set]; exact s1
  · rcases hq y hy with rfl | h1
    · exact own_gb hh s2 (ne hh (by decide))
    · exact own_gb (h.lines.held y h1) s2 (ne (h.lines.held y h1) (by decide))
  · obtain ⟨xs, h2⟩ := h.each v hv
    exact ⟨xs, own_gb h2 s2 (ne h2 (by decide))⟩
  · rcases hq y hy with rfl | h1
    · exact hap v hv
    · exact h.apH v hv y h1
end
end Go.Proofs.YthdnhaaojicmbaaDoor
