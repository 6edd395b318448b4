/-
  A word is put: the row of what was put into a line grows; the numbers.
-/
import Derived.Test.YthdnhaaojicmbaaDoorMoves
namespace Go.Proofs.YthdnhaaojicmbaaDoor
open Go.RowKit
set_option linter.unusedSimpArgs false
set_option linter.unusedVariables false

section
variable {w w' : World} {base gL gO gV gP cL cO cV cP : Nat} {ls : List Ln} {os : List Int} {vs : List Value} {ps : List Pt}
theorem BD.over (h : BD w base gL gO gV gP cL cO cV cP ls os vs ps) {l : Nat} (hl : l < vs.length) {v : Value} (hv : vs[l] = v) {v' : Value} {n : Nat} {xs' : List Value} (hg : w.grownBy w' v.ownBlock) (hown : w'.ownsRow base 3 1 v' (lenV v') xs')
    (hloc : v'.ownBlock = v.ownBlock ∨ v'.ownBlock = some n) (hn : w.heap.size ≤ n) (h1 : v'.oneCell' = true) :
    BD (w'.setCell ⟨gV, l, none⟩ v') base gL gO gV gP cL cO cV cP ls os (vs.set l v') ps := by
  have hm : v ∈ vs := by rw [← hv]; exact List.getElem_mem hl
  have hli : vs[l]? = some v := by rw [List.getElem?_eq_getElem hl, hv]
  obtain ⟨xs, hx⟩ := h.each v hm
  have a1 : LinesAt w' base (.slice (some ⟨gL, 0, none⟩) ls.length cL) ls := ⟨own_mark h.lines.row hg fun k e1 e2 => apart_ty h.lines.row hx (by decide) k e1 e2, fun x hxx => own_mark (h.lines.held x hxx) hg fun k e1 e2 => h.apH v hm x hxx k e2 e1⟩
  have a2 := own_mark h.own hg fun k e1 e2 => h.apO v hm (e2.trans (by rw [← e1]; rfl))
  have a3 := own_mark h.ovr hg fun k e1 e2 => apart_ty h.ovr hx (by decide) k e1 e2
  have a4 := own_mark h.pts hg fun k e1 e2 => apart_ty h.pts hx (by decide) k e1 e2
  have a5 : ∀ q ∈ ps, w'.ownsRow base 3 1 (rowV q.heard) q.heard.2.1.length (ints q.heard.2.1) := fun q hq => own_mark (h.heard q hq) hg fun k e1 e2 => h.apQ v hm q hq k e2 e1
  have a6 : ∀ q ∈ ps, w'.ownsRow base 67 3 (rowV q.plan) q.plan.2.1.length (cells3 q.plan.2.1) := fun q hq => own_mark (h.plan q hq) hg fun k e1 e2 => apart_ty (h.plan q hq) hx (by decide) k e1 e2
  obtain ⟨s1, s2⟩ := a3.stored l v'
  have ne : ∀ {m sz : Nat} {e : TypeId} {u : Value} {ys : List Value}, w'.ownsRow base e sz u m ys → 22 ≠ e → u.ownBlock ≠ some gV := fun hu hne => apart_ty a3 hu hne gV rfl
  have far : ∀ {u : Value}, (∀ r, u.ownBlock = some r → r < w.heap.size) → Apart v u → Apart v' u := fun {u} hu hap r e1 e2 => by
    rcases hloc with e | e
    · exact hap r (e.symm.trans e1) e2
    · rw [e] at e1; injection e1 with e1; have := hu r e2; omega
  have hset : ∀ u ∈ vs.set l v', u = v' ∨ ∃ j, j ≠ l ∧ vs[j]? = some u := fun u hu => by
    obtain ⟨j, hj⟩ := List.getElem?_of_mem hu
    by_cases e : j = l
    · subst e; rw [List.getElem?_set_self hl] at hj; injection hj with hj; exact .inl hj.symm
    · rw [List.getElem?_set_ne (fun q => e q.symm)] at hj; exact .inr ⟨j, e, hj⟩
  have hmem : ∀ {j : Nat} {u : Value}, vs[j]? = some u → u ∈ vs := fun hj => List.mem_of_getElem? hj
  have each' : ∀ j u, j ≠ l → vs[j]? = some u → ∃ ys, w'.ownsRow base 3 1 u (lenV u) ys := fun j u hj hu => by
    obtain ⟨ys, hy⟩ := h.each u (hmem hu)
    exact ⟨ys, own_mark hy hg fun k e1 e2 => h.apV j l u v hj hu hli k e1 e2⟩
  refine ⟨⟨own_gb a1.row s2 (ne a1.row (by decide)), fun x hxx => own_gb (a1.held x hxx) s2 (ne (a1.held x hxx) (by decide))⟩, own_gb a2 s2 (ne a2 (by decide)), ?_, own_gb a4 s2 (ne a4 (by decide)), fun q hq => own_gb (a5 q hq) s2 (ne (a5 q hq) (by decide)), fun q hq => own_gb (a6 q hq) s2 (ne (a6 q hq) (by decide)), fun u hu => ?_, fun u hu x hxx => ?_, fun u hu q hq => ?_, fun u hu => ?_, fun i j u1 u2 hij h1 h2 => ?_⟩
  · rw [List.length_set]; exact s1
  · rcases hset u hu with rfl | ⟨j, hj, hju⟩
    · exact ⟨xs', own_gb hown s2 (ne hown (by decide))⟩
    · obtain ⟨ys, hy⟩ := each' j u hj hju
      exact ⟨ys, own_gb hy s2 (ne hy (by decide))⟩
  · rcases hset u hu with rfl | ⟨j, hj, hju⟩
    · exact far (fun r e => ((h.lines.held x hxx).lt r e).2) (h.apH v hm x hxx)
    · exact h.apH u (hmem hju) x hxx
  · rcases hset u hu with rfl | ⟨j, hj, hju⟩
    · exact far (fun r e => ((h.heard q hq).lt r e).2) (h.apQ v hm q hq)
    · exact h.apQ u (hmem hju) q hq
  · rcases hset u hu with rfl | ⟨j, hj, hju⟩
    · intro e
      rcases hloc with e2 | e2
      · exact h.apO v hm (e2.symm.trans e)
      · rw [e2] at e; injection e with e; have := (h.own.lt gO rfl).2; omega
    · exact h.apO u (hmem hju)
  · have old : ∀ {j : Nat} {u : Value}, vs[j]? = some u → ∀ r, u.ownBlock = some r → r < w.heap.size := fun {j u} hj r e => by
      obtain ⟨ys, hy⟩ := h.each u (hmem hj)
      exact (hy.lt r e).2
    by_cases e1 : i = l
    · have h1' : u1 = v' := by rw [e1, List.getElem?_set_self hl] at h1; injection h1 with h1; exact h1.symm
      rw [h1']
      rw [List.getElem?_set_ne (fun q => hij (e1.trans q))] at h2
      exact far (old h2) (h.apV l j v u2 (fun q => hij (e1.trans q)) hli h2)
    · rw [List.getElem?_set_ne (fun q => e1 q.symm)] at h1
      by_cases e2 : j = l
      · have h2' : u2 = v' := by rw [e2, List.getElem?_set_self hl] at h2; injection h2 with h2; exact h2.symm
        rw [h2']
        have := far (old h1) (h.apV l i v u1 (fun q => e1 q.symm) hli h1)
        exact fun r a b => this r b a
      · rw [List.getElem?_set_ne (fun q => e2 q.symm)] at h2
        exact h.apV i j u1 u2 hij h1 h2
end
section
variable {nl : Nat} {ls : List Ln} {os : List Int} {vs : List Value} {ps : List Pt}
/-- room for so many words more -/
def Slack (ls : List Ln) (vs : List Value) (ps : List Pt) : Prop := (∀ q ∈ ps, q.heard.2.1.length + mu ls ps + 1 ≤ 500) ∧ ∀ v ∈ vs, lenV v + mu ls ps + 1 ≤ 500
theorem BOk.put (ok : BOk nl ls os vs ps) {l p : Nat} (hl : l < vs.length) (hp : p < ps.length) (hat : ps[p].at_ < ps[p].plan.2.1.length) (v' : Value) (hv : lenV v' = lenV vs[l] + 1) :
    BOk nl ls os (vs.set l v') (ps.set p (nextP ps[p])) ∧ mu ls (ps.set p (nextP ps[p])) + 2 = mu ls ps ∧ Slack ls (vs.set l v') (ps.set p (nextP ps[p])) := by
  have nx := nextP_ok (ok.pt _ (List.getElem_mem hp)) hat
  have m := mu_setP (ls := ls) hp (nextP ps[p])
  have hm : mu ls (ps.set p (nextP ps[p])) + 2 = mu ls ps := by omega
  have hq : ∀ q ∈ ps.set p (nextP ps[p]), ∃ q0 ∈ ps, q.heard.2.1.length = q0.heard.2.1.length := fun q hq => by
    rcases List.mem_or_eq_of_mem_set hq with h | rfl
    · exact ⟨q, h, rfl⟩
    · exact ⟨ps[p], List.getElem_mem hp, rfl⟩
  have hvv : ∀ u ∈ vs.set l v', ∃ u0 ∈ vs, lenV u ≤ lenV u0 + 1 := fun u hu => by
    rcases List.mem_or_eq_of_mem_set hu with h | rfl
    · exact ⟨u, h, by omega⟩
    · exact ⟨vs[l], List.getElem_mem hl, by omega⟩
  refine ⟨ok.both rfl (List.length_set ..) (List.length_set ..) (fun q h => ?_) ok.ln (fun q h => ?_) (fun u h => ?_), hm, fun q h => ?_, fun u h => ?_⟩
  · rcases List.mem_or_eq_of_mem_set h with h | rfl
    · exact ok.pt q h
    · exact nx.1
  · obtain ⟨q0, h0, e⟩ := hq q h; exact ⟨q0, h0, by omega⟩
  · obtain ⟨u0, h0, e⟩ := hvv u h; exact ⟨u0, h0, by omega⟩
  · obtain ⟨q0, h0, e⟩ := hq q h; have := ok.sz q0 h0; omega
  · obtain ⟨u0, h0, e⟩ := hvv u h; have := ok.ov u0 h0; omega
theorem BOk.hear (ok : BOk nl ls os vs ps) (sl : Slack ls vs ps) {k : Nat} (hk : k < ps.length) (x : Pt) (hx : ptOk nl x) (hmu : muP x ≤ muP ps[k]) (hh : x.heard.2.1.length = ps[k].heard.2.1.length + 1) :
    BOk nl ls os vs (ps.set k x) ∧ mu ls (ps.set k x) ≤ mu ls ps := by
  have m := mu_setP (ls := ls) hk x
  refine ⟨⟨ok.hl, ok.ho, ok.hv, by rw [List.length_set]; exact ok.hp, fun q h => ?_, ok.ln, fun q h => ?_, fun v hv => by have := ok.ov v hv; omega⟩, by omega⟩
  · rcases List.mem_or_eq_of_mem_set h with h | rfl
    · exact ok.pt q h
    · exact hx
  · rcases List.mem_or_eq_of_mem_set h with h | rfl
    · have := ok.sz q h; omega
    · have := sl.1 _ (List.getElem_mem hk); omega
theorem BOk.word (ok : BOk nl ls os vs ps) (sl : Slack ls vs ps) {k : Nat} (hk : k < ls.length) (y : Ln) (hy : lnOk y) (hh : y.held.2.1.length = ls[k].held.2.1.length + 1) :
    BOk nl (ls.set k y) os vs ps ∧ mu (ls.set k y) ps = mu ls ps + 1 := by
  have m := mu_setL (ps := ps) hk y
  refine ⟨⟨by rw [List.length_set]; exact ok.hl, ok.ho, ok.hv, ok.hp, ok.pt, fun z h => ?_, fun q h => by have := sl.1 q h; omega, fun v hv => by have := sl.2 v hv; omega⟩, by omega⟩
  rcases List.mem_or_eq_of_mem_set h with h | rfl
  · exact ok.ln z h
  · exact hy
end
theorem lenV_slice (a : Option Addr) (n c : Nat) : lenV (.slice a n c) = n := rfl
end Go.Proofs.YthdnhaaojicmbaaDoor
