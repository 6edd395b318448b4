/-
  What stays true of a board's contents.
-/
import Derived.Test.YthdnhaaojicmbaaDoorBd5
namespace Go.Proofs.YthdnhaaojicmbaaDoor
open Go.RowKit
set_option linter.unusedSimpArgs false
set_option linter.unusedVariables false

section
variable {nl : Nat} {ls : List Ln} {os : List Int} {vs : List Value} {ps : List Pt}
theorem BOk.both {ls' : List Ln} {vs' : List Value} {ps' : List Pt} (ok : BOk nl ls os vs ps) (h1 : ls'.length = ls.length) (h2 : vs'.length = vs.length) (h3 : ps'.length = ps.length) (hpt : ∀ q ∈ ps', ptOk nl q) (hln : ∀ x ∈ ls', lnOk x)
    (hsz : ∀ q ∈ ps', ∃ q0 ∈ ps, q.heard.2.1.length + mu ls' ps' ≤ q0.heard.2.1.length + mu ls ps) (hov : ∀ v ∈ vs', ∃ v0 ∈ vs, lenV v + mu ls' ps' ≤ lenV v0 + mu ls ps) : BOk nl ls' os vs' ps' :=
  ⟨h1.trans ok.hl, ok.ho, h2.trans ok.hv, by rw [h3]; exact ok.hp, hpt, hln, fun q hq => by obtain ⟨q0, m, h⟩ := hsz q hq; have := ok.sz q0 m; omega, fun v hv => by obtain ⟨v0, m, h⟩ := hov v hv; have := ok.ov v0 m; omega⟩
theorem BOk.party (ok : BOk nl ls os vs ps) {k : Nat} (hk : k < ps.length) (x : Pt) (hx : ptOk nl x) (hmu : muP x ≤ muP ps[k]) (hh : x.heard.2.1.length + muP x ≤ ps[k].heard.2.1.length + muP ps[k]) : BOk nl ls os vs (ps.set k x) := by
  have hm := mu_setP (ls := ls) hk x
  refine ok.both rfl rfl (List.length_set ..) (fun q hq => ?_) ok.ln (fun q hq => ?_) (fun v hv => ⟨v, hv, by omega⟩)
  · rcases List.mem_or_eq_of_mem_set hq with h | rfl
    · exact ok.pt q h
    · exact hx
  · rcases List.mem_or_eq_of_mem_set hq with h | rfl
    · exact ⟨q, h, by omega⟩
    · exact ⟨ps[k], List.getElem_mem hk, by omega⟩
theorem BOk.line (ok : BOk nl ls os vs ps) {k : Nat} (hk : k < ls.length) (x : Ln) (hx : lnOk x) (hle : x.held.2.1.length ≤ ls[k].held.2.1.length) : BOk nl (ls.set k x) os vs ps := by
  have hm := mu_setL (ps := ps) hk x
  refine ok.both (List.length_set ..) rfl rfl ok.pt (fun y hy => ?_) (fun q hq => ⟨q, hq, by omega⟩) (fun v hv => ⟨v, hv, by omega⟩)
  rcases List.mem_or_eq_of_mem_set hy with h | rfl
  · exact ok.ln y h
  · exact hx
/-- a word goes from a line to a party -/
theorem BOk.takes (ok : BOk nl ls os vs ps) {j k : Nat} (hj : j < ls.length) (hk : k < ps.length) (y : Ln) (hy : lnOk y) (hle : y.held.2.1.length + 1 = ls[j].held.2.1.length) (x : Pt) (hx : ptOk nl x) (hmu : muP x ≤ muP ps[k]) (hh : x.heard.2.1.length = ps[k].heard.2.1.length + 1) :
    BOk nl (ls.set j y) os vs (ps.set k x) ∧ mu (ls.set j y) (ps.set k x) < mu ls ps := by
  have m1 := mu_setL (ps := ps) hj y
  have m2 := mu_setP (ls := ls.set j y) hk x
  refine ⟨ok.both (List.length_set ..) rfl (List.length_set ..) (fun q hq => ?_) (fun z hz => ?_) (fun q hq => ?_) (fun v hv => ⟨v, hv, by omega⟩), by omega⟩
  · rcases List.mem_or_eq_of_mem_set hq with h | rfl
    · exact ok.pt q h
    · exact hx
  · rcases List.mem_or_eq_of_mem_set hz with h | rfl
    · exact ok.ln z h
    · exact hy
  · rcases List.mem_or_eq_of_mem_set hq with h | rfl
    · exact ⟨q, h, by omega⟩
    · exact ⟨ps[k], List.getElem_mem hk, by omega⟩
end
end Go.Proofs.YthdnhaaojicmbaaDoor
