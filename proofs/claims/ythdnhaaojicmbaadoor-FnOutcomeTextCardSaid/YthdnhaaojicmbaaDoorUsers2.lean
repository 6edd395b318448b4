/-
  impl.usersOf, and which lists of plans are valid.
-/
import Derived.Test.YthdnhaaojicmbaaDoorUsers
namespace Go.Proofs.YthdnhaaojicmbaaDoor
open Go.RowKit
set_option linter.unusedSimpArgs false
set_option linter.unusedVariables false

/-- no line is used by two parties -/
noncomputable def usersB (n : Nat) (R : List DRow) (ear : Bool) : Bool := @decide (∀ x : Int, 1 ≤ x → x ≤ n → ¬ twP R x ear) (Classical.propDecidable _)
theorem usersB_true {n : Nat} {R : List DRow} {ear : Bool} : usersB n R ear = true ↔ ∀ x : Int, 1 ≤ x → x ≤ n → ¬ twP R x ear := by simp [usersB]
theorem usersB_false {n : Nat} {R : List DRow} {ear : Bool} {x : Int} (h1 : 1 ≤ x) (h2 : x ≤ n) (h : twP R x ear) : usersB n R ear = false := by
  cases hb : usersB n R ear
  · rfl
  · exact absurd h (usersB_true.1 hb x h1 h2)
/-- the users so far: all deeds of the first i plans and lt of plan i -/
def UsSt (n : Nat) (R : List DRow) (ear : Bool) (i : Nat) (lt : List Dd) (U : List Int) : Prop :=
  ∀ x : Nat, x < n → ∃ v, U[x]? = some v ∧ St (fun p => (p < i ∧ usesAt R ((x : Int) + 1) ear p) ∨ (p = i ∧ usesB lt ((x : Int) + 1) ear = true)) v
section
variable {n : Nat} {R : List DRow} {ear : Bool} {i : Nat} {U : List Int}
theorem UsSt.start (h : ∀ x, x < n → U[x]? = some (-1)) : UsSt n R ear 0 [] U := fun x hx =>
  ⟨-1, h x hx, .inl ⟨rfl, fun p hp => by
    rcases hp with ⟨h1, _⟩ | ⟨_, h2⟩
    · omega
    · simp [usesB] at h2⟩⟩
theorem UsSt.next (hi : i < R.length) (h : UsSt n R ear i R[i].2.1 U) : UsSt n R ear (i + 1) [] U := fun x hx => by
  obtain ⟨v, hv, hst⟩ := h x hx
  refine ⟨v, hv, hst.congr fun p => ?_⟩
  constructor
  · rintro (⟨h1, h2⟩ | ⟨_, h2⟩)
    · by_cases e : p = i
      · subst e
        exact .inr ⟨rfl, h2.2⟩
      · exact .inl ⟨by omega, h2⟩
    · simp [usesB] at h2
  · rintro (⟨h1, h2⟩ | ⟨rfl, h2⟩)
    · exact .inl ⟨by omega, h2⟩
    · exact .inl ⟨by omega, hi, h2⟩
theorem UsSt.skip {l : List Dd} {j : Nat} (hj : j < l.length) (h : UsSt n R ear i (l.take j) U) (hno : ∀ x : Nat, x < n → useD ((x : Int) + 1) ear l[j] = false) : UsSt n R ear i (l.take (j + 1)) U := fun x hx => by
  obtain ⟨v, hv, hst⟩ := h x hx
  refine ⟨v, hv, hst.congr fun p => ?_⟩
  rw [usesB_succ hj, hno x hx, Bool.or_false]
theorem UsSt.hit {l : List Dd} {j x0 : Nat} (hj : j < l.length) (h : UsSt n R ear i (l.take j) U) (hx0 : x0 < n) (hu : ∀ x : Nat, useD ((x : Int) + 1) ear l[j] = decide (x = x0)) (hv : ∀ v, U[x0]? = some v → v < 0 ∨ v = i) (hU : U.length = n) : UsSt n R ear i (l.take (j + 1)) (U.set x0 i) := fun x hx => by
  obtain ⟨v, hv', hst⟩ := h x hx
  by_cases e : x = x0
  · subst e
    refine ⟨i, by rw [List.getElem?_set]; simp [hU, hx], hst.new (hv v hv') fun p => ?_⟩
    rw [usesB_succ hj, hu]
    constructor
    · rintro (h1 | ⟨h1, _⟩)
      · exact .inl (.inl h1)
      · exact .inr h1
    · rintro ((h1 | ⟨h1, h2⟩) | h1)
      · exact .inl h1
      · exact .inr ⟨h1, by simp⟩
      · exact .inr ⟨h1, by simp⟩
  · refine ⟨v, by rw [List.getElem?_set, if_neg (fun e' => e e'.symm)]; exact hv', hst.congr fun p => ?_⟩
    rw [usesB_succ hj, hu]
    simp [e]
theorem UsSt.clash {l : List Dd} {j x0 : Nat} (hi : i < R.length) (hl : R[i].2.1 = l) (hj : j < l.length) (h : UsSt n R ear i (l.take j) U) (hx0 : x0 < n) (hu : useD ((x0 : Int) + 1) ear l[j] = true) {v : Int} (hv : U[x0]? = some v) (h0 : 0 ≤ v) (hvi : v ≠ i) : usersB n R ear = false := by
  obtain ⟨v', hv', hst⟩ := h x0 hx0
  obtain rfl : v = v' := by rw [hv] at hv'; exact Option.some.inj hv'
  obtain ⟨p, hp, hpu⟩ := hst.twice h0 hvi
  rcases hpu with ⟨h1, h2⟩ | ⟨h1, _⟩
  · exact usersB_false (x := (x0 : Int) + 1) (by omega) (by omega) ⟨p, i, h1, h2, hi, by rw [hl]; exact usesB_yes hj hu⟩
  · exact absurd h1 hp
theorem UsSt.done (h : UsSt n R ear R.length [] U) : usersB n R ear = true := by
  rw [usersB_true]
  rintro x h1 h2 ⟨p, q, hpq, hp, hq⟩
  obtain ⟨v, hv, hst⟩ := h (x - 1).toNat (by omega)
  have e : (((x - 1).toNat : Nat) : Int) + 1 = x := by omega
  rw [e] at hst
  have := hst.one (p := p) (q := q) (.inl ⟨hp.1, hp⟩) (.inl ⟨hq.1, hq⟩)
  omega
end
theorem ret2_bool {v : Value} {a b : Bool} (h : a = b) : Ending.returned (.tuple #[v, .bool a]) = .returned (.tuple #[v, .bool b]) := by rw [h]
theorem cellI {w : World} {g : Nat} {t : TypeId} {U : List Int} (h : Blk w g t (ints U).toArray) {x : Nat} {v : Int} (hv : U[x]? = some v) : w.cell? ⟨g, x, none⟩ = some (.int .i64 v) := by
  rw [h.cell x]
  simp [ints, hv]
theorem setI {w : World} {g : Nat} {t : TypeId} {U : List Int} (h : Blk w g t (ints U).toArray) (x : Nat) (v : Int) : Blk (w.setCell ⟨g, x, none⟩ (.int .i64 v)) g t (ints (U.set x v)).toArray := by
  have := h.set_ x (.int .i64 v)
  rw [← ints_set]
  simpa using this
end Go.Proofs.YthdnhaaojicmbaaDoor
