/-
  Plain facts on lists: the places at which a value stands.
-/
namespace Go.Proofs.Ytbihnjfckaeioaa
set_option linter.unusedSimpArgs false

theorem filterMap_congr_ {α β : Type} {f g : α → Option β} : ∀ {l : List α}, (∀ x ∈ l, f x = g x) → l.filterMap f = l.filterMap g
  | [], _ => rfl
  | x :: l, h => by
    have h1 := h x (List.mem_cons_self ..)
    have h2 := filterMap_congr_ (l := l) fun y hy => h y (List.mem_cons_of_mem _ hy)
    simp only [List.filterMap_cons, h1, h2]

/-- the places of x in l, in ascending order -/
def posOf {α : Type} [DecidableEq α] (l : List α) (x : α) : List Int := l.zipIdx.filterMap fun q => if q.1 = x then some (q.2 : Int) else none
section
variable {α β : Type} [DecidableEq α] [DecidableEq β]
theorem posOf_nil (x : α) : posOf [] x = [] := rfl
theorem posOf_snoc (l : List α) (y x : α) : posOf (l ++ [y]) x = posOf l x ++ (if y = x then [(l.length : Int)] else []) := by
  unfold posOf
  rw [List.zipIdx_append, List.filterMap_append]
  congr 1
  simp only [List.zipIdx_cons, List.zipIdx_nil, Nat.zero_add]
  by_cases h : y = x
  · simp [h]
  · simp [h]
theorem posOf_take_succ (l : List α) (k : Nat) (h : k < l.length) (x : α) : posOf (l.take (k + 1)) x = posOf (l.take k) x ++ (if l[k] = x then [(k : Int)] else []) := by
  rw [List.take_succ_eq_append_getElem h, posOf_snoc]
  have : (l.take k).length = k := by rw [List.length_take]; omega
  rw [this]
theorem posOf_length_le (l : List α) (x : α) : (posOf l x).length ≤ l.length := by
  unfold posOf
  refine Nat.le_trans (List.length_filterMap_le _ _) ?_
  simp
theorem posOf_map (f : α → β) (l : List α) (x : α) (h : ∀ y ∈ l, f y = f x ↔ y = x) : posOf (l.map f) (f x) = posOf l x := by
  unfold posOf
  rw [List.zipIdx_map, List.filterMap_map]
  apply filterMap_congr_
  rintro ⟨y, i⟩ hq
  have hy : y ∈ l := by
    have := List.mem_zipIdx hq
    rw [this.2.2]
    exact List.getElem_mem _
  simp only [Function.comp, Prod.map]
  simp only [h y hy, id]
theorem mem_posOf {l : List α} {x : α} {i : Int} : i ∈ posOf l x ↔ ∃ k : Nat, i = k ∧ l[k]? = some x := by
  unfold posOf
  rw [List.mem_filterMap]
  constructor
  · rintro ⟨⟨y, k⟩, hm, he⟩
    by_cases h : y = x
    · subst h
      simp only [if_true, Option.some.injEq] at he
      exact ⟨k, he.symm, by rw [List.mem_zipIdx_iff_getElem?] at hm; exact hm⟩
    · simp [h] at he
  · rintro ⟨k, rfl, hk⟩
    exact ⟨(x, k), by rw [List.mem_zipIdx_iff_getElem?]; exact hk, by simp⟩
theorem posOf_range {l : List α} {x : α} : ∀ i ∈ posOf l x, 0 ≤ i ∧ i < l.length := by
  intro i hi
  obtain ⟨k, rfl, hk⟩ := mem_posOf.1 hi
  have : k < l.length := by
    rcases Nat.lt_or_ge k l.length with h | h
    · exact h
    · rw [List.getElem?_eq_none h] at hk
      cases hk
  omega
theorem posOf_ne_nil {l : List α} {k : Nat} (h : k < l.length) : posOf l l[k] ≠ [] := by
  intro e
  have : (k : Int) ∈ posOf l l[k] := mem_posOf.2 ⟨k, rfl, List.getElem?_eq_getElem h⟩
  rw [e] at this
  cases this
end
end Go.Proofs.Ytbihnjfckaeioaa
