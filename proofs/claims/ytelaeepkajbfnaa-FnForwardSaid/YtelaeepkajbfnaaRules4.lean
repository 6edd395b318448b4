/-
  The way of a line: plain laws.
-/
import Derived.Test.YtelaeepkajbfnaaRules2
namespace Go.Proofs.Ytelaeepkajbfnaa
set_option linter.unusedSimpArgs false
set_option linter.unusedVariables false

theorem php (n : Nat) (f : Nat → Int) (S : List Int) (hS : S.length < n) (h : ∀ k, k < n → f k ∈ S) : ∃ i j, i < j ∧ j < n ∧ f i = f j := by
  induction n generalizing S with
  | zero => omega
  | succ n ih =>
    by_cases he : ∃ i, i < n ∧ f i = f n
    · obtain ⟨i, hi, e⟩ := he
      exact ⟨i, n, hi, by omega, e⟩
    · have hm := h n (by omega)
      have hl : (S.erase (f n)).length < n := by
        rw [List.length_erase_of_mem hm]
        have : 0 < S.length := List.length_pos_of_mem hm
        omega
      obtain ⟨i, j, hij, hj, e⟩ := ih (S.erase (f n)) hl fun k hk => (List.mem_erase_of_ne fun e => he ⟨k, hk, e⟩).2 (h k (by omega))
      exact ⟨i, j, hij, by omega, e⟩

/-- n steps on the way of x -/
def itL (l : List (Int × Int)) : Nat → Int → Option Int
  | 0, x => some x
  | n + 1, x => (itL l n x).bind (lkp l)
theorem itL_add (l : List (Int × Int)) (a b : Nat) (x : Int) : itL l (a + b) x = (itL l a x).bind (itL l b) := by
  induction b with
  | zero => cases itL l a x <;> rfl
  | succ b ih =>
    rw [← Nat.add_assoc]
    show (itL l (a + b) x).bind (lkp l) = _
    rw [ih]
    cases itL l a x <;> rfl
theorem itL_succ' (l : List (Int × Int)) (n : Nat) (x : Int) : itL l (n + 1) x = (lkp l x).bind (itL l n) := by
  rw [Nat.add_comm, itL_add]
  rfl
theorem itL_le {l : List (Int × Int)} {a b : Nat} {x : Int} (h : (itL l b x).isSome = true) (hab : a ≤ b) : (itL l a x).isSome = true := by
  obtain ⟨c, rfl⟩ := Nat.exists_eq_add_of_le hab
  rw [itL_add] at h
  cases h2 : itL l a x with
  | none => rw [h2] at h; exact h
  | some y => rfl
theorem lkp_mem {l : List (Int × Int)} {x : Int} (h : (lkp l x).isSome = true) : x ∈ l.map (·.1) := by
  unfold lkp at h
  rw [Option.isSome_map, List.find?_isSome] at h
  obtain ⟨r, hr, e⟩ := h
  exact List.mem_map.2 ⟨r, hr, by simpa using e⟩
/-- a way of more steps than rules meets itself -/
theorem itL_meets {l : List (Int × Int)} {x : Int} (h : (itL l (l.length + 1) x).isSome = true) : ∃ i j, i < j ∧ j ≤ l.length ∧ itL l i x = itL l j x := by
  obtain ⟨i, j, hij, hj, e⟩ := php (l.length + 1) (fun k => (itL l k x).getD 0) (l.map (·.1)) (by simp) (fun k hk => by
    have h1 := itL_le h (show k + 1 ≤ l.length + 1 by omega)
    have h0 := itL_le h (show k ≤ l.length + 1 by omega)
    show (itL l k x).getD 0 ∈ _
    cases h2 : itL l k x with
    | none => rw [h2] at h0; cases h0
    | some y =>
      refine lkp_mem ?_
      have : itL l (k + 1) x = (itL l k x).bind (lkp l) := rfl
      rw [this, h2] at h1
      exact h1)
  refine ⟨i, j, hij, by omega, ?_⟩
  have hi := itL_le h (show i ≤ l.length + 1 by omega)
  have hj' := itL_le h (show j ≤ l.length + 1 by omega)
  cases h1 : itL l i x with
  | none => rw [h1] at hi; cases hi
  | some a =>
    cases h2 : itL l j x with
    | none => rw [h2] at hj'; cases hj'
    | some b =>
      simp only [h1, h2, Option.getD_some] at e
      rw [e]
theorem itL_shift {l : List (Int × Int)} {x : Int} {i j n : Nat} (hij : i ≤ j) (e : itL l i x = itL l j x) (hn : j ≤ n) : itL l n x = itL l (n - (j - i)) x := by
  have h1 : n = j + (n - j) := by omega
  have h2 : n - (j - i) = i + (n - j) := by omega
  rw [h2, itL_add, e, ← itL_add, ← h1]
theorem itL_always {l : List (Int × Int)} {x : Int} (h : (itL l (l.length + 1) x).isSome = true) (n : Nat) : (itL l n x).isSome = true := by
  obtain ⟨i, j, hij, hj, e⟩ := itL_meets h
  induction n using Nat.strongRecOn with
  | _ n ih =>
    by_cases hn : n ≤ l.length + 1
    · exact itL_le h hn
    · rw [itL_shift (by omega) e (by omega)]
      exact ih _ (by omega)

/-- the end of the way of x, looked for n times -/
def endF (l : List (Int × Int)) : Nat → Int → Option Int
  | 0, _ => none
  | n + 1, x => match lkp l x with
    | none => some x
    | some y => endF l n y
theorem endF_none_iff (l : List (Int × Int)) (n : Nat) (x : Int) : endF l n x = none ↔ (itL l n x).isSome = true := by
  induction n generalizing x with
  | zero => simp [endF, itL]
  | succ n ih =>
    rw [itL_succ', endF]
    cases lkp l x with
    | none => simp
    | some y => simpa using ih y
theorem endF_more {l : List (Int × Int)} {n m : Nat} {x e : Int} (h : endF l n x = some e) (hnm : n ≤ m) : endF l m x = some e := by
  induction n generalizing x m with
  | zero => cases h
  | succ n ih =>
    obtain ⟨m, rfl⟩ : ∃ k, m = k + 1 := ⟨m - 1, by omega⟩
    rw [endF] at h ⊢
    cases hx : lkp l x with
    | none => rw [hx] at h; exact h
    | some y => rw [hx] at h; exact ih h (by omega)
theorem endF_enough (l : List (Int × Int)) (x : Int) {m : Nat} (h : l.length + 1 ≤ m) : endF l m x = endF l (l.length + 1) x := by
  cases he : endF l (l.length + 1) x with
  | some e => exact endF_more he h
  | none => exact (endF_none_iff _ _ _).2 (itL_always ((endF_none_iff _ _ _).1 he) m)

theorem rulesB_len {l : List (Int × Int)} (h : rulesB l = true) : l.length ≤ 6 := by
  rcases Nat.lt_or_ge 6 l.length with hg | hg
  · exfalso
    have hgood : ∀ k, k < l.length → goodB l k = true := by
      unfold rulesB at h
      rw [List.all_eq_true] at h
      exact fun k hk => h k (by simpa using hk)
    obtain ⟨i, j, hij, hj, e⟩ := php 7 (fun k => (l[k]?.getD (0, 0)).1) [1, 2, 3, 4, 5, 6] (by simp) (fun k hk => by
      have := hgood k (by omega)
      simp only [goodB, List.getElem?_eq_getElem (show k < l.length by omega), Bool.and_eq_true, inB, decide_eq_true_eq, Option.getD_some] at this ⊢
      have h1 := this.1.1
      simp at h1 ⊢
      omega)
    simp only [List.getElem?_eq_getElem (show i < l.length by omega), List.getElem?_eq_getElem (show j < l.length by omega), Option.getD_some] at e
    have := hgood j (by omega)
    rw [goodB_twice (by omega) hij e] at this
    cases this
  · exact hg
theorem rulesB_at {l : List (Int × Int)} (h : rulesB l = true) {k : Nat} (hk : k < l.length) : (1 ≤ l[k].1 ∧ l[k].1 ≤ 6) ∧ 0 ≤ l[k].2 ∧ l[k].2 ≤ 6 := by
  unfold rulesB at h
  rw [List.all_eq_true] at h
  have := h k (by simpa using hk)
  simp [goodB, List.getElem?_eq_getElem hk, inB] at this
  omega
/-- does the way from y meet x in n steps? -/
def ringF (l : List (Int × Int)) : Nat → Int → Int → Bool
  | 0, _, _ => false
  | n + 1, x, y => match lkp l y with
    | none => false
    | some z => z == x || ringF l n x z
theorem ringF_iff (l : List (Int × Int)) (n : Nat) (x y : Int) : ringF l n x y = true ↔ ∃ k, 1 ≤ k ∧ k ≤ n ∧ itL l k y = some x := by
  induction n generalizing y with
  | zero =>
    simp only [ringF, Bool.false_eq_true, false_iff]
    rintro ⟨k, h1, h2, _⟩
    omega
  | succ n ih =>
    rw [ringF]
    cases hy : lkp l y with
    | none =>
      simp only [Bool.false_eq_true, false_iff]
      rintro ⟨k, h1, h2, h3⟩
      obtain ⟨k, rfl⟩ : ∃ j, k = j + 1 := ⟨k - 1, by omega⟩
      rw [itL_succ', hy] at h3
      cases h3
    | some z =>
      simp only [Bool.or_eq_true, beq_iff_eq, ih]
      constructor
      · rintro (rfl | ⟨k, h1, h2, h3⟩)
        · exact ⟨1, by omega, by omega, by rw [itL_succ', hy]; rfl⟩
        · exact ⟨k + 1, by omega, by omega, by rw [itL_succ', hy]; exact h3⟩
      · rintro ⟨k, h1, h2, h3⟩
        obtain ⟨k, rfl⟩ : ∃ j, k = j + 1 := ⟨k - 1, by omega⟩
        rw [itL_succ', hy] at h3
        by_cases hk : k = 0
        · subst hk
          left
          exact Option.some.inj h3
        · exact .inr ⟨k, by omega, by omega, h3⟩
theorem itL_round {l : List (Int × Int)} {x : Int} (k : Nat) (h1 : 1 ≤ k) (h : itL l k x = some x) : ∃ k, 1 ≤ k ∧ k ≤ l.length ∧ itL l k x = some x := by
  induction k using Nat.strongRecOn with
  | _ k ih =>
    by_cases hk : k ≤ l.length
    · exact ⟨k, h1, hk, h⟩
    · obtain ⟨i, j, hij, hj, e⟩ := itL_meets (itL_le (show (itL l k x).isSome = true by rw [h]; rfl) (by omega))
      rw [itL_shift (by omega) e (by omega)] at h
      exact ih _ (by omega) (by omega) h
theorem ringF_enough (l : List (Int × Int)) (x : Int) {n : Nat} (hn : l.length ≤ n) : ringF l n x x = ringF l l.length x x := by
  rw [Bool.eq_iff_iff, ringF_iff, ringF_iff]
  constructor
  · rintro ⟨k, h1, _, h3⟩
    exact itL_round k h1 h3
  · rintro ⟨k, h1, h2, h3⟩
    exact ⟨k, h1, by omega, h3⟩
theorem lkp_zero {l : List (Int × Int)} (h : rulesB l = true) : lkp l 0 = none := by
  refine lkp_none fun r hr e => ?_
  obtain ⟨k, hk, rfl⟩ := List.mem_iff_getElem.1 hr
  have := (rulesB_at h hk).1
  omega
theorem ringF_zero {l : List (Int × Int)} (h : rulesB l = true) (n : Nat) (x : Int) : ringF l n x 0 = false := by
  cases n with
  | zero => rfl
  | succ n => rw [ringF, lkp_zero h]
theorem lkp_range {l : List (Int × Int)} (h : rulesB l = true) {x y : Int} (hx : lkp l x = some y) : 0 ≤ y ∧ y ≤ 6 := by
  unfold lkp at hx
  cases hf : l.find? fun r => r.1 == x with
  | none => rw [hf] at hx; cases hx
  | some r =>
    rw [hf] at hx
    have hr : r ∈ l := List.mem_of_find?_eq_some hf
    obtain ⟨k, hk, rfl⟩ := List.mem_iff_getElem.1 hr
    have := (rulesB_at h hk).2
    have e : l[k].2 = y := Option.some.inj hx
    omega
theorem endF_range {l : List (Int × Int)} (h : rulesB l = true) {n : Nat} {x e : Int} (hx : 0 ≤ x ∧ x ≤ 6) (he : endF l n x = some e) : 0 ≤ e ∧ e ≤ 6 := by
  induction n generalizing x with
  | zero => cases he
  | succ n ih =>
    rw [endF] at he
    cases hl : lkp l x with
    | none =>
      rw [hl] at he
      have e2 : x = e := Option.some.inj he
      omega
    | some y =>
      rw [hl] at he
      exact ih (lkp_range h hl) he
/-- where a line is forwarded to by the first k rules: all of them, when each line stands once -/
theorem lkp_take_succ {l : List (Int × Int)} {k : Nat} (hk : k < l.length) (x : Int) : lkp (l.take (k + 1)) x = match lkp (l.take k) x with
    | some y => some y
    | none => if l[k].1 = x then some l[k].2 else none := by
  rw [take_snoc l k hk]
  unfold lkp
  rw [List.find?_append]
  cases hf : (l.take k).find? fun r => r.1 == x with
  | some r => simp
  | none =>
    by_cases he : l[k].1 = x
    · simp [he]
    · simp [he]
theorem rulesB_fresh {l : List (Int × Int)} (h : rulesB l = true) {k : Nat} (hk : k < l.length) : lkp (l.take k) l[k].1 = none := by
  refine lkp_none fun r hr e => ?_
  unfold rulesB at h
  rw [List.all_eq_true] at h
  have h1 := h k (by simpa using hk)
  obtain ⟨j, hj, rfl⟩ := List.mem_take_iff_getElem.1 hr
  have h2 := goodB_twice hk (by omega) e
  rw [h2] at h1
  cases h1
end Go.Proofs.Ytelaeepkajbfnaa
