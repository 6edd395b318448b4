/-
  The plain law of MergeSorted: ascending lists are taken apart, the least head first.
-/
import Derived.Test.YtoimhdhplebhgaaG10
namespace Go.Proofs.Ytoimhdhplebhgaa
open Go.RowKit
open Go.ConcN (upd upd_same upd_ne)
set_option linter.unusedSimpArgs false
set_option linter.unusedVariables false

/-- a list ascends -/
def ascB (l : List Int) : Bool := (List.range (l.length - 1)).all fun k => decide (l.getD k 0 ≤ l.getD (k + 1) 0)
theorem ascB_iff (l : List Int) : ascB l = true ↔ ∀ k (h : k + 1 < l.length), l[k] ≤ l[k + 1] := by
  simp only [ascB, List.all_eq_true, List.mem_range, decide_eq_true_eq]
  constructor
  · intro h k hk
    have := h k (by omega)
    rwa [List.getD_eq_getElem?_getD, List.getD_eq_getElem?_getD, List.getElem?_eq_getElem (by omega), List.getElem?_eq_getElem hk] at this
  · intro h k hk
    have := h k (by omega)
    rwa [List.getD_eq_getElem?_getD, List.getD_eq_getElem?_getD, List.getElem?_eq_getElem (by omega), List.getElem?_eq_getElem (by omega)]
theorem ascB_false {l : List Int} {k : Nat} (h : k + 1 < l.length) (hlt : l[k + 1] < l[k]) : ascB l = false := by
  rw [Bool.eq_false_iff]
  intro e
  have := (ascB_iff l).1 e k h
  omega
theorem asc_up {l : List Int} (h : ascB l = true) : ∀ (d i : Nat) (hj : i + d < l.length), l[i]'(by omega) ≤ l[i + d]
  | 0, i, hj => Int.le_refl _
  | d + 1, i, hj => by
    have h1 := asc_up h d i (by omega)
    have h2 := (ascB_iff l).1 h (i + d) (by omega)
    exact Int.le_trans h1 h2
theorem asc_pair {l : List Int} (h : ascB l = true) : l.Pairwise (· ≤ ·) := by
  rw [List.pairwise_iff_getElem]
  intro i j hi hj hij
  have := asc_up h (j - i) i (by omega)
  simpa [show i + (j - i) = j by omega] using this
theorem pair_asc {l : List Int} (h : l.Pairwise (· ≤ ·)) : ascB l = true := by
  rw [ascB_iff]
  intro k hk
  exact List.pairwise_iff_getElem.1 h k (k + 1) (by omega) hk (by omega)
/-- the lists serve, and each ascends -/
def sB (M : List (List Int)) : Bool := listsB M && M.all ascB
theorem sB_true {M : List (List Int)} (h : sB M = true) : listsB M = true ∧ ∀ l ∈ M, ascB l = true := by
  simpa [sB] using h
theorem sB_lists {M : List (List Int)} (h : listsB M = false) : sB M = false := by simp [sB, h]
theorem sB_row {M : List (List Int)} {l : List Int} (hl : l ∈ M) (h : ascB l = false) : sB M = false := by
  rw [Bool.eq_false_iff]
  intro e
  have := (sB_true e).2 l hl
  rw [h] at this
  cases this
theorem sB_mk {M : List (List Int)} (h : listsB M = true) (h2 : ∀ l ∈ M, ascB l = true) : sB M = true := by
  simp only [sB, h, Bool.true_and, List.all_eq_true]
  exact h2
/-- all numbers, ascending -/
def sortedL (M : List (List Int)) : List Int := M.flatten.mergeSort fun a b => decide (a ≤ b)
def sL (M : List (List Int)) : List Int := if sB M = true then sortedL M else []
theorem sortedL_pair (M : List (List Int)) : (sortedL M).Pairwise (· ≤ ·) := by
  have h := List.pairwise_mergeSort (le := fun a b : Int => decide (a ≤ b)) (fun a b c h1 h2 => by simp at h1 h2 ⊢; omega) (fun a b => by simp; omega) M.flatten
  exact h.imp fun h => by simpa using h
theorem sortedL_perm (M : List (List Int)) : (sortedL M).Perm M.flatten := List.mergeSort_perm _ _
theorem sortedL_eq {M : List (List Int)} {out : List Int} (h : out.Pairwise (· ≤ ·)) (hp : out.Perm M.flatten) : out = sortedL M :=
  List.Perm.eq_of_pairwise (le := fun a b : Int => a ≤ b) (fun a b _ _ h1 h2 => by omega) h (sortedL_pair M) (hp.trans (sortedL_perm M).symm)
theorem flatten_len_le : ∀ {M : List (List Int)} {n : Nat}, (∀ l ∈ M, l.length ≤ n) → M.flatten.length ≤ n * M.length
  | [], n, h => by simp
  | l :: M, n, h => by
    have h1 := flatten_len_le (M := M) (n := n) fun x hx => h x (List.mem_cons_of_mem _ hx)
    have h2 := h l (List.mem_cons_self ..)
    rw [List.flatten_cons, List.length_append, List.length_cons, Nat.mul_succ]
    omega
theorem sL_len (M : List (List Int)) : (sL M).length ≤ 1000 := by
  unfold sL
  split
  · rename_i h
    obtain ⟨h6, h40⟩ := listsB_true (sB_true h).1
    have h1 := flatten_len_le h40
    have h2 : 40 * M.length ≤ 40 * 6 := Nat.mul_le_mul_left _ h6
    rw [(sortedL_perm M).length_eq]
    omega
  · simp
/-- what is left -/
def rest (R : Nat → List Int) (n : Nat) : List Int := (List.range n).flatMap R
theorem rest_all (M : List (List Int)) : rest (fun i => M.getD i []) M.length = M.flatten := by
  unfold rest
  rw [List.flatMap_def]
  congr 1
  apply List.ext_getElem?
  intro i
  rw [List.getElem?_map]
  by_cases hi : i < M.length
  · rw [List.getElem?_range hi]
    simp [List.getD_eq_getElem?_getD, hi]
  · rw [List.getElem?_eq_none (by simpa using hi), List.getElem?_eq_none (by simpa using hi)]
    rfl
theorem mem_rest {R : Nat → List Int} {n : Nat} {y : Int} : y ∈ rest R n ↔ ∃ i, i < n ∧ y ∈ R i := by simp [rest]
theorem rest_congr {R R' : Nat → List Int} {n : Nat} (h : ∀ i, i < n → R i = R' i) : rest R n = rest R' n := by
  unfold rest
  rw [List.flatMap_def, List.flatMap_def]
  congr 1
  exact List.map_congr_left fun i hi => h i (List.mem_range.1 hi)
theorem rest_step {R : Nat → List Int} {i : Nat} {x : Int} {l : List Int} (hR : R i = x :: l) : ∀ {n : Nat}, i < n → (rest R n).Perm (x :: rest (upd R i l) n)
  | 0, h => by omega
  | n + 1, h => by
    have e1 : ∀ Q : Nat → List Int, rest Q (n + 1) = rest Q n ++ Q n := fun Q => by simp [rest, List.range_succ]
    rw [e1, e1]
    by_cases hin : i = n
    · subst hin
      rw [upd_same, hR, rest_congr (R := upd R i l) (R' := R) (fun j hj => upd_ne _ _ (by omega))]
      exact List.perm_middle
    · have ih := rest_step hR (n := n) (by omega)
      rw [upd_ne _ _ (show n ≠ i by omega)]
      exact ih.append_right _
theorem rest_nil {R : Nat → List Int} {n : Nat} (h : ∀ i, i < n → R i = []) : rest R n = [] := by
  apply List.eq_nil_iff_forall_not_mem.2
  intro y hy
  obtain ⟨i, hi, hm⟩ := mem_rest.1 hy
  rw [h i hi] at hm
  cases hm
/-- Where the merging stands: what is out ascends, and is no more than what is left. -/
structure Mrg (M : List (List Int)) (R : Nat → List Int) (out : List Int) : Prop where
  up : out.Pairwise (· ≤ ·)
  le : ∀ x ∈ out, ∀ i y, i < M.length → y ∈ R i → x ≤ y
  perm : (out ++ rest R M.length).Perm M.flatten
  asc : ∀ i, i < M.length → (R i).Pairwise (· ≤ ·)
theorem Mrg.start {M : List (List Int)} (h : ∀ l ∈ M, ascB l = true) : Mrg M (fun i => M.getD i []) [] :=
  ⟨List.Pairwise.nil, fun x hx => (by cases hx), by rw [List.nil_append, rest_all], fun i hi => by
    rw [List.getD_eq_getElem?_getD, List.getElem?_eq_getElem hi]
    exact asc_pair (h _ (List.getElem_mem hi))⟩
theorem Mrg.congr {M : List (List Int)} {R R' : Nat → List Int} {out : List Int} (h : Mrg M R out) (e : ∀ i, i < M.length → R' i = R i) : Mrg M R' out :=
  ⟨h.up, fun x hx i y hi hy => h.le x hx i y hi (by rw [← e i hi]; exact hy), by rw [rest_congr e]; exact h.perm, fun i hi => by rw [e i hi]; exact h.asc i hi⟩
theorem Mrg.step {M : List (List Int)} {R : Nat → List Int} {out : List Int} (h : Mrg M R out) {i : Nat} {x : Int} {l : List Int} (hi : i < M.length) (hR : R i = x :: l) (hle : ∀ j y r, j < M.length → R j = y :: r → x ≤ y) : Mrg M (upd R i l) (out ++ [x]) := by
  have hxi : x ∈ R i := by rw [hR]; exact List.mem_cons_self ..
  have hall : ∀ j y, j < M.length → y ∈ R j → x ≤ y := fun j y hj hy => by
    have ha := h.asc j hj
    cases hj' : R j with
    | nil => rw [hj'] at hy; cases hy
    | cons z r =>
      have h1 := hle j z r hj hj'
      rw [hj'] at hy ha
      rcases List.mem_cons.1 hy with rfl | h2
      · exact h1
      · exact Int.le_trans h1 (List.rel_of_pairwise_cons ha h2)
  have hsub : ∀ j y, j < M.length → y ∈ upd R i l j → y ∈ R j := fun j y hj hy => by
    by_cases e : j = i
    · subst e; rw [upd_same] at hy; rw [hR]; exact List.mem_cons_of_mem _ hy
    · rwa [upd_ne _ _ e] at hy
  refine ⟨?_, fun z hz j y hj hy => ?_, ?_, fun j hj => ?_⟩
  · rw [List.pairwise_append]
    exact ⟨h.up, List.pairwise_singleton _ _, fun a ha b hb => by rw [List.mem_singleton.1 hb]; exact h.le a ha i x hi hxi⟩
  · rcases List.mem_append.1 hz with h1 | h1
    · exact h.le z h1 j y hj (hsub j y hj hy)
    · rw [List.mem_singleton.1 h1]; exact hall j y hj (hsub j y hj hy)
  · rw [List.append_assoc]
    exact ((rest_step hR hi).symm.append_left out).trans h.perm
  · by_cases e : j = i
    · subst e
      rw [upd_same]
      have := h.asc j hj
      rw [hR] at this
      exact this.of_cons
    · rw [upd_ne _ _ e]; exact h.asc j hj
theorem Mrg.done {M : List (List Int)} {R : Nat → List Int} {out : List Int} (h : Mrg M R out) (hn : ∀ i, i < M.length → R i = []) : out = sortedL M := by
  have hp := h.perm
  rw [rest_nil hn, List.append_nil] at hp
  exact sortedL_eq h.up hp
theorem Mrg.len {M : List (List Int)} {R : Nat → List Int} {out : List Int} (h : Mrg M R out) : out.length + (rest R M.length).length = M.flatten.length := by
  have := h.perm.length_eq
  rwa [List.length_append] at this
end Go.Proofs.Ytoimhdhplebhgaa
/-
  What is said of the merged lists: they ascend, they have the lists' numbers as often; one ascending list stays as it is.
-/
namespace Go.Proofs.Ytoimhdhplebhgaa
open Go.RowKit
set_option linter.unusedSimpArgs false
set_option linter.unusedVariables false

theorem sortedL_one {l : List Int} (h : l.Pairwise (· ≤ ·)) : sortedL [l] = l := (sortedL_eq h (by simp)).symm
theorem sL_up {M : List (List Int)} (h : sB M = true) : (sL M).Pairwise (· ≤ ·) := by
  simp [sL, h, sortedL_pair M]
theorem sL_perm {M : List (List Int)} (h : sB M = true) : (sL M).Perm M.flatten := by
  simp [sL, h, sortedL_perm M]
theorem sL_again {M : List (List Int)} (h : sB M = true) (hl : (sL M).length ≤ 40) : sL [sL M] = sL M ∧ sB [sL M] = true := by
  have hin : allIn (sL M) 0 1000 = true := by
    simp only [allIn, List.all_eq_true]
    intro x hx
    obtain ⟨l, h1, h2⟩ := List.mem_flatten.1 ((sL_perm h).mem_iff.1 hx)
    have h3 := (sB_true h).1
    simp only [listsB, Bool.and_eq_true, List.all_eq_true] at h3
    have h4 := h3.2 l h1
    simp only [listB, Bool.and_eq_true, allIn, List.all_eq_true] at h4
    exact h4.2 x h2
  have hb : sB [sL M] = true := sB_mk (by simp [listsB, listB, hl, hin]) (by simpa using pair_asc (sL_up h))
  exact ⟨by rw [sL, if_pos hb]; exact sortedL_one (sL_up h), hb⟩
/-- what MergeAround has out has the lists' numbers, too -/
theorem take_perm {α : Type} : ∀ (L : List (List α)) (k : Nat), ((L.map fun l => l.take k).flatten ++ L.flatMap fun l => (l.drop k).take 1).Perm (L.map fun l => l.take (k + 1)).flatten
  | [], k => by simp
  | l :: L, k => by
    have ih := take_perm L k
    simp only [List.map_cons, List.flatten_cons, List.flatMap_cons]
    have e : l.take (k + 1) = l.take k ++ (l.drop k).take 1 := by rw [List.take_add]
    rw [e, List.append_assoc, List.append_assoc]
    refine List.Perm.append_left _ ?_
    rw [← List.append_assoc]
    exact (List.perm_append_comm.append_right _).trans (by rw [List.append_assoc]; exact ih.append_left _)
theorem rounds_perm (M : List (List Int)) : ∀ k, ((List.range k).flatMap (rowK M)).Perm (M.map fun l => l.take k).flatten
  | 0 => by
    have : (M.map fun l : List Int => l.take 0).flatten = [] := by simp
    rw [this]
    exact List.Perm.refl _
  | k + 1 => by
    rw [List.range_succ, List.flatMap_append]
    simp only [List.flatMap_cons, List.flatMap_nil, List.append_nil]
    exact ((rounds_perm M k).append_right _).trans (take_perm M k)
theorem aL_perm {M : List (List Int)} (h : listsB M = true) : (aL M).Perm M.flatten := by
  have h40 := (listsB_true h).2
  have e : aL M = (List.range 40).flatMap (rowK M) := by simp [aL, h, aroundL_eq h40]
  have e2 : (M.map fun l => l.take 40) = M := by
    conv => rhs; rw [← List.map_id M]
    exact List.map_congr_left fun l hl => List.take_of_length_le (h40 l hl)
  have := rounds_perm M 40
  rw [e2] at this
  rw [e]
  exact this
/-- how often x stands among the first k -/
def cnt (l : List Int) (x : Int) (k : Nat) : Nat := (l.take k).count x
theorem cnt_zero (l : List Int) (x : Int) : cnt l x 0 = 0 := by simp [cnt]
theorem cnt_succ {l : List Int} {x : Int} {k : Nat} (h : k < l.length) : cnt l x (k + 1) = cnt l x k + if l[k] = x then 1 else 0 := by
  unfold cnt
  rw [take_snoc l k h, List.count_append, List.count_singleton]
  simp [beq_iff_eq]
theorem cnt_same {M : List (List Int)} (h : sB M = true) (x : Int) : cnt (aL M) x (aL M).length = cnt (sL M) x (sL M).length := by
  unfold cnt
  rw [List.take_length, List.take_length]
  exact ((aL_perm (sB_true h).1).trans (sL_perm h).symm).count_eq x
theorem len_same {M : List (List Int)} (h : sB M = true) : (aL M).length = (sL M).length := ((aL_perm (sB_true h).1).trans (sL_perm h).symm).length_eq
end Go.Proofs.Ytoimhdhplebhgaa
