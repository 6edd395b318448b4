/-
  What DrawMergeAround returns: lists of the call's own; two equal lists compared.
-/
import Derived.Test.YtoimhdhplebhgaaKDrawM
import Derived.Test.YtoimhdhplebhgaaKSpecA
namespace Go.Proofs.Ytoimhdhplebhgaa
open Go.RowKit
set_option linter.unusedSimpArgs false
set_option linter.unusedVariables false

/-- two equal lists -/
theorem cbSame_same (A A' : Option Addr) (c c' : Nat) (l : List Int) (w : World) (B B' : Nat) (h : RI w B A l) (h' : RI w B' A' l) (hn : l.length ≤ 1048576) :
    Calls Try.prog 10 #[.slice A l.length c, .slice A' l.length c'] w fun e w' => e = .returned (.bool true) ∧ ∃ n, w' = w.drewN n := by
  have hee : ((l.length : Int) == (l.length : Int)) = true := by simp
  go_enter Try.func10, Try.ntmps10
  go_wp2
  go_loopw [5] (fun i wr => ∃ k : Nat, k ≤ l.length ∧ i = .int .i64 k ∧ ∃ n, wr = w.drewN n) (fun i _ => l.length - (intOf i).toNat)
  case atStart => exact ⟨0, Nat.zero_le _, rfl, 0, rfl⟩
  case round =>
    obtain ⟨k, hk, rfl, nq, rfl⟩ := hrel
    by_cases hlt : k < l.length
    · obtain ⟨ad, rfl, hb, hc⟩ := h.at_ hlt
      obtain ⟨ad', rfl, hb', hc'⟩ := h'.at_ hlt
      generalize l[k] = v at hc hc'
      have hne : (v != v) = false := by simp
      go_wp2
      go_quiet (fail)
      go_wp2
      go_roundw
      case rel => exact ⟨k + 1, by omega, by go_num, _, rfl⟩
      case measure => simp [intOf]; omega
    · obtain rfl : k = l.length := by omega
      go_wp2
      go_ret
      exact ⟨rfl, _, rfl⟩
/-- lists of the call's own -/
def DrewM (w : World) (e : Ending) (w' : World) : Prop :=
  ∃ (V : List Value) (M : List (List Int)) (A' : Option Addr) (c' : Nat), e = .returned (.slice A' M.length c') ∧ M.length ≤ 4 ∧ (∀ l ∈ M, l.length ≤ 41) ∧ OII w' w.heap.size (.slice A' M.length c') V M ∧ Below w.heap.size w w'
theorem DrawMergeAround_any (A : Option Addr) (c : Nat) (l : List Int) (w : World) (h : RB w w.heap.size A l) (hc : l.length ≤ c) (hm : c ≤ maxLen) (hn : l.length ≤ 1048576) :
    Calls Try.prog 7 #[.slice A l.length c] w (DrewM w) := by
  go_enter Try.func7, Try.ntmps7
  go_wp2_with fail
  refine (l11Open_any A c l w h hc hm hn).mono ?_
  rintro e w1 ⟨R, A1, c1, l1, rfl, r1, hb1⟩
  go_wp2_with fail
  refine (l5Some_any R w.heap.size c1 A1 l1 false w1 r1).mono ?_
  rintro e w2 ⟨V, M, A2, c2, p2, rfl, h4, hM, o2, r2, hg2⟩
  go_wp2_with fail
  go_ret
  exact ⟨V, M, A2, c2, rfl, h4, hM, o2.mono hb1.size, below_of_R hb1 hg2 r1.hB⟩
section
variable {M : List (List Int)}
theorem flat_take1 (k : Nat) : ∀ L : List (List Int), (L.flatMap fun l => (l.drop k).take 1).length + (L.map fun l => min l.length k).sum = (L.map fun l => min l.length (k + 1)).sum
  | [] => by simp
  | x :: L => by
    have ih := flat_take1 k L
    simp only [List.flatMap_cons, List.length_append, List.map_cons, List.sum_cons, List.length_take, List.length_drop] at ih ⊢
    omega
theorem sum_min0 : ∀ L : List (List Int), (L.map fun l => min l.length 0).sum = 0
  | [] => rfl
  | x :: L => by rw [List.map_cons, List.sum_cons, sum_min0 L, Nat.min_zero]
theorem sTo_count (M : List (List Int)) : ∀ k, (sTo M k 0).length = (M.map fun l => min l.length k).sum
  | 0 => by
    rw [sTo_zero, sum_min0]
    rfl
  | k + 1 => by
    have ih := sTo_count M k
    have h1 := flat_take1 k M
    have e0 : (sTo M k 0) = (List.range k).flatMap (rowK M) := by simp [sTo]
    rw [e0] at ih
    rw [sTo_round]
    unfold sTo
    rw [List.length_append, List.take_length, ih]
    omega
theorem min_all {k : Nat} : ∀ {L : List (List Int)}, (∀ l ∈ L, l.length ≤ k) → (L.map fun l => min l.length k) = L.map List.length := fun {L} h => List.map_congr_left fun l hl => Nat.min_eq_left (h l hl)
theorem sTo_step (M : List (List Int)) (k : Nat) {i : Nat} (hi : i < M.length) : sTo M k i <+: sTo M k (i + 1) := by
  by_cases hk : k < M[i].length
  · rw [sTo_yes hi hk]; exact List.prefix_append _ _
  · rw [sTo_no hi (by omega)]; exact List.prefix_rfl
theorem sTo_row (M : List (List Int)) (k : Nat) : ∀ (d i : Nat), i + d = M.length → sTo M k i <+: sTo M k M.length
  | 0, i, h => by rw [show i = M.length by omega]; exact List.prefix_rfl
  | d + 1, i, h => (sTo_step M k (by omega)).trans (sTo_row M k d (i + 1) (by omega))
theorem sTo_up (M : List (List Int)) : ∀ (d k : Nat), sTo M k 0 <+: sTo M (k + d) 0
  | 0, k => List.prefix_rfl
  | d + 1, k => by
    have h1 := sTo_row M k M.length 0 (by omega)
    rw [← sTo_round] at h1
    have h2 := sTo_up M d (k + 1)
    rw [show k + 1 + d = k + (d + 1) by omega] at h2
    exact h1.trans h2
theorem aL_sTo (h : listsB M = true) : aL M = sTo M 40 0 := by
  simp [aL, h, aroundL_eq (listsB_true h).2, sTo]
/-- what is out at the place of M[i][k] -/
theorem aL_get (h : listsB M = true) {k i : Nat} (hi : i < M.length) (hk : k < M[i].length) : ∃ hlt : (sTo M k i).length < (aL M).length, (aL M)[(sTo M k i).length] = M[i][k] := by
  have h40 := (listsB_true h).2 M[i] (List.getElem_mem _)
  have h1 := sTo_row M k (M.length - (i + 1)) (i + 1) (by omega)
  rw [← sTo_round] at h1
  have h2 := sTo_up M (40 - (k + 1)) (k + 1)
  rw [show k + 1 + (40 - (k + 1)) = 40 by omega] at h2
  obtain ⟨r, hr⟩ := h1.trans h2
  rw [sTo_yes hi hk] at hr
  have e : aL M = sTo M k i ++ ([M[i][k]] ++ r) := by rw [aL_sTo h, ← hr, List.append_assoc]
  have hlt : (sTo M k i).length < (aL M).length := by rw [e]; simp
  refine ⟨hlt, ?_⟩
  have e2 : (aL M)[(sTo M k i).length]? = some M[i][k] := by rw [e]; simp
  rw [List.getElem?_eq_getElem hlt] at e2
  exact Option.some.inj e2
theorem aL_count (h : listsB M = true) : (aL M).length = (M.map List.length).sum := by
  rw [aL_sTo h, sTo_count, min_all (listsB_true h).2]
end
end Go.Proofs.Ytoimhdhplebhgaa
