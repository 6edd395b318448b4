/-
  Are lists valid? By the program and by the reference.
-/
import Derived.Test.YtoimhdhplebhgaaKOii
import Derived.Test.YtoimhdhplebhgaaG9
namespace Go.Proofs.Ytoimhdhplebhgaa
open Go.RowKit
set_option linter.unusedSimpArgs false
set_option linter.unusedVariables false

def listB (l : List Int) : Bool := decide (l.length ≤ 40) && allIn l 0 1000
def listsB (M : List (List Int)) : Bool := decide (M.length ≤ 6) && M.all listB
theorem all_take_succ {M : List (List Int)} {k : Nat} (h : k < M.length) (h1 : (M.take k).all listB = true) : (M.take (k + 1)).all listB = listB M[k] := by
  rw [take_snoc M k h, List.all_append, h1]
  simp
theorem all_no {M : List (List Int)} {k : Nat} (h : k < M.length) (h1 : listB M[k] = false) : M.all listB = false := by
  rw [List.all_eq_false]
  exact ⟨M[k], List.getElem_mem _, by simp [h1]⟩
set_option maxHeartbeats 4000000 in
theorem iListsValid_any (A : Option Addr) (c : Nat) (M : List (List Int)) (V : List Value) (base : Nat) (w : World) (h : OII w base (.slice A M.length c) V M) (hn : M.length ≤ 1048576) (hn2 : ∀ l ∈ M, l.length ≤ 1048576) :
    Calls Try.prog 23 #[.slice A M.length c] w fun e w' => e = .returned (.bool (listsB M)) ∧ w = w' := by
  by_cases h6 : M.length ≤ 6
  case neg =>
    have E : Hid (listsB M = false) := Lib.hid (by simp [listsB, h6])
    have h6' : (6 : Int) < (M.length : Int) := by omega
    clear h h6 hn2
    go_enter Try.func23, Try.ntmps23
    go_wp2
    go_ret
    exact ⟨ret_bool E.out.symm, rfl⟩
  have E6 : Hid (listsB M = M.all listB) := Lib.hid (by simp [listsB, h6])
  go_enter Try.func23, Try.ntmps23
  go_wp2
  go_loop [12] (fun i => ∃ k : Nat, k ≤ M.length ∧ i = .int .i64 k ∧ (M.take k).all listB = true) (fun i => M.length - (intOf i).toNat)
  case atStart => exact ⟨0, Nat.zero_le _, rfl, by simp⟩
  case round =>
    obtain ⟨k, hk, rfl, hall⟩ := hrel
    by_cases hlt : k < M.length
    · obtain ⟨ad, A1, c1, rfl, hb, hc1, _, hr1⟩ := h.at_ hlt
      have Hs := Lib.hid (all_take_succ hlt hall)
      have Hno := Lib.hid (all_no hlt)
      have hn1 := hn2 M[k] (List.getElem_mem _)
      obtain ⟨l, hl⟩ : ∃ l, M[k] = l := ⟨_, rfl⟩
      rw [hl] at hc1 hr1 hn1 Hs Hno
      have R1 := RI.of_own hr1
      clear hl hall hr1 h hn2
      by_cases h40 : l.length ≤ 40
      case neg =>
        have E : Hid (listsB M = false) := Lib.hid (by rw [E6.out]; exact Hno.out (by simp [listB, h40]))
        have h40' : (40 : Int) < (l.length : Int) := by omega
        clear h40
        go_wp2
        go_ret
        exact ⟨ret_bool E.out.symm, rfl⟩
      have Hlb : Hid (listB l = allIn l 0 1000) := Lib.hid (by simp [listB, h40])
      go_wp2
      go_loop [21] (fun i => ∃ j : Nat, j ≤ l.length ∧ i = .int .i64 j ∧ allIn (l.take j) 0 1000 = true) (fun i => l.length - (intOf i).toNat)
      case atStart => exact ⟨0, Nat.zero_le _, rfl, by simp [allIn]⟩
      case round =>
        obtain ⟨j, hj, rfl, hallj⟩ := hrel
        by_cases hjl : j < l.length
        · obtain ⟨ad1, rfl, hb1, hcj⟩ := R1.at_ hjl
          have Hsj := Lib.hid (allIn_take_succ (lo := 0) (hi := 1000) hjl hallj)
          have Hfj := Lib.hid (allIn_false (l := l) (lo := 0) (hi := 1000) hjl)
          clear hallj
          obtain ⟨x, hx⟩ : ∃ x, l[j] = x := ⟨_, rfl⟩
          rw [hx] at hcj Hsj Hfj
          clear hx
          by_cases h0 : x < 0
          · have E : Hid (listsB M = false) := Lib.hid (by rw [E6.out]; exact Hno.out (by rw [Hlb.out]; exact Hfj.out (by simp [inB]; omega)))
            go_wp2
            go_ret
            exact ⟨ret_bool E.out.symm, rfl⟩
          · by_cases h1 : 1000 < x
            · have E : Hid (listsB M = false) := Lib.hid (by rw [E6.out]; exact Hno.out (by rw [Hlb.out]; exact Hfj.out (by simp [inB]; omega)))
              go_wp2
              go_ret
              exact ⟨ret_bool E.out.symm, rfl⟩
            · have E : Hid (allIn (l.take (j + 1)) 0 1000 = true) := Lib.hid (by rw [Hsj.out]; simp [inB]; omega)
              go_wp2
              go_round
              case rel => exact ⟨j + 1, by omega, by go_num, E.out⟩
              case measure => simp [intOf]; omega
        · have E : Hid ((M.take (k + 1)).all listB = true) := Lib.hid (by
            rw [Hs.out, Hlb.out]
            have hj' : j = l.length := by omega
            rw [hj', List.take_length] at hallj
            exact hallj)
          clear hallj
          go_wp2
          go_round
          case rel => exact ⟨k + 1, by omega, by go_num, E.out⟩
          case measure => simp [intOf]; omega
    · have E : Hid (listsB M = true) := Lib.hid (by
        rw [E6.out]
        have hk' : k = M.length := by omega
        rw [hk', List.take_length] at hall
        exact hall)
      clear hall h hn2
      go_wp2
      go_ret
      exact ⟨ret_bool E.out.symm, rfl⟩
set_option maxHeartbeats 4000000 in
theorem l5Lists_any (A : Option Addr) (c : Nat) (M : List (List Int)) (V : List Value) (base : Nat) (w : World) (h : OII w base (.slice A M.length c) V M) (hn : M.length ≤ 1048576) (hn2 : ∀ l ∈ M, l.length ≤ 1048576) :
    Calls Try.prog 26 #[.slice A M.length c] w fun e w' => e = .returned (.bool (listsB M)) ∧ w = w' := by
  go_enter Try.func26, Try.ntmps26
  go_wp2
  go_loop [3] (fun i => ∃ k : Nat, k ≤ M.length ∧ i = .int .i64 k ∧ (M.take k).all listB = true) (fun i => M.length - (intOf i).toNat)
  case atStart => exact ⟨0, Nat.zero_le _, rfl, by simp⟩
  case round =>
    obtain ⟨k, hk, rfl, hall⟩ := hrel
    by_cases hlt : k < M.length
    · obtain ⟨ad, A1, c1, rfl, hb, hc1, _, hr1⟩ := h.at_ hlt
      have Hs := Lib.hid (all_take_succ hlt hall)
      have Hno : Hid (listB M[k] = false → listsB M = false) := Lib.hid fun x => by simp [listsB, all_no hlt x]
      have hn1 := hn2 M[k] (List.getElem_mem _)
      obtain ⟨l, hl⟩ : ∃ l, M[k] = l := ⟨_, rfl⟩
      rw [hl] at hc1 hr1 hn1 Hs Hno
      have R1 := RI.of_own hr1
      clear hl hall hr1 h hn2
      go_wp2
      go_loop [4] (fun i => ∃ j : Nat, j ≤ l.length ∧ i = .int .i64 j ∧ allIn (l.take j) 0 1000 = true) (fun i => l.length - (intOf i).toNat)
      case atStart => exact ⟨0, Nat.zero_le _, rfl, by simp [allIn]⟩
      case round =>
        obtain ⟨j, hj, rfl, hallj⟩ := hrel
        by_cases hjl : j < l.length
        · obtain ⟨ad1, rfl, hb1, hcj⟩ := R1.at_ hjl
          have Hsj := Lib.hid (allIn_take_succ (lo := 0) (hi := 1000) hjl hallj)
          have Hfj := Lib.hid (allIn_false (l := l) (lo := 0) (hi := 1000) hjl)
          clear hallj
          obtain ⟨x, hx⟩ : ∃ x, l[j] = x := ⟨_, rfl⟩
          rw [hx] at hcj Hsj Hfj
          clear hx
          cases hin : inB x 0 1000
          · have E : Hid (listsB M = false) := Lib.hid (Hno.out (by simp [listB, Hfj.out hin]))
            go_wp2_with (go_at_call 48; refine (l1In_any _ _ _ _).mono ?_; rintro e w' ⟨rfl, rfl⟩)
            go_ret
            exact ⟨ret_bool E.out.symm, rfl⟩
          · have E : Hid (allIn (l.take (j + 1)) 0 1000 = true) := Lib.hid (by rw [Hsj.out, hin])
            go_wp2_with (go_at_call 48; refine (l1In_any _ _ _ _).mono ?_; rintro e w' ⟨rfl, rfl⟩)
            go_round
            case rel => exact ⟨j + 1, by omega, by go_num, E.out⟩
            case measure => simp [intOf]; omega
        · have Hall : Hid (allIn l 0 1000 = true) := Lib.hid (by
            have hj' : j = l.length := by omega
            rw [hj', List.take_length] at hallj
            exact hallj)
          clear hallj
          by_cases h40 : l.length ≤ 40
          · have E : Hid ((M.take (k + 1)).all listB = true) := Lib.hid (by rw [Hs.out]; simp [listB, h40, Hall.out])
            have h40' : ¬ ((40 : Int) < (l.length : Int)) := by omega
            go_wp2
            go_round
            case rel => exact ⟨k + 1, by omega, by go_num, E.out⟩
            case measure => simp [intOf]; omega
          · have E : Hid (listsB M = false) := Lib.hid (Hno.out (by simp [listB, h40]))
            have h40' : (40 : Int) < (l.length : Int) := by omega
            clear h40
            go_wp2
            go_ret
            exact ⟨ret_bool E.out.symm, rfl⟩
    · have E : Hid (listsB M = decide (M.length ≤ 6)) := Lib.hid (by
        have hk' : k = M.length := by omega
        rw [hk', List.take_length] at hall
        simp [listsB, hall])
      clear hall h hn2
      go_wp2
      go_ret
      exact ⟨ret_bool (by rw [E.out]; exact decide_eq_decide.2 (by omega)), rfl⟩
end Go.Proofs.Ytoimhdhplebhgaa
/-
  MergeAround in plain Lean: the rounds end, and give one number of each list in turn.
-/
namespace Go.Proofs.Ytoimhdhplebhgaa
open Go.ConcN (upd upd_same upd_ne)
set_option linter.unusedSimpArgs false
set_option linter.unusedVariables false

theorem listsB_true {M : List (List Int)} (h : listsB M = true) : M.length ≤ 6 ∧ ∀ l ∈ M, l.length ≤ 40 := by
  simp only [listsB, Bool.and_eq_true, decide_eq_true_eq, List.all_eq_true] at h
  refine ⟨h.1, fun l hl => ?_⟩
  have := h.2 l hl
  simp only [listB, Bool.and_eq_true, decide_eq_true_eq] at this
  exact this.1
theorem runR_eq : ∀ (I : List Nat) (R : Nat → List Int), I.Nodup → ∀ i, runR R I i = if i ∈ I then (R i).tail else R i
  | [], R, _, i => by simp [runR]
  | j :: l, R, hn, i => by
    have hn' := List.nodup_cons.1 hn
    rw [runR, runR_eq l _ hn'.2 i]
    by_cases e : i = j
    · subst e
      rw [if_neg hn'.1, upd_same, if_pos List.mem_cons_self]
    · rw [upd_ne _ _ e]
      simp [e]
theorem runOut_eq : ∀ (I : List Nat) (R : Nat → List Int), I.Nodup → runOut R I = I.flatMap fun i => (R i).take 1
  | [], R, _ => rfl
  | j :: l, R, hn => by
    have hn' := List.nodup_cons.1 hn
    rw [runOut, runOut_eq l _ hn'.2, List.flatMap_cons]
    congr 1
    rw [List.flatMap_def, List.flatMap_def]
    congr 1
    refine List.map_congr_left fun i hi => ?_
    have e : i ≠ j := by rintro rfl; exact hn'.1 hi
    rw [upd_ne _ _ e]
theorem runStill_eq : ∀ (I : List Nat) (R : Nat → List Int), I.Nodup → runStill R I = I.filter fun i => decide (R i ≠ [])
  | [], R, _ => rfl
  | j :: l, R, hn => by
    have hn' := List.nodup_cons.1 hn
    have e : l.filter (fun i => decide (upd R j (R j).tail i ≠ [])) = l.filter fun i => decide (R i ≠ []) :=
      List.filter_congr fun i hi => by
        have e : i ≠ j := by rintro rfl; exact hn'.1 hi
        rw [upd_ne _ _ e]
    rw [runStill, runStill_eq l _ hn'.2, e]
    by_cases h : R j = []
    · rw [if_pos h, List.filter_cons_of_neg (by simp [h])]
    · rw [if_neg h, List.filter_cons_of_pos (by simp [h])]
theorem ends_of_len : ∀ (d : Nat) (R : Nat → List Int) (I : List Nat), I.Nodup → (∀ i ∈ I, (R i).length < d) → outerEnds d R I
  | 0, R, I, _, h => List.eq_nil_iff_forall_not_mem.2 fun i hi => absurd (h i hi) (Nat.not_lt_zero _)
  | d + 1, R, I, hn, h => by
    refine .inr (ends_of_len d _ _ (by rw [runStill_eq I R hn]; exact hn.filter _) fun i hi => ?_)
    rw [runStill_eq I R hn, List.mem_filter] at hi
    rw [runR_eq I R hn, if_pos hi.1, List.length_tail]
    have := h i hi.1
    have : (R i).length ≠ 0 := fun e => by simp [List.eq_nil_of_length_eq_zero e] at hi
    omega
def aroundL (M : List (List Int)) : List Int := outerOut 42 (fun i => M.getD i []) (List.range M.length)
def aL (M : List (List Int)) : List Int := if listsB M = true then aroundL M else []
theorem getD_len {M : List (List Int)} {n : Nat} (h : ∀ l ∈ M, l.length ≤ n) (i : Nat) : (M.getD i []).length ≤ n := by
  rw [List.getD_eq_getElem?_getD]
  by_cases hi : i < M.length
  · rw [List.getElem?_eq_getElem hi]; exact h _ (List.getElem_mem hi)
  · rw [List.getElem?_eq_none (by omega)]; exact Nat.zero_le _
/-- The rounds come to an end. -/
theorem around_ends {M : List (List Int)} (h : ∀ l ∈ M, l.length ≤ 40) : outerEnds 42 (fun i => M.getD i []) (List.range M.length) :=
  ends_of_len 42 _ _ List.nodup_range fun i _ => by have := getD_len h i; omega
/-- The numbers at place k of the lists. -/
def rowK (M : List (List Int)) (k : Nat) : List Int := M.flatMap fun l => (l.drop k).take 1
theorem range_rowK (M : List (List Int)) (k : Nat) : ((List.range M.length).flatMap fun i => ((M.getD i []).drop k).take 1) = rowK M k := by
  have h : (List.range M.length).map (fun i => M.getD i []) = M := by
    apply List.ext_getElem
    · simp
    · intro i h1 h2
      simp [List.getD_eq_getElem?_getD, h2]
  unfold rowK
  conv => rhs; rw [← h]
  rw [List.flatMap_map]
theorem filter_flat {α : Type} (l : List Nat) (p : Nat → Bool) (f : Nat → List α) (h : ∀ i ∈ l, p i = false → f i = []) : (l.filter p).flatMap f = l.flatMap f := by
  induction l with
  | nil => rfl
  | cons x l ih =>
    have ih := ih fun i hi => h i (List.mem_cons_of_mem _ hi)
    cases hp : p x with
    | true => rw [List.filter_cons_of_pos hp, List.flatMap_cons, List.flatMap_cons, ih]
    | false => rw [List.filter_cons_of_neg (by simp [hp]), List.flatMap_cons, h x List.mem_cons_self hp, ih]; rfl
theorem outerOut_eq (M : List (List Int)) : ∀ (d r : Nat) (p : Nat → Bool), (∀ i, i < M.length → p i = false → (M.getD i []).drop r = []) →
    outerOut d (fun i => (M.getD i []).drop r) ((List.range M.length).filter p) = (List.range' r d).flatMap (rowK M)
  | 0, r, p, h => rfl
  | d + 1, r, p, h => by
    have hn : ((List.range M.length).filter p).Nodup := List.nodup_range.filter _
    have hout : runOut (fun i => (M.getD i []).drop r) ((List.range M.length).filter p) = rowK M r := by
      rw [runOut_eq _ _ hn, filter_flat, range_rowK]
      intro i hi hp
      rw [h i (List.mem_range.1 hi) hp]; rfl
    have hR : runR (fun i => (M.getD i []).drop r) ((List.range M.length).filter p) = fun i => (M.getD i []).drop (r + 1) := by
      funext i
      rw [runR_eq _ _ hn, ← List.tail_drop]
      by_cases hi : i ∈ (List.range M.length).filter p
      · rw [if_pos hi]
      · rw [if_neg hi]
        have he : (M.getD i []).drop r = [] := by
          by_cases hl : i < M.length
          · refine h i hl ?_
            cases hp : p i with
            | false => rfl
            | true => exact absurd (List.mem_filter.2 ⟨List.mem_range.2 hl, hp⟩) hi
          · rw [List.getD_eq_getElem?_getD, List.getElem?_eq_none (by omega)]; simp
        rw [he]; rfl
    have hS : runStill (fun i => (M.getD i []).drop r) ((List.range M.length).filter p) = (List.range M.length).filter fun i => decide ((M.getD i []).drop r ≠ []) && p i := by
      rw [runStill_eq _ _ hn, List.filter_filter]
    have ih := outerOut_eq M d (r + 1) (fun i => decide ((M.getD i []).drop r ≠ []) && p i) fun i hi hp => by
      have he : (M.getD i []).drop r = [] := by
        cases hp' : p i with
        | false => exact h i hi hp'
        | true => simpa [hp'] using hp
      rw [← List.tail_drop, he]; rfl
    rw [List.range'_succ, List.flatMap_cons]
    by_cases hI : (List.range M.length).filter p = []
    · have hz : ∀ k, r ≤ k → rowK M k = [] := fun k hk => by
        rw [← range_rowK]
        refine List.flatMap_eq_nil_iff.2 fun i hi => ?_
        have hp : p i = false := by
          cases hp : p i with
          | false => rfl
          | true => have := List.mem_filter.2 ⟨hi, hp⟩; rw [hI] at this; cases this
        have h1 := h i (List.mem_range.1 hi) hp
        have h2 : (M.getD i []).drop k = [] := by
          rw [show k = r + (k - r) by omega, ← List.drop_drop, h1]; simp
        rw [h2]; rfl
      rw [outerOut, if_pos hI, hz r (Nat.le_refl _)]
      symm
      refine List.flatMap_eq_nil_iff.2 fun k hk => hz k ?_
      have := List.mem_range'_1.1 hk
      omega
    · rw [outerOut, if_neg hI, hout, hR, hS, ih]
/-- ████ One of each list in turn. ████ -/
theorem aroundL_eq {M : List (List Int)} (h : ∀ l ∈ M, l.length ≤ 40) : aroundL M = (List.range 40).flatMap (rowK M) := by
  have h0 := outerOut_eq M 42 0 (fun _ => true) (fun i _ hp => by cases hp)
  rw [List.filter_eq_self.2 (fun _ _ => rfl)] at h0
  simp only [List.drop_zero] at h0
  have hz : ∀ k, 40 ≤ k → rowK M k = [] := fun k hk => List.flatMap_eq_nil_iff.2 fun l hl => by
    rw [List.drop_eq_nil_of_le (by have := h l hl; omega)]; rfl
  unfold aroundL
  rw [h0, ← List.range_eq_range', show (42 : Nat) = 40 + 1 + 1 from rfl, List.range_succ, List.range_succ, List.flatMap_append, List.flatMap_append]
  simp [hz]
theorem outerOut_len : ∀ (d : Nat) (R : Nat → List Int) (I : List Nat), (outerOut d R I).length ≤ d * I.length
  | 0, _, _ => by simp [outerOut]
  | d + 1, R, I => by
    by_cases h : I = []
    · simp [outerOut, h]
    · have h1 := outerOut_len d (runR R I) (runStill R I)
      have h2 : d * (runStill R I).length ≤ d * I.length := Nat.mul_le_mul_left _ (runStill_len I R)
      have h3 := runOut_len I R
      simp only [outerOut, if_neg h, List.length_append]
      rw [Nat.succ_mul]
      omega
theorem aL_len (M : List (List Int)) : (aL M).length ≤ 1000 := by
  unfold aL
  split
  · rename_i h
    have h1 := outerOut_len 42 (fun i => M.getD i []) (List.range M.length)
    have h2 := (listsB_true h).1
    rw [List.length_range] at h1
    unfold aroundL
    omega
  · simp
end Go.Proofs.Ytoimhdhplebhgaa
