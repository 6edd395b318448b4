/-
  Which rules are valid, by the reference and by the program.
-/
import Derived.Test.YtelaeepkajbfnaaRules
import Derived.Test.YtelaeepkajbfnaaBoard
namespace Go.Proofs.Ytelaeepkajbfnaa
open Go.RowKit
set_option linter.unusedSimpArgs false
set_option linter.unusedVariables false

def goodB (l : List (Int × Int)) (i : Nat) : Bool := match l[i]? with
  | some r => inB r.1 1 6 && inB r.2 0 6 && !((l.take i).any fun q => q.1 == r.1)
  | none => true
def rulesB (l : List (Int × Int)) : Bool := (List.range l.length).all fun i => goodB l i
theorem rulesB_no {l : List (Int × Int)} {k : Nat} (hk : k < l.length) (h : goodB l k = false) : rulesB l = false := by
  unfold rulesB
  rw [List.all_eq_false]
  exact ⟨k, by simpa using hk, by simp [h]⟩
theorem rulesB_yes {l : List (Int × Int)} (h : ∀ i, i < l.length → goodB l i = true) : rulesB l = true := by
  unfold rulesB
  rw [List.all_eq_true]
  intro i hi
  exact h i (by simpa using hi)
theorem goodB_from {l : List (Int × Int)} {k : Nat} (hk : k < l.length) (h : inB l[k].1 1 6 = false) : goodB l k = false := by simp [goodB, List.getElem?_eq_getElem hk, h]
theorem goodB_to {l : List (Int × Int)} {k : Nat} (hk : k < l.length) (h : inB l[k].2 0 6 = false) : goodB l k = false := by simp [goodB, List.getElem?_eq_getElem hk, h]
theorem goodB_twice {l : List (Int × Int)} {k j : Nat} (hk : k < l.length) (hj : j < k) (h : l[j].1 = l[k].1) : goodB l k = false := by
  have : ((l.take k).any fun q => q.1 == l[k].1) = true := by
    rw [List.any_eq_true]
    exact ⟨l[j], List.mem_take_iff_getElem.2 ⟨j, by omega, rfl⟩, by simp [h]⟩
  simp [goodB, List.getElem?_eq_getElem hk, this]
theorem goodB_ok {l : List (Int × Int)} {k : Nat} (hk : k < l.length) (h1 : inB l[k].1 1 6 = true) (h2 : inB l[k].2 0 6 = true) (h : ∀ r ∈ l.take k, ¬ r.1 = l[k].1) : goodB l k = true := by
  have : ((l.take k).any fun q => q.1 == l[k].1) = false := by
    rw [List.any_eq_false]
    intro r hr
    simpa using h r hr
  simp [goodB, List.getElem?_eq_getElem hk, h1, h2, this]
set_option maxHeartbeats 2000000 in
theorem sRulesValid_any (A : Option Addr) (c : Nat) (l : List (Int × Int)) (w : World) (B : Nat) (h : RR w B A l) (hn : l.length ≤ 1048576) :
    Calls Try.prog 10 #[.slice A l.length c] w fun e w' => e = .returned (.bool (rulesB l)) ∧ ∃ n, w' = w.drewN n := by
  go_enter Try.func10, Try.ntmps10
  go_wp2
  go_loopw [3] (fun i wr => ∃ k : Nat, k ≤ l.length ∧ i = .int .i64 k ∧ (∀ i, i < k → goodB l i = true) ∧ ∃ n, wr = w.drewN n) (fun i _ => l.length - (intOf i).toNat)
  case atStart => exact ⟨0, Nat.zero_le _, rfl, fun i hi => by omega, 0, rfl⟩
  case round =>
    obtain ⟨k, hk, rfl, hall, nq, rfl⟩ := hrel
    have Hall := Lib.hid hall
    clear hall
    by_cases hlt : k < l.length
    · obtain ⟨ad, rfl, hb, h1, h2⟩ := h.at_ hlt
      have Hf := Lib.hid (goodB_from (l := l) hlt)
      have Ht := Lib.hid (goodB_to (l := l) hlt)
      have Hw := Lib.hid (fun j => goodB_twice (l := l) (j := j) hlt)
      have Ho := Lib.hid (goodB_ok (l := l) hlt)
      have Hn := Lib.hid (rulesB_no (l := l) hlt)
      obtain ⟨a, ha⟩ : ∃ a, l[k].1 = a := ⟨_, rfl⟩
      obtain ⟨b, hb2⟩ : ∃ b, l[k].2 = b := ⟨_, rfl⟩
      rw [ha] at h1 Hf Ho
      rw [hb2] at h2 Ht Ho
      have Ha := Lib.hid ha
      clear ha hb2
      cases hia : inB a 1 6
      · go_wp2_with (first | (go_at_call 29; refine (l1In_any _ _ _ _).mono ?_; rintro e w' ⟨rfl, rfl⟩) | (go_at_call 30; refine (l2Line_any _ _).mono ?_; rintro e w' ⟨rfl, rfl⟩))
        go_ret
        exact ⟨ret_bool (Hn.out (Hf.out hia)).symm, _, rfl⟩
      cases hib : inB b 0 6
      · go_wp2_with (first | (go_at_call 29; refine (l1In_any _ _ _ _).mono ?_; rintro e w' ⟨rfl, rfl⟩) | (go_at_call 30; refine (l2Line_any _ _).mono ?_; rintro e w' ⟨rfl, rfl⟩))
        go_ret
        exact ⟨ret_bool (Hn.out (Ht.out hib)).symm, _, rfl⟩
      go_wp2_with (first | (go_at_call 29; refine (l1In_any _ _ _ _).mono ?_; rintro e w' ⟨rfl, rfl⟩) | (go_at_call 30; refine (l2Line_any _ _).mono ?_; rintro e w' ⟨rfl, rfl⟩))
      go_loopw [4] (fun i wr => ∃ j : Nat, j ≤ k ∧ i = .int .i64 j ∧ (∀ r ∈ l.take j, ¬ r.1 = a) ∧ ∃ n, wr = w.drewN n) (fun i _ => k - (intOf i).toNat)
      case atStart => exact ⟨0, Nat.zero_le _, rfl, by simp, nq, rfl⟩
      case round =>
        obtain ⟨j, hj, rfl, hin, mq, rfl⟩ := hrel
        have Hin := Lib.hid hin
        clear hin
        by_cases hjk : j < k
        · obtain ⟨ad', e', _, h1', _⟩ := h.at_ (show j < l.length by omega)
          obtain rfl : ad = ad' := by injection e'
          clear e'
          obtain ⟨a', ha'⟩ : ∃ a, (l[j]'(by omega)).1 = a := ⟨_, rfl⟩
          rw [ha'] at h1'
          by_cases he : a' = a
          · have hb1 : (a' == a) = true := by simp [he]
            have E := Lib.hid (Hn.out (Hw.out j hjk (by rw [ha', Ha.out, he])))
            clear he ha'
            go_wp2
            go_quiet (fail)
            go_wp2
            go_ret
            exact ⟨ret_bool E.out.symm, _, World.drewN_drewN _ _ _⟩
          · have hb1 : (a' == a) = false := by simp [he]
            have E : Hid (∀ r ∈ l.take (j + 1), ¬ r.1 = a) := Lib.hid (by
              intro r hr
              rw [take_snoc l j (by omega), List.mem_append] at hr
              rcases hr with hr | hr
              · exact Hin.out r hr
              · simp at hr
                subst hr
                rw [ha']
                exact he)
            clear he ha'
            go_wp2
            go_quiet (fail)
            go_wp2
            go_roundw
            case rel => exact ⟨j + 1, by omega, by go_num, E.out, _, rfl⟩
            case measure => simp [intOf]; omega
        · obtain rfl : j = k := by omega
          have E := Lib.hid (Ho.out hia hib Hin.out)
          go_wp2
          go_roundw
          case rel =>
            refine ⟨j + 1, by omega, by go_num, fun i hi => ?_, _, rfl⟩
            by_cases h0 : i = j
            · rw [h0]; exact E.out
            · exact Hall.out i (by omega)
          case measure => simp [intOf]; omega
    · obtain rfl : k = l.length := by omega
      go_wp2
      go_ret
      exact ⟨ret_bool (rulesB_yes Hall.out).symm, _, rfl⟩
end Go.Proofs.Ytelaeepkajbfnaa
