/-
  Does a list ascend? The library's check and the reference's.
-/
import Derived.Test.YtoimhdhplebhgaaG12
import Derived.Test.YtoimhdhplebhgaaKOii
namespace Go.Proofs.Ytoimhdhplebhgaa
open Go.RowKit
set_option linter.unusedSimpArgs false
set_option linter.unusedVariables false

theorem l5Sorted_any (A : Option Addr) (c : Nat) (l : List Int) (w : World) (B : Nat) (h : RI w B A l) (hn : l.length ≤ 1048576) :
    Calls Try.prog 32 #[.slice A l.length c] w fun e w' => e = .returned (.bool (ascB l)) ∧ ∃ n, w' = w.drewN n := by
  go_enter Try.func32, Try.ntmps32
  go_wp2
  go_loopw [3] (fun i wr => ∃ k : Nat, 1 ≤ k ∧ (l.length ≤ 1 → k = 1) ∧ (1 ≤ l.length → k ≤ l.length) ∧ i = .int .i64 k ∧ (∀ j (hj : j + 1 < l.length), j + 1 < k → l[j] ≤ l[j + 1]) ∧ ∃ n, wr = w.drewN n) (fun i _ => l.length - (intOf i).toNat)
  case atStart => exact ⟨1, Nat.le_refl _, fun _ => rfl, fun h => h, rfl, fun j hj h => by omega, 0, rfl⟩
  case round =>
    obtain ⟨k, hk1, hk2, hk3, rfl, hall, nq, rfl⟩ := hrel
    by_cases hlt : k < l.length
    · obtain ⟨m, hkm⟩ : ∃ m, k = m + 1 := ⟨k - 1, by omega⟩
      have hml : m + 1 < l.length := by omega
      obtain ⟨ad, rfl, hb, hc⟩ := h.at_ hlt
      obtain ⟨_, e, hb', hc'⟩ := h.at_ (k := m) (Nat.lt_of_succ_lt hml)
      injection e with e
      subst e
      have hm1 : ((k : Int) - 1).toNat = m := by omega
      have hm2 : (0 : Int) ≤ (k : Int) - 1 := by omega
      have hm3 : (k : Int) - 1 < (l.length : Int) := by omega
      have hm4 : (k : Int) < (l.length : Int) := by omega
      have hm5 : IntKind.i64.wrap ((k : Int) - 1) = (k : Int) - 1 := by rw [IntKind.wrap_i64] <;> omega
      have Hall := Lib.hid hall
      have HK := Lib.hid hkm
      have hxy : l[k] = l[m + 1]'hml := by simp [hkm]
      clear hall hk2 hk3
      clear hkm
      by_cases he : l[m + 1]'hml < l[m]'(Nat.lt_of_succ_lt hml)
      · have HF := Lib.hid (ascB_false hml he)
        rw [hxy] at hc
        generalize l[m + 1]'hml = x at hc he
        generalize l[m] = y at hc' he
        have hd : decide (x < y) = true := decide_eq_true he
        clear hxy
        go_wp2
        go_quiet (fail)
        go_wp2
        go_ret
        exact ⟨ret_bool HF.out.symm, _, World.drewN_drewN _ _ _⟩
      · have HL := Lib.hid (show l[m]'(Nat.lt_of_succ_lt hml) ≤ l[m + 1]'hml by omega)
        rw [hxy] at hc
        generalize hx : l[m + 1]'hml = x at hc he
        generalize hy : l[m] = y at hc' he
        have hd : decide (x < y) = false := decide_eq_false he
        clear hx hy hxy
        go_wp2
        go_quiet (fail)
        go_wp2
        go_roundw
        case rel =>
          have := HK.out
          refine ⟨k + 1, by omega, by omega, by omega, by go_num, fun j hj hjm => ?_, _, rfl⟩
          by_cases hjm' : j = m
          · subst hjm'; exact HL.out
          · exact Hall.out j hj (by omega)
        case measure => simp [intOf]; omega
    · have HT : Hid (ascB l = true) := Lib.hid ((ascB_iff l).2 fun j hj => hall j hj (by omega))
      clear hall
      go_wp2
      go_ret
      exact ⟨ret_bool HT.out.symm, _, rfl⟩
theorem less_val (x y : Int) (w : World) : Calls Try.prog 49 #[.int .i64 x, .int .i64 y] w fun e w' => e = .returned (.bool (decide (x < y))) ∧ w' = w := by
  go_enter Try.func49, Try.ntmps49
  go_wp2
  go_ret
  exact ⟨rfl, rfl⟩
theorem isSorted_any (A : Option Addr) (c : Nat) (l : List Int) (w : World) (B : Nat) (h : RI w B A l) (hn : l.length ≤ 1048576) :
    Calls Try.prog 29 #[.slice A l.length c] w fun e w' => e = .returned (.bool (ascB l)) ∧ ∃ n, w' = w.drewN n := by
  go_enter Try.func29, Try.ntmps29
  go_wp2
  go_loopw [3] (fun i wr => ∃ k : Int, (k : Int) ≤ l.length - 1 ∧ (-1 : Int) ≤ k ∧ i = .int .i64 k ∧ (∀ j (hj : j + 1 < l.length), k ≤ (j : Int) → l[j] ≤ l[j + 1]) ∧ ∃ n, wr = w.drewN n) (fun i _ => (intOf i + 1).toNat)
  case atStart => exact ⟨(l.length : Int) - 1, Int.le_refl _, by omega, rfl, fun j hj h => by omega, 0, rfl⟩
  case round =>
    obtain ⟨k0, hk1, hk2, rfl, hall, nq, rfl⟩ := hrel
    by_cases hlt : 0 < k0
    · obtain ⟨k, rfl⟩ := Int.eq_ofNat_of_zero_le (show 0 ≤ k0 by omega)
      obtain ⟨m, hkm⟩ : ∃ m, k = m + 1 := ⟨k - 1, by omega⟩
      have hml : m + 1 < l.length := by omega
      have hkl : k < l.length := by omega
      have hk1' : 1 ≤ k := by omega
      obtain ⟨ad, rfl, hb, hc⟩ := h.at_ hkl
      obtain ⟨_, e, hb', hc'⟩ := h.at_ (k := m) (Nat.lt_of_succ_lt hml)
      injection e with e
      subst e
      have hm1 : ((k : Int) - 1).toNat = m := by omega
      have hm2 : (0 : Int) ≤ (k : Int) - 1 := by omega
      have hm3 : (k : Int) - 1 < (l.length : Int) := by omega
      have hm4 : (k : Int) < (l.length : Int) := by omega
      have hm5 : IntKind.i64.wrap ((k : Int) - 1) = (k : Int) - 1 := by rw [IntKind.wrap_i64] <;> omega
      have Hall := Lib.hid hall
      have HK := Lib.hid hkm
      have hxy : l[k] = l[m + 1]'hml := by simp [hkm]
      have HB := Lib.hid (And.intro hk1 hk2)
      clear hall hkm hk1 hk2 hlt
      by_cases he : l[m + 1]'hml < l[m]'(Nat.lt_of_succ_lt hml)
      · have HF := Lib.hid (ascB_false hml he)
        rw [hxy] at hc
        generalize l[m + 1]'hml = x at hc he
        generalize l[m] = y at hc' he
        have hd : decide (x < y) = true := decide_eq_true he
        clear hxy
        go_wp2
        go_quiet ((go_at_call 49; refine (less_val x y _).mono ?_; rintro e w2 ⟨rfl, rfl⟩; exact ⟨rfl, _, rfl⟩))
        rw [hd]
        go_wp2
        go_ret
        exact ⟨ret_bool HF.out.symm, _, World.drewN_drewN _ _ _⟩
      · have HL := Lib.hid (show l[m]'(Nat.lt_of_succ_lt hml) ≤ l[m + 1]'hml by omega)
        rw [hxy] at hc
        generalize hx : l[m + 1]'hml = x at hc he
        generalize hy : l[m] = y at hc' he
        have hd : decide (x < y) = false := decide_eq_false he
        clear hx hy hxy
        go_wp2
        go_quiet ((go_at_call 49; refine (less_val x y _).mono ?_; rintro e w2 ⟨rfl, rfl⟩; exact ⟨rfl, _, rfl⟩))
        rw [hd]
        go_wp2
        go_roundw
        case rel =>
          have := HK.out
          obtain ⟨hk1, hk2⟩ := HB.out
          refine ⟨(k : Int) - 1, by omega, by omega, by go_num, fun j hj hjm => ?_, _, rfl⟩
          by_cases hjm' : j = m
          · subst hjm'; exact HL.out
          · exact Hall.out j hj (by omega)
        case measure =>
          simp [intOf]
          try omega
    · have HT : Hid (ascB l = true) := Lib.hid ((ascB_iff l).2 fun j hj => hall j hj (by omega))
      clear hall
      go_wp2
      go_ret
      exact ⟨ret_bool HT.out.symm, _, rfl⟩
end Go.Proofs.Ytoimhdhplebhgaa
