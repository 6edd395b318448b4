/-
  The decimal text of a number, by the reference.
-/
import Derived.Test.YthdnhaaojicmbaaDoorDeeds
import Derived.Laws.BytesArg
import Derived.Lib.ItoaNum
import Derived.IntWalk
namespace Go.Proofs.YthdnhaaojicmbaaDoor
open Go.RowKit
set_option linter.unusedSimpArgs false
set_option linter.unusedVariables false

theorem dec_small {n : Nat} (h : n < 10) : Lib.decDigits n = [UInt8.ofNat (48 + n)] := Lib.decDigits_one h
theorem dec_big {n : Nat} (h : ¬ n < 10) : Lib.decDigits n = Lib.decDigits (n / 10) ++ [UInt8.ofNat (48 + n % 10)] := by
  rw [Lib.decDigits, dif_neg h]
theorem dec_len (m : Nat) : ∀ n, n < 10 ^ (m + 1) → (Lib.decDigits n).length ≤ m + 1 := by
  induction m with
  | zero => intro n h; rw [dec_small (by simpa using h)]; simp
  | succ m ih =>
    intro n h
    by_cases h0 : n < 10
    · rw [dec_small h0]; simp
    · rw [dec_big h0]
      have := ih (n / 10) (by rw [Nat.pow_succ] at h; exact Nat.div_lt_of_lt_mul (by rw [Nat.mul_comm]; exact h))
      simp
      omega
theorem ret_str {a b : ByteArray} (h : a = b) : Ending.returned (.string a) = .returned (.string b) := by rw [h]
theorem bytes_ext {a b : ByteArray} (h : a.data.toList = b.data.toList) : a = b := by
  cases a; cases b
  congr 1
  exact Array.toList_inj.1 h
/-- the decimal text of n -/
def decS (n : Nat) : ByteArray := ⟨(Lib.decDigits n).toArray⟩
set_option maxHeartbeats 1000000 in
theorem l11Dec_any (K0 : Nat) (w : World) (hk2 : K0 ≤ 9223372036854775807) :
    Calls Tryd.prog 12 #[.int .i64 K0] w fun e w' => e = .returned (.string (decS K0)) ∧ Below w.heap.size w w' := by
  have hcv : ∀ (W : World) (d : Int), (convert 31 9 (.slice (some ⟨W.heap.size, 0, none⟩) 1 1)).run Tryd.prog (W.alloc (.cells #[.int .u8 d] 5)) = .ok (.string (strOfNums [d])) (W.alloc (.cells #[.int .u8 d] 5)) := fun W d =>
    run_convert_bytes_arg (W.alloc (.cells #[.int .u8 d] 5)) 31 5 Tryd.underlying31 Tryd.underlying5 W.heap.size 0 1 1 [d] rfl (fun i hi => by
      obtain rfl : i = 0 := by omega
      simp [go_sem]) 9 Tryd.underlying9
  have hss : ∀ d : Int, (strOfNums [d]).size = 1 := fun d => rfl
  go_enter Tryd.func12, Tryd.ntmps12
  go_wp2
  go_loopw [0, 3] (fun a b wr => ∃ (K : Nat) (o : ByteArray), a = .int .i64 K ∧ b = .string o ∧ K ≤ K0 ∧ Lib.decDigits K ++ o.data.toList = Lib.decDigits K0 ∧ Below w.heap.size w wr) (fun a _ _ => (intOf a).toNat)
  case atStart => exact ⟨K0, ⟨#[]⟩, rfl, rfl, Nat.le_refl _, by simp, Below.refl _ _⟩
  case round =>
    obtain ⟨K, o, rfl, rfl, hK, ho, hbel⟩ := hrel
    have hlen : o.size ≤ 19 := by
      have h1 := dec_len 18 K0 (by omega)
      have h2 := congrArg List.length ho
      simp only [List.length_append, Array.length_toList] at h2
      have h3 : o.size = o.data.size := rfl
      omega
    have Ho := Lib.hid ho
    clear ho
    by_cases hK0 : 9 < K
    · go_wp2
      go_roundw
      case rel =>
        refine ⟨K / 10, _, by congr 1, rfl, by omega, ?_, hbel.alloc hbel.size _⟩
        rw [← Ho.out, dec_big (n := K) (by omega), List.append_assoc]
        congr 1
      case measure => simp [intOf]; omega
    · have hK9 : K < 10 := by omega
      go_wp2
      go_ret
      refine ⟨ret_str (bytes_ext ?_), hbel.alloc hbel.size _⟩
      have := Ho.out
      rw [dec_small hK9] at this
      have e : (strOfNums [48 + (K : Int)]).data.toList = [UInt8.ofNat (48 + K)] := rfl
      rw [ByteArray.data_append, Array.toList_append, e, this]
      simp [decS]
  all_goals rfl
/-- the decimal text of an int -/
def itoS (n : Int) : ByteArray := ⟨(Lib.itoa n).toArray⟩
set_option maxHeartbeats 1000000 in
theorem l11Dec_all (n : Int) (w : World) (h0 : -9223372036854775808 ≤ n) (h1 : n ≤ 9223372036854775807) :
    Calls Tryd.prog 12 #[.int .i64 n] w fun e w' => e = .returned (.string (itoS n)) ∧ Below w.heap.size w w' := by
  by_cases hneg : n < 0
  · by_cases hmin : n = -9223372036854775808
    · subst hmin
      have e : itoS (-9223372036854775808) = ⟨#[45, 57, 50, 50, 51, 51, 55, 50, 48, 51, 54, 56, 53, 52, 55, 55, 53, 56, 48, 56]⟩ := by decide +kernel
      go_enter Tryd.func12, Tryd.ntmps12
      go_wp2
      go_ret
      exact ⟨ret_str e.symm, Below.refl _ _⟩
    · obtain ⟨K, hK⟩ : ∃ K : Nat, -n = (K : Int) := ⟨(-n).toNat, by omega⟩
      have hc := fun W => l11Dec_any K W (by omega)
      have hmin' : ¬ n < -9223372036854775807 := by omega
      have hw : IntKind.i64.wrap (-n) = (K : Int) := by rw [IntWalk.i64_in _ (by omega), hK]
      have hl : (decS K).size ≤ 19 := by
        have h2 := dec_len 18 K (by omega)
        have : (decS K).size = (Lib.decDigits K).length := by simp [decS, ByteArray.size]
        omega
      have E : Hid (itoS n = ⟨#[45]⟩ ++ decS K) := Lib.hid (by
        unfold itoS Lib.itoa
        rw [if_pos hneg, show n.natAbs = K by omega]
        apply bytes_ext
        simp [decS, ByteArray.data_append])
      clear hK
      go_enter Tryd.func12, Tryd.ntmps12
      go_wp2_with fail
      refine (hc w).mono ?_
      rintro e w2 ⟨rfl, hb2⟩
      go_wp2_with fail
      go_ret
      exact ⟨ret_str E.out.symm, hb2⟩
  · obtain ⟨K, rfl⟩ := Int.eq_ofNat_of_zero_le (show 0 ≤ n by omega)
    refine (l11Dec_any K w (by omega)).mono ?_
    rintro e w2 ⟨rfl, hb2⟩
    refine ⟨ret_str ?_, hb2⟩
    unfold itoS decS Lib.itoa
    rw [if_neg (by omega), Int.toNat_natCast]
end Go.Proofs.YthdnhaaojicmbaaDoor
