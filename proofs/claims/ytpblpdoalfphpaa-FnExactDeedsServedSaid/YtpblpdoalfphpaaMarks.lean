/-
  The text of a mark.
-/
import Derived.Test.YtpblpdoalfphpaaDeedS
import Derived.Laws.BytesArg
namespace Go.Proofs.Ytpblpdoalfphpaa
open Go.RowKit
set_option linter.unusedSimpArgs false
set_option linter.unusedVariables false

/-- the decimal digits of n, none of 0 -/
def digs (n : Nat) : List UInt8 := if h : n = 0 then [] else digs (n / 10) ++ [UInt8.ofNat (48 + n % 10)]
theorem digs_zero : digs 0 = [] := by rw [digs]; simp
theorem digs_pos {n : Nat} (h : 0 < n) : digs n = digs (n / 10) ++ [UInt8.ofNat (48 + n % 10)] := by
  rw [digs]
  simp [show ¬ n = 0 by omega]
theorem digs_len (m : Nat) : ∀ n, n < 10 ^ m → (digs n).length ≤ m := by
  induction m with
  | zero => intro n h; have : n = 0 := by simpa using h
            subst this; simp [digs_zero]
  | succ m ih =>
    intro n h
    by_cases h0 : n = 0
    · subst h0; simp [digs_zero]
    · rw [digs_pos (by omega)]
      have := ih (n / 10) (by rw [Nat.pow_succ] at h; exact Nat.div_lt_of_lt_mul (by rw [Nat.mul_comm]; exact h))
      simp
      omega
/-- the text that marks k -/
def markS (k : Int) : ByteArray := ⟨(109 :: digs k.toNat).toArray⟩
theorem ret_str {a b : ByteArray} (h : a = b) : Ending.returned (.string a) = .returned (.string b) := by rw [h]
theorem bytes_ext {a b : ByteArray} (h : a.data.toList = b.data.toList) : a = b := by
  cases a; cases b
  congr 1
  exact Array.toList_inj.1 h
set_option maxHeartbeats 1000000 in
theorem markText_any (k : Int) (w : World) (h1 : 1 ≤ k) (h2 : k ≤ 1099511627776) :
    Calls Try.prog 43 #[.int .i64 k] w fun e w' => e = .returned (.string (markS k)) ∧ Below w.heap.size w w' := by
  have hcv : ∀ (W : World) (d : Int), (convert 71 9 (.slice (some ⟨W.heap.size, 0, none⟩) 1 1)).run Try.prog (W.alloc (.cells #[.int .u8 d] 5)) = .ok (.string (strOfNums [d])) (W.alloc (.cells #[.int .u8 d] 5)) := fun W d =>
    run_convert_bytes_arg (W.alloc (.cells #[.int .u8 d] 5)) 71 5 Try.underlying71 Try.underlying5 W.heap.size 0 1 1 [d] rfl (fun i hi => by
      obtain rfl : i = 0 := by omega
      simp [go_sem]) 9 Try.underlying9
  obtain ⟨K0, rfl⟩ : ∃ K0 : Nat, k = (K0 : Int) := ⟨k.toNat, by omega⟩
  have hk1 : ¬ K0 = 0 := by omega
  have hss : ∀ d : Int, (strOfNums [d]).size = 1 := fun d => rfl
  have hk2 : K0 ≤ 1099511627776 := by omega
  clear h1 h2
  go_enter Try.func43, Try.ntmps43
  go_wp2
  go_loopw [0, 3] (fun a b wr => ∃ (K : Nat) (o : ByteArray), a = .int .i64 K ∧ b = .string o ∧ K ≤ K0 ∧ digs K ++ o.data.toList = digs K0 ∧ Below w.heap.size w wr) (fun a _ _ => (intOf a).toNat)
  case atStart => exact ⟨K0, ⟨#[]⟩, rfl, rfl, Nat.le_refl _, by simp, Below.refl _ _⟩
  case round =>
    obtain ⟨K, o, rfl, rfl, hK, ho, hbel⟩ := hrel
    have hlen : o.size ≤ 13 := by
      have h1 := digs_len 13 K0 (by omega)
      have h2 := congrArg List.length ho
      simp only [List.length_append, Array.length_toList] at h2
      have h3 : o.size = o.data.size := rfl
      omega
    have Ho := Lib.hid ho
    clear ho
    by_cases hK0 : 0 < K
    · go_wp2
      go_roundw
      case rel =>
        refine ⟨K / 10, _, by congr 1, rfl, by omega, ?_, hbel.alloc hbel.size _⟩
        rw [← Ho.out, digs_pos hK0, List.append_assoc]
        congr 1
      case measure => simp [intOf]; omega
    · obtain rfl : K = 0 := by omega
      go_wp2
      go_ret
      refine ⟨ret_str (bytes_ext ?_), hbel⟩
      have := Ho.out
      rw [digs_zero, List.nil_append] at this
      rw [ByteArray.data_append]
      simp [markS, this]
  all_goals rfl
end Go.Proofs.Ytpblpdoalfphpaa
