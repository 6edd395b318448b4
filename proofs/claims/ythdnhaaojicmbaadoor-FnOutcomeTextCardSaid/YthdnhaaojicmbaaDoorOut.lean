/-
  FormatOutcome, by the reference.
-/
import Derived.Test.YthdnhaaojicmbaaDoorFmt2
import Derived.Test.YthdnhaaojicmbaaDoorSlices
namespace Go.Proofs.YthdnhaaojicmbaaDoor
open Go.RowKit
set_option linter.unusedSimpArgs false
set_option linter.unusedVariables false

theorem itoS_size {n : Int} (h0 : -9223372036854775808 ≤ n) (h1 : n ≤ 9223372036854775807) : (itoS n).size ≤ 20 := by
  have e : (itoS n).size = (Lib.itoa n).length := by simp [itoS, ByteArray.size]
  rw [e]
  unfold Lib.itoa
  split
  · have := dec_len 18 n.natAbs (by omega)
    simp
    omega
  · have := dec_len 18 n.toNat (by omega)
    omega
/-- the notes' text: each number and a space -/
def notesT (l : List Int) : ByteArray := l.foldl (fun o n => o ++ itoS n ++ ⟨#[32]⟩) ⟨#[]⟩
theorem notesT_snoc (l : List Int) (n : Int) : notesT (l ++ [n]) = notesT l ++ itoS n ++ ⟨#[32]⟩ := by unfold notesT; rw [List.foldl_append]; rfl
theorem notesT_succ {l : List Int} {k : Nat} (h : k < l.length) : notesT (l.take (k + 1)) = notesT (l.take k) ++ itoS l[k] ++ ⟨#[32]⟩ := by rw [take_snoc l k h, notesT_snoc]
theorem notesT_size {l : List Int} (h : ∀ x ∈ l, -9223372036854775808 ≤ x ∧ x ≤ 9223372036854775807) : ∀ k, k ≤ l.length → (notesT (l.take k)).size ≤ 21 * k := by
  intro k
  induction k with
  | zero =>
    intro _
    have e : notesT (l.take 0) = ⟨#[]⟩ := by simp [notesT]
    rw [e]
    exact Nat.zero_le _
  | succ k ih =>
    intro hk
    have h1 := ih (by omega)
    obtain ⟨a, b⟩ := h _ (List.getElem_mem (show k < l.length by omega))
    have h2 := itoS_size a b
    have h3 : (⟨#[32]⟩ : ByteArray).size = 1 := rfl
    rw [notesT_succ (show k < l.length by omega), ByteArray.size_append, ByteArray.size_append, h3]
    omega
/-- the text of an outcome -/
def outT (l : List Int) (s : ByteArray) (y : Int) : ByteArray := notesT l ++ s ++ ⟨#[32]⟩ ++ itoS y
theorem box_newO (w : World) (A : Option Addr) (n c : Nat) (s : ByteArray) (y : Int) : (w.alloc (.cells #[.slice A n c, .string s, .int .i64 y] 27)).cell? ⟨w.heap.size, 0, none⟩ = some (.slice A n c) ∧ (w.alloc (.cells #[.slice A n c, .string s, .int .i64 y] 27)).cell? ⟨w.heap.size, 1, none⟩ = some (.string s) ∧ (w.alloc (.cells #[.slice A n c, .string s, .int .i64 y] 27)).cell? ⟨w.heap.size, 2, none⟩ = some (.int .i64 y) := by
  have h := Blk.new w 27 #[.slice A n c, .string s, .int .i64 y]
  exact ⟨(h.cell 0).trans rfl, (h.cell 1).trans rfl, (h.cell 2).trans rfl⟩
set_option maxHeartbeats 2000000 in
theorem sFormatOutcome_any (A : Option Addr) (c : Nat) (l : List Int) (s : ByteArray) (y : Int) (w : World) (h : RI w w.heap.size A l) (hn : l.length ≤ 1048576) (hv : ∀ x ∈ l, -9223372036854775808 ≤ x ∧ x ≤ 9223372036854775807) (hs : s.size ≤ 1048576) (y0 : -9223372036854775808 ≤ y) (y1 : y ≤ 9223372036854775807) :
    Calls Tryd.prog 6 #[.agg #[.slice A l.length c, .string s, .int .i64 y]] w fun e w' => e = .returned (.string (outT l s y)) ∧ Below w.heap.size w w' := by
  have B1 := (Below.refl w.heap.size w).alloc (Nat.le_refl _) (.cells #[.slice A l.length c, .string s, .int .i64 y] 27)
  have hbx := box_newO w A l.length c s y
  have hlt : w.heap.size < (w.alloc (.cells #[.slice A l.length c, .string s, .int .i64 y] 27)).heap.size := by simp
  have hsp : (⟨#[32]⟩ : ByteArray).size = 1 := rfl
  have HV := Lib.hid hv
  have hsz := Lib.hid (notesT_size hv)
  have hys := itoS_size y0 y1
  clear hv
  go_enter Tryd.func6, Tryd.ntmps6
  go_wp2_with fail
  generalize w.alloc (.cells #[.slice A l.length c, .string s, .int .i64 y] 27) = w1 at hbx B1 hlt ⊢
  obtain ⟨b, hb⟩ : ∃ b, w.heap.size = b := ⟨_, rfl⟩
  rw [hb] at hbx B1 hlt h ⊢
  have HB := Lib.hid hb
  clear hb
  obtain ⟨c0, c1, c2⟩ := hbx
  have h1 := h.below B1
  clear h
  go_loopw [4, 3] (fun i t wr => ∃ k : Nat, k ≤ l.length ∧ i = .int .i64 k ∧ t = .string (notesT (l.take k)) ∧ Below w1.heap.size w1 wr) (fun i _ _ => l.length - (intOf i).toNat)
  case atStart => exact ⟨0, Nat.zero_le _, rfl, by simp [notesT], Below.refl _ _⟩
  case round =>
    obtain ⟨k, hk, rfl, rfl, hbr⟩ := hrel
    have d0 := (hbr.cell (p := ⟨b, 0, none⟩) hlt).trans c0
    have hR := h1.below (hbr.mono (Nat.le_of_lt hlt))
    have hsk := hsz.out k hk
    by_cases hlt2 : k < l.length
    · obtain ⟨ad, rfl, _, hc⟩ := hR.at_ hlt2
      have Hs := Lib.hid (notesT_succ hlt2)
      obtain ⟨n0, n1⟩ := HV.out _ (List.getElem_mem hlt2)
      obtain ⟨n, hne⟩ : ∃ n, l[k] = n := ⟨_, rfl⟩
      rw [hne] at hc Hs n0 n1
      have hni := itoS_size n0 n1
      obtain ⟨T, hT⟩ : ∃ T, notesT (l.take k) = T := ⟨_, rfl⟩
      rw [hT] at hsk Hs ⊢
      have m1 : ¬ 9223372036854775807 < T.size + (itoS n).size := by omega
      have m2 : ¬ 9223372036854775807 < T.size + (itoS n).size + 1 := by omega
      clear hne hT
      go_wp2_with fail
      refine (l11Dec_all n wr n0 n1).mono ?_
      rintro e w2 ⟨rfl, hb2⟩
      go_wp2_with fail
      go_roundw
      case rel => exact ⟨k + 1, by omega, by go_num, by rw [Hs.out], hbr.trans (hb2.mono hbr.size)⟩
      case measure => simp [intOf]; omega
    · obtain rfl : k = l.length := by omega
      rw [List.take_length] at hsk ⊢
      have d1 := (hbr.cell (p := ⟨b, 1, none⟩) hlt).trans c1
      have d2 := (hbr.cell (p := ⟨b, 2, none⟩) hlt).trans c2
      have e1 : wr.drew.cell? ⟨b, 1, none⟩ = some (.string s) := d1
      have e2 : wr.drew.cell? ⟨b, 2, none⟩ = some (.int .i64 y) := d2
      have hlt3 : b < wr.heap.size := by have := hbr.size; omega
      obtain ⟨T, hT⟩ : ∃ T, notesT l = T := ⟨_, rfl⟩
      rw [hT] at hsk ⊢
      have HT := Lib.hid hT
      have m1 : ¬ 9223372036854775807 < T.size + s.size := by omega
      have m2 : ¬ 9223372036854775807 < T.size + s.size + 1 := by omega
      have m3 : ¬ 9223372036854775807 < T.size + s.size + 1 + (itoS y).size := by omega
      clear hT
      go_wp2_with fail
      go_region_held3 (fun w' => w'.cell? ⟨b, 1, none⟩ = some (.string s) ∧ w'.cell? ⟨b, 2, none⟩ = some (.int .i64 y)) (first | exact ⟨e1, e2⟩ | exact ⟨k1, k2⟩) (first | (go_at_call 12; refine (l11Dec_all y wr.drew y0 y1).mono ?_; rintro e w2 ⟨rfl, hb2⟩; have k1 := (hb2.cell (p := ⟨b, 1, none⟩) hlt3).trans d1; have k2 := (hb2.cell (p := ⟨b, 2, none⟩) hlt3).trans d2))
      go_wp2_with fail
      go_ret
      refine ⟨ret_str (by unfold outT; rw [HT.out]), ?_⟩
      rw [HB.out]
      exact (B1.trans (hbr.mono (Nat.le_of_lt hlt))).trans ((below_drew_ hb2).mono (Nat.le_of_lt hlt3))
end Go.Proofs.YthdnhaaojicmbaaDoor
