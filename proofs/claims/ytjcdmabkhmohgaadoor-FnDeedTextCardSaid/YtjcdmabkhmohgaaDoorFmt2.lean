/-
  FormatDeed, by the reference and by the program; the law FnExactFormatDeed, walked.
-/
import Derived.Test.YtjcdmabkhmohgaaDoorFmt
namespace Go.Proofs.YtjcdmabkhmohgaaDoor
open Go.RowKit
set_option linter.unusedSimpArgs false
set_option linter.unusedVariables false

theorem below_drew_ {w w' : World} (h : Below w.drew.heap.size w.drew w') : Below w.heap.size w w' := ((Below.refl _ _).drew).trans h
theorem deed_parts {L : List UInt8} {x y : Int} (h : deedB L x y 6 = true) : actB L = true ∧ (0 ≤ x ∧ x ≤ 6) ∧ (0 ≤ y ∧ y ≤ 1000) ∧ ((L == putL) = true ∨ y = 0) := by
  simp only [deedB, Bool.and_eq_true, Bool.or_eq_true] at h
  exact ⟨h.2.1.1.1, inB_true.1 h.2.1.1.2, inB_true.1 h.2.1.2, by simpa using h.2.2⟩
/-- what lies in a deed's box -/
def boxD (w : World) (b : Nat) (s : ByteArray) (x y : Int) : Prop := w.cell? ⟨b, 0, none⟩ = some (.string s) ∧ w.cell? ⟨b, 1, none⟩ = some (.int .i64 x) ∧ w.cell? ⟨b, 2, none⟩ = some (.int .i64 y)
theorem box_new (w : World) (s : ByteArray) (x y : Int) : boxD (w.alloc (.cells #[.string s, .int .i64 x, .int .i64 y] 24)) w.heap.size s x y := by
  have h := Blk.new w 24 #[.string s, .int .i64 x, .int .i64 y]
  exact ⟨(h.cell 0).trans rfl, (h.cell 1).trans rfl, (h.cell 2).trans rfl⟩
theorem boxD.below {w w' : World} {b : Nat} {s : ByteArray} {x y : Int} (h : boxD w b s x y) (hb : Below w.heap.size w w') (hlt : b < w.heap.size) : boxD w' b s x y :=
  ⟨(hb.cell (p := ⟨b, 0, none⟩) hlt).trans h.1, (hb.cell (p := ⟨b, 1, none⟩) hlt).trans h.2.1, (hb.cell (p := ⟨b, 2, none⟩) hlt).trans h.2.2⟩
/-- the word of a deed that puts one -/
def tailD (s : ByteArray) (y : Nat) : ByteArray := if (s.toList == putL) = true then ⟨#[32]⟩ ++ decS y else ByteArray.empty
theorem tailD_put {s : ByteArray} (h : (s.toList == putL) = true) (y : Nat) : tailD s y = ⟨#[32]⟩ ++ decS y := by unfold tailD; rw [if_pos h]
theorem tailD_no {s : ByteArray} (h : (s.toList == putL) = false) (y : Nat) : tailD s y = ByteArray.empty := by unfold tailD; rw [h]; rfl
set_option maxHeartbeats 400000 in
theorem l1Text_any (s : ByteArray) (x y : Nat) (w : World) (ha : s.size ≤ 1048576) (hx : x ≤ 6) (hy : y ≤ 1000) (hp : (s.toList == putL) = true ∨ y = 0) :
    Calls Tryd.prog 22 #[.agg #[.string s, .int .i64 x, .int .i64 y]] w fun e w' => e = .returned (.string (s ++ ⟨#[32]⟩ ++ decS x ++ tailD s y)) ∧ Below w.heap.size w w' := by
  have h1 := decS_size (n := x) (by omega)
  have h2 := decS_size (n := y) (by omega)
  have hsp : (⟨#[32]⟩ : ByteArray).size = 1 := rfl
  have n1 : ¬ 9223372036854775807 < s.size + 1 := by omega
  have n2 : ¬ 9223372036854775807 < s.size + 1 + (decS x).size := by omega
  have n3 : ¬ 9223372036854775807 < s.size + 1 + (decS x).size + 1 := by omega
  have n4 : ¬ 9223372036854775807 < s.size + 1 + (decS x).size + 1 + (decS y).size := by omega
  have hbx := box_new w s x y
  have B1 := (Below.refl w.heap.size w).alloc (Nat.le_refl _) (.cells #[.string s, .int .i64 x, .int .i64 y] 24)
  have hlt : w.heap.size < (w.alloc (.cells #[.string s, .int .i64 x, .int .i64 y] 24)).heap.size := by simp
  go_enter Tryd.func22, Tryd.ntmps22
  go_wp2_with fail
  generalize w.alloc (.cells #[.string s, .int .i64 x, .int .i64 y] 24) = w1 at hbx B1 hlt ⊢
  obtain ⟨b, hb⟩ : ∃ b, w.heap.size = b := ⟨_, rfl⟩
  rw [hb] at hbx B1 hlt ⊢
  have HB := Lib.hid hb
  clear hb
  obtain ⟨c0, c1, c2⟩ := hbx
  have d0 : w1.drew.cell? ⟨b, 0, none⟩ = some (.string s) := c0
  have d1 : w1.drew.cell? ⟨b, 1, none⟩ = some (.int .i64 x) := c1
  go_region_held3 (fun w' => w'.cell? ⟨b, 0, none⟩ = some (.string s) ∧ w'.cell? ⟨b, 1, none⟩ = some (.int .i64 x)) (first | exact ⟨d0, d1⟩ | exact ⟨k0, k1⟩) (first | (go_at_call 32; refine (l11Dec_any x w1.drew (by omega)).mono ?_; rintro e w2 ⟨rfl, hb2⟩; have k0 := (hb2.cell (p := ⟨b, 0, none⟩) hlt).trans c0; have k1 := (hb2.cell (p := ⟨b, 1, none⟩) hlt).trans c1))
  have B2 : Below w.heap.size w w2 := by rw [HB.out]; exact B1.trans ((below_drew_ hb2).mono (Nat.le_of_lt hlt))
  have e0 := k0
  have e2 := (hb2.cell (p := ⟨b, 2, none⟩) hlt).trans c2
  clear c0 c1 c2 d0 d1 k0 k1 hb2 B1
  cases hput : s.toList == putL
  · have Hp := Lib.hid hput
    have hy0 : y = 0 := by
      rcases hp with h | h
      · rw [hput] at h; cases h
      · exact h
    have hy0' : ¬ (0 : Int) < y := by omega
    have HY := Lib.hid hy0
    clear hy0 hp
    go_wp2_with fail
    refine (l1Words_any s w2).mono ?_
    rintro e w' ⟨rfl, rfl⟩
    rw [hput]
    go_wp2_with fail
    go_ret
    exact ⟨ret_str (by rw [tailD_no Hp.out]; simp), B2⟩
  · have Hp := Lib.hid hput
    clear hput
    by_cases hy0 : (0 : Int) < y
    · go_wp2_with fail
      refine (l11Dec_any y w2 (by omega)).mono ?_
      rintro e w3 ⟨rfl, hb3⟩
      go_wp2_with fail
      go_ret
      exact ⟨ret_str (by rw [tailD_put Hp.out]; simp [ByteArray.append_assoc]), B2.trans (hb3.mono B2.size)⟩
    · obtain rfl : y = 0 := by omega
      have hz := fun W => l11Dec_any 0 W (by omega)
      have e2' : w2.cell? ⟨b, 2, none⟩ = some (.int .i64 0) := e2
      clear hy0 hp e2
      go_wp2_with fail
      refine (l1Words_any s w2).mono ?_
      rintro e w' ⟨rfl, rfl⟩
      rw [Hp.out]
      go_wp2_with fail
      refine Calls.mono (hz w2) ?_
      rintro e w3 ⟨rfl, hb3⟩
      go_wp2_with fail
      go_ret
      exact ⟨ret_str (by rw [tailD_put Hp.out]; simp [ByteArray.append_assoc]), B2.trans (hb3.mono B2.size)⟩
end Go.Proofs.YtjcdmabkhmohgaaDoor
