/-
  FormatDeed, by the reference and by the program; the law FnExactFormatDeed, walked.
-/
import Derived.Test.YtjcdmabkhmohgaaDoorFmt2
namespace Go.Proofs.YtjcdmabkhmohgaaDoor
open Go.RowKit
set_option linter.unusedSimpArgs false
set_option linter.unusedVariables false

/-- the text of a deed, none where it is not valid -/
def fmtD (s : ByteArray) (x y : Int) : ByteArray := if deedB s.toList x y 6 = true then s ++ ⟨#[32]⟩ ++ decS x.toNat ++ tailD s y.toNat else ByteArray.empty
theorem fmtD_no {s : ByteArray} {x y : Int} (h : deedB s.toList x y 6 = false) : fmtD s x y = ByteArray.empty := by unfold fmtD; rw [h]; rfl
theorem fmtD_yes {s : ByteArray} {x y : Nat} (h : deedB s.toList x y 6 = true) : fmtD s x y = s ++ ⟨#[32]⟩ ++ decS x ++ tailD s y := by unfold fmtD; rw [if_pos h]; rfl
theorem deedB_six (L : List UInt8) (x y : Int) : (actB L && inB x 0 6 && inB y 0 1000 && (L == putL || y == 0)) = deedB L x y 6 := by simp [deedB, inB]
theorem empty_str : ByteArray.empty = ⟨#[]⟩ := rfl
set_option maxHeartbeats 2000000 in
theorem sFormatDeed_any (s : ByteArray) (x y : Int) (w : World) (ha : s.size ≤ 1048576) :
    Calls Tryd.prog 8 #[.agg #[.string s, .int .i64 x, .int .i64 y]] w fun e w' => e = .returned (.string (fmtD s x y)) ∧ Below w.heap.size w w' := by
  have B1 := (Below.refl w.heap.size w).alloc (Nat.le_refl _) (.cells #[.string s, .int .i64 x, .int .i64 y] 24)
  have hle := B1.size
  have hd := fun W => l1Deed_any s x y 6 W
  simp only [deedB_six] at hd
  cases hv : deedB s.toList x y 6
  · have E := Lib.hid (fmtD_no hv)
    rw [hv] at hd
    clear hv
    go_enter Tryd.func8, Tryd.ntmps8
    go_wp2_with fail
    refine (hd _).mono ?_
    rintro e w2 ⟨rfl, hb2⟩
    go_wp2_with fail
    go_ret
    exact ⟨ret_str (by rw [E.out]; rfl), B1.trans (hb2.mono hle)⟩
  · rw [hv] at hd
    obtain ⟨hact, ⟨x0, x6⟩, ⟨y0, y6⟩, hput⟩ := deed_parts hv
    obtain ⟨X, rfl⟩ := Int.eq_ofNat_of_zero_le x0
    obtain ⟨Y, rfl⟩ := Int.eq_ofNat_of_zero_le y0
    have E := Lib.hid (fmtD_yes hv)
    have HT := Lib.hid (fun W => l1Text_any s X Y W ha (by omega) (by omega) (by rcases hput with h | h; exact .inl h; exact .inr (by omega)))
    clear hv hput hact
    go_enter Tryd.func8, Tryd.ntmps8
    go_wp2_with fail
    refine (hd _).mono ?_
    rintro e w2 ⟨rfl, hb2⟩
    have hbx := ((box_new w s X Y).below hb2 (by simp))
    have c2 := hb2.size
    obtain ⟨k0, k1, k2⟩ := hbx
    go_wp2_with fail
    refine (HT.out _).mono ?_
    rintro e w3 ⟨rfl, hb3⟩
    go_wp2_with fail
    go_ret
    exact ⟨ret_str (by rw [E.out]), (B1.trans (hb2.mono hle)).trans (hb3.mono (Nat.le_trans hle c2))⟩
set_option maxHeartbeats 2000000 in
theorem iFormatDeed_any (s : ByteArray) (x y : Int) (w : World) (ht : Tab w) (ha : s.size ≤ 1048576) :
    Calls Tryd.prog 7 #[.agg #[.string s, .int .i64 x, .int .i64 y]] w fun e w' => e = .returned (.string (fmtD s x y)) ∧ Below w.heap.size w w' := by
  have B1 := (Below.refl w.heap.size w).alloc (Nat.le_refl _) (.cells #[.string s, .int .i64 x, .int .i64 y] 24)
  have hle := B1.size
  have hd := fun W => iDeedValid_any s x y 6 W
  cases hv : deedB s.toList x y 6
  · have E := Lib.hid (fmtD_no hv)
    rw [hv] at hd
    clear hv
    go_enter Tryd.func7, Tryd.ntmps7
    go_wp2_with fail
    refine (hd _).mono ?_
    rintro e w2 ⟨rfl, hb2⟩
    go_wp2_with fail
    go_ret
    exact ⟨ret_str (by rw [E.out]; rfl), B1.trans (hb2.mono hle)⟩
  · rw [hv] at hd
    obtain ⟨hact, ⟨x0, x6⟩, ⟨y0, y6⟩, hput⟩ := deed_parts hv
    obtain ⟨X, rfl⟩ := Int.eq_ofNat_of_zero_le x0
    obtain ⟨Y, rfl⟩ := Int.eq_ofNat_of_zero_le y0
    have E := Lib.hid (fmtD_yes hv)
    have h1 := decS_size (n := X) (by omega)
    have h2 := decS_size (n := Y) (by omega)
    have hsp : (⟨#[32]⟩ : ByteArray).size = 1 := rfl
    have n1 : ¬ 9223372036854775807 < s.size + 1 := by omega
    have n2 : ¬ 9223372036854775807 < s.size + 1 + (decS X).size := by omega
    have n3 : ¬ 9223372036854775807 < 1 + (decS Y).size := by omega
    have n4 : ¬ 9223372036854775807 < s.size + 1 + (decS X).size + (1 + (decS Y).size) := by omega
    clear hv hact
    go_enter Tryd.func7, Tryd.ntmps7
    go_wp2_with fail
    refine (hd _).mono ?_
    rintro e w2 ⟨rfl, hb2⟩
    have hbx := ((box_new w s X Y).below hb2 (by simp))
    have hT2 := ht.below (B1.trans (hb2.mono hle))
    have hlt : w.heap.size < w2.heap.size := by have := hb2.size; simp at this; omega
    have B2 := B1.trans (hb2.mono hle)
    go_wp2_with fail
    obtain ⟨b, hb⟩ : ∃ b, w.heap.size = b := ⟨_, rfl⟩
    rw [hb] at hbx hlt ⊢
    have HB := Lib.hid hb
    clear hb
    obtain ⟨c0, c1, c2⟩ := hbx
    have d0 : w2.drew.cell? ⟨b, 0, none⟩ = some (.string s) := c0
    have d1 : w2.drew.cell? ⟨b, 1, none⟩ = some (.int .i64 X) := c1
    clear B1 hb2 hle hd
    go_region_held3 (fun w' => w'.cell? ⟨b, 0, none⟩ = some (.string s) ∧ w'.cell? ⟨b, 1, none⟩ = some (.int .i64 X)) (first | exact ⟨d0, d1⟩ | exact ⟨k0, k1⟩) (first | (go_at_call 20; refine (itoa_any X w2.drew hT2 (by omega)).mono ?_; rintro e w3 ⟨rfl, hb3⟩; have k0 := (hb3.cell (p := ⟨b, 0, none⟩) hlt).trans c0; have k1 := (hb3.cell (p := ⟨b, 1, none⟩) hlt).trans c1))
    have B3 := B2.trans ((below_drew_ hb3).mono (B2.size))
    have hT3 := hT2.below (below_drew_ hb3)
    have e0 := k0
    have e2 := (hb3.cell (p := ⟨b, 2, none⟩) hlt).trans c2
    clear c0 c1 c2 d0 d1 k0 k1 hb3 B2
    cases hp : s.toList == putL
    · have Hp := Lib.hid hp
      have hp' : (s.toList == [112, 117, 116]) = false := hp
      clear hp hput
      go_wp2_with fail
      go_ret
      exact ⟨ret_str (by rw [E.out, tailD_no Hp.out]; simp), B3⟩
    · have Hp := Lib.hid hp
      have hp' : (s.toList == [112, 117, 116]) = true := hp
      clear hp hput
      go_wp2_with fail
      refine (itoa_any Y w3 hT3 (by omega)).mono ?_
      rintro e w4 ⟨rfl, hb4⟩
      go_wp2_with fail
      go_ret
      exact ⟨ret_str (by rw [E.out, tailD_put Hp.out]), B3.trans (hb4.mono B3.size)⟩
end Go.Proofs.YtjcdmabkhmohgaaDoor
