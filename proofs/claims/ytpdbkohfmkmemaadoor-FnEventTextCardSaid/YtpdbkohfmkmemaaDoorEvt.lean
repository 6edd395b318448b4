/-
  FormatEvent, by the reference.
-/
import Derived.Test.YtpdbkohfmkmemaaDoorFmt2
namespace Go.Proofs.YtpdbkohfmkmemaaDoor
open Go.RowKit
set_option linter.unusedSimpArgs false
set_option linter.unusedVariables false

theorem box_newE (w : World) (s : ByteArray) (x y : Int) : boxD (w.alloc (.cells #[.string s, .int .i64 x, .int .i64 y] 23)) w.heap.size s x y := by
  have h := Blk.new w 23 #[.string s, .int .i64 x, .int .i64 y]
  exact ⟨(h.cell 0).trans rfl, (h.cell 1).trans rfl, (h.cell 2).trans rfl⟩
/-- the word of an event that rings -/
def tailE (s : ByteArray) (y : Nat) : ByteArray := if (s.toList == ringL) = true then ⟨#[32]⟩ ++ decS y else ByteArray.empty
theorem tailE_ring {s : ByteArray} (h : (s.toList == ringL) = true) (y : Nat) : tailE s y = ⟨#[32]⟩ ++ decS y := by unfold tailE; rw [if_pos h]
theorem tailE_no {s : ByteArray} (h : (s.toList == ringL) = false) (y : Nat) : tailE s y = ByteArray.empty := by unfold tailE; rw [h]; rfl
/-- the text of an event, none where it is not valid -/
def fmtE (s : ByteArray) (x y : Int) : ByteArray := if eventIn s.toList x y 4 = true then s ++ ⟨#[32]⟩ ++ decS x.toNat ++ tailE s y.toNat else ByteArray.empty
theorem fmtE_no {s : ByteArray} {x y : Int} (h : eventIn s.toList x y 4 = false) : fmtE s x y = ByteArray.empty := by unfold fmtE; rw [h]; rfl
theorem fmtE_yes {s : ByteArray} {x y : Nat} (h : eventIn s.toList x y 4 = true) : fmtE s x y = s ++ ⟨#[32]⟩ ++ decS x ++ tailE s y := by unfold fmtE; rw [if_pos h]; rfl
theorem event_parts {L : List UInt8} {x y : Int} (h : eventIn L x y 4 = true) : (0 ≤ x ∧ x ≤ 99) ∧ (0 ≤ y ∧ y ≤ 9) := by
  simp only [eventIn, Bool.or_eq_true, Bool.and_eq_true, inB_true, beq_iff_eq] at h
  omega
set_option maxHeartbeats 2000000 in
theorem sFormatEvent_any (s : ByteArray) (x y : Int) (w : World) (ha : s.size ≤ 1048576) :
    Calls Tryd.prog 10 #[.agg #[.string s, .int .i64 x, .int .i64 y]] w fun e w' => e = .returned (.string (fmtE s x y)) ∧ Below w.heap.size w w' := by
  have B1 := (Below.refl w.heap.size w).alloc (Nat.le_refl _) (.cells #[.string s, .int .i64 x, .int .i64 y] 23)
  have hle := B1.size
  have hd := fun W => l6Event_any s x y 4 W
  cases hv : eventIn s.toList x y 4
  · have E := Lib.hid (fmtE_no hv)
    rw [hv] at hd
    clear hv
    go_enter Tryd.func10, Tryd.ntmps10
    go_wp2_with fail
    refine (hd _).mono ?_
    rintro e w2 ⟨rfl, hb2⟩
    go_wp2_with fail
    go_ret
    exact ⟨ret_str (by rw [E.out]; rfl), B1.trans (hb2.mono hle)⟩
  · rw [hv] at hd
    obtain ⟨⟨x0, x6⟩, ⟨y0, y6⟩⟩ := event_parts hv
    obtain ⟨X, rfl⟩ := Int.eq_ofNat_of_zero_le x0
    obtain ⟨Y, rfl⟩ := Int.eq_ofNat_of_zero_le y0
    have E := Lib.hid (fmtE_yes hv)
    have h1 := decS_size (n := X) (by omega)
    have h2 := decS_size (n := Y) (by omega)
    have hsp : (⟨#[32]⟩ : ByteArray).size = 1 := rfl
    have n1 : ¬ 9223372036854775807 < s.size + 1 := by omega
    have n2 : ¬ 9223372036854775807 < s.size + 1 + (decS X).size := by omega
    have n3 : ¬ 9223372036854775807 < s.size + 1 + (decS X).size + 1 := by omega
    have n4 : ¬ 9223372036854775807 < s.size + 1 + (decS X).size + 1 + (decS Y).size := by omega
    clear hv
    go_enter Tryd.func10, Tryd.ntmps10
    go_wp2_with fail
    refine (hd _).mono ?_
    rintro e w2 ⟨rfl, hb2⟩
    have hbx := ((box_newE w s X Y).below hb2 (by simp))
    have hlt : w.heap.size < w2.heap.size := by have := hb2.size; simp at this; omega
    have B2 := B1.trans (hb2.mono hle)
    go_wp2_with fail
    obtain ⟨b, hb⟩ : ∃ b, w.heap.size = b := ⟨_, rfl⟩
    rw [hb] at hbx hlt ⊢
    have HB := Lib.hid hb
    clear hb
    obtain ⟨c0, c1, c2⟩ := hbx
    have d0 : w2.drew.cell? ⟨b, 0, none⟩ = some (.string s) := c0
    have d1 : w2.drew.cell? ⟨b, 1, none⟩ = some (.int .i64 X) := c1
    clear B1 hb2 hle hd
    go_region_held3 (fun w' => w'.cell? ⟨b, 0, none⟩ = some (.string s) ∧ w'.cell? ⟨b, 1, none⟩ = some (.int .i64 X)) (first | exact ⟨d0, d1⟩ | exact ⟨k0, k1⟩) (first | (go_at_call 21; refine (l11Dec_any X w2.drew (by omega)).mono ?_; rintro e w3 ⟨rfl, hb3⟩; have k0 := (hb3.cell (p := ⟨b, 0, none⟩) hlt).trans c0; have k1 := (hb3.cell (p := ⟨b, 1, none⟩) hlt).trans c1))
    have B3 := B2.trans ((below_drew_ hb3).mono (B2.size))
    have e0 := k0
    have e2 := (hb3.cell (p := ⟨b, 2, none⟩) hlt).trans c2
    clear c0 c1 c2 d0 d1 k0 k1 hb3 B2
    cases hp : s.toList == ringL
    · have Hp := Lib.hid hp
      have hp' : (s.toList == [114, 105, 110, 103]) = false := hp
      clear hp
      go_wp2_with fail
      go_ret
      exact ⟨ret_str (by rw [E.out, tailE_no Hp.out]; simp), B3⟩
    · have Hp := Lib.hid hp
      have hp' : (s.toList == [114, 105, 110, 103]) = true := hp
      clear hp
      go_wp2_with fail
      refine (l11Dec_any Y w3 (by omega)).mono ?_
      rintro e w4 ⟨rfl, hb4⟩
      go_wp2_with fail
      go_ret
      exact ⟨ret_str (by rw [E.out, tailE_ring Hp.out]; simp [ByteArray.append_assoc]), B3.trans (hb4.mono B3.size)⟩
end Go.Proofs.YtpdbkohfmkmemaaDoor
