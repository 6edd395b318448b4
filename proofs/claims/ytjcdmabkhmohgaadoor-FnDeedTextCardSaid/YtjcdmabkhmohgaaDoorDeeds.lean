/-
  What functions over deeds, events, saids and offices by value return, for all arguments.
-/
import Derived.Test.YtjcdmabkhmohgaaDoorSmall
namespace Go.Proofs.YtjcdmabkhmohgaaDoor
open Go.RowKit
set_option linter.unusedSimpArgs false
set_option linter.unusedVariables false

def putL : List UInt8 := [112, 117, 116]
def takeL : List UInt8 := [116, 97, 107, 101]
def endL : List UInt8 := [101, 110, 100]
def lookL : List UInt8 := [108, 111, 111, 107]
def actB (L : List UInt8) : Bool := L == putL || L == takeL || L == endL || L == lookL
/-- a deed that is valid for so many lines -/
def deedB (L : List UInt8) (line word lines : Int) : Bool := inB lines 1 6 && (actB L && inB line 0 lines && inB word 0 1000 && (L == putL || word == 0))

theorem l1Act_any (s : ByteArray) (w : World) : Calls Tryd.prog 31 #[.string s] w fun e w' => e = .returned (.bool (actB s.toList)) ∧ w = w' := by
  go_enter Tryd.func31, Tryd.ntmps31
  go_wp2
  all_goals
    go_ret
    refine ⟨ret_bool ?_, rfl⟩
    simp [actB, putL, takeL, endL, lookL, *]
theorem l1Words_any (s : ByteArray) (w : World) : Calls Tryd.prog 29 #[.string s] w fun e w' => e = .returned (.bool (s.toList == putL)) ∧ w = w' := by
  go_enter Tryd.func29, Tryd.ntmps29
  go_wp2
  all_goals
    go_ret
    refine ⟨ret_bool ?_, rfl⟩
    simp [putL, *]
theorem l1Deed_any (s : ByteArray) (line word lines : Int) (w : World) : Calls Tryd.prog 21 #[.agg #[.string s, .int .i64 line, .int .i64 word], .int .i64 lines] w fun e w' =>
    e = .returned (.bool (actB s.toList && inB line 0 lines && inB word 0 1000 && (s.toList == putL || word == 0))) ∧ Below w.heap.size w w' := by
  cases h1 : actB s.toList
  · go_enter Tryd.func21, Tryd.ntmps21
    go_wp2_with (first | (go_at_call 31; refine (l1Act_any _ _).mono ?_; rintro e w' ⟨rfl, rfl⟩) | (go_at_call 29; refine (l1Words_any _ _).mono ?_; rintro e w' ⟨rfl, rfl⟩) | (go_at_call 28; refine (l1In_any _ _ _ _).mono ?_; rintro e w' ⟨rfl, rfl⟩))
    go_ret
    exact ⟨by simp, (Below.refl _ _).alloc (Nat.le_refl _) _⟩
  · cases h2 : inB line 0 lines
    · go_enter Tryd.func21, Tryd.ntmps21
      go_wp2_with (first | (go_at_call 31; refine (l1Act_any _ _).mono ?_; rintro e w' ⟨rfl, rfl⟩) | (go_at_call 29; refine (l1Words_any _ _).mono ?_; rintro e w' ⟨rfl, rfl⟩) | (go_at_call 28; refine (l1In_any _ _ _ _).mono ?_; rintro e w' ⟨rfl, rfl⟩))
      go_ret
      exact ⟨by simp, (Below.refl _ _).alloc (Nat.le_refl _) _⟩
    · cases h3 : inB word 0 1000
      · go_enter Tryd.func21, Tryd.ntmps21
        go_wp2_with (first | (go_at_call 31; refine (l1Act_any _ _).mono ?_; rintro e w' ⟨rfl, rfl⟩) | (go_at_call 29; refine (l1Words_any _ _).mono ?_; rintro e w' ⟨rfl, rfl⟩) | (go_at_call 28; refine (l1In_any _ _ _ _).mono ?_; rintro e w' ⟨rfl, rfl⟩))
        go_ret
        exact ⟨by simp, (Below.refl _ _).alloc (Nat.le_refl _) _⟩
      · cases h4 : s.toList == putL
        all_goals
          go_enter Tryd.func21, Tryd.ntmps21
          go_wp2_with (first | (go_at_call 31; refine (l1Act_any _ _).mono ?_; rintro e w' ⟨rfl, rfl⟩) | (go_at_call 29; refine (l1Words_any _ _).mono ?_; rintro e w' ⟨rfl, rfl⟩) | (go_at_call 28; refine (l1In_any _ _ _ _).mono ?_; rintro e w' ⟨rfl, rfl⟩))
          go_ret
          exact ⟨by simp, (Below.refl _ _).alloc (Nat.le_refl _) _⟩
theorem sDeedValid_any (s : ByteArray) (line word lines : Int) (w : World) : Calls Tryd.prog 14 #[.agg #[.string s, .int .i64 line, .int .i64 word], .int .i64 lines] w fun e w' =>
    e = .returned (.bool (deedB s.toList line word lines)) ∧ Below w.heap.size w w' := by
  cases h1 : inB lines 1 6
  · go_enter Tryd.func14, Tryd.ntmps14
    go_wp2_with (go_at_call 28; refine (l1In_any _ _ _ _).mono ?_; rintro e w' ⟨rfl, rfl⟩)
    go_ret
    exact ⟨by simp [deedB, h1], (Below.refl _ _).alloc (Nat.le_refl _) _⟩
  · go_enter Tryd.func14, Tryd.ntmps14
    go_wp2_with (first | (go_at_call 28; refine (l1In_any _ _ _ _).mono ?_; rintro e w' ⟨rfl, rfl⟩) | (go_at_call 21; refine (l1Deed_any _ _ _ _ _).mono ?_; rintro e w1 ⟨rfl, hb⟩))
    go_ret
    exact ⟨by simp [deedB, h1], ((Below.refl _ _).alloc (Nat.le_refl _) _).trans (hb.mono (by simp))⟩
theorem deedB_lines {L : List UInt8} {line word lines : Int} (h : ¬ (1 ≤ lines ∧ lines ≤ 6)) : deedB L line word lines = false := by simp [deedB, inB_false.2 h]
theorem deedB_line {L : List UInt8} {line word lines : Int} (h : ¬ (0 ≤ line ∧ line ≤ lines)) : deedB L line word lines = false := by simp [deedB, inB_false.2 h]
theorem deedB_rest {L : List UInt8} {line word lines : Int} (h : 1 ≤ lines ∧ lines ≤ 6) (h2 : 0 ≤ line ∧ line ≤ lines) : deedB L line word lines = (actB L && inB word 0 1000 && (L == putL || word == 0)) := by
  simp [deedB, inB_true.2 h, inB_true.2 h2]
theorem iDeedValid_any (s : ByteArray) (line word lines : Int) (w : World) : Calls Tryd.prog 9 #[.agg #[.string s, .int .i64 line, .int .i64 word], .int .i64 lines] w fun e w' =>
    e = .returned (.bool (deedB s.toList line word lines)) ∧ Below w.heap.size w w' := by
  by_cases h1 : lines < 1
  · have H := Lib.hid (deedB_lines (L := s.toList) (line := line) (word := word) (lines := lines) (by omega))
    go_enter Tryd.func9, Tryd.ntmps9
    go_wp2
    go_ret
    exact ⟨ret_bool H.out.symm, (Below.refl _ _).alloc (Nat.le_refl _) _⟩
  by_cases h2 : 6 < lines
  · have H := Lib.hid (deedB_lines (L := s.toList) (line := line) (word := word) (lines := lines) (by omega))
    go_enter Tryd.func9, Tryd.ntmps9
    go_wp2
    go_ret
    exact ⟨ret_bool H.out.symm, (Below.refl _ _).alloc (Nat.le_refl _) _⟩
  by_cases h3 : line < 0
  · have H := Lib.hid (deedB_line (L := s.toList) (line := line) (word := word) (lines := lines) (by omega))
    go_enter Tryd.func9, Tryd.ntmps9
    go_wp2
    go_ret
    exact ⟨ret_bool H.out.symm, (Below.refl _ _).alloc (Nat.le_refl _) _⟩
  by_cases h4 : lines < line
  · have H := Lib.hid (deedB_line (L := s.toList) (line := line) (word := word) (lines := lines) (by omega))
    go_enter Tryd.func9, Tryd.ntmps9
    go_wp2
    go_ret
    exact ⟨ret_bool H.out.symm, (Below.refl _ _).alloc (Nat.le_refl _) _⟩
  have H := Lib.hid (deedB_rest (L := s.toList) (line := line) (word := word) (lines := lines) (by omega) (by omega))
  have hz : (word == 0) = decide (0 ≤ word ∧ word ≤ 0) := by rw [Bool.eq_iff_iff]; simp; omega
  have Hz := Lib.hid hz
  clear hz
  go_enter Tryd.func9, Tryd.ntmps9
  go_wp2
  all_goals
    go_ret
    refine ⟨ret_bool ?_, (Below.refl _ _).alloc (Nat.le_refl _) _⟩
    rw [H.out]
    first
      | (simp_all [actB, putL, takeL, endL, lookL]; done)
      | (simp_all [actB, putL, takeL, endL, lookL, inB]; done)
      | (simp_all [actB, putL, takeL, endL, lookL, inB]; omega)
theorem toDeed_any (s : ByteArray) (line word : Int) (w : World) : Calls Tryd.prog 17 #[.agg #[.string s, .int .i64 line, .int .i64 word]] w fun e w' =>
    e = .returned (.agg #[.string s, .int .i64 line, .int .i64 word]) ∧ Below w.heap.size w w' := by
  go_enter Tryd.func17, Tryd.ntmps17
  go_wp2
  exact bodyPost_ret (v := .agg #[.string s, .int .i64 line, .int .i64 word]) (by simp [results, Tryd.results17, go_sem]) rfl ⟨rfl, (((Below.refl _ _).alloc (Nat.le_refl _) _).alloc (by simp) _).alloc (by simp; omega) _⟩
theorem szDeed_no (s : ByteArray) (line word left : Int) (w : World) (hs : s.size ≤ maxLen) (h0 : 0 ≤ left) (h1 : left ≤ 1048576) (h : left < s.size) : Calls Tryd.prog 16 #[.agg #[.string s, .int .i64 line, .int .i64 word], .int .i64 left] w fun e w' =>
    e = .returned (.int .i64 (-1)) ∧ Below w.heap.size w w' := by
  unfold maxLen at hs
  go_enter Tryd.func16, Tryd.ntmps16
  go_wp2
  go_ret
  exact ⟨rfl, (Below.refl _ _).alloc (Nat.le_refl _) _⟩
theorem szDeed_ok (s : ByteArray) (line word left : Int) (w : World) (h1 : left ≤ 1048576) (h : s.size ≤ left) : Calls Tryd.prog 16 #[.agg #[.string s, .int .i64 line, .int .i64 word], .int .i64 left] w fun e w' =>
    e = .returned (.int .i64 (left - s.size)) ∧ Below w.heap.size w w' := by
  go_enter Tryd.func16, Tryd.ntmps16
  go_wp2
  go_ret
  exact ⟨rfl, (Below.refl _ _).alloc (Nat.le_refl _) _⟩

def ringL : List UInt8 := [114, 105, 110, 103]
def hangL : List UInt8 := [104, 97, 110, 103]
def answerL : List UInt8 := [97, 110, 115, 119, 101, 114]
def returnL : List UInt8 := [114, 101, 116, 117, 114, 110]
def waitL : List UInt8 := [119, 97, 105, 116]
def eventIn (L : List UInt8) (who word ops : Int) : Bool := (L == ringL && inB who 1 99 && inB word 0 9) || (L == hangL && inB who 1 99 && word == 0) || ((L == answerL || L == returnL) && inB who 1 ops && word == 0) || (L == waitL && inB who 1 60 && word == 0)
def eventB (L : List UInt8) (who word ops : Int) : Bool := inB ops 1 4 && eventIn L who word ops
theorem eventB_ops {L : List UInt8} {who word ops : Int} (h : ¬ (1 ≤ ops ∧ ops ≤ 4)) : eventB L who word ops = false := by simp [eventB, inB_false.2 h]
theorem eventB_who {L : List UInt8} {who word ops : Int} (h : who < 1) : eventB L who word ops = false := by
  have : ∀ b, inB who 1 b = false := fun b => inB_false.2 (by omega)
  simp [eventB, eventIn, this]
theorem eventB_rest {L : List UInt8} {who word ops : Int} (h : 1 ≤ ops ∧ ops ≤ 4) : eventB L who word ops = eventIn L who word ops := by simp [eventB, inB_true.2 h]


def joinL : List UInt8 := [106, 111, 105, 110]
def leaveL : List UInt8 := [108, 101, 97, 118, 101]
def sayL : List UInt8 := [115, 97, 121]
def saidIn (L : List UInt8) (guest word guests : Int) : Bool := (L == joinL && inB guest 1 guests && inB word 1 9) || (L == leaveL && inB guest 1 guests && word == 0) || (L == sayL && inB guest 1 guests && inB word 0 1000)
def saidB (L : List UInt8) (guest word guests : Int) : Bool := inB guests 1 5 && saidIn L guest word guests
theorem saidB_guests {L : List UInt8} {who word ops : Int} (h : ¬ (1 ≤ ops ∧ ops ≤ 5)) : saidB L who word ops = false := by simp [saidB, inB_false.2 h]
theorem saidB_guest {L : List UInt8} {who word ops : Int} (h : ¬ (1 ≤ who ∧ who ≤ ops)) : saidB L who word ops = false := by simp [saidB, saidIn, inB_false.2 h]
theorem saidB_rest {L : List UInt8} {who word ops : Int} (h : 1 ≤ ops ∧ ops ≤ 5) : saidB L who word ops = saidIn L who word ops := by simp [saidB, inB_true.2 h]

/-- an office -/
def officeB (l o p : Int) : Bool := inB l 1 6 && inB o 1 4 && inB p 1 60
end Go.Proofs.YtjcdmabkhmohgaaDoor
