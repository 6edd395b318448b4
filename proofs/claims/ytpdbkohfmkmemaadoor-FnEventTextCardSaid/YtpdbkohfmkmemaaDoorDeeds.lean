/-
  What functions over deeds, events, saids and offices by value return, for all arguments.
-/
import Derived.Test.YtpdbkohfmkmemaaDoorSmall
namespace Go.Proofs.YtpdbkohfmkmemaaDoor
open Go.RowKit
set_option linter.unusedSimpArgs false
set_option linter.unusedVariables false

def putL : List UInt8 := [112, 117, 116]
def takeL : List UInt8 := [116, 97, 107, 101]
def endL : List UInt8 := [101, 110, 100]
def lookL : List UInt8 := [108, 111, 111, 107]
def actB (L : List UInt8) : Bool := L == putL || L == takeL || L == endL || L == lookL
/-- a deed that is valid for so many lines -/
def deedB (L : List UInt8) (line word lines : Int) : Bool := inB lines 1 6 && (actB L && inB line 0 lines && inB word 0 1000 && (L == putL || word == 0))

theorem toEvent_any (s : ByteArray) (line word : Int) (w : World) : Calls Tryd.prog 11 #[.agg #[.string s, .int .i64 line, .int .i64 word]] w fun e w' =>
    e = .returned (.agg #[.string s, .int .i64 line, .int .i64 word]) ∧ Below w.heap.size w w' := by
  go_enter Tryd.func11, Tryd.ntmps11
  go_wp2
  exact bodyPost_ret (v := .agg #[.string s, .int .i64 line, .int .i64 word]) (by simp [results, Tryd.results11, go_sem]) rfl ⟨rfl, (((Below.refl _ _).alloc (Nat.le_refl _) _).alloc (by simp) _).alloc (by simp; omega) _⟩
theorem szEvent_no (s : ByteArray) (line word left : Int) (w : World) (hs : s.size ≤ maxLen) (h0 : 0 ≤ left) (h1 : left ≤ 1048576) (h : left < s.size) : Calls Tryd.prog 9 #[.agg #[.string s, .int .i64 line, .int .i64 word], .int .i64 left] w fun e w' =>
    e = .returned (.int .i64 (-1)) ∧ Below w.heap.size w w' := by
  unfold maxLen at hs
  go_enter Tryd.func9, Tryd.ntmps9
  go_wp2
  go_ret
  exact ⟨rfl, (Below.refl _ _).alloc (Nat.le_refl _) _⟩
theorem szEvent_ok (s : ByteArray) (line word left : Int) (w : World) (h1 : left ≤ 1048576) (h : s.size ≤ left) : Calls Tryd.prog 9 #[.agg #[.string s, .int .i64 line, .int .i64 word], .int .i64 left] w fun e w' =>
    e = .returned (.int .i64 (left - s.size)) ∧ Below w.heap.size w w' := by
  go_enter Tryd.func9, Tryd.ntmps9
  go_wp2
  go_ret
  exact ⟨rfl, (Below.refl _ _).alloc (Nat.le_refl _) _⟩

def ringL : List UInt8 := [114, 105, 110, 103]
def hangL : List UInt8 := [104, 97, 110, 103]
def answerL : List UInt8 := [97, 110, 115, 119, 101, 114]
def returnL : List UInt8 := [114, 101, 116, 117, 114, 110]
def waitL : List UInt8 := [119, 97, 105, 116]
def eventIn (L : List UInt8) (who word ops : Int) : Bool := (L == ringL && inB who 1 99 && inB word 0 9) || (L == hangL && inB who 1 99 && word == 0) || ((L == answerL || L == returnL) && inB who 1 ops && word == 0) || (L == waitL && inB who 1 60 && word == 0)
def eventB (L : List UInt8) (who word ops : Int) : Bool := inB ops 1 4 && eventIn L who word ops
theorem eventB_ops {L : List UInt8} {who word ops : Int} (h : ¬ (1 ≤ ops ∧ ops ≤ 4)) : eventB L who word ops = false := by simp [eventB, inB_false.2 h]
theorem eventB_who {L : List UInt8} {who word ops : Int} (h : who < 1) : eventB L who word ops = false := by
  have : ∀ b, inB who 1 b = false := fun b => inB_false.2 (by omega)
  simp [eventB, eventIn, this]
theorem eventB_rest {L : List UInt8} {who word ops : Int} (h : 1 ≤ ops ∧ ops ≤ 4) : eventB L who word ops = eventIn L who word ops := by simp [eventB, inB_true.2 h]

theorem l6Event_any (s : ByteArray) (who word ops : Int) (w : World) : Calls Tryd.prog 20 #[.agg #[.string s, .int .i64 who, .int .i64 word], .int .i64 ops] w fun e w' =>
    e = .returned (.bool (eventIn s.toList who word ops)) ∧ Below w.heap.size w w' := by
  go_enter Tryd.func20, Tryd.ntmps20
  go_wp2_with (go_at_call 29; refine (l1In_any _ _ _ _).mono ?_; rintro e w' ⟨rfl, rfl⟩)
  all_goals
    go_ret
    refine ⟨ret_bool ?_, (Below.refl _ _).alloc (Nat.le_refl _) _⟩
    first
      | (simp_all [eventIn, ringL, hangL, answerL, returnL, waitL]; done)
      | (simp_all [eventIn, ringL, hangL, answerL, returnL, waitL, inB]; done)
      | (simp_all [eventIn, ringL, hangL, answerL, returnL, waitL, inB]; omega)
theorem sEventValid_any (s : ByteArray) (who word ops : Int) (w : World) : Calls Tryd.prog 17 #[.agg #[.string s, .int .i64 who, .int .i64 word], .int .i64 ops] w fun e w' =>
    e = .returned (.bool (eventB s.toList who word ops)) ∧ Below w.heap.size w w' := by
  cases h1 : inB ops 1 4
  · go_enter Tryd.func17, Tryd.ntmps17
    go_wp2_with (go_at_call 29; refine (l1In_any _ _ _ _).mono ?_; rintro e w' ⟨rfl, rfl⟩)
    go_ret
    exact ⟨by simp [eventB, h1], (Below.refl _ _).alloc (Nat.le_refl _) _⟩
  · go_enter Tryd.func17, Tryd.ntmps17
    go_wp2_with (first | (go_at_call 29; refine (l1In_any _ _ _ _).mono ?_; rintro e w' ⟨rfl, rfl⟩) | (go_at_call 20; refine (l6Event_any _ _ _ _ _).mono ?_; rintro e w1 ⟨rfl, hb⟩))
    go_ret
    exact ⟨by simp [eventB, h1], ((Below.refl _ _).alloc (Nat.le_refl _) _).trans (hb.mono (by simp))⟩
theorem iEventValid_any (s : ByteArray) (who word ops : Int) (w : World) : Calls Tryd.prog 14 #[.agg #[.string s, .int .i64 who, .int .i64 word], .int .i64 ops] w fun e w' =>
    e = .returned (.bool (eventB s.toList who word ops)) ∧ Below w.heap.size w w' := by
  by_cases h1 : ops < 1
  · have H := Lib.hid (eventB_ops (L := s.toList) (who := who) (word := word) (ops := ops) (by omega))
    go_enter Tryd.func14, Tryd.ntmps14
    go_wp2
    go_ret
    exact ⟨ret_bool H.out.symm, (Below.refl _ _).alloc (Nat.le_refl _) _⟩
  by_cases h2 : 4 < ops
  · have H := Lib.hid (eventB_ops (L := s.toList) (who := who) (word := word) (ops := ops) (by omega))
    go_enter Tryd.func14, Tryd.ntmps14
    go_wp2
    go_ret
    exact ⟨ret_bool H.out.symm, (Below.refl _ _).alloc (Nat.le_refl _) _⟩
  by_cases h3 : who < 1
  · have H := Lib.hid (eventB_who (L := s.toList) (word := word) (ops := ops) h3)
    go_enter Tryd.func14, Tryd.ntmps14
    go_wp2
    go_ret
    exact ⟨ret_bool H.out.symm, (Below.refl _ _).alloc (Nat.le_refl _) _⟩
  have H := Lib.hid (eventB_rest (L := s.toList) (who := who) (word := word) (ops := ops) (by omega))
  go_enter Tryd.func14, Tryd.ntmps14
  go_wp2
  all_goals
    go_ret
    refine ⟨ret_bool ?_, (Below.refl _ _).alloc (Nat.le_refl _) _⟩
    rw [H.out]
    first
      | (simp_all [eventIn, ringL, hangL, answerL, returnL, waitL]; done)
      | (simp_all [eventIn, ringL, hangL, answerL, returnL, waitL, inB]; done)
      | (simp_all [eventIn, ringL, hangL, answerL, returnL, waitL, inB]; omega)

def joinL : List UInt8 := [106, 111, 105, 110]
def leaveL : List UInt8 := [108, 101, 97, 118, 101]
def sayL : List UInt8 := [115, 97, 121]
def saidIn (L : List UInt8) (guest word guests : Int) : Bool := (L == joinL && inB guest 1 guests && inB word 1 9) || (L == leaveL && inB guest 1 guests && word == 0) || (L == sayL && inB guest 1 guests && inB word 0 1000)
def saidB (L : List UInt8) (guest word guests : Int) : Bool := inB guests 1 5 && saidIn L guest word guests
theorem saidB_guests {L : List UInt8} {who word ops : Int} (h : ¬ (1 ≤ ops ∧ ops ≤ 5)) : saidB L who word ops = false := by simp [saidB, inB_false.2 h]
theorem saidB_guest {L : List UInt8} {who word ops : Int} (h : ¬ (1 ≤ who ∧ who ≤ ops)) : saidB L who word ops = false := by simp [saidB, saidIn, inB_false.2 h]
theorem saidB_rest {L : List UInt8} {who word ops : Int} (h : 1 ≤ ops ∧ ops ≤ 5) : saidB L who word ops = saidIn L who word ops := by simp [saidB, inB_true.2 h]

/-- an office -/
def officeB (l o p : Int) : Bool := inB l 1 6 && inB o 1 4 && inB p 1 60
end Go.Proofs.YtpdbkohfmkmemaaDoor
