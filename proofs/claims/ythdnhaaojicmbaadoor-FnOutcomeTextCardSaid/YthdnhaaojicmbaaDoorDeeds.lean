/-
  What functions over deeds, events, saids and offices by value return, for all arguments.
-/
import Derived.Test.YthdnhaaojicmbaaDoorSmall
namespace Go.Proofs.YthdnhaaojicmbaaDoor
open Go.RowKit
set_option linter.unusedSimpArgs false
set_option linter.unusedVariables false

def putL : List UInt8 := [112, 117, 116]
def takeL : List UInt8 := [116, 97, 107, 101]
def endL : List UInt8 := [101, 110, 100]
def lookL : List UInt8 := [108, 111, 111, 107]
def actB (L : List UInt8) : Bool := L == putL || L == takeL || L == endL || L == lookL
/-- a deed that is valid for so many lines -/
def deedB (L : List UInt8) (line word lines : Int) : Bool := inB lines 1 6 && (actB L && inB line 0 lines && inB word 0 1000 && (L == putL || word == 0))


def ringL : List UInt8 := [114, 105, 110, 103]
def hangL : List UInt8 := [104, 97, 110, 103]
def answerL : List UInt8 := [97, 110, 115, 119, 101, 114]
def returnL : List UInt8 := [114, 101, 116, 117, 114, 110]
def waitL : List UInt8 := [119, 97, 105, 116]
def eventIn (L : List UInt8) (who word ops : Int) : Bool := (L == ringL && inB who 1 99 && inB word 0 9) || (L == hangL && inB who 1 99 && word == 0) || ((L == answerL || L == returnL) && inB who 1 ops && word == 0) || (L == waitL && inB who 1 60 && word == 0)
def eventB (L : List UInt8) (who word ops : Int) : Bool := inB ops 1 4 && eventIn L who word ops
theorem eventB_ops {L : List UInt8} {who word ops : Int} (h : ¬ (1 ≤ ops ∧ ops ≤ 4)) : eventB L who word ops = false := by simp [eventB, inB_false.2 h]
theorem eventB_who {L : List UInt8} {who word ops : Int} (h : who < 1) : eventB L who word ops = false := by
  have : ∀ b, inB who 1 b = false := fun b => inB_false.2 (by omega)
  simp [eventB, eventIn, this]
theorem eventB_rest {L : List UInt8} {who word ops : Int} (h : 1 ≤ ops ∧ ops ≤ 4) : eventB L who word ops = eventIn L who word ops := by simp [eventB, inB_true.2 h]


def joinL : List UInt8 := [106, 111, 105, 110]
def leaveL : List UInt8 := [108, 101, 97, 118, 101]
def sayL : List UInt8 := [115, 97, 121]
def saidIn (L : List UInt8) (guest word guests : Int) : Bool := (L == joinL && inB guest 1 guests && inB word 1 9) || (L == leaveL && inB guest 1 guests && word == 0) || (L == sayL && inB guest 1 guests && inB word 0 1000)
def saidB (L : List UInt8) (guest word guests : Int) : Bool := inB guests 1 5 && saidIn L guest word guests
theorem saidB_guests {L : List UInt8} {who word ops : Int} (h : ¬ (1 ≤ ops ∧ ops ≤ 5)) : saidB L who word ops = false := by simp [saidB, inB_false.2 h]
theorem saidB_guest {L : List UInt8} {who word ops : Int} (h : ¬ (1 ≤ who ∧ who ≤ ops)) : saidB L who word ops = false := by simp [saidB, saidIn, inB_false.2 h]
theorem saidB_rest {L : List UInt8} {who word ops : Int} (h : 1 ≤ ops ∧ ops ≤ 5) : saidB L who word ops = saidIn L who word ops := by simp [saidB, inB_true.2 h]

/-- an office -/
def officeB (l o p : Int) : Bool := inB l 1 6 && inB o 1 4 && inB p 1 60
end Go.Proofs.YthdnhaaojicmbaaDoor
