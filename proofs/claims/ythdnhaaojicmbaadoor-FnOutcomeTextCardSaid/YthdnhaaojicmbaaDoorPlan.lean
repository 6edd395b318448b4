/-
  Which plans and tables are valid, by the reference and by the program.
-/
import Derived.Test.YthdnhaaojicmbaaDoorDeedS
namespace Go.Proofs.YthdnhaaojicmbaaDoor
open Go.RowKit
set_option linter.unusedSimpArgs false
set_option linter.unusedVariables false

def passL : List UInt8 := [112, 97, 115, 115]
def eachL : List UInt8 := [101, 97, 99, 104]
def earB (L : List UInt8) : Bool := L == takeL || L == eachL
def act3B (L : List UInt8) : Bool := L == putL || L == passL || L == endL || earB L
/-- a deed that can stand in a plan -/
def planDB (L : List UInt8) (line word lines : Int) : Bool := act3B L && inB line 0 lines && inB word 0 1000 && (L == putL || word == 0)
theorem l3Takes_any (s : ByteArray) (w : World) : Calls Tryd.prog 61 #[.string s] w fun e w' => e = .returned (.bool (earB s.toList)) ∧ w = w' := by
  go_enter Tryd.func61, Tryd.ntmps61
  go_wp2
  all_goals
    go_ret
    refine ⟨ret_bool ?_, rfl⟩
    simp [earB, takeL, eachL, *]
theorem l3Act_any (s : ByteArray) (w : World) : Calls Tryd.prog 55 #[.string s] w fun e w' => e = .returned (.bool (act3B s.toList)) ∧ w = w' := by
  go_enter Tryd.func55, Tryd.ntmps55
  go_wp2_with (go_at_call 61; refine (l3Takes_any _ _).mono ?_; rintro e w' ⟨rfl, rfl⟩)
  all_goals
    go_ret
    refine ⟨ret_bool ?_, rfl⟩
    simp [act3B, putL, passL, endL, *]

/-- a deed of a list, as data -/
def okAll (p : Dd → Bool) (l : List Dd) : Bool := l.all p
theorem okAll_no {p : Dd → Bool} {l : List Dd} {k : Nat} (hk : k < l.length) (h : p l[k] = false) : okAll p l = false := by
  unfold okAll
  rw [List.all_eq_false]
  exact ⟨l[k], List.getElem_mem hk, by simp [h]⟩
theorem okAll_succ {p : Dd → Bool} {l : List Dd} {k : Nat} (hk : k < l.length) (h1 : okAll p (l.take k) = true) (h : p l[k] = true) : okAll p (l.take (k + 1)) = true := by
  unfold okAll at *
  rw [take_snoc l k hk, List.all_append, h1]
  simp [h]
def planP (lines : Int) (d : Dd) : Bool := planDB d.1.toList d.2.1 d.2.2 lines
def planB (l : List Dd) (lines : Int) : Bool := okAll (planP lines) l && inB lines 1 6 && decide ((l.length : Int) ≤ 12)
set_option maxHeartbeats 2000000 in
theorem sPlanValid_any (A : Option Addr) (c : Nat) (l : List Dd) (lines : Int) (w : World) (h : RD w w.heap.size A l) (hn : l.length ≤ 1048576) :
    Calls Tryd.prog 45 #[.slice A l.length c, .int .i64 lines] w fun e w' => e = .returned (.bool (planB l lines)) ∧ Below w.heap.size w w' := by
  go_enter Tryd.func45, Tryd.ntmps45
  go_wp2
  go_loopw [5] (fun i wr => ∃ k : Nat, k ≤ l.length ∧ i = .int .i64 k ∧ okAll (planP lines) (l.take k) = true ∧ Below w.heap.size w wr) (fun i _ => l.length - (intOf i).toNat)
  case atStart => exact ⟨0, Nat.zero_le _, rfl, by simp [okAll], Below.refl _ _⟩
  case round =>
    obtain ⟨k, hk, rfl, hall, hbel⟩ := hrel
    have Hall := Lib.hid hall
    by_cases hlt : k < l.length
    · obtain ⟨ad, rfl, hb, c1, c2, c3⟩ := (h.below hbel).at_ hlt
      have Hs := Lib.hid (okAll_succ hlt hall)
      have Hf := Lib.hid (okAll_no (p := planP lines) hlt)
      clear hall
      obtain ⟨d, hd⟩ : ∃ d, l[k] = d := ⟨_, rfl⟩
      rw [hd] at c1 c2 c3 Hs Hf
      obtain ⟨s, x, y⟩ := d
      clear hd
      have hp : Hid (planP lines (s, x, y) = (act3B s.toList && inB x 0 lines && inB y 0 1000 && (s.toList == putL || y == 0))) := Lib.hid rfl
      simp only at c1 c2 c3
      have hs := hbel.size
      have hbs := hbel.alloc hs (.cells #[.string s, .int .i64 x, .int .i64 y] 67)
      cases h1 : act3B s.toList
      · have E := Lib.hid (Hf.out (by rw [hp.out, h1]; rfl))
        go_wp2_with (first | (go_at_call 55; refine (l3Act_any _ _).mono ?_; rintro e w' ⟨rfl, rfl⟩) | (go_at_call 44; refine (l1In_any _ _ _ _).mono ?_; rintro e w' ⟨rfl, rfl⟩))
        go_ret
        exact ⟨ret_bool (by simp [planB, E.out]), hbs⟩
      cases h2 : inB x 0 lines
      · have E := Lib.hid (Hf.out (by rw [hp.out, h1, h2]; rfl))
        go_wp2_with (first | (go_at_call 55; refine (l3Act_any _ _).mono ?_; rintro e w' ⟨rfl, rfl⟩) | (go_at_call 44; refine (l1In_any _ _ _ _).mono ?_; rintro e w' ⟨rfl, rfl⟩))
        go_ret
        exact ⟨ret_bool (by simp [planB, E.out]), hbs⟩
      cases h3 : inB y 0 1000
      · have E := Lib.hid (Hf.out (by rw [hp.out, h1, h2, h3]; rfl))
        go_wp2_with (first | (go_at_call 55; refine (l3Act_any _ _).mono ?_; rintro e w' ⟨rfl, rfl⟩) | (go_at_call 44; refine (l1In_any _ _ _ _).mono ?_; rintro e w' ⟨rfl, rfl⟩))
        go_ret
        exact ⟨ret_bool (by simp [planB, E.out]), hbs⟩
      go_wp2_with (first | (go_at_call 55; refine (l3Act_any _ _).mono ?_; rintro e w' ⟨rfl, rfl⟩) | (go_at_call 44; refine (l1In_any _ _ _ _).mono ?_; rintro e w' ⟨rfl, rfl⟩))
      all_goals first
        | (go_ret
           refine ⟨ret_bool ?_, hbs⟩
           have E : planP lines (s, x, y) = false := by rw [hp.out, h1, h2, h3]; simp_all [putL]
           simp [planB, Hf.out E])
        | (refine ⟨⟨k + 1, by omega, by go_num, Hs.out ?_, hbs⟩, by simp [intOf]; omega⟩
           rw [hp.out, h1, h2, h3]
           simp_all [putL])
    · have hk' : k = l.length := by omega
      have Hall2 : Hid (okAll (planP lines) l = true) := by rw [hk', List.take_length] at hall; exact Lib.hid hall
      clear hall hk' Hall
      cases h1 : inB lines 1 6
      all_goals
        go_wp2_with (first | (go_at_call 44; refine (l1In_any _ _ _ _).mono ?_; rintro e w' ⟨rfl, rfl⟩))
        go_ret
        exact ⟨ret_bool (by simp [planB, Hall2.out, h1]), hbel⟩

def tabP (lines : Int) (d : Dd) : Bool := deedB d.1.toList d.2.1 d.2.2 lines && (d.1.toList == putL || d.1.toList == takeL)
def tableB (l : List Dd) (lines : Int) : Bool := okAll (tabP lines) l && inB lines 1 6 && inB l.length 1 8
end Go.Proofs.YthdnhaaojicmbaaDoor
