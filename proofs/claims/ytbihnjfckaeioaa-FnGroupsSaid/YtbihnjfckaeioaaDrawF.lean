/-
  The drawing of a field alone, or of a field and two numbers.
-/
import Derived.Test.YtbihnjfckaeioaaDraw3
namespace Go.Proofs.Ytbihnjfckaeioaa
open Go.RowKit
set_option linter.unusedSimpArgs false
set_option linter.unusedVariables false

/-- two equal lists -/
theorem cbSame_same (A A' : Option Addr) (c c' : Nat) (l : List Int) (w : World) (B B' : Nat) (h : RI w B A l) (h' : RI w B' A' l) (hn : l.length ≤ 1048576) :
    Calls Try.prog 10 #[.slice A l.length c, .slice A' l.length c'] w fun e w' => e = .returned (.bool true) ∧ ∃ n, w' = w.drewN n := by
  have hee : ((l.length : Int) == (l.length : Int)) = true := by simp
  go_enter Try.func10, Try.ntmps10
  go_wp2
  go_loopw [5] (fun i wr => ∃ k : Nat, k ≤ l.length ∧ i = .int .i64 k ∧ ∃ n, wr = w.drewN n) (fun i _ => l.length - (intOf i).toNat)
  case atStart => exact ⟨0, Nat.zero_le _, rfl, 0, rfl⟩
  case round =>
    obtain ⟨k, hk, rfl, nq, rfl⟩ := hrel
    by_cases hlt : k < l.length
    · obtain ⟨ad, rfl, hb, hc⟩ := h.at_ hlt
      obtain ⟨ad', rfl, hb', hc'⟩ := h'.at_ hlt
      generalize l[k] = v at hc hc'
      have hne : (v != v) = false := by simp
      go_wp2
      go_quiet (fail)
      go_wp2
      go_roundw
      case rel => exact ⟨k + 1, by omega, by go_num, _, rfl⟩
      case measure => simp [intOf]; omega
    · obtain rfl : k = l.length := by omega
      go_wp2
      go_ret
      exact ⟨rfl, _, rfl⟩
theorem DrawPlugIn_any (A : Option Addr) (c : Nat) (l : List Int) (w : World) (h : RB w w.heap.size A l) (hc : l.length ≤ c) (hm : c ≤ maxLen) (hn : l.length ≤ 1048576) :
    Calls Try.prog 24 #[.slice A l.length c] w (DrawnF2 w) := by
  go_enter Try.func24, Try.ntmps24
  go_wp2_with fail
  refine (l11Open_any A c l w h hc hm hn).mono ?_
  rintro e w1 ⟨R, A1, c1, l1, rfl, r1, hb1⟩
  go_wp2_with fail
  refine (l2Field_any R w.heap.size c1 A1 l1 0 w1 r1 (by omega)).mono ?_
  rintro e w2 ⟨L, A2, c2, p2, rfl, hL, o2, r2, hp2, hg2⟩
  go_wp2_with fail
  refine (l2Index_any R w.heap.size c1 A1 l1 p2 w2 r2 (by omega)).mono ?_
  rintro e w3 ⟨x, rfl, r3, hg3⟩
  go_wp2_with fail
  refine (l2Number_any R w.heap.size c1 A1 l1 (p2 + 1) w3 r3 (by omega)).mono ?_
  rintro e w4 ⟨y, rfl, r4, hg4⟩
  go_wp2_with fail
  go_ret3
  have hR := r1.blk.lt
  have ho : w4.ownsRow w1.heap.size 3 1 (.slice A2 L.length c2) L.length (ints L) := (o2.kept hg3 (.inr (fun e => by have := (o2.lt R e).1; omega))).kept hg4 (.inr (fun e => by have := (o2.lt R e).1; omega))
  exact ⟨L, A2, c2, x, y, rfl, hL, own_mono ho hb1.size, below_of_R hb1 (grownBy_trans hg2 (grownBy_trans hg3 hg4)) r1.hB⟩
theorem DrawMovePlugs_any (A : Option Addr) (c : Nat) (l : List Int) (w : World) (h : RB w w.heap.size A l) (hc : l.length ≤ c) (hm : c ≤ maxLen) (hn : l.length ≤ 1048576) :
    Calls Try.prog 7 #[.slice A l.length c] w (DrawnF2 w) := by
  go_enter Try.func7, Try.ntmps7
  go_wp2_with fail
  refine (l11Open_any A c l w h hc hm hn).mono ?_
  rintro e w1 ⟨R, A1, c1, l1, rfl, r1, hb1⟩
  go_wp2_with fail
  refine (l2Field_any R w.heap.size c1 A1 l1 0 w1 r1 (by omega)).mono ?_
  rintro e w2 ⟨L, A2, c2, p2, rfl, hL, o2, r2, hp2, hg2⟩
  go_wp2_with fail
  refine (l2Number_any R w.heap.size c1 A1 l1 p2 w2 r2 (by omega)).mono ?_
  rintro e w3 ⟨x, rfl, r3, hg3⟩
  go_wp2_with fail
  refine (l2Number_any R w.heap.size c1 A1 l1 (p2 + 1) w3 r3 (by omega)).mono ?_
  rintro e w4 ⟨y, rfl, r4, hg4⟩
  go_wp2_with fail
  go_ret3
  have hR := r1.blk.lt
  have ho : w4.ownsRow w1.heap.size 3 1 (.slice A2 L.length c2) L.length (ints L) := (o2.kept hg3 (.inr (fun e => by have := (o2.lt R e).1; omega))).kept hg4 (.inr (fun e => by have := (o2.lt R e).1; omega))
  exact ⟨L, A2, c2, x, y, rfl, hL, own_mono ho hb1.size, below_of_R hb1 (grownBy_trans hg2 (grownBy_trans hg3 hg4)) r1.hB⟩
/-- a field -/
def DrawnF (w : World) (e : Ending) (w' : World) : Prop :=
  ∃ (L : List Int) (A : Option Addr) (c : Nat), e = .returned (.slice A L.length c) ∧ L.length ≤ 30 ∧ w'.ownsRow w.heap.size 3 1 (.slice A L.length c) L.length (ints L) ∧ Below w.heap.size w w'
theorem DrawGroupsOf_any (A : Option Addr) (c : Nat) (l : List Int) (w : World) (h : RB w w.heap.size A l) (hc : l.length ≤ c) (hm : c ≤ maxLen) (hn : l.length ≤ 1048576) :
    Calls Try.prog 21 #[.slice A l.length c] w (DrawnF w) := by
  go_enter Try.func21, Try.ntmps21
  go_wp2_with fail
  refine (l11Open_any A c l w h hc hm hn).mono ?_
  rintro e w1 ⟨R, A1, c1, l1, rfl, r1, hb1⟩
  go_wp2_with fail
  refine (l2Field_any R w.heap.size c1 A1 l1 0 w1 r1 (by omega)).mono ?_
  rintro e w2 ⟨L, A2, c2, p2, rfl, hL, o2, r2, hp2, hg2⟩
  go_wp2_with fail
  go_ret
  exact ⟨L, A2, c2, rfl, hL, own_mono o2 hb1.size, below_of_R hb1 hg2 r1.hB⟩
end Go.Proofs.Ytbihnjfckaeioaa
