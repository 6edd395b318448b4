/-
  l3Owners.
-/
import Derived.Test.YthdnhaaojicmbaaDoorBd
namespace Go.Proofs.YthdnhaaojicmbaaDoor
open Go.RowKit
set_option linter.unusedSimpArgs false
set_option linter.unusedVariables false

/-- some ints of the call's own, so many -/
def SomeInts (w : World) (n : Nat) (e : Ending) (w' : World) : Prop :=
  ∃ (L : List Int) (A' : Option Addr) (c' : Nat), e = .returned (.slice A' L.length c') ∧ L.length = n ∧ w'.ownsRow w.heap.size 3 1 (.slice A' L.length c') L.length (ints L) ∧ Below w.heap.size w w'
set_option maxHeartbeats 4000000 in
theorem l3Owners_any (A : Option Addr) (c : Nat) (l : List Int) (A2 : Option Addr) (c2 : Nat) (Rr : List DRow) (w : World) (h : RI w w.heap.size A l) (h2 : RLD w w.heap.size A2 Rr) (hn : l.length ≤ 9) (hR : Rr.length ≤ 5) (h13 : ∀ r ∈ Rr, r.2.1.length ≤ 13) :
    Calls Tryd.prog 49 #[.slice A l.length c, .slice A2 Rr.length c2] w (SomeInts w l.length) := by
  obtain ⟨i0, hi, hz0, hz1, hz2⟩ := info_parts int_info
  have o0 := ownsRow_emptyI w
  go_enter Tryd.func49, Tryd.ntmps49
  go_wp2_with fail
  go_loopw [6, 5] (fun i v wr => ∃ (k : Nat) (L : List Int), i = .int .i64 ((k : Int) + 1) ∧ k ≤ l.length ∧ L.length = k ∧ wr.ownsRow w.heap.size 3 1 v L.length (ints L) ∧ Below w.heap.size w wr) (fun i _ _ => l.length + 1 - (intOf i).toNat)
  case atStart => exact ⟨0, [], rfl, Nat.zero_le _, rfl, o0, (Below.refl _ _).alloc (Nat.le_refl _) _⟩
  case round =>
    clear o0
    obtain ⟨k, L, rfl, hk, hL, o, hb⟩ := hrel
    have HL := Lib.hid hL
    clear hL
    by_cases hlt : k < l.length
    · have hlt' : (k : Int) + 1 ≤ (l.length : Int) := by omega
      go_wp2_with fail
      refine (l3User_any A2 c2 Rr ((k : Int) + 1) true wr w.heap.size (h2.below hb) (by omega) (fun r hr => by have := h13 r hr; omega)).mono ?_
      rintro e w2 ⟨⟨v, rfl, _⟩, rfl⟩
      have hs := hb.size
      have o2 := o.alloc (.cells #[.int .i64 v] 3)
      have b2 := hb.alloc hs (.cells #[.int .i64 v] 3)
      have hs2 := b2.size
      go_wp2_with (at_builtin; refine wpList_append_own_at _ rfl _ _ 22 rfl w.heap.size 3 i0 (.int .i64 0) 1 8 Tryd.underlying22 hi hz0 hz1 hz2 rfl (by decide) u5 _ _ rfl o2 ⟨wr.heap.size, 0, none⟩ 1 1 [.int .i64 v] rfl rfl (cell_one_new _ _ _) (ints_oneCell .i64 [v]) ?_ ?_ ?_ ?_; (have := HL.out; unfold maxLen; omega); (have := HL.out; omega); exact hs2; intro v' w3 hown' hgrow hnil hloc)
      have b3 := below_own b2 hgrow hs2 (fun q hq => (o2.lt q hq).1)
      go_roundw
      case rel => exact ⟨k + 1, L ++ [v], by congr 1, by omega, by have := HL.out; simp; omega, by simpa [ints] using hown', b3⟩
      case measure => simp [intOf]; omega
    · obtain rfl : k = l.length := by omega
      have hlt' : ¬ (l.length : Int) + 1 ≤ (l.length : Int) := by omega
      obtain ⟨A', c', rfl⟩ := own_form o
      go_wp2_with fail
      go_ret
      exact ⟨L, A', c', rfl, HL.out, o, hb⟩
end Go.Proofs.YthdnhaaojicmbaaDoor
