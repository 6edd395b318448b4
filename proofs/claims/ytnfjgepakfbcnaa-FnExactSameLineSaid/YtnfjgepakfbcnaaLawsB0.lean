/-
  The law FnExactSameLine, walked: it returns true and writes nothing that was there.
-/
import Derived.Test.YtnfjgepakfbcnaaField3
namespace Go.Proofs.Ytnfjgepakfbcnaa
open Go.RowKit
set_option linter.unusedSimpArgs false
set_option linter.unusedVariables false

set_option maxHeartbeats 1000000 in
theorem FnExactSameLine_walk (A0 : Option Addr) (l0 : List Int) (c0 : Nat) (x1 : Int) (x2 : Int) (w : World) (h0 : RI w w.heap.size A0 l0) (hc0 : l0.length ≤ c0) (hm0 : c0 ≤ maxLen) (hw0 : ∀ x ∈ l0, (Lit.int .i64 x).wf = true) (wx1 : (Lit.int .i64 x1).wf = true) (wx2 : (Lit.int .i64 x2).wf = true) :
    Calls Try.prog 3 #[.slice A0 l0.length c0, .int .i64 x1, .int .i64 x2] w fun e w' => e = .returned (.bool true) ∧ Below w.heap.size w w' := by
  clear hc0 hm0 hw0 wx1 wx2
  by_cases hn0 : l0.length ≤ 1048576
  case neg =>
    have h' : 1048576 < l0.length := by omega
    clear h0 hn0
    go_enter Try.func3, Try.ntmps3
    go_wp2
    go_ret
    exact ⟨rfl, Below.refl _ _⟩
  go_enter Try.func3, Try.ntmps3
  go_wp2_with fail
  refine (toIntS_any A0 c0 l0 w h0 hn0).mono ?_
  rintro e w1 ⟨g1, rfl, hg1, hb1, hbel1⟩
  go_wp2_with fail
  refine (sSameLine_any _ _ l0 x1 x2 w1 _ hb1.RI hn0).mono ?_
  rintro e v1 ⟨rfl, n1, rfl⟩
  have B1 := below_drewN hbel1 n1
  go_wp2_with fail
  refine (toIntS_any A0 c0 l0 (w1.drewN n1) ((h0.below B1).more B1.size) hn0).mono ?_
  rintro e w2 ⟨g2, rfl, hg2, hb2, hbel2⟩
  have B2 := B1.trans (hbel2.mono B1.size)
  have o2 := ownsRow_blk hb2 hg2 hn0
  clear hb1 hbel1 hbel2
  go_wp2_with fail
  refine (iSameLine_any _ _ l0 x1 x2 w2 hb2.RI hn0).mono ?_
  rintro e w3 ⟨rfl, hbel3⟩
  have B3 := B2.trans (hbel3.mono B2.size)
  have o3 := own_below o2 hbel3
  go_wp2_with fail
  refine (toIntS_any A0 c0 l0 w3 ((h0.below B3).more B3.size) hn0).mono ?_
  rintro e w4 ⟨g4, rfl, hg4, hb4, hbel4⟩
  have B4 := B3.trans (hbel4.mono B3.size)
  have o4 := own_below o3 hbel4
  go_wp2_with fail
  refine (eqIntS_any _ _ _ _ l0 l0 w4 _ _ (RI.of_own o4) hb4.RI hn0 hn0).mono ?_
  rintro e v5 ⟨rfl, n5, rfl⟩
  rw [beq_self_eq_true]
  go_wp2_with fail
  go_ret
  exact ⟨rfl, below_drewN B4 n5⟩
end Go.Proofs.Ytnfjgepakfbcnaa
