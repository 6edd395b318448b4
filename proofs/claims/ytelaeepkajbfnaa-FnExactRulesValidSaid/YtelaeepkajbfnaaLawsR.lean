/-
  The law FnExactRulesValid, walked.
-/
import Derived.Test.YtelaeepkajbfnaaRules3
namespace Go.Proofs.Ytelaeepkajbfnaa
open Go.RowKit
set_option linter.unusedSimpArgs false
set_option linter.unusedVariables false
theorem Blk.RR_ {w : World} {g : Nat} {t : TypeId} {l : List (Int × Int)} (h : Blk w g t (cells2 l).toArray) : RR w w.heap.size (some ⟨g, 0, none⟩) l := by
  refine ⟨by simp, fun _ => ⟨_, rfl, h.lt, fun j u hu => ?_⟩⟩
  have e : (⟨g, 0, none⟩ : Addr).add j = ⟨g, j, none⟩ := by
    unfold Addr.add
    split
    · rename_i h0; simp_all
    · simp
  rw [e, h.cell j]
  simpa using hu
set_option maxHeartbeats 1000000 in
theorem FnExactRulesValid_walk (A0 : Option Addr) (l0 : List (Int × Int)) (c0 : Nat) (w : World) (h0 : RR w w.heap.size A0 l0) (hc0 : l0.length ≤ c0) (hm0 : c0 ≤ maxLen) (hw0 : ∀ r ∈ l0, (Lit.int .i64 r.1).wf = true ∧ (Lit.int .i64 r.2).wf = true) :
    Calls Try.prog 3 #[.slice A0 l0.length c0] w fun e w' => e = .returned (.bool true) ∧ Below w.heap.size w w' := by
  by_cases hn0 : l0.length ≤ 1048576
  case neg =>
    have h' : 1048576 < l0.length := by omega
    have hz := szRuleS_no A0 c0 l0 w h' hc0 hm0
    clear h0 hn0 hc0 hm0 hw0
    go_enter Try.func3, Try.ntmps3
    go_wp2_with fail
    refine hz.mono ?_
    rintro e w' ⟨rfl, rfl⟩
    go_wp2
    go_ret
    exact ⟨rfl, Below.refl _ _⟩
  clear hc0 hm0 hw0
  go_enter Try.func3, Try.ntmps3
  go_wp2_with fail
  refine (szRuleS_ok A0 c0 l0 w hn0).mono ?_
  rintro e w' ⟨rfl, rfl⟩
  go_wp2_with fail
  refine (toRuleS_any A0 c0 l0 w h0 hn0).mono ?_
  rintro e w1 ⟨g1, rfl, hg1, hb1, hbel1⟩
  go_wp2_with fail
  refine (sRulesValid_any _ _ l0 w1 _ hb1.RR_ hn0).mono ?_
  rintro e v1 ⟨rfl, n1, rfl⟩
  have B1 := below_drewN hbel1 n1
  go_wp2_with fail
  refine (toRuleS_any A0 c0 l0 (w1.drewN n1) ((h0.below B1).more B1.size) hn0).mono ?_
  rintro e w2 ⟨g2, rfl, hg2, hb2, hbel2⟩
  have B2 := B1.trans (hbel2.mono B1.size)
  clear hb1 hbel1 hbel2
  go_wp2_with fail
  refine (RulesValid_any _ _ l0 w2 hb2.RR_ hn0).mono ?_
  rintro e w3 ⟨rfl, hbel3⟩
  have B3 := B2.trans (hbel3.mono B2.size)
  have r3 := (hb2.RR_.below hbel3).more hbel3.size
  go_wp2_with fail
  refine (toRuleS_any A0 c0 l0 w3 ((h0.below B3).more B3.size) hn0).mono ?_
  rintro e w4 ⟨g4, rfl, hg4, hb4, hbel4⟩
  have B4 := B3.trans (hbel4.mono B3.size)
  have r4 := (r3.below hbel4).more hbel4.size
  go_wp2_with fail
  refine (eqRuleS_any _ _ _ _ l0 l0 w4 r4 hb4.RR_ hn0 hn0).mono ?_
  rintro e w5 ⟨rfl, hbel5⟩
  have B5 := B4.trans (hbel5.mono B4.size)
  have hbe : (l0 == l0) = true := by simp
  go_wp2
  go_ret
  exact ⟨rfl, B5⟩
end Go.Proofs.Ytelaeepkajbfnaa
