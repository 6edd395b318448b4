/-
  Laws on rules, walked: each returns true and writes nothing that was there.
-/
import Derived.Test.YtelaeepkajbfnaaRing
import Derived.Test.YtelaeepkajbfnaaFwdField
namespace Go.Proofs.Ytelaeepkajbfnaa
open Go.RowKit
set_option linter.unusedSimpArgs false
set_option linter.unusedVariables false

set_option maxHeartbeats 4000000 in
theorem FnExactRingLines_walk (A0 : Option Addr) (l0 : List (Int × Int)) (c0 : Nat) (w : World) (h0 : RR w w.heap.size A0 l0) (hc0 : l0.length ≤ c0) (hm0 : c0 ≤ maxLen) (hw0 : ∀ x ∈ l0, (Lit.int .i64 x.1).wf = true ∧ (Lit.int .i64 x.2).wf = true) :
    Calls Try.prog 5 #[.slice A0 l0.length c0] w fun e w' => e = .returned (.bool true) ∧ Below w.heap.size w w' := by
  by_cases hn0 : l0.length ≤ 1048576
  case neg =>
    have h' : 1048576 < l0.length := by omega
    have hz := szRuleS_no A0 c0 l0 w h' hc0 hm0
    clear h0 hn0 hw0 hc0 hm0
    go_enter Try.func5, Try.ntmps5
    go_wp2_with fail
    refine hz.mono ?_
    rintro e w' ⟨rfl, rfl⟩
    go_wp2
    go_ret
    exact ⟨rfl, Below.refl _ _⟩
  clear hw0 hc0 hm0
  have hL : (ringL l0).length ≤ 1048576 := ringL_len
  go_enter Try.func5, Try.ntmps5
  go_wp2_with fail
  refine (szRuleS_ok A0 c0 l0 _ hn0).mono ?_
  rintro e w' ⟨rfl, rfl⟩
  go_wp2_with fail
  refine (toRuleS_any A0 c0 l0 w h0 hn0).mono ?_
  rintro e w1 ⟨g1, rfl, hg1, hb1, hbel1⟩
  have B1 := hbel1
  have hs1 := hbel1.size
  have o_s0 := own_blk2 hb1 hg1 hn0
  have z_s0 := o_s0
  clear hb1 hg1
  go_wp2_with fail
  refine (sRingLines_any _ _ l0 w1 (RR.of_own o_s0) hn0).mono ?_
  rintro e w2 ⟨A_w0, c_w0, rfl, o_w0, hbel2⟩
  have o_s0_ := own_below o_s0 hbel2
  clear o_s0
  have o_s0 := o_s0_
  clear o_s0_
  have B2 := B1.trans (hbel2.mono B1.size)
  have hs2 := hbel2.size
  have z_w0 := o_w0
  clear o_s0
  go_wp2_with fail
  refine (toRuleS_any A0 c0 l0 w2 ((h0.below B2).more B2.size) hn0).mono ?_
  rintro e w3 ⟨g3, rfl, hg3, hb3, hbel3⟩
  have o_w0_ := own_below o_w0 hbel3
  clear o_w0
  have o_w0 := o_w0_
  clear o_w0_
  have B3 := B2.trans (hbel3.mono B2.size)
  have hs3 := hbel3.size
  have o_x0 := own_blk2 hb3 hg3 hn0
  have z_x0 := o_x0
  clear hb3 hg3
  go_wp2_with fail
  refine (iRingLines_any _ _ l0 w3 (RR.of_own o_x0) hn0).mono ?_
  rintro e w4 ⟨A_g0, c_g0, rfl, o_g0, hbel4⟩
  have o_w0_ := own_below o_w0 hbel4
  clear o_w0
  have o_w0 := o_w0_
  clear o_w0_
  have o_x0_ := own_below o_x0 hbel4
  clear o_x0
  have o_x0 := o_x0_
  clear o_x0_
  have B4 := B3.trans (hbel4.mono B3.size)
  have hs4 := hbel4.size
  have z_g0 := o_g0
  go_wp2_with fail
  refine (eqIntS_any _ _ _ _ (ringL l0) (ringL l0) w4 _ _ (RI.of_own o_g0) (RI.of_own o_w0) hL hL).mono ?_
  rintro e v5 ⟨rfl, n5, rfl⟩
  rw [beq_self_eq_true]
  have o_w0_ := own_drewN o_w0 n5
  clear o_w0
  have o_w0 := o_w0_
  clear o_w0_
  have o_x0_ := own_drewN o_x0 n5
  clear o_x0
  have o_x0 := o_x0_
  clear o_x0_
  have o_g0_ := own_drewN o_g0 n5
  clear o_g0
  have o_g0 := o_g0_
  clear o_g0_
  have B5 := below_drewN B4 n5
  go_wp2_with fail
  refine (toRuleS_any A0 c0 l0 (w4.drewN n5) ((h0.below B5).more B5.size) hn0).mono ?_
  rintro e w6 ⟨g6, rfl, hg6, hb6, hbel6⟩
  have o_w0_ := own_below o_w0 hbel6
  clear o_w0
  have o_w0 := o_w0_
  clear o_w0_
  have o_x0_ := own_below o_x0 hbel6
  clear o_x0
  have o_x0 := o_x0_
  clear o_x0_
  have o_g0_ := own_below o_g0 hbel6
  clear o_g0
  have o_g0 := o_g0_
  clear o_g0_
  have B6 := B5.trans (hbel6.mono B5.size)
  have hs6 := hbel6.size
  have o_t0 := own_blk2 hb6 hg6 hn0
  have z_t0 := o_t0
  clear hb6 hg6
  go_wp2_with fail
  refine (eqRuleS_any _ _ _ _ l0 l0 w6 (RR.of_own o_x0) (RR.of_own o_t0) hn0 hn0).mono ?_
  rintro e w7 ⟨rfl, hbel7⟩
  have o_w0_ := own_below o_w0 hbel7
  clear o_w0
  have o_w0 := o_w0_
  clear o_w0_
  have o_x0_ := own_below o_x0 hbel7
  clear o_x0
  have o_x0 := o_x0_
  clear o_x0_
  have o_g0_ := own_below o_g0 hbel7
  clear o_g0
  have o_g0 := o_g0_
  clear o_g0_
  have o_t0_ := own_below o_t0 hbel7
  clear o_t0
  have o_t0 := o_t0_
  clear o_t0_
  have B7 := B6.trans (hbel7.mono B6.size)
  have hs7 := hbel7.size
  rw [beq_self_eq_true]
  clear o_t0
  go_wp2_with fail
  refine (markRuleS_any _ _ _ (1) w7 _ o_x0 hn0 (by omega) (by omega)).mono ?_
  rintro e w8 ⟨rfl, hg8⟩
  have o_w0_ := own_mark o_w0 hg8 (own_apart z_w0 z_x0 (by omega)).1
  clear o_w0
  have o_w0 := o_w0_
  clear o_w0_
  have o_g0_ := own_mark o_g0 hg8 (own_apart z_x0 z_g0 (by omega)).2
  clear o_g0
  have o_g0 := o_g0_
  clear o_g0_
  have B8 := below_mark B7 hg8 B7.size (fun k hk => by have := (z_x0.lt k hk).1; omega)
  clear o_x0
  go_wp2_with fail
  refine (eqIntS_any _ _ _ _ (ringL l0) (ringL l0) w8 _ _ (RI.of_own o_g0) (RI.of_own o_w0) hL hL).mono ?_
  rintro e v9 ⟨rfl, n9, rfl⟩
  rw [beq_self_eq_true]
  have o_w0_ := own_drewN o_w0 n9
  clear o_w0
  have o_w0 := o_w0_
  clear o_w0_
  have o_g0_ := own_drewN o_g0 n9
  clear o_g0
  have o_g0 := o_g0_
  clear o_g0_
  have B9 := below_drewN B8 n9
  go_wp2_with fail
  refine (markIntS_any _ _ _ 1 (w8.drewN n9) _ o_g0 hL (by omega) (by omega)).mono ?_
  rintro e w10 ⟨rfl, m_g0, hg10⟩
  have o_w0_ := own_mark o_w0 hg10 (own_apart z_w0 z_g0 (by omega)).1
  clear o_w0
  have o_w0 := o_w0_
  clear o_w0_
  have B10 := below_mark B9 hg10 B9.size (fun k hk => by have := (z_g0.lt k hk).1; omega)
  clear o_g0
  have o_m := m_g0
  clear m_g0
  go_wp2_with fail
  refine (heldIntS_ok _ _ _ 1 w10 _ (RI.of_marks o_m) hL (by omega) (by omega)).mono ?_
  rintro e w' ⟨rfl, rfl⟩
  go_wp2_with fail
  refine (toRuleS_any A0 c0 l0 w10 ((h0.below B10).more B10.size) hn0).mono ?_
  rintro e w11 ⟨g11, rfl, hg11, hb11, hbel11⟩
  have o_w0_ := own_below o_w0 hbel11
  clear o_w0
  have o_w0 := o_w0_
  clear o_w0_
  have o_m_ := own_below o_m hbel11
  clear o_m
  have o_m := o_m_
  clear o_m_
  have B11 := B10.trans (hbel11.mono B10.size)
  have hs11 := hbel11.size
  have o_u0 := own_blk2 hb11 hg11 hn0
  have z_u0 := o_u0
  clear hb11 hg11
  go_wp2_with fail
  refine (iRingLines_any _ _ l0 w11 (RR.of_own o_u0) hn0).mono ?_
  rintro e w12 ⟨A_y0, c_y0, rfl, o_y0, hbel12⟩
  have o_w0_ := own_below o_w0 hbel12
  clear o_w0
  have o_w0 := o_w0_
  clear o_w0_
  have o_m_ := own_below o_m hbel12
  clear o_m
  have o_m := o_m_
  clear o_m_
  have o_u0_ := own_below o_u0 hbel12
  clear o_u0
  have o_u0 := o_u0_
  clear o_u0_
  have B12 := B11.trans (hbel12.mono B11.size)
  have hs12 := hbel12.size
  have z_y0 := o_y0
  clear o_u0
  go_wp2_with fail
  refine (eqIntS_any _ _ _ _ (ringL l0) (ringL l0) w12 _ _ (RI.of_own o_y0) (RI.of_own o_w0) hL hL).mono ?_
  rintro e v13 ⟨rfl, n13, rfl⟩
  rw [beq_self_eq_true]
  have o_w0_ := own_drewN o_w0 n13
  clear o_w0
  have o_w0 := o_w0_
  clear o_w0_
  have o_m_ := own_drewN o_m n13
  clear o_m
  have o_m := o_m_
  clear o_m_
  have o_y0_ := own_drewN o_y0 n13
  clear o_y0
  have o_y0 := o_y0_
  clear o_y0_
  have B13 := below_drewN B12 n13
  go_wp2_with fail
  refine (heldIntS_ok _ _ _ 1 (w12.drewN n13) _ (RI.of_marks o_m) hL (by omega) (by omega)).mono ?_
  rintro e w' ⟨rfl, rfl⟩
  go_wp2_with fail
  go_ret
  exact ⟨rfl, B13⟩
set_option maxHeartbeats 4000000 in
theorem FnExactForwardField_walk (A0 : Option Addr) (l0 : List (Int × Int)) (c0 : Nat) (A1 : Option Addr) (l1 : List Int) (c1 : Nat) (w : World) (h0 : RR w w.heap.size A0 l0) (hc0 : l0.length ≤ c0) (hm0 : c0 ≤ maxLen) (hw0 : ∀ x ∈ l0, (Lit.int .i64 x.1).wf = true ∧ (Lit.int .i64 x.2).wf = true) (h1 : RI w w.heap.size A1 l1) (hc1 : l1.length ≤ c1) (hm1 : c1 ≤ maxLen) (hw1 : ∀ x ∈ l1, (Lit.int .i64 x).wf = true) :
    Calls Try.prog 6 #[.slice A0 l0.length c0, .slice A1 l1.length c1] w fun e w' => e = .returned (.bool true) ∧ Below w.heap.size w w' := by
  by_cases hn1 : l1.length ≤ 1048576
  case neg =>
    have h' : 1048576 < l1.length := by omega
    clear h0 h1 hn1 hw0 hc0 hm0 hw1 hc1 hm1
    go_enter Try.func6, Try.ntmps6
    go_wp2
    go_ret
    exact ⟨rfl, Below.refl _ _⟩
  by_cases hn0 : l0.length ≤ 1048576
  case neg =>
    have h' : 1048576 < l0.length := by omega
    have hz := szRuleS_no A0 c0 l0 w h' hc0 hm0
    clear h0 h1 hn0 hw0 hc0 hm0 hw1 hc1 hm1
    go_enter Try.func6, Try.ntmps6
    go_wp2_with fail
    refine hz.mono ?_
    rintro e w' ⟨rfl, rfl⟩
    go_wp2
    go_ret
    exact ⟨rfl, Below.refl _ _⟩
  clear hw0 hc0 hm0 hw1 hc1 hm1
  have hL : (ffL l0 l1).length ≤ 1048576 := ffL_len hn1
  go_enter Try.func6, Try.ntmps6
  go_wp2_with fail
  refine (szRuleS_ok A0 c0 l0 _ hn0).mono ?_
  rintro e w' ⟨rfl, rfl⟩
  go_wp2_with fail
  refine (toRuleS_any A0 c0 l0 w h0 hn0).mono ?_
  rintro e w1 ⟨g1, rfl, hg1, hb1, hbel1⟩
  have B1 := hbel1
  have hs1 := hbel1.size
  have o_s0 := own_blk2 hb1 hg1 hn0
  have z_s0 := o_s0
  clear hb1 hg1
  go_wp2_with fail
  refine (toIntS_any A1 c1 l1 w1 ((h1.below B1).more B1.size) hn1).mono ?_
  rintro e w2 ⟨g2, rfl, hg2, hb2, hbel2⟩
  have o_s0_ := own_below o_s0 hbel2
  clear o_s0
  have o_s0 := o_s0_
  clear o_s0_
  have B2 := B1.trans (hbel2.mono B1.size)
  have hs2 := hbel2.size
  have o_s1 := ownsRow_blk hb2 hg2 hn1
  have z_s1 := o_s1
  clear hb2 hg2
  go_wp2_with fail
  refine (sForwardField_any _ _ l0 _ _ l1 w2 (RR.of_own o_s0) (RI.of_own o_s1) hn0 hn1).mono ?_
  rintro e w3 ⟨A_w0, c_w0, rfl, o_w0, hbel3⟩
  have o_s0_ := own_below o_s0 hbel3
  clear o_s0
  have o_s0 := o_s0_
  clear o_s0_
  have o_s1_ := own_below o_s1 hbel3
  clear o_s1
  have o_s1 := o_s1_
  clear o_s1_
  have B3 := B2.trans (hbel3.mono B2.size)
  have hs3 := hbel3.size
  have z_w0 := o_w0
  clear o_s0
  clear o_s1
  go_wp2_with fail
  refine (toRuleS_any A0 c0 l0 w3 ((h0.below B3).more B3.size) hn0).mono ?_
  rintro e w4 ⟨g4, rfl, hg4, hb4, hbel4⟩
  have o_w0_ := own_below o_w0 hbel4
  clear o_w0
  have o_w0 := o_w0_
  clear o_w0_
  have B4 := B3.trans (hbel4.mono B3.size)
  have hs4 := hbel4.size
  have o_x0 := own_blk2 hb4 hg4 hn0
  have z_x0 := o_x0
  clear hb4 hg4
  go_wp2_with fail
  refine (toIntS_any A1 c1 l1 w4 ((h1.below B4).more B4.size) hn1).mono ?_
  rintro e w5 ⟨g5, rfl, hg5, hb5, hbel5⟩
  have o_w0_ := own_below o_w0 hbel5
  clear o_w0
  have o_w0 := o_w0_
  clear o_w0_
  have o_x0_ := own_below o_x0 hbel5
  clear o_x0
  have o_x0 := o_x0_
  clear o_x0_
  have B5 := B4.trans (hbel5.mono B4.size)
  have hs5 := hbel5.size
  have o_x1 := ownsRow_blk hb5 hg5 hn1
  have z_x1 := o_x1
  clear hb5 hg5
  go_wp2_with fail
  refine (iForwardField_any _ _ l0 _ _ l1 w5 (RR.of_own o_x0) (RI.of_own o_x1) hn0 hn1).mono ?_
  rintro e w6 ⟨A_g0, c_g0, rfl, o_g0, hbel6⟩
  have o_w0_ := own_below o_w0 hbel6
  clear o_w0
  have o_w0 := o_w0_
  clear o_w0_
  have o_x0_ := own_below o_x0 hbel6
  clear o_x0
  have o_x0 := o_x0_
  clear o_x0_
  have o_x1_ := own_below o_x1 hbel6
  clear o_x1
  have o_x1 := o_x1_
  clear o_x1_
  have B6 := B5.trans (hbel6.mono B5.size)
  have hs6 := hbel6.size
  have z_g0 := o_g0
  go_wp2_with fail
  refine (eqIntS_any _ _ _ _ (ffL l0 l1) (ffL l0 l1) w6 _ _ (RI.of_own o_g0) (RI.of_own o_w0) hL hL).mono ?_
  rintro e v7 ⟨rfl, n7, rfl⟩
  rw [beq_self_eq_true]
  have o_w0_ := own_drewN o_w0 n7
  clear o_w0
  have o_w0 := o_w0_
  clear o_w0_
  have o_x0_ := own_drewN o_x0 n7
  clear o_x0
  have o_x0 := o_x0_
  clear o_x0_
  have o_x1_ := own_drewN o_x1 n7
  clear o_x1
  have o_x1 := o_x1_
  clear o_x1_
  have o_g0_ := own_drewN o_g0 n7
  clear o_g0
  have o_g0 := o_g0_
  clear o_g0_
  have B7 := below_drewN B6 n7
  go_wp2_with fail
  refine (toRuleS_any A0 c0 l0 (w6.drewN n7) ((h0.below B7).more B7.size) hn0).mono ?_
  rintro e w8 ⟨g8, rfl, hg8, hb8, hbel8⟩
  have o_w0_ := own_below o_w0 hbel8
  clear o_w0
  have o_w0 := o_w0_
  clear o_w0_
  have o_x0_ := own_below o_x0 hbel8
  clear o_x0
  have o_x0 := o_x0_
  clear o_x0_
  have o_x1_ := own_below o_x1 hbel8
  clear o_x1
  have o_x1 := o_x1_
  clear o_x1_
  have o_g0_ := own_below o_g0 hbel8
  clear o_g0
  have o_g0 := o_g0_
  clear o_g0_
  have B8 := B7.trans (hbel8.mono B7.size)
  have hs8 := hbel8.size
  have o_t0 := own_blk2 hb8 hg8 hn0
  have z_t0 := o_t0
  clear hb8 hg8
  go_wp2_with fail
  refine (eqRuleS_any _ _ _ _ l0 l0 w8 (RR.of_own o_x0) (RR.of_own o_t0) hn0 hn0).mono ?_
  rintro e w9 ⟨rfl, hbel9⟩
  have o_w0_ := own_below o_w0 hbel9
  clear o_w0
  have o_w0 := o_w0_
  clear o_w0_
  have o_x0_ := own_below o_x0 hbel9
  clear o_x0
  have o_x0 := o_x0_
  clear o_x0_
  have o_x1_ := own_below o_x1 hbel9
  clear o_x1
  have o_x1 := o_x1_
  clear o_x1_
  have o_g0_ := own_below o_g0 hbel9
  clear o_g0
  have o_g0 := o_g0_
  clear o_g0_
  have o_t0_ := own_below o_t0 hbel9
  clear o_t0
  have o_t0 := o_t0_
  clear o_t0_
  have B9 := B8.trans (hbel9.mono B8.size)
  have hs9 := hbel9.size
  rw [beq_self_eq_true]
  clear o_t0
  go_wp2_with fail
  refine (toIntS_any A1 c1 l1 w9 ((h1.below B9).more B9.size) hn1).mono ?_
  rintro e w10 ⟨g10, rfl, hg10, hb10, hbel10⟩
  have o_w0_ := own_below o_w0 hbel10
  clear o_w0
  have o_w0 := o_w0_
  clear o_w0_
  have o_x0_ := own_below o_x0 hbel10
  clear o_x0
  have o_x0 := o_x0_
  clear o_x0_
  have o_x1_ := own_below o_x1 hbel10
  clear o_x1
  have o_x1 := o_x1_
  clear o_x1_
  have o_g0_ := own_below o_g0 hbel10
  clear o_g0
  have o_g0 := o_g0_
  clear o_g0_
  have B10 := B9.trans (hbel10.mono B9.size)
  have hs10 := hbel10.size
  have o_t1 := ownsRow_blk hb10 hg10 hn1
  have z_t1 := o_t1
  clear hb10 hg10
  go_wp2_with fail
  refine (eqIntS_any _ _ _ _ l1 l1 w10 _ _ (RI.of_own o_x1) (RI.of_own o_t1) hn1 hn1).mono ?_
  rintro e v11 ⟨rfl, n11, rfl⟩
  rw [beq_self_eq_true]
  have o_w0_ := own_drewN o_w0 n11
  clear o_w0
  have o_w0 := o_w0_
  clear o_w0_
  have o_x0_ := own_drewN o_x0 n11
  clear o_x0
  have o_x0 := o_x0_
  clear o_x0_
  have o_x1_ := own_drewN o_x1 n11
  clear o_x1
  have o_x1 := o_x1_
  clear o_x1_
  have o_g0_ := own_drewN o_g0 n11
  clear o_g0
  have o_g0 := o_g0_
  clear o_g0_
  have o_t1_ := own_drewN o_t1 n11
  clear o_t1
  have o_t1 := o_t1_
  clear o_t1_
  have B11 := below_drewN B10 n11
  clear o_t1
  go_wp2_with fail
  refine (markRuleS_any _ _ _ (1) (w10.drewN n11) _ o_x0 hn0 (by omega) (by omega)).mono ?_
  rintro e w12 ⟨rfl, hg12⟩
  have o_w0_ := own_mark o_w0 hg12 (own_apart z_w0 z_x0 (by omega)).1
  clear o_w0
  have o_w0 := o_w0_
  clear o_w0_
  have o_x1_ := own_mark o_x1 hg12 (own_apart z_x0 z_x1 (by omega)).2
  clear o_x1
  have o_x1 := o_x1_
  clear o_x1_
  have o_g0_ := own_mark o_g0 hg12 (own_apart z_x0 z_g0 (by omega)).2
  clear o_g0
  have o_g0 := o_g0_
  clear o_g0_
  have B12 := below_mark B11 hg12 B11.size (fun k hk => by have := (z_x0.lt k hk).1; omega)
  clear o_x0
  go_wp2_with fail
  refine (markIntS_any _ _ _ (1 + 2 * l0.length) w12 _ o_x1 hn1 (by omega) (by omega)).mono ?_
  rintro e w13 ⟨rfl, m_x1, hg13⟩
  have o_w0_ := own_mark o_w0 hg13 (own_apart z_w0 z_x1 (by omega)).1
  clear o_w0
  have o_w0 := o_w0_
  clear o_w0_
  have o_g0_ := own_mark o_g0 hg13 (own_apart z_x1 z_g0 (by omega)).2
  clear o_g0
  have o_g0 := o_g0_
  clear o_g0_
  have B13 := below_mark B12 hg13 B12.size (fun k hk => by have := (z_x1.lt k hk).1; omega)
  clear o_x1
  clear m_x1
  go_wp2_with fail
  refine (eqIntS_any _ _ _ _ (ffL l0 l1) (ffL l0 l1) w13 _ _ (RI.of_own o_g0) (RI.of_own o_w0) hL hL).mono ?_
  rintro e v14 ⟨rfl, n14, rfl⟩
  rw [beq_self_eq_true]
  have o_w0_ := own_drewN o_w0 n14
  clear o_w0
  have o_w0 := o_w0_
  clear o_w0_
  have o_g0_ := own_drewN o_g0 n14
  clear o_g0
  have o_g0 := o_g0_
  clear o_g0_
  have B14 := below_drewN B13 n14
  go_wp2_with fail
  refine (markIntS_any _ _ _ 1 (w13.drewN n14) _ o_g0 hL (by omega) (by omega)).mono ?_
  rintro e w15 ⟨rfl, m_g0, hg15⟩
  have o_w0_ := own_mark o_w0 hg15 (own_apart z_w0 z_g0 (by omega)).1
  clear o_w0
  have o_w0 := o_w0_
  clear o_w0_
  have B15 := below_mark B14 hg15 B14.size (fun k hk => by have := (z_g0.lt k hk).1; omega)
  clear o_g0
  have o_m := m_g0
  clear m_g0
  go_wp2_with fail
  refine (heldIntS_ok _ _ _ 1 w15 _ (RI.of_marks o_m) hL (by omega) (by omega)).mono ?_
  rintro e w' ⟨rfl, rfl⟩
  go_wp2_with fail
  refine (toRuleS_any A0 c0 l0 w15 ((h0.below B15).more B15.size) hn0).mono ?_
  rintro e w16 ⟨g16, rfl, hg16, hb16, hbel16⟩
  have o_w0_ := own_below o_w0 hbel16
  clear o_w0
  have o_w0 := o_w0_
  clear o_w0_
  have o_m_ := own_below o_m hbel16
  clear o_m
  have o_m := o_m_
  clear o_m_
  have B16 := B15.trans (hbel16.mono B15.size)
  have hs16 := hbel16.size
  have o_u0 := own_blk2 hb16 hg16 hn0
  have z_u0 := o_u0
  clear hb16 hg16
  go_wp2_with fail
  refine (toIntS_any A1 c1 l1 w16 ((h1.below B16).more B16.size) hn1).mono ?_
  rintro e w17 ⟨g17, rfl, hg17, hb17, hbel17⟩
  have o_w0_ := own_below o_w0 hbel17
  clear o_w0
  have o_w0 := o_w0_
  clear o_w0_
  have o_m_ := own_below o_m hbel17
  clear o_m
  have o_m := o_m_
  clear o_m_
  have o_u0_ := own_below o_u0 hbel17
  clear o_u0
  have o_u0 := o_u0_
  clear o_u0_
  have B17 := B16.trans (hbel17.mono B16.size)
  have hs17 := hbel17.size
  have o_u1 := ownsRow_blk hb17 hg17 hn1
  have z_u1 := o_u1
  clear hb17 hg17
  go_wp2_with fail
  refine (iForwardField_any _ _ l0 _ _ l1 w17 (RR.of_own o_u0) (RI.of_own o_u1) hn0 hn1).mono ?_
  rintro e w18 ⟨A_y0, c_y0, rfl, o_y0, hbel18⟩
  have o_w0_ := own_below o_w0 hbel18
  clear o_w0
  have o_w0 := o_w0_
  clear o_w0_
  have o_m_ := own_below o_m hbel18
  clear o_m
  have o_m := o_m_
  clear o_m_
  have o_u0_ := own_below o_u0 hbel18
  clear o_u0
  have o_u0 := o_u0_
  clear o_u0_
  have o_u1_ := own_below o_u1 hbel18
  clear o_u1
  have o_u1 := o_u1_
  clear o_u1_
  have B18 := B17.trans (hbel18.mono B17.size)
  have hs18 := hbel18.size
  have z_y0 := o_y0
  clear o_u0
  clear o_u1
  go_wp2_with fail
  refine (eqIntS_any _ _ _ _ (ffL l0 l1) (ffL l0 l1) w18 _ _ (RI.of_own o_y0) (RI.of_own o_w0) hL hL).mono ?_
  rintro e v19 ⟨rfl, n19, rfl⟩
  rw [beq_self_eq_true]
  have o_w0_ := own_drewN o_w0 n19
  clear o_w0
  have o_w0 := o_w0_
  clear o_w0_
  have o_m_ := own_drewN o_m n19
  clear o_m
  have o_m := o_m_
  clear o_m_
  have o_y0_ := own_drewN o_y0 n19
  clear o_y0
  have o_y0 := o_y0_
  clear o_y0_
  have B19 := below_drewN B18 n19
  go_wp2_with fail
  refine (heldIntS_ok _ _ _ 1 (w18.drewN n19) _ (RI.of_marks o_m) hL (by omega) (by omega)).mono ?_
  rintro e w' ⟨rfl, rfl⟩
  go_wp2_with fail
  go_ret
  exact ⟨rfl, B19⟩
end Go.Proofs.Ytelaeepkajbfnaa
