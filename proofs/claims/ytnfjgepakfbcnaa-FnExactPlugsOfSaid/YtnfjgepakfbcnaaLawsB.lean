/-
  Laws on fields, walked: each returns true and writes nothing that was there.
-/
import Derived.Test.YtnfjgepakfbcnaaField4
import Derived.Test.YtnfjgepakfbcnaaField5
namespace Go.Proofs.Ytnfjgepakfbcnaa
open Go.RowKit
set_option linter.unusedSimpArgs false
set_option linter.unusedVariables false

set_option maxHeartbeats 4000000 in
theorem FnExactPlugsOf_walk (A0 : Option Addr) (l0 : List Int) (c0 : Nat) (x1 : Int) (w : World) (h0 : RI w w.heap.size A0 l0) (hc0 : l0.length ≤ c0) (hm0 : c0 ≤ maxLen) (hw0 : ∀ x ∈ l0, (Lit.int .i64 x).wf = true) (wx1 : (Lit.int .i64 x1).wf = true) :
    Calls Try.prog 4 #[.slice A0 l0.length c0, .int .i64 x1] w fun e w' => e = .returned (.bool true) ∧ Below w.heap.size w w' := by
  clear hw0
  clear wx1
  clear hc0 hm0
  by_cases hn0 : l0.length ≤ 1048576
  case neg =>
    have h' : 1048576 < l0.length := by omega
    clear h0 hn0
    go_enter Try.func4, Try.ntmps4
    go_wp2
    go_ret
    exact ⟨rfl, Below.refl _ _⟩
  have hL : (plugsL l0 x1).length ≤ 1048576 := plugsL_len hn0
  go_enter Try.func4, Try.ntmps4
  go_wp2_with fail
  refine (toIntS_any A0 c0 l0 w h0 hn0).mono ?_
  rintro e w1 ⟨g1, rfl, hg1, hb1, hbel1⟩
  have B1 := hbel1
  have hs1 := hbel1.size
  have o_s0 := ownsRow_blk hb1 hg1 hn0
  have z_s0 := o_s0
  clear hb1 hg1
  go_wp2_with fail
  refine (sPlugsOf_any _ _ l0 x1 w1 (RI.of_own o_s0) hn0).mono ?_
  rintro e w2 ⟨A_w0, c_w0, rfl, o_w0, hbel2⟩
  have o_s0_ := own_below o_s0 hbel2
  clear o_s0
  have o_s0 := o_s0_
  clear o_s0_
  have B2 := B1.trans (hbel2.mono B1.size)
  have hs2 := hbel2.size
  have z_w0 := o_w0
  clear o_s0
  go_wp2_with fail
  refine (toIntS_any A0 c0 l0 w2 ((h0.below B2).more B2.size) hn0).mono ?_
  rintro e w3 ⟨g3, rfl, hg3, hb3, hbel3⟩
  have o_w0_ := own_below o_w0 hbel3
  clear o_w0
  have o_w0 := o_w0_
  clear o_w0_
  have B3 := B2.trans (hbel3.mono B2.size)
  have hs3 := hbel3.size
  have o_x0 := ownsRow_blk hb3 hg3 hn0
  have z_x0 := o_x0
  clear hb3 hg3
  go_wp2_with fail
  refine (iPlugsOf_any _ _ l0 x1 w3 (RI.of_own o_x0) hn0).mono ?_
  rintro e w4 ⟨A_g0, c_g0, rfl, o_g0, hbel4⟩
  have o_w0_ := own_below o_w0 hbel4
  clear o_w0
  have o_w0 := o_w0_
  clear o_w0_
  have o_x0_ := own_below o_x0 hbel4
  clear o_x0
  have o_x0 := o_x0_
  clear o_x0_
  have B4 := B3.trans (hbel4.mono B3.size)
  have hs4 := hbel4.size
  have z_g0 := o_g0
  go_wp2_with fail
  refine (eqIntS_any _ _ _ _ _ _ w4 _ _ (RI.of_own o_g0) (RI.of_own o_w0) hL hL).mono ?_
  rintro e v5 ⟨rfl, n5, rfl⟩
  rw [beq_self_eq_true]
  have o_w0_ := own_drewN o_w0 n5
  clear o_w0
  have o_w0 := o_w0_
  clear o_w0_
  have o_x0_ := own_drewN o_x0 n5
  clear o_x0
  have o_x0 := o_x0_
  clear o_x0_
  have o_g0_ := own_drewN o_g0 n5
  clear o_g0
  have o_g0 := o_g0_
  clear o_g0_
  have B5 := below_drewN B4 n5
  go_wp2_with fail
  refine (toIntS_any A0 c0 l0 (w4.drewN n5) ((h0.below B5).more B5.size) hn0).mono ?_
  rintro e w6 ⟨g6, rfl, hg6, hb6, hbel6⟩
  have o_w0_ := own_below o_w0 hbel6
  clear o_w0
  have o_w0 := o_w0_
  clear o_w0_
  have o_x0_ := own_below o_x0 hbel6
  clear o_x0
  have o_x0 := o_x0_
  clear o_x0_
  have o_g0_ := own_below o_g0 hbel6
  clear o_g0
  have o_g0 := o_g0_
  clear o_g0_
  have B6 := B5.trans (hbel6.mono B5.size)
  have hs6 := hbel6.size
  have o_t0 := ownsRow_blk hb6 hg6 hn0
  have z_t0 := o_t0
  clear hb6 hg6
  go_wp2_with fail
  refine (eqIntS_any _ _ _ _ l0 l0 w6 _ _ (RI.of_own o_x0) (RI.of_own o_t0) hn0 hn0).mono ?_
  rintro e v7 ⟨rfl, n7, rfl⟩
  rw [beq_self_eq_true]
  have o_w0_ := own_drewN o_w0 n7
  clear o_w0
  have o_w0 := o_w0_
  clear o_w0_
  have o_x0_ := own_drewN o_x0 n7
  clear o_x0
  have o_x0 := o_x0_
  clear o_x0_
  have o_g0_ := own_drewN o_g0 n7
  clear o_g0
  have o_g0 := o_g0_
  clear o_g0_
  have o_t0_ := own_drewN o_t0 n7
  clear o_t0
  have o_t0 := o_t0_
  clear o_t0_
  have B7 := below_drewN B6 n7
  clear o_t0
  go_wp2_with fail
  refine (markIntS_any _ _ _ (1) (w6.drewN n7) _ o_x0 hn0 (by omega) (by omega)).mono ?_
  rintro e w8 ⟨rfl, m_x0, hg8⟩
  have o_w0_ := own_mark o_w0 hg8 (own_apart z_w0 z_x0 (by omega)).1
  clear o_w0
  have o_w0 := o_w0_
  clear o_w0_
  have o_g0_ := own_mark o_g0 hg8 (own_apart z_x0 z_g0 (by omega)).2
  clear o_g0
  have o_g0 := o_g0_
  clear o_g0_
  have B8 := below_mark B7 hg8 B7.size (fun k hk => by have := (z_x0.lt k hk).1; omega)
  clear o_x0
  clear m_x0
  go_wp2_with fail
  refine (eqIntS_any _ _ _ _ _ _ w8 _ _ (RI.of_own o_g0) (RI.of_own o_w0) hL hL).mono ?_
  rintro e v9 ⟨rfl, n9, rfl⟩
  rw [beq_self_eq_true]
  have o_w0_ := own_drewN o_w0 n9
  clear o_w0
  have o_w0 := o_w0_
  clear o_w0_
  have o_g0_ := own_drewN o_g0 n9
  clear o_g0
  have o_g0 := o_g0_
  clear o_g0_
  have B9 := below_drewN B8 n9
  go_wp2_with fail
  refine (markIntS_any _ _ _ 1 (w8.drewN n9) _ o_g0 hL (by omega) (by omega)).mono ?_
  rintro e w10 ⟨rfl, m_g0, hg10⟩
  have o_w0_ := own_mark o_w0 hg10 (own_apart z_w0 z_g0 (by omega)).1
  clear o_w0
  have o_w0 := o_w0_
  clear o_w0_
  have B10 := below_mark B9 hg10 B9.size (fun k hk => by have := (z_g0.lt k hk).1; omega)
  clear o_g0
  go_wp2_with fail
  refine (heldIntS_ok _ _ _ 1 w10 _ (RI.of_marks m_g0) hL (by omega) (by omega)).mono ?_
  rintro e w' ⟨rfl, rfl⟩
  go_wp2_with fail
  refine (toIntS_any A0 c0 l0 w10 ((h0.below B10).more B10.size) hn0).mono ?_
  rintro e w11 ⟨g11, rfl, hg11, hb11, hbel11⟩
  have o_w0_ := own_below o_w0 hbel11
  clear o_w0
  have o_w0 := o_w0_
  clear o_w0_
  have B11 := B10.trans (hbel11.mono B10.size)
  have hs11 := hbel11.size
  have o_u0 := ownsRow_blk hb11 hg11 hn0
  have z_u0 := o_u0
  clear hb11 hg11
  have m_g0_ := own_below m_g0 hbel11
  clear m_g0
  have m_g0 := m_g0_
  clear m_g0_
  go_wp2_with fail
  refine (iPlugsOf_any _ _ l0 x1 w11 (RI.of_own o_u0) hn0).mono ?_
  rintro e w12 ⟨A_y0, c_y0, rfl, o_y0, hbel12⟩
  have o_w0_ := own_below o_w0 hbel12
  clear o_w0
  have o_w0 := o_w0_
  clear o_w0_
  have o_u0_ := own_below o_u0 hbel12
  clear o_u0
  have o_u0 := o_u0_
  clear o_u0_
  have B12 := B11.trans (hbel12.mono B11.size)
  have hs12 := hbel12.size
  have z_y0 := o_y0
  clear o_u0
  have m_g0_ := own_below m_g0 hbel12
  clear m_g0
  have m_g0 := m_g0_
  clear m_g0_
  go_wp2_with fail
  refine (eqIntS_any _ _ _ _ _ _ w12 _ _ (RI.of_own o_y0) (RI.of_own o_w0) hL hL).mono ?_
  rintro e v13 ⟨rfl, n13, rfl⟩
  rw [beq_self_eq_true]
  have o_w0_ := own_drewN o_w0 n13
  clear o_w0
  have o_w0 := o_w0_
  clear o_w0_
  have o_y0_ := own_drewN o_y0 n13
  clear o_y0
  have o_y0 := o_y0_
  clear o_y0_
  have B13 := below_drewN B12 n13
  have m_g0_ := own_drewN m_g0 n13
  clear m_g0
  have m_g0 := m_g0_
  clear m_g0_
  go_wp2_with fail
  refine (heldIntS_ok _ _ _ 1 (w12.drewN n13) _ (RI.of_marks m_g0) hL (by omega) (by omega)).mono ?_
  rintro e w' ⟨rfl, rfl⟩
  go_wp2_with fail
  go_ret
  exact ⟨rfl, B13⟩
set_option maxHeartbeats 4000000 in
theorem FnExactPlugIn_walk (A0 : Option Addr) (l0 : List Int) (c0 : Nat) (x1 : Int) (x2 : Int) (w : World) (h0 : RI w w.heap.size A0 l0) (hc0 : l0.length ≤ c0) (hm0 : c0 ≤ maxLen) (hw0 : ∀ x ∈ l0, (Lit.int .i64 x).wf = true) (wx1 : (Lit.int .i64 x1).wf = true) (wx2 : (Lit.int .i64 x2).wf = true) :
    Calls Try.prog 5 #[.slice A0 l0.length c0, .int .i64 x1, .int .i64 x2] w fun e w' => e = .returned (.bool true) ∧ Below w.heap.size w w' := by
  clear hw0
  clear wx1
  clear wx2
  clear hc0 hm0
  by_cases hn0 : l0.length ≤ 1048576
  case neg =>
    have h' : 1048576 < l0.length := by omega
    clear h0 hn0
    go_enter Try.func5, Try.ntmps5
    go_wp2
    go_ret
    exact ⟨rfl, Below.refl _ _⟩
  have hL : (plugInL l0 x1 x2).length ≤ 1048576 := plugInL_len hn0
  go_enter Try.func5, Try.ntmps5
  go_wp2_with fail
  refine (toIntS_any A0 c0 l0 w h0 hn0).mono ?_
  rintro e w1 ⟨g1, rfl, hg1, hb1, hbel1⟩
  have B1 := hbel1
  have hs1 := hbel1.size
  have o_s0 := ownsRow_blk hb1 hg1 hn0
  have z_s0 := o_s0
  clear hb1 hg1
  go_wp2_with fail
  refine (sPlugIn_any _ _ l0 x1 x2 w1 (RI.of_own o_s0) hn0).mono ?_
  rintro e w2 ⟨A_w0, c_w0, rfl, o_w0, hbel2⟩
  have o_s0_ := own_below o_s0 hbel2
  clear o_s0
  have o_s0 := o_s0_
  clear o_s0_
  have B2 := B1.trans (hbel2.mono B1.size)
  have hs2 := hbel2.size
  have z_w0 := o_w0
  clear o_s0
  go_wp2_with fail
  refine (toIntS_any A0 c0 l0 w2 ((h0.below B2).more B2.size) hn0).mono ?_
  rintro e w3 ⟨g3, rfl, hg3, hb3, hbel3⟩
  have o_w0_ := own_below o_w0 hbel3
  clear o_w0
  have o_w0 := o_w0_
  clear o_w0_
  have B3 := B2.trans (hbel3.mono B2.size)
  have hs3 := hbel3.size
  have o_x0 := ownsRow_blk hb3 hg3 hn0
  have z_x0 := o_x0
  clear hb3 hg3
  go_wp2_with fail
  refine (iPlugIn_any _ _ l0 x1 x2 w3 (RI.of_own o_x0) hn0).mono ?_
  rintro e w4 ⟨A_g0, c_g0, rfl, o_g0, hbel4⟩
  have o_w0_ := own_below o_w0 hbel4
  clear o_w0
  have o_w0 := o_w0_
  clear o_w0_
  have o_x0_ := own_below o_x0 hbel4
  clear o_x0
  have o_x0 := o_x0_
  clear o_x0_
  have B4 := B3.trans (hbel4.mono B3.size)
  have hs4 := hbel4.size
  have z_g0 := o_g0
  go_wp2_with fail
  refine (eqIntS_any _ _ _ _ _ _ w4 _ _ (RI.of_own o_g0) (RI.of_own o_w0) hL hL).mono ?_
  rintro e v5 ⟨rfl, n5, rfl⟩
  rw [beq_self_eq_true]
  have o_w0_ := own_drewN o_w0 n5
  clear o_w0
  have o_w0 := o_w0_
  clear o_w0_
  have o_x0_ := own_drewN o_x0 n5
  clear o_x0
  have o_x0 := o_x0_
  clear o_x0_
  have o_g0_ := own_drewN o_g0 n5
  clear o_g0
  have o_g0 := o_g0_
  clear o_g0_
  have B5 := below_drewN B4 n5
  go_wp2_with fail
  refine (toIntS_any A0 c0 l0 (w4.drewN n5) ((h0.below B5).more B5.size) hn0).mono ?_
  rintro e w6 ⟨g6, rfl, hg6, hb6, hbel6⟩
  have o_w0_ := own_below o_w0 hbel6
  clear o_w0
  have o_w0 := o_w0_
  clear o_w0_
  have o_x0_ := own_below o_x0 hbel6
  clear o_x0
  have o_x0 := o_x0_
  clear o_x0_
  have o_g0_ := own_below o_g0 hbel6
  clear o_g0
  have o_g0 := o_g0_
  clear o_g0_
  have B6 := B5.trans (hbel6.mono B5.size)
  have hs6 := hbel6.size
  have o_t0 := ownsRow_blk hb6 hg6 hn0
  have z_t0 := o_t0
  clear hb6 hg6
  go_wp2_with fail
  refine (eqIntS_any _ _ _ _ l0 l0 w6 _ _ (RI.of_own o_x0) (RI.of_own o_t0) hn0 hn0).mono ?_
  rintro e v7 ⟨rfl, n7, rfl⟩
  rw [beq_self_eq_true]
  have o_w0_ := own_drewN o_w0 n7
  clear o_w0
  have o_w0 := o_w0_
  clear o_w0_
  have o_x0_ := own_drewN o_x0 n7
  clear o_x0
  have o_x0 := o_x0_
  clear o_x0_
  have o_g0_ := own_drewN o_g0 n7
  clear o_g0
  have o_g0 := o_g0_
  clear o_g0_
  have o_t0_ := own_drewN o_t0 n7
  clear o_t0
  have o_t0 := o_t0_
  clear o_t0_
  have B7 := below_drewN B6 n7
  clear o_t0
  go_wp2_with fail
  refine (markIntS_any _ _ _ (1) (w6.drewN n7) _ o_x0 hn0 (by omega) (by omega)).mono ?_
  rintro e w8 ⟨rfl, m_x0, hg8⟩
  have o_w0_ := own_mark o_w0 hg8 (own_apart z_w0 z_x0 (by omega)).1
  clear o_w0
  have o_w0 := o_w0_
  clear o_w0_
  have o_g0_ := own_mark o_g0 hg8 (own_apart z_x0 z_g0 (by omega)).2
  clear o_g0
  have o_g0 := o_g0_
  clear o_g0_
  have B8 := below_mark B7 hg8 B7.size (fun k hk => by have := (z_x0.lt k hk).1; omega)
  clear o_x0
  clear m_x0
  go_wp2_with fail
  refine (eqIntS_any _ _ _ _ _ _ w8 _ _ (RI.of_own o_g0) (RI.of_own o_w0) hL hL).mono ?_
  rintro e v9 ⟨rfl, n9, rfl⟩
  rw [beq_self_eq_true]
  have o_w0_ := own_drewN o_w0 n9
  clear o_w0
  have o_w0 := o_w0_
  clear o_w0_
  have o_g0_ := own_drewN o_g0 n9
  clear o_g0
  have o_g0 := o_g0_
  clear o_g0_
  have B9 := below_drewN B8 n9
  go_wp2_with fail
  refine (markIntS_any _ _ _ 1 (w8.drewN n9) _ o_g0 hL (by omega) (by omega)).mono ?_
  rintro e w10 ⟨rfl, m_g0, hg10⟩
  have o_w0_ := own_mark o_w0 hg10 (own_apart z_w0 z_g0 (by omega)).1
  clear o_w0
  have o_w0 := o_w0_
  clear o_w0_
  have B10 := below_mark B9 hg10 B9.size (fun k hk => by have := (z_g0.lt k hk).1; omega)
  clear o_g0
  go_wp2_with fail
  refine (heldIntS_ok _ _ _ 1 w10 _ (RI.of_marks m_g0) hL (by omega) (by omega)).mono ?_
  rintro e w' ⟨rfl, rfl⟩
  go_wp2_with fail
  refine (toIntS_any A0 c0 l0 w10 ((h0.below B10).more B10.size) hn0).mono ?_
  rintro e w11 ⟨g11, rfl, hg11, hb11, hbel11⟩
  have o_w0_ := own_below o_w0 hbel11
  clear o_w0
  have o_w0 := o_w0_
  clear o_w0_
  have B11 := B10.trans (hbel11.mono B10.size)
  have hs11 := hbel11.size
  have o_u0 := ownsRow_blk hb11 hg11 hn0
  have z_u0 := o_u0
  clear hb11 hg11
  have m_g0_ := own_below m_g0 hbel11
  clear m_g0
  have m_g0 := m_g0_
  clear m_g0_
  go_wp2_with fail
  refine (iPlugIn_any _ _ l0 x1 x2 w11 (RI.of_own o_u0) hn0).mono ?_
  rintro e w12 ⟨A_y0, c_y0, rfl, o_y0, hbel12⟩
  have o_w0_ := own_below o_w0 hbel12
  clear o_w0
  have o_w0 := o_w0_
  clear o_w0_
  have o_u0_ := own_below o_u0 hbel12
  clear o_u0
  have o_u0 := o_u0_
  clear o_u0_
  have B12 := B11.trans (hbel12.mono B11.size)
  have hs12 := hbel12.size
  have z_y0 := o_y0
  clear o_u0
  have m_g0_ := own_below m_g0 hbel12
  clear m_g0
  have m_g0 := m_g0_
  clear m_g0_
  go_wp2_with fail
  refine (eqIntS_any _ _ _ _ _ _ w12 _ _ (RI.of_own o_y0) (RI.of_own o_w0) hL hL).mono ?_
  rintro e v13 ⟨rfl, n13, rfl⟩
  rw [beq_self_eq_true]
  have o_w0_ := own_drewN o_w0 n13
  clear o_w0
  have o_w0 := o_w0_
  clear o_w0_
  have o_y0_ := own_drewN o_y0 n13
  clear o_y0
  have o_y0 := o_y0_
  clear o_y0_
  have B13 := below_drewN B12 n13
  have m_g0_ := own_drewN m_g0 n13
  clear m_g0
  have m_g0 := m_g0_
  clear m_g0_
  go_wp2_with fail
  refine (heldIntS_ok _ _ _ 1 (w12.drewN n13) _ (RI.of_marks m_g0) hL (by omega) (by omega)).mono ?_
  rintro e w' ⟨rfl, rfl⟩
  go_wp2_with fail
  go_ret
  exact ⟨rfl, B13⟩
set_option maxHeartbeats 4000000 in
theorem FnExactMovePlugs_walk (A0 : Option Addr) (l0 : List Int) (c0 : Nat) (x1 : Int) (x2 : Int) (w : World) (h0 : RI w w.heap.size A0 l0) (hc0 : l0.length ≤ c0) (hm0 : c0 ≤ maxLen) (hw0 : ∀ x ∈ l0, (Lit.int .i64 x).wf = true) (wx1 : (Lit.int .i64 x1).wf = true) (wx2 : (Lit.int .i64 x2).wf = true) :
    Calls Try.prog 6 #[.slice A0 l0.length c0, .int .i64 x1, .int .i64 x2] w fun e w' => e = .returned (.bool true) ∧ Below w.heap.size w w' := by
  clear hw0
  clear wx1
  clear wx2
  clear hc0 hm0
  by_cases hn0 : l0.length ≤ 1048576
  case neg =>
    have h' : 1048576 < l0.length := by omega
    clear h0 hn0
    go_enter Try.func6, Try.ntmps6
    go_wp2
    go_ret
    exact ⟨rfl, Below.refl _ _⟩
  have hL : (moveL l0 x1 x2).length ≤ 1048576 := moveL_len hn0
  go_enter Try.func6, Try.ntmps6
  go_wp2_with fail
  refine (toIntS_any A0 c0 l0 w h0 hn0).mono ?_
  rintro e w1 ⟨g1, rfl, hg1, hb1, hbel1⟩
  have B1 := hbel1
  have hs1 := hbel1.size
  have o_s0 := ownsRow_blk hb1 hg1 hn0
  have z_s0 := o_s0
  clear hb1 hg1
  go_wp2_with fail
  refine (sMovePlugs_any _ _ l0 x1 x2 w1 (RI.of_own o_s0) hn0).mono ?_
  rintro e w2 ⟨A_w0, c_w0, rfl, o_w0, hbel2⟩
  have o_s0_ := own_below o_s0 hbel2
  clear o_s0
  have o_s0 := o_s0_
  clear o_s0_
  have B2 := B1.trans (hbel2.mono B1.size)
  have hs2 := hbel2.size
  have z_w0 := o_w0
  clear o_s0
  go_wp2_with fail
  refine (toIntS_any A0 c0 l0 w2 ((h0.below B2).more B2.size) hn0).mono ?_
  rintro e w3 ⟨g3, rfl, hg3, hb3, hbel3⟩
  have o_w0_ := own_below o_w0 hbel3
  clear o_w0
  have o_w0 := o_w0_
  clear o_w0_
  have B3 := B2.trans (hbel3.mono B2.size)
  have hs3 := hbel3.size
  have o_x0 := ownsRow_blk hb3 hg3 hn0
  have z_x0 := o_x0
  clear hb3 hg3
  go_wp2_with fail
  refine (iMovePlugs_any _ _ l0 x1 x2 w3 (RI.of_own o_x0) hn0).mono ?_
  rintro e w4 ⟨A_g0, c_g0, rfl, o_g0, hbel4⟩
  have o_w0_ := own_below o_w0 hbel4
  clear o_w0
  have o_w0 := o_w0_
  clear o_w0_
  have o_x0_ := own_below o_x0 hbel4
  clear o_x0
  have o_x0 := o_x0_
  clear o_x0_
  have B4 := B3.trans (hbel4.mono B3.size)
  have hs4 := hbel4.size
  have z_g0 := o_g0
  go_wp2_with fail
  refine (eqIntS_any _ _ _ _ _ _ w4 _ _ (RI.of_own o_g0) (RI.of_own o_w0) hL hL).mono ?_
  rintro e v5 ⟨rfl, n5, rfl⟩
  rw [beq_self_eq_true]
  have o_w0_ := own_drewN o_w0 n5
  clear o_w0
  have o_w0 := o_w0_
  clear o_w0_
  have o_x0_ := own_drewN o_x0 n5
  clear o_x0
  have o_x0 := o_x0_
  clear o_x0_
  have o_g0_ := own_drewN o_g0 n5
  clear o_g0
  have o_g0 := o_g0_
  clear o_g0_
  have B5 := below_drewN B4 n5
  go_wp2_with fail
  refine (toIntS_any A0 c0 l0 (w4.drewN n5) ((h0.below B5).more B5.size) hn0).mono ?_
  rintro e w6 ⟨g6, rfl, hg6, hb6, hbel6⟩
  have o_w0_ := own_below o_w0 hbel6
  clear o_w0
  have o_w0 := o_w0_
  clear o_w0_
  have o_x0_ := own_below o_x0 hbel6
  clear o_x0
  have o_x0 := o_x0_
  clear o_x0_
  have o_g0_ := own_below o_g0 hbel6
  clear o_g0
  have o_g0 := o_g0_
  clear o_g0_
  have B6 := B5.trans (hbel6.mono B5.size)
  have hs6 := hbel6.size
  have o_t0 := ownsRow_blk hb6 hg6 hn0
  have z_t0 := o_t0
  clear hb6 hg6
  go_wp2_with fail
  refine (eqIntS_any _ _ _ _ l0 l0 w6 _ _ (RI.of_own o_x0) (RI.of_own o_t0) hn0 hn0).mono ?_
  rintro e v7 ⟨rfl, n7, rfl⟩
  rw [beq_self_eq_true]
  have o_w0_ := own_drewN o_w0 n7
  clear o_w0
  have o_w0 := o_w0_
  clear o_w0_
  have o_x0_ := own_drewN o_x0 n7
  clear o_x0
  have o_x0 := o_x0_
  clear o_x0_
  have o_g0_ := own_drewN o_g0 n7
  clear o_g0
  have o_g0 := o_g0_
  clear o_g0_
  have o_t0_ := own_drewN o_t0 n7
  clear o_t0
  have o_t0 := o_t0_
  clear o_t0_
  have B7 := below_drewN B6 n7
  clear o_t0
  go_wp2_with fail
  refine (markIntS_any _ _ _ (1) (w6.drewN n7) _ o_x0 hn0 (by omega) (by omega)).mono ?_
  rintro e w8 ⟨rfl, m_x0, hg8⟩
  have o_w0_ := own_mark o_w0 hg8 (own_apart z_w0 z_x0 (by omega)).1
  clear o_w0
  have o_w0 := o_w0_
  clear o_w0_
  have o_g0_ := own_mark o_g0 hg8 (own_apart z_x0 z_g0 (by omega)).2
  clear o_g0
  have o_g0 := o_g0_
  clear o_g0_
  have B8 := below_mark B7 hg8 B7.size (fun k hk => by have := (z_x0.lt k hk).1; omega)
  clear o_x0
  clear m_x0
  go_wp2_with fail
  refine (eqIntS_any _ _ _ _ _ _ w8 _ _ (RI.of_own o_g0) (RI.of_own o_w0) hL hL).mono ?_
  rintro e v9 ⟨rfl, n9, rfl⟩
  rw [beq_self_eq_true]
  have o_w0_ := own_drewN o_w0 n9
  clear o_w0
  have o_w0 := o_w0_
  clear o_w0_
  have o_g0_ := own_drewN o_g0 n9
  clear o_g0
  have o_g0 := o_g0_
  clear o_g0_
  have B9 := below_drewN B8 n9
  go_wp2_with fail
  refine (markIntS_any _ _ _ 1 (w8.drewN n9) _ o_g0 hL (by omega) (by omega)).mono ?_
  rintro e w10 ⟨rfl, m_g0, hg10⟩
  have o_w0_ := own_mark o_w0 hg10 (own_apart z_w0 z_g0 (by omega)).1
  clear o_w0
  have o_w0 := o_w0_
  clear o_w0_
  have B10 := below_mark B9 hg10 B9.size (fun k hk => by have := (z_g0.lt k hk).1; omega)
  clear o_g0
  go_wp2_with fail
  refine (heldIntS_ok _ _ _ 1 w10 _ (RI.of_marks m_g0) hL (by omega) (by omega)).mono ?_
  rintro e w' ⟨rfl, rfl⟩
  go_wp2_with fail
  refine (toIntS_any A0 c0 l0 w10 ((h0.below B10).more B10.size) hn0).mono ?_
  rintro e w11 ⟨g11, rfl, hg11, hb11, hbel11⟩
  have o_w0_ := own_below o_w0 hbel11
  clear o_w0
  have o_w0 := o_w0_
  clear o_w0_
  have B11 := B10.trans (hbel11.mono B10.size)
  have hs11 := hbel11.size
  have o_u0 := ownsRow_blk hb11 hg11 hn0
  have z_u0 := o_u0
  clear hb11 hg11
  have m_g0_ := own_below m_g0 hbel11
  clear m_g0
  have m_g0 := m_g0_
  clear m_g0_
  go_wp2_with fail
  refine (iMovePlugs_any _ _ l0 x1 x2 w11 (RI.of_own o_u0) hn0).mono ?_
  rintro e w12 ⟨A_y0, c_y0, rfl, o_y0, hbel12⟩
  have o_w0_ := own_below o_w0 hbel12
  clear o_w0
  have o_w0 := o_w0_
  clear o_w0_
  have o_u0_ := own_below o_u0 hbel12
  clear o_u0
  have o_u0 := o_u0_
  clear o_u0_
  have B12 := B11.trans (hbel12.mono B11.size)
  have hs12 := hbel12.size
  have z_y0 := o_y0
  clear o_u0
  have m_g0_ := own_below m_g0 hbel12
  clear m_g0
  have m_g0 := m_g0_
  clear m_g0_
  go_wp2_with fail
  refine (eqIntS_any _ _ _ _ _ _ w12 _ _ (RI.of_own o_y0) (RI.of_own o_w0) hL hL).mono ?_
  rintro e v13 ⟨rfl, n13, rfl⟩
  rw [beq_self_eq_true]
  have o_w0_ := own_drewN o_w0 n13
  clear o_w0
  have o_w0 := o_w0_
  clear o_w0_
  have o_y0_ := own_drewN o_y0 n13
  clear o_y0
  have o_y0 := o_y0_
  clear o_y0_
  have B13 := below_drewN B12 n13
  have m_g0_ := own_drewN m_g0 n13
  clear m_g0
  have m_g0 := m_g0_
  clear m_g0_
  go_wp2_with fail
  refine (heldIntS_ok _ _ _ 1 (w12.drewN n13) _ (RI.of_marks m_g0) hL (by omega) (by omega)).mono ?_
  rintro e w' ⟨rfl, rfl⟩
  go_wp2_with fail
  go_ret
  exact ⟨rfl, B13⟩
set_option maxHeartbeats 4000000 in
theorem FnExactFreeLines_walk (A0 : Option Addr) (l0 : List Int) (c0 : Nat) (x1 : Int) (w : World) (h0 : RI w w.heap.size A0 l0) (hc0 : l0.length ≤ c0) (hm0 : c0 ≤ maxLen) (hw0 : ∀ x ∈ l0, (Lit.int .i64 x).wf = true) (wx1 : (Lit.int .i64 x1).wf = true) :
    Calls Try.prog 8 #[.slice A0 l0.length c0, .int .i64 x1] w fun e w' => e = .returned (.bool true) ∧ Below w.heap.size w w' := by
  clear hw0
  clear wx1
  clear hc0 hm0
  by_cases hn0 : l0.length ≤ 1048576
  case neg =>
    have h' : 1048576 < l0.length := by omega
    clear h0 hn0
    go_enter Try.func8, Try.ntmps8
    go_wp2
    go_ret
    exact ⟨rfl, Below.refl _ _⟩
  have hL : (freeL l0 x1).length ≤ 1048576 := freeL_len
  go_enter Try.func8, Try.ntmps8
  go_wp2_with fail
  refine (toIntS_any A0 c0 l0 w h0 hn0).mono ?_
  rintro e w1 ⟨g1, rfl, hg1, hb1, hbel1⟩
  have B1 := hbel1
  have hs1 := hbel1.size
  have o_s0 := ownsRow_blk hb1 hg1 hn0
  have z_s0 := o_s0
  clear hb1 hg1
  go_wp2_with fail
  refine (sFreeLines_any _ _ l0 x1 w1 (RI.of_own o_s0) hn0).mono ?_
  rintro e w2 ⟨A_w0, c_w0, rfl, o_w0, hbel2⟩
  have o_s0_ := own_below o_s0 hbel2
  clear o_s0
  have o_s0 := o_s0_
  clear o_s0_
  have B2 := B1.trans (hbel2.mono B1.size)
  have hs2 := hbel2.size
  have z_w0 := o_w0
  clear o_s0
  go_wp2_with fail
  refine (toIntS_any A0 c0 l0 w2 ((h0.below B2).more B2.size) hn0).mono ?_
  rintro e w3 ⟨g3, rfl, hg3, hb3, hbel3⟩
  have o_w0_ := own_below o_w0 hbel3
  clear o_w0
  have o_w0 := o_w0_
  clear o_w0_
  have B3 := B2.trans (hbel3.mono B2.size)
  have hs3 := hbel3.size
  have o_x0 := ownsRow_blk hb3 hg3 hn0
  have z_x0 := o_x0
  clear hb3 hg3
  go_wp2_with fail
  refine (iFreeLines_any _ _ l0 x1 w3 (RI.of_own o_x0) hn0).mono ?_
  rintro e w4 ⟨A_g0, c_g0, rfl, o_g0, hbel4⟩
  have o_w0_ := own_below o_w0 hbel4
  clear o_w0
  have o_w0 := o_w0_
  clear o_w0_
  have o_x0_ := own_below o_x0 hbel4
  clear o_x0
  have o_x0 := o_x0_
  clear o_x0_
  have B4 := B3.trans (hbel4.mono B3.size)
  have hs4 := hbel4.size
  have z_g0 := o_g0
  go_wp2_with fail
  refine (eqIntS_any _ _ _ _ _ _ w4 _ _ (RI.of_own o_g0) (RI.of_own o_w0) hL hL).mono ?_
  rintro e v5 ⟨rfl, n5, rfl⟩
  rw [beq_self_eq_true]
  have o_w0_ := own_drewN o_w0 n5
  clear o_w0
  have o_w0 := o_w0_
  clear o_w0_
  have o_x0_ := own_drewN o_x0 n5
  clear o_x0
  have o_x0 := o_x0_
  clear o_x0_
  have o_g0_ := own_drewN o_g0 n5
  clear o_g0
  have o_g0 := o_g0_
  clear o_g0_
  have B5 := below_drewN B4 n5
  go_wp2_with fail
  refine (toIntS_any A0 c0 l0 (w4.drewN n5) ((h0.below B5).more B5.size) hn0).mono ?_
  rintro e w6 ⟨g6, rfl, hg6, hb6, hbel6⟩
  have o_w0_ := own_below o_w0 hbel6
  clear o_w0
  have o_w0 := o_w0_
  clear o_w0_
  have o_x0_ := own_below o_x0 hbel6
  clear o_x0
  have o_x0 := o_x0_
  clear o_x0_
  have o_g0_ := own_below o_g0 hbel6
  clear o_g0
  have o_g0 := o_g0_
  clear o_g0_
  have B6 := B5.trans (hbel6.mono B5.size)
  have hs6 := hbel6.size
  have o_t0 := ownsRow_blk hb6 hg6 hn0
  have z_t0 := o_t0
  clear hb6 hg6
  go_wp2_with fail
  refine (eqIntS_any _ _ _ _ l0 l0 w6 _ _ (RI.of_own o_x0) (RI.of_own o_t0) hn0 hn0).mono ?_
  rintro e v7 ⟨rfl, n7, rfl⟩
  rw [beq_self_eq_true]
  have o_w0_ := own_drewN o_w0 n7
  clear o_w0
  have o_w0 := o_w0_
  clear o_w0_
  have o_x0_ := own_drewN o_x0 n7
  clear o_x0
  have o_x0 := o_x0_
  clear o_x0_
  have o_g0_ := own_drewN o_g0 n7
  clear o_g0
  have o_g0 := o_g0_
  clear o_g0_
  have o_t0_ := own_drewN o_t0 n7
  clear o_t0
  have o_t0 := o_t0_
  clear o_t0_
  have B7 := below_drewN B6 n7
  clear o_t0
  go_wp2_with fail
  refine (markIntS_any _ _ _ (1) (w6.drewN n7) _ o_x0 hn0 (by omega) (by omega)).mono ?_
  rintro e w8 ⟨rfl, m_x0, hg8⟩
  have o_w0_ := own_mark o_w0 hg8 (own_apart z_w0 z_x0 (by omega)).1
  clear o_w0
  have o_w0 := o_w0_
  clear o_w0_
  have o_g0_ := own_mark o_g0 hg8 (own_apart z_x0 z_g0 (by omega)).2
  clear o_g0
  have o_g0 := o_g0_
  clear o_g0_
  have B8 := below_mark B7 hg8 B7.size (fun k hk => by have := (z_x0.lt k hk).1; omega)
  clear o_x0
  clear m_x0
  go_wp2_with fail
  refine (eqIntS_any _ _ _ _ _ _ w8 _ _ (RI.of_own o_g0) (RI.of_own o_w0) hL hL).mono ?_
  rintro e v9 ⟨rfl, n9, rfl⟩
  rw [beq_self_eq_true]
  have o_w0_ := own_drewN o_w0 n9
  clear o_w0
  have o_w0 := o_w0_
  clear o_w0_
  have o_g0_ := own_drewN o_g0 n9
  clear o_g0
  have o_g0 := o_g0_
  clear o_g0_
  have B9 := below_drewN B8 n9
  go_wp2_with fail
  refine (markIntS_any _ _ _ 1 (w8.drewN n9) _ o_g0 hL (by omega) (by omega)).mono ?_
  rintro e w10 ⟨rfl, m_g0, hg10⟩
  have o_w0_ := own_mark o_w0 hg10 (own_apart z_w0 z_g0 (by omega)).1
  clear o_w0
  have o_w0 := o_w0_
  clear o_w0_
  have B10 := below_mark B9 hg10 B9.size (fun k hk => by have := (z_g0.lt k hk).1; omega)
  clear o_g0
  go_wp2_with fail
  refine (heldIntS_ok _ _ _ 1 w10 _ (RI.of_marks m_g0) hL (by omega) (by omega)).mono ?_
  rintro e w' ⟨rfl, rfl⟩
  go_wp2_with fail
  refine (toIntS_any A0 c0 l0 w10 ((h0.below B10).more B10.size) hn0).mono ?_
  rintro e w11 ⟨g11, rfl, hg11, hb11, hbel11⟩
  have o_w0_ := own_below o_w0 hbel11
  clear o_w0
  have o_w0 := o_w0_
  clear o_w0_
  have B11 := B10.trans (hbel11.mono B10.size)
  have hs11 := hbel11.size
  have o_u0 := ownsRow_blk hb11 hg11 hn0
  have z_u0 := o_u0
  clear hb11 hg11
  have m_g0_ := own_below m_g0 hbel11
  clear m_g0
  have m_g0 := m_g0_
  clear m_g0_
  go_wp2_with fail
  refine (iFreeLines_any _ _ l0 x1 w11 (RI.of_own o_u0) hn0).mono ?_
  rintro e w12 ⟨A_y0, c_y0, rfl, o_y0, hbel12⟩
  have o_w0_ := own_below o_w0 hbel12
  clear o_w0
  have o_w0 := o_w0_
  clear o_w0_
  have o_u0_ := own_below o_u0 hbel12
  clear o_u0
  have o_u0 := o_u0_
  clear o_u0_
  have B12 := B11.trans (hbel12.mono B11.size)
  have hs12 := hbel12.size
  have z_y0 := o_y0
  clear o_u0
  have m_g0_ := own_below m_g0 hbel12
  clear m_g0
  have m_g0 := m_g0_
  clear m_g0_
  go_wp2_with fail
  refine (eqIntS_any _ _ _ _ _ _ w12 _ _ (RI.of_own o_y0) (RI.of_own o_w0) hL hL).mono ?_
  rintro e v13 ⟨rfl, n13, rfl⟩
  rw [beq_self_eq_true]
  have o_w0_ := own_drewN o_w0 n13
  clear o_w0
  have o_w0 := o_w0_
  clear o_w0_
  have o_y0_ := own_drewN o_y0 n13
  clear o_y0
  have o_y0 := o_y0_
  clear o_y0_
  have B13 := below_drewN B12 n13
  have m_g0_ := own_drewN m_g0 n13
  clear m_g0
  have m_g0 := m_g0_
  clear m_g0_
  go_wp2_with fail
  refine (heldIntS_ok _ _ _ 1 (w12.drewN n13) _ (RI.of_marks m_g0) hL (by omega) (by omega)).mono ?_
  rintro e w' ⟨rfl, rfl⟩
  go_wp2_with fail
  go_ret
  exact ⟨rfl, B13⟩
end Go.Proofs.Ytnfjgepakfbcnaa
