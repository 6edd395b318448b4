/-
  The law on the deeds of entries served, walked: it returns true and writes nothing that was there.
-/
import Derived.Test.YtpblpdoalfphpaaServed3
namespace Go.Proofs.Ytpblpdoalfphpaa
open Go.RowKit
set_option linter.unusedSimpArgs false
set_option linter.unusedVariables false

/-- what is asked of each deed and each entry that comes in -/
def gdD (d : Dd) : Prop := d.1.size ≤ maxLen ∧ (Lit.int .i64 d.2.1).wf = true ∧ (Lit.int .i64 d.2.2).wf = true
def gdS (d : Sv) : Prop := (Lit.int .i64 d.1).wf = true ∧ d.2.size ≤ maxLen
theorem RD.of_marks {w : World} {base : Nat} {e : TypeId} {A : Option Addr} {c n : Nat} {k : Int} (h : w.ownsRow base e 3 (.slice A n c) n (cells3 (markD k n))) : RD w w.heap.size A (markD k n) := by
  have := Reads.of_own h
  unfold RD
  rwa [markD_length]
set_option maxHeartbeats 4000000 in
theorem FnExactDeedsServed_walk (A0 : Option Addr) (l0 : List Dd) (c0 : Nat) (A1 : Option Addr) (l1 : List Sv) (c1 : Nat) (w : World) (h0 : RD w w.heap.size A0 l0) (hc0 : l0.length ≤ c0) (hm0 : c0 ≤ maxLen) (hw0 : ∀ x ∈ l0, gdD x) (h1 : RS w w.heap.size A1 l1) (hc1 : l1.length ≤ c1) (hm1 : c1 ≤ maxLen) (hw1 : ∀ x ∈ l1, gdS x) :
    Calls Try.prog 5 #[.slice A0 l0.length c0, .slice A1 l1.length c1] w fun e w' => e = .returned (.bool true) ∧ Below w.heap.size w w' := by
  have hz0 := fun (W : World) (hW : Below w.heap.size w W) => szDeedS_any A0 c0 l0 (1048576) W ((h0.below hW).more hW.size) hc0 hm0 (fun d hd => (hw0 d hd).1)
  by_cases hf0 : (szD l0 : Int) ≤ 1048576
  case neg =>
    have hzz := fun (W : World) (hW : Below w.heap.size w W) => hz0 W hW (by omega) (by omega)
    rw [leftD_no (by omega)] at hzz
    clear hf0 hz0 h0 h1 hw0 hc0 hm0 hw1 hc1 hm1
    go_enter Try.func5, Try.ntmps5
    go_wp2_with fail
    refine (hzz _ (Below.refl _ _)).mono ?_
    rintro e w1 ⟨rfl, hb1⟩
    clear hzz
    go_wp2
    go_ret
    exact ⟨rfl, hb1⟩
  have hy0 := fun (W : World) (hW : Below w.heap.size w W) => hz0 W hW (by omega) (by omega)
  clear hz0
  rw [leftD_ok hf0] at hy0
  have hn0 : l0.length ≤ 1048576 := by have := szD_len (l := l0); omega
  obtain ⟨t0, ht0, hta0, htb0⟩ : ∃ t : Int, (1048576 : Int) - szD l0 = t ∧ 0 ≤ t ∧ t ≤ 1048576 := ⟨_, rfl, by omega, by omega⟩
  rw [ht0] at hy0
  clear ht0 hf0
  have hz1 := fun (W : World) (hW : Below w.heap.size w W) => szServedS_any A1 c1 l1 (t0) W ((h1.below hW).more hW.size) hc1 hm1 (fun d hd => (hw1 d hd).2)
  by_cases hf1 : (szS l1 : Int) ≤ t0
  case neg =>
    have hzz := fun (W : World) (hW : Below w.heap.size w W) => hz1 W hW (by omega) (by omega)
    rw [leftS_no (by omega)] at hzz
    clear hf1 hz1 h0 h1 hw0 hc0 hm0 hw1 hc1 hm1
    go_enter Try.func5, Try.ntmps5
    go_wp2_with fail
    refine (hy0 w (Below.refl _ _)).mono ?_
    rintro e v0 ⟨rfl, hv0⟩
    go_wp2_with fail
    refine (hzz _ (hv0)).mono ?_
    rintro e w1 ⟨rfl, hb1⟩
    clear hzz
    go_wp2
    go_ret
    exact ⟨rfl, hv0.trans (hb1.mono hv0.size)⟩
  have hy1 := fun (W : World) (hW : Below w.heap.size w W) => hz1 W hW (by omega) (by omega)
  clear hz1
  rw [leftS_ok hf1] at hy1
  have hn1 : l1.length ≤ 1048576 := by have := szS_len (l := l1); omega
  obtain ⟨t1, ht1, hta1, htb1⟩ : ∃ t : Int, (t0 : Int) - szS l1 = t ∧ 0 ≤ t ∧ t ≤ 1048576 := ⟨_, rfl, by omega, by omega⟩
  rw [ht1] at hy1
  clear ht1 hf1
  clear hw0 hc0 hm0 hw1 hc1 hm1
  have hL : (dsL l0 l1).length ≤ 1048576 := dsL_len hn1
  go_enter Try.func5, Try.ntmps5
  go_wp2_with fail
  refine (hy0 _ (Below.refl _ _)).mono ?_
  rintro e w1 ⟨rfl, hbel1⟩
  have B1 := hbel1
  have hs1 := hbel1.size
  clear hy0
  go_wp2_with fail
  refine (hy1 _ B1).mono ?_
  rintro e w2 ⟨rfl, hbel2⟩
  have B2 := B1.trans (hbel2.mono B1.size)
  have hs2 := hbel2.size
  clear hy1
  go_wp2_with fail
  refine (toDeedS_any A0 c0 l0 w2 ((h0.below B2).more B2.size) hn0).mono ?_
  rintro e w3 ⟨g3, rfl, hg3, hb3, hbel3⟩
  have B3 := B2.trans (hbel3.mono B2.size)
  have hs3 := hbel3.size
  have o_s0 := own_blk3 hb3 hg3 hn0
  have z_s0 := o_s0
  clear hb3 hg3
  go_wp2_with fail
  refine (toServedS_any A1 c1 l1 w3 ((h1.below B3).more B3.size) hn1).mono ?_
  rintro e w4 ⟨g4, rfl, hg4, hb4, hbel4⟩
  have o_s0_ := own_below o_s0 hbel4
  clear o_s0
  have o_s0 := o_s0_
  clear o_s0_
  have B4 := B3.trans (hbel4.mono B3.size)
  have hs4 := hbel4.size
  have o_s1 := own_blkS hb4 hg4 hn1
  have z_s1 := o_s1
  clear hb4 hg4
  go_wp2_with fail
  refine (sDeedsServed_any _ _ l0 _ _ l1 w4 (RD.of_own o_s0) (RS.of_own o_s1) hn0 hn1).mono ?_
  rintro e w5 ⟨A_w0, c_w0, rfl, o_w0, hbel5⟩
  have o_s0_ := own_below o_s0 hbel5
  clear o_s0
  have o_s0 := o_s0_
  clear o_s0_
  have o_s1_ := own_below o_s1 hbel5
  clear o_s1
  have o_s1 := o_s1_
  clear o_s1_
  have B5 := B4.trans (hbel5.mono B4.size)
  have hs5 := hbel5.size
  have z_w0 := o_w0
  clear o_s0
  clear o_s1
  go_wp2_with fail
  refine (toDeedS_any A0 c0 l0 w5 ((h0.below B5).more B5.size) hn0).mono ?_
  rintro e w6 ⟨g6, rfl, hg6, hb6, hbel6⟩
  have o_w0_ := own_below o_w0 hbel6
  clear o_w0
  have o_w0 := o_w0_
  clear o_w0_
  have B6 := B5.trans (hbel6.mono B5.size)
  have hs6 := hbel6.size
  have o_x0 := own_blk3 hb6 hg6 hn0
  have z_x0 := o_x0
  clear hb6 hg6
  go_wp2_with fail
  refine (toServedS_any A1 c1 l1 w6 ((h1.below B6).more B6.size) hn1).mono ?_
  rintro e w7 ⟨g7, rfl, hg7, hb7, hbel7⟩
  have o_w0_ := own_below o_w0 hbel7
  clear o_w0
  have o_w0 := o_w0_
  clear o_w0_
  have o_x0_ := own_below o_x0 hbel7
  clear o_x0
  have o_x0 := o_x0_
  clear o_x0_
  have B7 := B6.trans (hbel7.mono B6.size)
  have hs7 := hbel7.size
  have o_x1 := own_blkS hb7 hg7 hn1
  have z_x1 := o_x1
  clear hb7 hg7
  go_wp2_with fail
  refine (iDeedsServed_any _ _ l0 _ _ l1 w7 (RD.of_own o_x0) (RS.of_own o_x1) hn0 hn1).mono ?_
  rintro e w8 ⟨A_g0, c_g0, rfl, o_g0, hbel8⟩
  have o_w0_ := own_below o_w0 hbel8
  clear o_w0
  have o_w0 := o_w0_
  clear o_w0_
  have o_x0_ := own_below o_x0 hbel8
  clear o_x0
  have o_x0 := o_x0_
  clear o_x0_
  have o_x1_ := own_below o_x1 hbel8
  clear o_x1
  have o_x1 := o_x1_
  clear o_x1_
  have B8 := B7.trans (hbel8.mono B7.size)
  have hs8 := hbel8.size
  have z_g0 := o_g0
  go_wp2_with fail
  refine (eqDeedS_same _ _ _ _ (dsL l0 l1) w8 (RD.of_own o_g0) (RD.of_own o_w0) hL).mono ?_
  rintro e w9 ⟨rfl, hbel9⟩
  have o_w0_ := own_below o_w0 hbel9
  clear o_w0
  have o_w0 := o_w0_
  clear o_w0_
  have o_x0_ := own_below o_x0 hbel9
  clear o_x0
  have o_x0 := o_x0_
  clear o_x0_
  have o_x1_ := own_below o_x1 hbel9
  clear o_x1
  have o_x1 := o_x1_
  clear o_x1_
  have o_g0_ := own_below o_g0 hbel9
  clear o_g0
  have o_g0 := o_g0_
  clear o_g0_
  have B9 := B8.trans (hbel9.mono B8.size)
  have hs9 := hbel9.size
  go_wp2_with fail
  refine (toDeedS_any A0 c0 l0 w9 ((h0.below B9).more B9.size) hn0).mono ?_
  rintro e w10 ⟨g10, rfl, hg10, hb10, hbel10⟩
  have o_w0_ := own_below o_w0 hbel10
  clear o_w0
  have o_w0 := o_w0_
  clear o_w0_
  have o_x0_ := own_below o_x0 hbel10
  clear o_x0
  have o_x0 := o_x0_
  clear o_x0_
  have o_x1_ := own_below o_x1 hbel10
  clear o_x1
  have o_x1 := o_x1_
  clear o_x1_
  have o_g0_ := own_below o_g0 hbel10
  clear o_g0
  have o_g0 := o_g0_
  clear o_g0_
  have B10 := B9.trans (hbel10.mono B9.size)
  have hs10 := hbel10.size
  have o_t0 := own_blk3 hb10 hg10 hn0
  have z_t0 := o_t0
  clear hb10 hg10
  go_wp2_with fail
  refine (eqDeedS_same _ _ _ _ l0 w10 (RD.of_own o_x0) (RD.of_own o_t0) hn0).mono ?_
  rintro e w11 ⟨rfl, hbel11⟩
  have o_w0_ := own_below o_w0 hbel11
  clear o_w0
  have o_w0 := o_w0_
  clear o_w0_
  have o_x0_ := own_below o_x0 hbel11
  clear o_x0
  have o_x0 := o_x0_
  clear o_x0_
  have o_x1_ := own_below o_x1 hbel11
  clear o_x1
  have o_x1 := o_x1_
  clear o_x1_
  have o_g0_ := own_below o_g0 hbel11
  clear o_g0
  have o_g0 := o_g0_
  clear o_g0_
  have o_t0_ := own_below o_t0 hbel11
  clear o_t0
  have o_t0 := o_t0_
  clear o_t0_
  have B11 := B10.trans (hbel11.mono B10.size)
  have hs11 := hbel11.size
  clear o_t0
  go_wp2_with fail
  refine (toServedS_any A1 c1 l1 w11 ((h1.below B11).more B11.size) hn1).mono ?_
  rintro e w12 ⟨g12, rfl, hg12, hb12, hbel12⟩
  have o_w0_ := own_below o_w0 hbel12
  clear o_w0
  have o_w0 := o_w0_
  clear o_w0_
  have o_x0_ := own_below o_x0 hbel12
  clear o_x0
  have o_x0 := o_x0_
  clear o_x0_
  have o_x1_ := own_below o_x1 hbel12
  clear o_x1
  have o_x1 := o_x1_
  clear o_x1_
  have o_g0_ := own_below o_g0 hbel12
  clear o_g0
  have o_g0 := o_g0_
  clear o_g0_
  have B12 := B11.trans (hbel12.mono B11.size)
  have hs12 := hbel12.size
  have o_t1 := own_blkS hb12 hg12 hn1
  have z_t1 := o_t1
  clear hb12 hg12
  go_wp2_with fail
  refine (eqServedS_same _ _ _ _ l1 w12 (RS.of_own o_x1) (RS.of_own o_t1) hn1).mono ?_
  rintro e w13 ⟨rfl, hbel13⟩
  have o_w0_ := own_below o_w0 hbel13
  clear o_w0
  have o_w0 := o_w0_
  clear o_w0_
  have o_x0_ := own_below o_x0 hbel13
  clear o_x0
  have o_x0 := o_x0_
  clear o_x0_
  have o_x1_ := own_below o_x1 hbel13
  clear o_x1
  have o_x1 := o_x1_
  clear o_x1_
  have o_g0_ := own_below o_g0 hbel13
  clear o_g0
  have o_g0 := o_g0_
  clear o_g0_
  have o_t1_ := own_below o_t1 hbel13
  clear o_t1
  have o_t1 := o_t1_
  clear o_t1_
  have B13 := B12.trans (hbel13.mono B12.size)
  have hs13 := hbel13.size
  clear o_t1
  go_wp2_with fail
  refine (markDeedS_any _ _ _ (1) w13 _ o_x0 hn0 (by omega) (by omega)).mono ?_
  rintro e w14 ⟨rfl, m_x0, hg14⟩
  have o_w0_ := own_mark o_w0 hg14 (own_apart z_w0 z_x0 (by omega)).1
  clear o_w0
  have o_w0 := o_w0_
  clear o_w0_
  have o_x1_ := own_mark o_x1 hg14 (own_apart z_x0 z_x1 (by omega)).2
  clear o_x1
  have o_x1 := o_x1_
  clear o_x1_
  have o_g0_ := own_mark o_g0 hg14 (own_apart z_x0 z_g0 (by omega)).2
  clear o_g0
  have o_g0 := o_g0_
  clear o_g0_
  have B14 := below_mark B13 hg14 B13.size (fun k hk => by have := (z_x0.lt k hk).1; omega)
  clear o_x0
  clear m_x0
  go_wp2_with fail
  refine (markServedS_any _ _ _ (1 + 3 * l0.length) w14 _ o_x1 hn1 (by omega) (by omega)).mono ?_
  rintro e w15 ⟨rfl, hg15⟩
  have o_w0_ := own_mark o_w0 hg15 (own_apart z_w0 z_x1 (by omega)).1
  clear o_w0
  have o_w0 := o_w0_
  clear o_w0_
  have o_g0_ := own_mark o_g0 hg15 (own_apart z_x1 z_g0 (by omega)).2
  clear o_g0
  have o_g0 := o_g0_
  clear o_g0_
  have B15 := below_mark B14 hg15 B14.size (fun k hk => by have := (z_x1.lt k hk).1; omega)
  clear o_x1
  go_wp2_with fail
  refine (eqDeedS_same _ _ _ _ (dsL l0 l1) w15 (RD.of_own o_g0) (RD.of_own o_w0) hL).mono ?_
  rintro e w16 ⟨rfl, hbel16⟩
  have o_w0_ := own_below o_w0 hbel16
  clear o_w0
  have o_w0 := o_w0_
  clear o_w0_
  have o_g0_ := own_below o_g0 hbel16
  clear o_g0
  have o_g0 := o_g0_
  clear o_g0_
  have B16 := B15.trans (hbel16.mono B15.size)
  have hs16 := hbel16.size
  go_wp2_with fail
  refine (markDeedS_any _ _ _ 1 w16 _ o_g0 hL (by omega) (by omega)).mono ?_
  rintro e w17 ⟨rfl, m_g0, hg17⟩
  have o_w0_ := own_mark o_w0 hg17 (own_apart z_w0 z_g0 (by omega)).1
  clear o_w0
  have o_w0 := o_w0_
  clear o_w0_
  have B17 := below_mark B16 hg17 B16.size (fun k hk => by have := (z_g0.lt k hk).1; omega)
  clear o_g0
  have o_m := m_g0
  clear m_g0
  go_wp2_with fail
  refine (heldDeedS_ok _ _ _ 1 w17 (RD.of_marks o_m) hL (by omega) (by omega)).mono ?_
  rintro e w18 ⟨rfl, hbel18⟩
  have o_w0_ := own_below o_w0 hbel18
  clear o_w0
  have o_w0 := o_w0_
  clear o_w0_
  have o_m_ := own_below o_m hbel18
  clear o_m
  have o_m := o_m_
  clear o_m_
  have B18 := B17.trans (hbel18.mono B17.size)
  have hs18 := hbel18.size
  go_wp2_with fail
  refine (toDeedS_any A0 c0 l0 w18 ((h0.below B18).more B18.size) hn0).mono ?_
  rintro e w19 ⟨g19, rfl, hg19, hb19, hbel19⟩
  have o_w0_ := own_below o_w0 hbel19
  clear o_w0
  have o_w0 := o_w0_
  clear o_w0_
  have o_m_ := own_below o_m hbel19
  clear o_m
  have o_m := o_m_
  clear o_m_
  have B19 := B18.trans (hbel19.mono B18.size)
  have hs19 := hbel19.size
  have o_u0 := own_blk3 hb19 hg19 hn0
  have z_u0 := o_u0
  clear hb19 hg19
  go_wp2_with fail
  refine (toServedS_any A1 c1 l1 w19 ((h1.below B19).more B19.size) hn1).mono ?_
  rintro e w20 ⟨g20, rfl, hg20, hb20, hbel20⟩
  have o_w0_ := own_below o_w0 hbel20
  clear o_w0
  have o_w0 := o_w0_
  clear o_w0_
  have o_m_ := own_below o_m hbel20
  clear o_m
  have o_m := o_m_
  clear o_m_
  have o_u0_ := own_below o_u0 hbel20
  clear o_u0
  have o_u0 := o_u0_
  clear o_u0_
  have B20 := B19.trans (hbel20.mono B19.size)
  have hs20 := hbel20.size
  have o_u1 := own_blkS hb20 hg20 hn1
  have z_u1 := o_u1
  clear hb20 hg20
  go_wp2_with fail
  refine (iDeedsServed_any _ _ l0 _ _ l1 w20 (RD.of_own o_u0) (RS.of_own o_u1) hn0 hn1).mono ?_
  rintro e w21 ⟨A_y0, c_y0, rfl, o_y0, hbel21⟩
  have o_w0_ := own_below o_w0 hbel21
  clear o_w0
  have o_w0 := o_w0_
  clear o_w0_
  have o_m_ := own_below o_m hbel21
  clear o_m
  have o_m := o_m_
  clear o_m_
  have o_u0_ := own_below o_u0 hbel21
  clear o_u0
  have o_u0 := o_u0_
  clear o_u0_
  have o_u1_ := own_below o_u1 hbel21
  clear o_u1
  have o_u1 := o_u1_
  clear o_u1_
  have B21 := B20.trans (hbel21.mono B20.size)
  have hs21 := hbel21.size
  have z_y0 := o_y0
  clear o_u0
  clear o_u1
  go_wp2_with fail
  refine (eqDeedS_same _ _ _ _ (dsL l0 l1) w21 (RD.of_own o_y0) (RD.of_own o_w0) hL).mono ?_
  rintro e w22 ⟨rfl, hbel22⟩
  have o_w0_ := own_below o_w0 hbel22
  clear o_w0
  have o_w0 := o_w0_
  clear o_w0_
  have o_m_ := own_below o_m hbel22
  clear o_m
  have o_m := o_m_
  clear o_m_
  have o_y0_ := own_below o_y0 hbel22
  clear o_y0
  have o_y0 := o_y0_
  clear o_y0_
  have B22 := B21.trans (hbel22.mono B21.size)
  have hs22 := hbel22.size
  go_wp2_with fail
  refine (heldDeedS_ok _ _ _ 1 w22 (RD.of_marks o_m) hL (by omega) (by omega)).mono ?_
  rintro e w23 ⟨rfl, hbel23⟩
  have o_w0_ := own_below o_w0 hbel23
  clear o_w0
  have o_w0 := o_w0_
  clear o_w0_
  have o_m_ := own_below o_m hbel23
  clear o_m
  have o_m := o_m_
  clear o_m_
  have o_y0_ := own_below o_y0 hbel23
  clear o_y0
  have o_y0 := o_y0_
  clear o_y0_
  have B23 := B22.trans (hbel23.mono B22.size)
  have hs23 := hbel23.size
  go_wp2_with fail
  go_ret
  exact ⟨rfl, B23⟩
end Go.Proofs.Ytpblpdoalfphpaa
