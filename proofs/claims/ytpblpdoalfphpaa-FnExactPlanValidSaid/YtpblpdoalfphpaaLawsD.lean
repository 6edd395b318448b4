/-
  Laws on plans and tables, walked: each returns true and writes nothing that was there.
-/
import Derived.Test.YtpblpdoalfphpaaPlan
namespace Go.Proofs.Ytpblpdoalfphpaa
open Go.RowKit
set_option linter.unusedSimpArgs false
set_option linter.unusedVariables false

/-- what is asked of each deed that comes in -/
def gdD (d : Dd) : Prop := d.1.size ≤ maxLen ∧ (Lit.int .i64 d.2.1).wf = true ∧ (Lit.int .i64 d.2.2).wf = true
set_option maxHeartbeats 1000000 in
theorem FnExactPlanValid_walk (A0 : Option Addr) (l0 : List Dd) (c0 : Nat) (x1 : Int) (w : World) (h0 : RD w w.heap.size A0 l0) (hc0 : l0.length ≤ c0) (hm0 : c0 ≤ maxLen) (hw0 : ∀ r ∈ l0, gdD r) (wx1 : (Lit.int .i64 x1).wf = true) :
    Calls Try.prog 3 #[.slice A0 l0.length c0, .int .i64 x1] w fun e w' => e = .returned (.bool true) ∧ Below w.heap.size w w' := by
  have hz := szDeedS_any A0 c0 l0 1048576 w h0 hc0 hm0 (fun d hd => (hw0 d hd).1) (by omega) (by omega)
  clear hc0 hm0 hw0 wx1
  by_cases hn : (szD l0 : Int) ≤ 1048576
  case neg =>
    rw [leftD_no (by omega)] at hz
    clear hn
    go_enter Try.func3, Try.ntmps3
    go_wp2_with fail
    refine hz.mono ?_
    rintro e w1 ⟨rfl, hb1⟩
    clear hz
    go_wp2
    go_ret
    exact ⟨rfl, hb1⟩
  rw [leftD_ok hn] at hz
  have hn0 : l0.length ≤ 1048576 := by have := szD_len (l := l0); omega
  obtain ⟨t, ht, ht0, ht1⟩ : ∃ t : Int, (1048576 : Int) - szD l0 = t ∧ 0 ≤ t ∧ t ≤ 1048576 := ⟨_, rfl, by omega, by omega⟩
  rw [ht] at hz
  clear ht hn
  go_enter Try.func3, Try.ntmps3
  go_wp2_with fail
  refine hz.mono ?_
  rintro e w1 ⟨rfl, B1⟩
  clear hz
  go_wp2_with fail
  refine (toDeedS_any A0 c0 l0 w1 ((h0.below B1).more B1.size) hn0).mono ?_
  rintro e w2 ⟨g2, rfl, hg2, hb2, hbel2⟩
  have B2 := B1.trans (hbel2.mono B1.size)
  go_wp2_with fail
  refine (sPlanValid_any _ _ l0 x1 w2 hb2.RD_ hn0).mono ?_
  rintro e w3 ⟨rfl, hbel3⟩
  have B3 := B2.trans (hbel3.mono B2.size)
  clear hb2 hbel2 hbel3
  go_wp2_with fail
  refine (toDeedS_any A0 c0 l0 w3 ((h0.below B3).more B3.size) hn0).mono ?_
  rintro e w4 ⟨g4, rfl, hg4, hb4, hbel4⟩
  have B4 := B3.trans (hbel4.mono B3.size)
  clear hbel4
  go_wp2_with fail
  refine (iPlanValid_any _ _ l0 x1 w4 hb4.RD_ hn0).mono ?_
  rintro e w5 ⟨rfl, hbel5⟩
  have B5 := B4.trans (hbel5.mono B4.size)
  have r5 := (hb4.RD_.below hbel5).more hbel5.size
  clear hb4 hbel5
  have hne : (planB l0 x1 != planB l0 x1) = false := by simp
  go_wp2_with fail
  refine (toDeedS_any A0 c0 l0 w5 ((h0.below B5).more B5.size) hn0).mono ?_
  rintro e w6 ⟨g6, rfl, hg6, hb6, hbel6⟩
  have B6 := B5.trans (hbel6.mono B5.size)
  have r6 := (r5.below hbel6).more hbel6.size
  go_wp2_with fail
  refine (eqDeedS_same _ _ _ _ l0 w6 r6 hb6.RD_ hn0).mono ?_
  rintro e w7 ⟨rfl, hbel7⟩
  have B7 := B6.trans (hbel7.mono B6.size)
  go_wp2
  go_ret
  exact ⟨rfl, B7⟩
set_option maxHeartbeats 1000000 in
theorem FnExactTableValid_walk (A0 : Option Addr) (l0 : List Dd) (c0 : Nat) (x1 : Int) (w : World) (h0 : RD w w.heap.size A0 l0) (hc0 : l0.length ≤ c0) (hm0 : c0 ≤ maxLen) (hw0 : ∀ r ∈ l0, gdD r) (wx1 : (Lit.int .i64 x1).wf = true) :
    Calls Try.prog 4 #[.slice A0 l0.length c0, .int .i64 x1] w fun e w' => e = .returned (.bool true) ∧ Below w.heap.size w w' := by
  have hz := szDeedS_any A0 c0 l0 1048576 w h0 hc0 hm0 (fun d hd => (hw0 d hd).1) (by omega) (by omega)
  clear hc0 hm0 hw0 wx1
  by_cases hn : (szD l0 : Int) ≤ 1048576
  case neg =>
    rw [leftD_no (by omega)] at hz
    clear hn
    go_enter Try.func4, Try.ntmps4
    go_wp2_with fail
    refine hz.mono ?_
    rintro e w1 ⟨rfl, hb1⟩
    clear hz
    go_wp2
    go_ret
    exact ⟨rfl, hb1⟩
  rw [leftD_ok hn] at hz
  have hn0 : l0.length ≤ 1048576 := by have := szD_len (l := l0); omega
  obtain ⟨t, ht, ht0, ht1⟩ : ∃ t : Int, (1048576 : Int) - szD l0 = t ∧ 0 ≤ t ∧ t ≤ 1048576 := ⟨_, rfl, by omega, by omega⟩
  rw [ht] at hz
  clear ht hn
  go_enter Try.func4, Try.ntmps4
  go_wp2_with fail
  refine hz.mono ?_
  rintro e w1 ⟨rfl, B1⟩
  clear hz
  go_wp2_with fail
  refine (toDeedS_any A0 c0 l0 w1 ((h0.below B1).more B1.size) hn0).mono ?_
  rintro e w2 ⟨g2, rfl, hg2, hb2, hbel2⟩
  have B2 := B1.trans (hbel2.mono B1.size)
  go_wp2_with fail
  refine (sTableValid_any _ _ l0 x1 w2 hb2.RD_ hn0).mono ?_
  rintro e w3 ⟨rfl, hbel3⟩
  have B3 := B2.trans (hbel3.mono B2.size)
  clear hb2 hbel2 hbel3
  go_wp2_with fail
  refine (toDeedS_any A0 c0 l0 w3 ((h0.below B3).more B3.size) hn0).mono ?_
  rintro e w4 ⟨g4, rfl, hg4, hb4, hbel4⟩
  have B4 := B3.trans (hbel4.mono B3.size)
  clear hbel4
  go_wp2_with fail
  refine (iTableValid_any _ _ l0 x1 w4 hb4.RD_ hn0).mono ?_
  rintro e w5 ⟨rfl, hbel5⟩
  have B5 := B4.trans (hbel5.mono B4.size)
  have r5 := (hb4.RD_.below hbel5).more hbel5.size
  clear hb4 hbel5
  have hne : (tableB l0 x1 != tableB l0 x1) = false := by simp
  go_wp2_with fail
  refine (toDeedS_any A0 c0 l0 w5 ((h0.below B5).more B5.size) hn0).mono ?_
  rintro e w6 ⟨g6, rfl, hg6, hb6, hbel6⟩
  have B6 := B5.trans (hbel6.mono B5.size)
  have r6 := (r5.below hbel6).more hbel6.size
  go_wp2_with fail
  refine (eqDeedS_same _ _ _ _ l0 w6 r6 hb6.RD_ hn0).mono ?_
  rintro e w7 ⟨rfl, hbel7⟩
  have B7 := B6.trans (hbel7.mono B6.size)
  go_wp2
  go_ret
  exact ⟨rfl, B7⟩
end Go.Proofs.Ytpblpdoalfphpaa
