/-
  The law on lists of plans, walked: it returns true and writes nothing that was there.
-/
import Derived.Test.YtpblpdoalfphpaaHand
namespace Go.Proofs.Ytpblpdoalfphpaa
open Go.RowKit
set_option linter.unusedSimpArgs false
set_option linter.unusedVariables false

section
variable {R R' : List DRow}
theorem rows_len (he : R'.map (·.2.1) = R.map (·.2.1)) : R'.length = R.length := by have := congrArg List.length he; simpa using this
theorem rows_get (he : R'.map (·.2.1) = R.map (·.2.1)) {k : Nat} (h1 : k < R.length) (h2 : k < R'.length) : R'[k].2.1 = R[k].2.1 := by
  have := congrArg (·[k]?) he
  simpa [h1, h2] using this
theorem rows_short (he : R'.map (·.2.1) = R.map (·.2.1)) {n : Nat} (h : ∀ r ∈ R, r.2.1.length ≤ n) : ∀ r ∈ R', r.2.1.length ≤ n := fun r hr => by
  obtain ⟨k, hk, rfl⟩ := List.mem_iff_getElem.1 hr
  have h1 : k < R.length := by rw [← rows_len he]; exact hk
  rw [rows_get he h1 hk]
  exact h _ (List.getElem_mem _)
theorem rowsAll_congr (he : R'.map (·.2.1) = R.map (·.2.1)) (p : List Dd → Bool) : rowsAll p R' = rowsAll p R := by
  have e : ∀ Q : List DRow, rowsAll p Q = (Q.map (·.2.1)).all p := fun Q => by
    unfold rowsAll
    rw [List.all_map]
    rfl
  rw [e, e, he]
theorem usesAt_congr (he : R'.map (·.2.1) = R.map (·.2.1)) (x : Int) (ear : Bool) (p : Nat) : usesAt R' x ear p ↔ usesAt R x ear p := by
  constructor
  · rintro ⟨h, hu⟩
    have h1 : p < R.length := by rw [← rows_len he]; exact h
    exact ⟨h1, by rw [← rows_get he h1 h]; exact hu⟩
  · rintro ⟨h, hu⟩
    have h1 : p < R'.length := by rw [rows_len he]; exact h
    exact ⟨h1, by rw [rows_get he h h1]; exact hu⟩
theorem usersB_congr (he : R'.map (·.2.1) = R.map (·.2.1)) (n : Nat) (ear : Bool) : usersB n R' ear = usersB n R ear := by
  rw [Bool.eq_iff_iff, usersB_true, usersB_true]
  simp only [twP, usesAt_congr he]
theorem partiesB_congr (he : R'.map (·.2.1) = R.map (·.2.1)) (l : List Int) : partiesB l R' = partiesB l R := by
  unfold partiesB
  rw [rows_len he, rowsAll_congr he, usersB_congr he, usersB_congr he]
theorem gd_short (h : (szDD R : Int) ≤ 1048576) : R.length ≤ 1048576 ∧ ∀ r ∈ R, r.2.1.length ≤ 1048576 := by
  refine ⟨by have := szDD_len (R := R); omega, fun r hr => ?_⟩
  obtain ⟨k, hk, rfl⟩ := List.mem_iff_getElem.1 hr
  have h1 := szDD_mem hk
  have h2 := szD_len (l := R[k].2.1)
  omega
end
/-- what is asked of each deed that comes in -/
def gdDD (d : Dd) : Prop := d.1.size ≤ maxLen ∧ (Lit.int .i64 d.2.1).wf = true ∧ (Lit.int .i64 d.2.2).wf = true
set_option maxHeartbeats 2000000 in
theorem FnExactPartiesValid_walk (A0 : Option Addr) (l0 : List Int) (c0 : Nat) (A1 : Option Addr) (l1 : List DRow) (c1 : Nat) (w : World) (h0 : Reads w w.heap.size 1 A0 l0.length (l0.map (Value.int .i64))) (hc0 : l0.length ≤ c0) (hm0 : c0 ≤ maxLen) (hw0 : ∀ x ∈ l0, (Lit.int .i64 x).wf = true)
    (h1 : RL encD 3 w w.heap.size A1 l1) (hc1 : l1.length ≤ c1) (hm1 : c1 ≤ maxLen) (hw1 : ∀ r ∈ l1, ∀ x ∈ r.2.1, gdDD x) :
    Calls Try.prog 6 #[.slice A0 l0.length c0, .slice A1 l1.length c1] w fun e w' => e = .returned (.bool true) ∧ Below w.heap.size w w' := by
  by_cases hn0 : l0.length ≤ 1048576
  case neg =>
    have h' : 1048576 < l0.length := by omega
    clear h0 h1 hn0 hw0 hw1 hc0 hm0 hc1 hm1
    go_enter Try.func6, Try.ntmps6
    go_wp2
    go_ret
    exact ⟨rfl, Below.refl _ _⟩
  have h0 : RI w w.heap.size A0 l0 := h0
  have h1 : RLD w w.heap.size A1 l1 := h1
  have hz := szDeedSS_any A1 c1 l1 1048576 w h1 hc1 hm1 (fun r hr d hd => (hw1 r hr d hd).1) (by omega) (by omega)
  clear hc0 hm0 hw0 hc1 hm1 hw1
  by_cases hn : (szDD l1 : Int) ≤ 1048576
  case neg =>
    rw [leftDD_no (by omega)] at hz
    clear hn
    go_enter Try.func6, Try.ntmps6
    go_wp2_with fail
    refine hz.mono ?_
    rintro e w1 ⟨rfl, hb1⟩
    clear hz
    go_wp2
    go_ret
    exact ⟨rfl, hb1⟩
  rw [leftDD_ok hn] at hz
  obtain ⟨hn1, hn2⟩ := gd_short hn
  obtain ⟨t, ht, ht0, ht1⟩ : ∃ t : Int, (1048576 : Int) - szDD l1 = t ∧ 0 ≤ t ∧ t ≤ 1048576 := ⟨_, rfl, by omega, by omega⟩
  rw [ht] at hz
  clear ht hn
  go_enter Try.func6, Try.ntmps6
  go_wp2_with fail
  refine hz.mono ?_
  rintro e w1 ⟨rfl, B1⟩
  clear hz
  go_wp2_with fail
  refine (toIntS_any A0 c0 l0 w1 ((h0.below B1).more B1.size) hn0).mono ?_
  rintro e w2 ⟨g2, rfl, hg2, hb2, hbel2⟩
  have B2 := B1.trans (hbel2.mono B1.size)
  have i2 := hb2.RI
  go_wp2_with fail
  refine (toDeedSS_any A1 c1 l1 w2 ((h1.below B2).more B2.size) hn1 hn2).mono ?_
  rintro e w3 ⟨A3, R3, rfl, he3, hR3, hbel3⟩
  have B3 := B2.trans (hbel3.mono B2.size)
  have i3 := (i2.below hbel3).more hbel3.size
  have hS3 := Lib.hid (rows_short he3 hn2)
  have hL3 : R3.length ≤ 1048576 := by rw [rows_len he3]; exact hn1
  have E3 := Lib.hid (partiesB_congr he3 l0)
  clear he3
  go_wp2_with fail
  refine (sPartiesValid_any _ _ l0 A3 _ R3 w3 i3 hR3 hn0 hL3 hS3.out).mono ?_
  rintro e w4 ⟨rfl, hbel4⟩
  have B4 := B3.trans (hbel4.mono B3.size)
  rw [E3.out]
  clear hR3 i2 i3 hb2 hbel2 hbel3 hbel4
  go_wp2_with fail
  refine (toIntS_any A0 c0 l0 w4 ((h0.below B4).more B4.size) hn0).mono ?_
  rintro e w5 ⟨g5, rfl, hg5, hb5, hbel5⟩
  have B5 := B4.trans (hbel5.mono B4.size)
  have i5 := hb5.RI
  go_wp2_with fail
  refine (toDeedSS_any A1 c1 l1 w5 ((h1.below B5).more B5.size) hn1 hn2).mono ?_
  rintro e w6 ⟨A6, R6, rfl, he6, hR6, hbel6⟩
  have B6 := B5.trans (hbel6.mono B5.size)
  have i6 := (i5.below hbel6).more hbel6.size
  have hS6 := Lib.hid (rows_short he6 hn2)
  have hL6 : R6.length ≤ 1048576 := by rw [rows_len he6]; exact hn1
  have E6 := Lib.hid (partiesB_congr he6 l0)
  have He6 := Lib.hid he6
  clear he6 hb5 hbel5
  go_wp2_with fail
  refine (iPartiesValid_any _ _ l0 A6 _ R6 w6 i6 hR6 hn0 hL6 hS6.out).mono ?_
  rintro e w7 ⟨rfl, hbel7⟩
  have B7 := B6.trans (hbel7.mono B6.size)
  have i7 := (i6.below hbel7).more hbel7.size
  have hR7 := (hR6.below hbel7).more hbel7.size
  rw [E6.out]
  have hne : (partiesB l0 l1 != partiesB l0 l1) = false := by simp
  clear i5 i6 hR6 hbel6 hbel7
  go_wp2_with fail
  refine (toIntS_any A0 c0 l0 w7 ((h0.below B7).more B7.size) hn0).mono ?_
  rintro e w8 ⟨g8, rfl, hg8, hb8, hbel8⟩
  have B8 := B7.trans (hbel8.mono B7.size)
  have i8 := (i7.below hbel8).more hbel8.size
  have hR8 := (hR7.below hbel8).more hbel8.size
  go_wp2_with fail
  refine (eqIntS_any _ _ _ _ l0 l0 w8 _ _ i8 hb8.RI hn0 hn0).mono ?_
  rintro e w9' ⟨rfl, n9, rfl⟩
  rw [beq_self_eq_true]
  have B9 := below_drewN B8 n9
  have hR9 : RLD (w8.drewN n9) (w8.drewN n9).heap.size A6 R6 := hR8.below (below_drewN (Below.refl _ _) n9)
  clear hb8 hbel8 i7 i8 hR7 hR8
  generalize w8.drewN n9 = w9 at B9 hR9 ⊢
  go_wp2_with fail
  refine (toDeedSS_any A1 c1 l1 w9 ((h1.below B9).more B9.size) hn1 hn2).mono ?_
  rintro e w10 ⟨A10, R10, rfl, he10, hR10, hbel10⟩
  have B10 := B9.trans (hbel10.mono B9.size)
  have hR10' := (hR9.below hbel10).more hbel10.size
  have He := Lib.hid (he10.trans He6.out.symm)
  clear he10 hbel10
  go_wp2_with fail
  refine (eqDeedSS_same A6 A10 _ _ R6 R10 w10 hR10' hR10 He.out hL6 hS6.out).mono ?_
  rintro e w11 ⟨rfl, hbel11⟩
  have B11 := B10.trans (hbel11.mono B10.size)
  go_wp2
  go_ret
  exact ⟨rfl, B11⟩
end Go.Proofs.Ytpblpdoalfphpaa
