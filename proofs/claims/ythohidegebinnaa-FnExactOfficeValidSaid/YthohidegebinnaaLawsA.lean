/-
  The laws on validity, walked: each returns true and writes nothing that was there.
-/
import Derived.Test.YthohidegebinnaaSlices
import Derived.Test.YthohidegebinnaaDeeds
namespace Go.Proofs.Ythohidegebinnaa
open Go.RowKit
set_option linter.unusedSimpArgs false
set_option linter.unusedVariables false

theorem FnExactConstants_walk (w : World) : Calls Try.prog 3 #[] w fun e w' => e = .returned (.bool true) ∧ Below w.heap.size w w' := by
  go_enter Try.func3, Try.ntmps3
  go_wp2
  go_ret
  exact ⟨rfl, Below.refl _ _⟩

theorem FnExactRoomsValid_walk (A : Option Addr) (l : List Int) (c : Nat) (w : World) (h : RI w w.heap.size A l) (hc : l.length ≤ c) (hm : c ≤ maxLen) (hw : ∀ x ∈ l, (Lit.int .i64 x).wf = true) :
    Calls Try.prog 6 #[.slice A l.length c] w fun e w' => e = .returned (.bool true) ∧ Below w.heap.size w w' := by
  clear hw
  unfold maxLen at hm
  by_cases hn : l.length ≤ 1048576
  · clear hm hc
    go_enter Try.func6, Try.ntmps6
    go_wp2_with fail
    refine (toIntS_any A c l w h hn).mono ?_
    rintro e w1 ⟨g1, rfl, hg1, hb1, hbel1⟩
    go_wp2_with fail
    refine (sRoomsValid_any _ _ l w1 _ hb1.RI hn).mono ?_
    rintro e w' ⟨rfl, rfl⟩
    go_wp2_with fail
    refine (toIntS_any A c l w1 ((h.below hbel1).more hbel1.size) hn).mono ?_
    rintro e w2 ⟨g2, rfl, hg2, hb2, hbel2⟩
    go_wp2_with fail
    refine (iRoomsValid_any _ _ l w2 _ hb2.RI hn).mono ?_
    rintro e w' ⟨rfl, rfl⟩
    go_wp2_with fail
    have hbel3 := hbel1.trans (hbel2.mono hbel1.size)
    refine (toIntS_any A c l w2 ((h.below hbel3).more hbel3.size) hn).mono ?_
    rintro e w3 ⟨g3, rfl, hg3, hb3, hbel4⟩
    go_wp2_with fail
    refine (eqIntS_any _ _ _ _ l l w3 _ _ (hb2.below hbel4 hb2.lt).RI hb3.RI hn hn).mono ?_
    rintro e w4 ⟨rfl, nq, rfl⟩
    go_wp2_with fail
    go_ret
    exact ⟨rfl, below_drewN (hbel3.trans (hbel4.mono hbel3.size)) _⟩
  · have h' : 1048576 < l.length := by omega
    clear h hn
    go_enter Try.func6, Try.ntmps6
    go_wp2
    go_ret
    exact ⟨rfl, Below.refl _ _⟩

theorem FnExactFieldValid_walk (A : Option Addr) (l : List Int) (c : Nat) (w : World) (h : RI w w.heap.size A l) (hc : l.length ≤ c) (hm : c ≤ maxLen) (hw : ∀ x ∈ l, (Lit.int .i64 x).wf = true) :
    Calls Try.prog 7 #[.slice A l.length c] w fun e w' => e = .returned (.bool true) ∧ Below w.heap.size w w' := by
  clear hw
  unfold maxLen at hm
  by_cases hn : l.length ≤ 1048576
  · clear hm hc
    go_enter Try.func7, Try.ntmps7
    go_wp2_with fail
    refine (toIntS_any A c l w h hn).mono ?_
    rintro e w1 ⟨g1, rfl, hg1, hb1, hbel1⟩
    go_wp2_with fail
    refine (sFieldValid_any _ _ l w1 _ hb1.RI hn).mono ?_
    rintro e w' ⟨rfl, rfl⟩
    go_wp2_with fail
    refine (toIntS_any A c l w1 ((h.below hbel1).more hbel1.size) hn).mono ?_
    rintro e w2 ⟨g2, rfl, hg2, hb2, hbel2⟩
    go_wp2_with fail
    refine (iFieldValid_any _ _ l w2 _ hb2.RI hn).mono ?_
    rintro e w' ⟨rfl, rfl⟩
    go_wp2_with fail
    have hbel3 := hbel1.trans (hbel2.mono hbel1.size)
    refine (toIntS_any A c l w2 ((h.below hbel3).more hbel3.size) hn).mono ?_
    rintro e w3 ⟨g3, rfl, hg3, hb3, hbel4⟩
    go_wp2_with fail
    refine (eqIntS_any _ _ _ _ l l w3 _ _ (hb2.below hbel4 hb2.lt).RI hb3.RI hn hn).mono ?_
    rintro e w4 ⟨rfl, nq, rfl⟩
    go_wp2_with fail
    go_ret
    exact ⟨rfl, below_drewN (hbel3.trans (hbel4.mono hbel3.size)) _⟩
  · have h' : 1048576 < l.length := by omega
    clear h hn
    go_enter Try.func7, Try.ntmps7
    go_wp2
    go_ret
    exact ⟨rfl, Below.refl _ _⟩

theorem FnExactDeedValid_walk (s : ByteArray) (x y n : Int) (w : World) (hs : s.size ≤ maxLen) (wx : (Lit.int .i64 x).wf = true) (wy : (Lit.int .i64 y).wf = true) (wn : (Lit.int .i64 n).wf = true) :
    Calls Try.prog 5 #[.agg #[.string s, .int .i64 x, .int .i64 y], .int .i64 n] w fun e w' => e = .returned (.bool true) ∧ Below w.heap.size w w' := by
  clear wx wy wn
  by_cases h : (1048576 : Int) < s.size
  · go_enter Try.func5, Try.ntmps5
    go_wp2_with fail
    refine (szDeed_no s x y _ _ hs (by omega) (by omega) h).mono ?_
    rintro e w1 ⟨rfl, hb1⟩
    go_wp2_with fail
    go_ret
    exact ⟨rfl, ((Below.refl _ _).alloc (Nat.le_refl _) _).trans (hb1.mono (by simp))⟩
  · have h' : (s.size : Int) ≤ 1048576 := by omega
    clear h hs
    go_enter Try.func5, Try.ntmps5
    go_wp2_with fail
    refine (szDeed_ok s x y _ _ (by omega) h').mono ?_
    rintro e w1 ⟨rfl, hb1⟩
    have hc := fun o => hb1.cell (p := ⟨w.heap.size, o, none⟩) (by simp)
    have hz1 := hb1.size
    go_wp2_with fail
    refine (toDeed_any s x y _).mono ?_
    rintro e w2 ⟨rfl, hb2⟩
    go_wp2_with fail
    refine (sDeedValid_any s x y n _).mono ?_
    rintro e w3 ⟨rfl, hb3⟩
    have hb13 := (hb1.trans (hb2.mono hz1)).trans (hb3.mono (Nat.le_trans hz1 hb2.size))
    have hc3 := fun o => hb13.cell (p := ⟨w.heap.size, o, none⟩) (by simp)
    clear hc
    go_wp2_with fail
    refine (toDeed_any s x y _).mono ?_
    rintro e w4 ⟨rfl, hb4⟩
    go_wp2_with fail
    refine (iDeedValid_any s x y n _).mono ?_
    rintro e w5 ⟨rfl, hb5⟩
    go_wp2_with fail
    go_ret
    have hb := (hb13.trans (hb4.mono hb13.size)).trans (hb5.mono (Nat.le_trans hb13.size hb4.size))
    exact ⟨rfl, ((Below.refl _ _).alloc (Nat.le_refl _) _).trans (hb.mono (by simp))⟩

theorem FnExactSaidValid_walk (s : ByteArray) (x y n : Int) (w : World) (hs : s.size ≤ maxLen) (wx : (Lit.int .i64 x).wf = true) (wy : (Lit.int .i64 y).wf = true) (wn : (Lit.int .i64 n).wf = true) :
    Calls Try.prog 8 #[.agg #[.string s, .int .i64 x, .int .i64 y], .int .i64 n] w fun e w' => e = .returned (.bool true) ∧ Below w.heap.size w w' := by
  clear wx wy wn
  by_cases h : (1048576 : Int) < s.size
  · go_enter Try.func8, Try.ntmps8
    go_wp2_with fail
    refine (szSaid_no s x y _ _ hs (by omega) (by omega) h).mono ?_
    rintro e w1 ⟨rfl, hb1⟩
    go_wp2_with fail
    go_ret
    exact ⟨rfl, ((Below.refl _ _).alloc (Nat.le_refl _) _).trans (hb1.mono (by simp))⟩
  · have h' : (s.size : Int) ≤ 1048576 := by omega
    clear h hs
    go_enter Try.func8, Try.ntmps8
    go_wp2_with fail
    refine (szSaid_ok s x y _ _ (by omega) h').mono ?_
    rintro e w1 ⟨rfl, hb1⟩
    have hc := fun o => hb1.cell (p := ⟨w.heap.size, o, none⟩) (by simp)
    have hz1 := hb1.size
    go_wp2_with fail
    refine (toSaid_any s x y _).mono ?_
    rintro e w2 ⟨rfl, hb2⟩
    go_wp2_with fail
    refine (sSaidValid_any s x y n _).mono ?_
    rintro e w3 ⟨rfl, hb3⟩
    have hb13 := (hb1.trans (hb2.mono hz1)).trans (hb3.mono (Nat.le_trans hz1 hb2.size))
    have hc3 := fun o => hb13.cell (p := ⟨w.heap.size, o, none⟩) (by simp)
    clear hc
    go_wp2_with fail
    refine (toSaid_any s x y _).mono ?_
    rintro e w4 ⟨rfl, hb4⟩
    go_wp2_with fail
    refine (iSaidValid_any s x y n _).mono ?_
    rintro e w5 ⟨rfl, hb5⟩
    go_wp2_with fail
    go_ret
    have hb := (hb13.trans (hb4.mono hb13.size)).trans (hb5.mono (Nat.le_trans hb13.size hb4.size))
    exact ⟨rfl, ((Below.refl _ _).alloc (Nat.le_refl _) _).trans (hb.mono (by simp))⟩

theorem FnExactEventValid_walk (s : ByteArray) (x y n : Int) (w : World) (hs : s.size ≤ maxLen) (wx : (Lit.int .i64 x).wf = true) (wy : (Lit.int .i64 y).wf = true) (wn : (Lit.int .i64 n).wf = true) :
    Calls Try.prog 9 #[.agg #[.string s, .int .i64 x, .int .i64 y], .int .i64 n] w fun e w' => e = .returned (.bool true) ∧ Below w.heap.size w w' := by
  clear wx wy wn
  by_cases h : (1048576 : Int) < s.size
  · go_enter Try.func9, Try.ntmps9
    go_wp2_with fail
    refine (szEvent_no s x y _ _ hs (by omega) (by omega) h).mono ?_
    rintro e w1 ⟨rfl, hb1⟩
    go_wp2_with fail
    go_ret
    exact ⟨rfl, ((Below.refl _ _).alloc (Nat.le_refl _) _).trans (hb1.mono (by simp))⟩
  · have h' : (s.size : Int) ≤ 1048576 := by omega
    clear h hs
    go_enter Try.func9, Try.ntmps9
    go_wp2_with fail
    refine (szEvent_ok s x y _ _ (by omega) h').mono ?_
    rintro e w1 ⟨rfl, hb1⟩
    have hc := fun o => hb1.cell (p := ⟨w.heap.size, o, none⟩) (by simp)
    have hz1 := hb1.size
    go_wp2_with fail
    refine (toEvent_any s x y _).mono ?_
    rintro e w2 ⟨rfl, hb2⟩
    go_wp2_with fail
    refine (sEventValid_any s x y n _).mono ?_
    rintro e w3 ⟨rfl, hb3⟩
    have hb13 := (hb1.trans (hb2.mono hz1)).trans (hb3.mono (Nat.le_trans hz1 hb2.size))
    have hc3 := fun o => hb13.cell (p := ⟨w.heap.size, o, none⟩) (by simp)
    clear hc
    go_wp2_with fail
    refine (toEvent_any s x y _).mono ?_
    rintro e w4 ⟨rfl, hb4⟩
    go_wp2_with fail
    refine (iEventValid_any s x y n _).mono ?_
    rintro e w5 ⟨rfl, hb5⟩
    go_wp2_with fail
    go_ret
    have hb := (hb13.trans (hb4.mono hb13.size)).trans (hb5.mono (Nat.le_trans hb13.size hb4.size))
    exact ⟨rfl, ((Below.refl _ _).alloc (Nat.le_refl _) _).trans (hb.mono (by simp))⟩

theorem FnExactOfficeValid_walk (x y z : Int) (w : World) (wx : (Lit.int .i64 x).wf = true) (wy : (Lit.int .i64 y).wf = true) (wz : (Lit.int .i64 z).wf = true) :
    Calls Try.prog 4 #[.agg #[.int .i64 x, .int .i64 y, .int .i64 z]] w fun e w' => e = .returned (.bool true) ∧ Below w.heap.size w w' := by
  clear wx wy wz
  go_enter Try.func4, Try.ntmps4
  go_wp2_with fail
  refine (toOffice_any x y z _).mono ?_
  rintro e w2 ⟨rfl, hb2⟩
  go_wp2_with fail
  refine (sOfficeValid_any x y z _).mono ?_
  rintro e w3 ⟨rfl, hb3⟩
  have hb13 := hb2.trans (hb3.mono hb2.size)
  have hc3 := fun o => hb13.cell (p := ⟨w.heap.size, o, none⟩) (by simp)
  go_wp2_with fail
  refine (toOffice_any x y z _).mono ?_
  rintro e w4 ⟨rfl, hb4⟩
  go_wp2_with fail
  refine (iOfficeValid_any x y z _).mono ?_
  rintro e w5 ⟨rfl, hb5⟩
  go_wp2_with fail
  go_ret
  have hb := (hb13.trans (hb4.mono hb13.size)).trans (hb5.mono (Nat.le_trans hb13.size hb4.size))
  exact ⟨rfl, ((Below.refl _ _).alloc (Nat.le_refl _) _).trans (hb.mono (by simp))⟩
end Go.Proofs.Ythohidegebinnaa
