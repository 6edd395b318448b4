import Derived.Test.YthohidegebinnaaSlices
namespace Go.Proofs.Ythohidegebinnaa
open Go.RowKit
set_option linter.unusedSimpArgs false
set_option linter.unusedVariables false

theorem FnExactConstants_walk (w : World) : Calls Try.prog 3 #[] w fun e w' => e = .returned (.bool true) ∧ Below w.heap.size w w' := by
  go_enter Try.func3, Try.ntmps3
  go_wp2
  go_ret
  exact ⟨rfl, Below.refl _ _⟩

theorem FnExactRoomsValid_walk (A : Option Addr) (l : List Int) (c : Nat) (w : World) (h : RI w w.heap.size A l) (hc : l.length ≤ c) (hm : c ≤ maxLen) (hw : ∀ x ∈ l, (Lit.int .i64 x).wf = true) :
    Calls Try.prog 6 #[.slice A l.length c] w fun e w' => e = .returned (.bool true) ∧ Below w.heap.size w w' := by
  clear hw
  unfold maxLen at hm
  by_cases hn : l.length ≤ 1048576
  · clear hm hc
    go_enter Try.func6, Try.ntmps6
    go_wp2_with fail
    refine (toIntS_any A c l w h hn).mono ?_
    rintro e w1 ⟨g1, rfl, hg1, hb1, hbel1⟩
    go_wp2_with fail
    refine (sRoomsValid_any _ _ l w1 _ hb1.RI hn).mono ?_
    rintro e w' ⟨rfl, rfl⟩
    go_wp2_with fail
    refine (toIntS_any A c l w1 ((h.below hbel1).more hbel1.size) hn).mono ?_
    rintro e w2 ⟨g2, rfl, hg2, hb2, hbel2⟩
    go_wp2_with fail
    refine (iRoomsValid_any _ _ l w2 _ hb2.RI hn).mono ?_
    rintro e w' ⟨rfl, rfl⟩
    go_wp2_with fail
    have hbel3 := hbel1.trans (hbel2.mono hbel1.size)
    refine (toIntS_any A c l w2 ((h.below hbel3).more hbel3.size) hn).mono ?_
    rintro e w3 ⟨g3, rfl, hg3, hb3, hbel4⟩
    go_wp2_with fail
    refine (eqIntS_any _ _ _ _ l l w3 _ _ (hb2.below hbel4 hb2.lt).RI hb3.RI hn hn).mono ?_
    rintro e w4 ⟨rfl, nq, rfl⟩
    go_wp2_with fail
    go_ret
    exact ⟨rfl, below_drewN (hbel3.trans (hbel4.mono hbel3.size)) _⟩
  · have h' : 1048576 < l.length := by omega
    clear h hn
    go_enter Try.func6, Try.ntmps6
    go_wp2
    go_ret
    exact ⟨rfl, Below.refl _ _⟩

theorem FnExactFieldValid_walk (A : Option Addr) (l : List Int) (c : Nat) (w : World) (h : RI w w.heap.size A l) (hc : l.length ≤ c) (hm : c ≤ maxLen) (hw : ∀ x ∈ l, (Lit.int .i64 x).wf = true) :
    Calls Try.prog 7 #[.slice A l.length c] w fun e w' => e = .returned (.bool true) ∧ Below w.heap.size w w' := by
  clear hw
  unfold maxLen at hm
  by_cases hn : l.length ≤ 1048576
  · clear hm hc
    go_enter Try.func7, Try.ntmps7
    go_wp2_with fail
    refine (toIntS_any A c l w h hn).mono ?_
    rintro e w1 ⟨g1, rfl, hg1, hb1, hbel1⟩
    go_wp2_with fail
    refine (sFieldValid_any _ _ l w1 _ hb1.RI hn).mono ?_
    rintro e w' ⟨rfl, rfl⟩
    go_wp2_with fail
    refine (toIntS_any A c l w1 ((h.below hbel1).more hbel1.size) hn).mono ?_
    rintro e w2 ⟨g2, rfl, hg2, hb2, hbel2⟩
    go_wp2_with fail
    refine (iFieldValid_any _ _ l w2 _ hb2.RI hn).mono ?_
    rintro e w' ⟨rfl, rfl⟩
    go_wp2_with fail
    have hbel3 := hbel1.trans (hbel2.mono hbel1.size)
    refine (toIntS_any A c l w2 ((h.below hbel3).more hbel3.size) hn).mono ?_
    rintro e w3 ⟨g3, rfl, hg3, hb3, hbel4⟩
    go_wp2_with fail
    refine (eqIntS_any _ _ _ _ l l w3 _ _ (hb2.below hbel4 hb2.lt).RI hb3.RI hn hn).mono ?_
    rintro e w4 ⟨rfl, nq, rfl⟩
    go_wp2_with fail
    go_ret
    exact ⟨rfl, below_drewN (hbel3.trans (hbel4.mono hbel3.size)) _⟩
  · have h' : 1048576 < l.length := by omega
    clear h hn
    go_enter Try.func7, Try.ntmps7
    go_wp2
    go_ret
    exact ⟨rfl, Below.refl _ _⟩
end Go.Proofs.Ythohidegebinnaa
