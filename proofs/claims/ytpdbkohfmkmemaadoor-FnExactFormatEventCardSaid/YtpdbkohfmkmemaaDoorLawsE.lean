/-
  The law FnExactFormatEvent, walked.
-/
import Derived.Test.YtpdbkohfmkmemaaDoorEvt2
namespace Go.Proofs.YtpdbkohfmkmemaaDoor
open Go.RowKit
set_option linter.unusedSimpArgs false
set_option linter.unusedVariables false

set_option maxHeartbeats 2000000 in
theorem FnExactFormatEvent_walk (s : ByteArray) (x y : Int) (w : World) (ht : Tab w) (hs : s.size ≤ maxLen) (wx : (Lit.int .i64 x).wf = true) (wy : (Lit.int .i64 y).wf = true) :
    Calls Tryd.prog 4 #[.agg #[.string s, .int .i64 x, .int .i64 y]] w fun e w' => e = .returned (.bool true) ∧ Below w.heap.size w w' := by
  clear wx wy
  by_cases h : (1048576 : Int) < s.size
  · clear ht
    go_enter Tryd.func4, Tryd.ntmps4
    go_wp2_with fail
    refine (szEvent_no s x y _ _ hs (by omega) (by omega) h).mono ?_
    rintro e w1 ⟨rfl, hb1⟩
    go_wp2_with fail
    go_ret
    exact ⟨rfl, ((Below.refl _ _).alloc (Nat.le_refl _) _).trans (hb1.mono (by simp))⟩
  · have h' : (s.size : Int) ≤ 1048576 := by omega
    have h6 : s.size ≤ 1048576 := by omega
    clear h hs
    have S := Lib.hid (fun W => sFormatEvent_any s x y W h6)
    have I := Lib.hid (fun W h => iFormatEvent_any s x y W h h6)
    obtain ⟨T, hT⟩ : ∃ T, fmtE s x y = T := ⟨_, rfl⟩
    rw [hT] at S I
    clear hT
    go_enter Tryd.func4, Tryd.ntmps4
    go_wp2_with fail
    refine (szEvent_ok s x y _ _ (by omega) h').mono ?_
    rintro e w1 ⟨rfl, hb1⟩
    have hc := fun o => hb1.cell (p := ⟨w.heap.size, o, none⟩) (by simp)
    have hz1 := hb1.size
    go_wp2_with fail
    refine (toEvent_any s x y _).mono ?_
    rintro e w2 ⟨rfl, hb2⟩
    go_wp2_with fail
    refine (S.out _).mono ?_
    rintro e w3 ⟨rfl, hb3⟩
    have hb13 := (hb1.trans (hb2.mono hz1)).trans (hb3.mono (Nat.le_trans hz1 hb2.size))
    have hc3 := fun o => hb13.cell (p := ⟨w.heap.size, o, none⟩) (by simp)
    clear hc
    go_wp2_with fail
    refine (toEvent_any s x y _).mono ?_
    rintro e w4 ⟨rfl, hb4⟩
    have hb14 := hb13.trans (hb4.mono hb13.size)
    have hbw : Below w.heap.size w w4 := ((Below.refl _ _).alloc (Nat.le_refl _) _).trans (hb14.mono (by simp))
    have hT4 := ht.below hbw
    go_wp2_with fail
    refine (I.out _ hT4).mono ?_
    rintro e w5 ⟨rfl, hb5⟩
    go_wp2_with fail
    go_ret
    exact ⟨rfl, hbw.trans (hb5.mono hbw.size)⟩
end Go.Proofs.YtpdbkohfmkmemaaDoor
