/-
  HandingValid, by the reference and by the program.
-/
import Derived.Test.YtpblpdoalfphpaaLawsD2
namespace Go.Proofs.Ytpblpdoalfphpaa
open Go.RowKit
set_option linter.unusedSimpArgs false
set_option linter.unusedVariables false

def handL : List UInt8 := [104, 97, 110, 100]
/-- a deed that can stand in a plan of those that hand ears over -/
def handDB (L : List UInt8) (line word n : Int) : Bool := if earB L = true then (inB line 0 n || line == 9) && word == 0 else if (L == handL) = true then inB line 0 n && inB word 1 n else planDB L line word n
theorem earB_hand {L : List UInt8} (h : (L == handL) = true) : earB L = false := by
  have : L = handL := by simpa using h
  subst this
  decide
theorem act3B_ear {L : List UInt8} (h : earB L = true) : act3B L = true ∧ (L == putL) = false := by
  refine ⟨by simp [act3B, h], ?_⟩
  unfold earB at h
  simp only [Bool.or_eq_true, beq_iff_eq] at h
  rcases h with rfl | rfl <;> decide
theorem planB_one (d : Dd) (n : Int) (h1 : 1 ≤ n) (h6 : n ≤ 6) : planB [d] n = planDB d.1.toList d.2.1 d.2.2 n := by
  unfold planB okAll planP
  rw [inB_true.2 ⟨h1, h6⟩]
  simp
set_option maxHeartbeats 2000000 in
theorem l4Deed_any (s : ByteArray) (line word n : Int) (w : World) (hn1 : 1 ≤ n) (hn6 : n ≤ 6) : Calls Try.prog 48 #[.agg #[.string s, .int .i64 line, .int .i64 word], .int .i64 n] w fun e w' =>
    e = .returned (.bool (handDB s.toList line word n)) ∧ Below w.heap.size w w' := by
  cases he : earB s.toList
  · cases hh : s.toList == handL
    · have H : Hid (handDB s.toList line word n = planDB s.toList line word n) := Lib.hid (by simp [handDB, he, hh])
      have hh2 : ¬ s.toList = [104, 97, 110, 100] := by simpa [handL] using hh
      have hR : RD ((w.alloc (.cells #[.string s, .int .i64 line, .int .i64 word] 54)).alloc (.cells #[.string s, .int .i64 line, .int .i64 word] 54)) ((w.alloc (.cells #[.string s, .int .i64 line, .int .i64 word] 54)).alloc (.cells #[.string s, .int .i64 line, .int .i64 word] 54)).heap.size (some ⟨w.heap.size + 1, 0, none⟩) [(s, line, word)] := by
        refine Blk.RD_ (t := 54) ?_
        exact Blk.new_at (w.alloc (.cells #[.string s, .int .i64 line, .int .i64 word] 54)) 54 _ (by simp)
      have hp := planB_one (s, line, word) n hn1 hn6
      simp only at hp
      have HP := Lib.hid hp
      have hh3 : (s.toList == [104, 97, 110, 100]) = false := by simpa [handL] using hh
      clear hp hh
      go_enter Try.func48, Try.ntmps48
      go_wp2_with (first | (go_at_call 50; refine (l3Takes_any _ _).mono ?_; rintro e w' ⟨rfl, rfl⟩) | (go_at_call 34; refine (l1In_any _ _ _ _).mono ?_; rintro e w' ⟨rfl, rfl⟩) | (go_at_call 9; refine (sPlanValid_any _ _ [(s, line, word)] n _ hR (by simp)).mono ?_; rintro e w1 ⟨rfl, hb1⟩; rw [HP.out]))
      all_goals first
        | (go_ret
           exact ⟨ret_bool H.out.symm, (((Below.refl _ _).alloc (Nat.le_refl _) _).alloc (by simp) _).trans (hb1.mono (by simp; omega))⟩)
        | (exfalso; simp_all; done)
    · have H : Hid (handDB s.toList line word n = (inB line 0 n && inB word 1 n)) := Lib.hid (by simp [handDB, he, hh])
      have hh2 : s.toList = [104, 97, 110, 100] := by simpa [handL] using hh
      have hh3 : (s.toList == [104, 97, 110, 100]) = true := by simpa [handL] using hh
      clear hh hh2
      cases h1 : inB line 0 n
      all_goals
        go_enter Try.func48, Try.ntmps48
        go_wp2_with (first | (go_at_call 50; refine (l3Takes_any _ _).mono ?_; rintro e w' ⟨rfl, rfl⟩) | (go_at_call 34; refine (l1In_any _ _ _ _).mono ?_; rintro e w' ⟨rfl, rfl⟩))
        all_goals first
          | (go_ret; exact ⟨ret_bool (by rw [H.out, h1]; rfl), (Below.refl _ _).alloc (Nat.le_refl _) _⟩)
          | (exfalso; simp_all; done)
  · have H : Hid (handDB s.toList line word n = ((inB line 0 n || line == 9) && word == 0)) := Lib.hid (by simp [handDB, he])
    cases h1 : inB line 0 n
    · cases h2 : line == 9
      all_goals
        go_enter Try.func48, Try.ntmps48
        go_wp2_with (first | (go_at_call 50; refine (l3Takes_any _ _).mono ?_; rintro e w' ⟨rfl, rfl⟩) | (go_at_call 34; refine (l1In_any _ _ _ _).mono ?_; rintro e w' ⟨rfl, rfl⟩))
        go_ret
        exact ⟨ret_bool (by rw [H.out, h1, h2]; rfl), (Below.refl _ _).alloc (Nat.le_refl _) _⟩
    · go_enter Try.func48, Try.ntmps48
      go_wp2_with (first | (go_at_call 50; refine (l3Takes_any _ _).mono ?_; rintro e w' ⟨rfl, rfl⟩) | (go_at_call 34; refine (l1In_any _ _ _ _).mono ?_; rintro e w' ⟨rfl, rfl⟩))
      go_ret
      exact ⟨ret_bool (by rw [H.out, h1]; rfl), (Below.refl _ _).alloc (Nat.le_refl _) _⟩
set_option maxHeartbeats 2000000 in
theorem handDeedValid_any (s : ByteArray) (line word n : Int) (w : World) (hn1 : 1 ≤ n) (hn6 : n ≤ 6) : Calls Try.prog 49 #[.agg #[.string s, .int .i64 line, .int .i64 word], .int .i64 n] w fun e w' =>
    e = .returned (.bool (handDB s.toList line word n)) ∧ Below w.heap.size w w' := by
  cases hh : s.toList == handL
  · have hh2 : ¬ s.toList = [104, 97, 110, 100] := by simpa [handL] using hh
    have hh3 : (s.toList == [104, 97, 110, 100]) = false := by simpa [handL] using hh
    cases he : earB s.toList
    · have H : Hid (handDB s.toList line word n = planDB s.toList line word n) := Lib.hid (by simp [handDB, he, hh])
      clear hh hh2
      go_enter Try.func49, Try.ntmps49
      go_wp2_with (first | (go_at_call 53; refine (usesEar_any _ _).mono ?_; rintro e w' ⟨rfl, rfl⟩) | (go_at_call 36; refine (planDeedValid_any _ _ _ _ _).mono ?_; rintro e w1 ⟨rfl, hb1⟩))
      all_goals first
        | (go_ret
           exact ⟨ret_bool H.out.symm, ((Below.refl _ _).alloc (Nat.le_refl _) _).trans (hb1.mono (by simp))⟩)
        | (exfalso; simp_all; done)
    · obtain ⟨ha, hp⟩ := act3B_ear he
      cases h9 : line == 9
      · have H : Hid (handDB s.toList line word n = planDB s.toList line word n) := Lib.hid (by
          have hw : (word == 0) = (inB word 0 1000 && (word == 0)) := by
            cases hz : word == 0
            · simp
            · have : word = 0 := by simpa using hz
              subst this
              decide
          simp [handDB, he, planDB, ha, hp, h9]
          cases inB line 0 n
          · simp
          · rw [hw]; simp)
        clear hh hh2 ha hp
        go_enter Try.func49, Try.ntmps49
        go_wp2_with (first | (go_at_call 53; refine (usesEar_any _ _).mono ?_; rintro e w' ⟨rfl, rfl⟩) | (go_at_call 36; refine (planDeedValid_any _ _ _ _ _).mono ?_; rintro e w1 ⟨rfl, hb1⟩))
        all_goals first
          | (go_ret
             exact ⟨ret_bool H.out.symm, ((Below.refl _ _).alloc (Nat.le_refl _) _).trans (hb1.mono (by simp))⟩)
          | (exfalso; simp_all; done)
      · have H : Hid (handDB s.toList line word n = (word == 0)) := Lib.hid (by simp [handDB, he, h9])
        clear hh hh2 ha hp
        go_enter Try.func49, Try.ntmps49
        go_wp2_with (first | (go_at_call 53; refine (usesEar_any _ _).mono ?_; rintro e w' ⟨rfl, rfl⟩))
        all_goals first
          | (go_ret
             exact ⟨ret_bool H.out.symm, (Below.refl _ _).alloc (Nat.le_refl _) _⟩)
          | (exfalso; simp_all; done)
  · have he := earB_hand hh
    have H : Hid (handDB s.toList line word n = (inB line 0 n && inB word 1 n)) := Lib.hid (by simp [handDB, he, hh])
    have hh3 : (s.toList == [104, 97, 110, 100]) = true := by simpa [handL] using hh
    clear hh he
    go_enter Try.func49, Try.ntmps49
    go_wp2
    all_goals first
      | (go_ret
         refine ⟨ret_bool ?_, (Below.refl _ _).alloc (Nat.le_refl _) _⟩
         rw [H.out, Bool.eq_iff_iff]
         simp [inB]
         try omega)
      | (exfalso; simp_all; done)
end Go.Proofs.Ytpblpdoalfphpaa
