/-
  l11Num of the reference.
-/
import Derived.Test.YtpdbkohfmkmemaaDoorParse
import Derived.Lib.AtoiErr
import Derived.IntWalk
namespace Go.Proofs.YtpdbkohfmkmemaaDoor
open Go.RowKit Go.Shelf
set_option linter.unusedSimpArgs false
set_option linter.unusedVariables false

/-- the number that digits spell, with its sign -/
def numD (neg : Bool) (t : ByteArray) : Int × Bool :=
  if t.size = 0 ∨ 17 < t.size ∨ (t.data.toList.head? = some 48 ∧ (1 < t.size ∨ neg = true)) then (0, false) else
  match Lib.decFrom 0 t.data.toList with
  | none => (0, false)
  | some n => (if neg then -(n : Int) else n, true)
def negB (s : ByteArray) : Bool := s.data.toList.head? == some 45
/-- a number in a text, by the reference -/
def numS (s : ByteArray) : Int × Bool := numD (negB s) (if negB s then s.extract 1 s.size else s)
theorem numD_empty {neg : Bool} {t : ByteArray} (h : t.size = 0) : numD neg t = (0, false) := by unfold numD; rw [if_pos (.inl h)]
theorem numD_long {neg : Bool} {t : ByteArray} (h : 17 < t.size) : numD neg t = (0, false) := by unfold numD; rw [if_pos (.inr (.inl h))]
theorem numD_zero {neg : Bool} {t : ByteArray} (h : t.data.toList.head? = some 48) (h2 : 1 < t.size ∨ neg = true) : numD neg t = (0, false) := by unfold numD; rw [if_pos (.inr (.inr ⟨h, h2⟩))]
theorem numD_else {neg : Bool} {t : ByteArray} (h0 : ¬ t.size = 0) (h1 : ¬ 17 < t.size) (h2 : ¬ (t.data.toList.head? = some 48 ∧ (1 < t.size ∨ neg = true))) :
    numD neg t = match Lib.decFrom 0 t.data.toList with
      | none => (0, false)
      | some n => (if neg then -(n : Int) else n, true) := by
  unfold numD; rw [if_neg (by intro h; rcases h with h | h | h; exact h0 h; exact h1 h; exact h2 h)]
theorem head_at {t : ByteArray} (h : 0 < t.size) : t.data.toList.head? = some t[0] := by
  obtain ⟨⟨l⟩⟩ := t
  cases l with
  | nil => exact absurd h (Nat.lt_irrefl 0)
  | cons x l => rfl
theorem at_list {t : ByteArray} {k : Nat} (h : k < t.size) : t.data.toList[k]? = some t[k] := by
  have h' : k < t.data.toList.length := by rw [Array.length_toList]; exact h
  rw [List.getElem?_eq_getElem h']
  rfl
theorem dec_step {t : ByteArray} {k n : Nat} (h : k < t.size) (hn : Lib.decFrom 0 (t.data.toList.take k) = some n) (h0 : 48 ≤ t[k].toNat) (h1 : t[k].toNat ≤ 57) : Lib.decFrom 0 (t.data.toList.take (k + 1)) = some (n * 10 + (t[k].toNat - 48)) :=
  Lib.decFrom_take _ k 0 n t[k] (t[k].toNat - 48) hn (at_list h) (by unfold Lib.digitVal; rw [if_pos ⟨h0, h1⟩])
theorem dec_fail {t : ByteArray} {k : Nat} (h : k < t.size) (hd : t[k].toNat < 48 ∨ 57 < t[k].toNat) : Lib.decFrom 0 t.data.toList = none := by
  cases hc : Lib.decFrom 0 t.data.toList with
  | none => rfl
  | some n =>
    obtain ⟨d, hd2⟩ := Lib.digit_of_decFrom _ 0 n hc k _ (at_list h)
    have := Lib.digitVal_eq hd2
    omega
theorem dec_bound {t : ByteArray} {k n : Nat} (hk : k ≤ 17) (hs : k ≤ t.size) (hn : Lib.decFrom 0 (t.data.toList.take k) = some n) : n ≤ 100000000000000000 := by
  have h := Lib.decFrom_lt _ 0 n hn
  have hl : (t.data.toList.take k).length = k := by rw [List.length_take, Array.length_toList]; exact Nat.min_eq_left hs
  rw [hl] at h
  have : 10 ^ k ≤ 10 ^ 17 := Nat.pow_le_pow_right (by omega) hk
  omega
set_option maxHeartbeats 4000000 in
theorem l11Num_any (s : ByteArray) (w : World) (hs : s.size ≤ 1048576) :
    Calls Tryd.prog 31 #[.string s] w fun e w' => e = .returned (.tuple #[.int .i64 (numS s).1, .bool (numS s).2]) ∧ w' = w := by
  by_cases hneg : negB s = true
  · have hpos : 0 < s.size := by
      rcases Nat.eq_zero_or_pos s.size with h | h
      · obtain ⟨⟨l⟩⟩ := s
        cases l with
        | nil => cases hneg
        | cons x l => exact absurd h (by show ¬ (x :: l).length = 0; simp)
      · exact h
    have hb : ((s[0].toNat : Int) == 45) = true := by
      have h1 := hneg
      unfold negB at h1
      rw [head_at hpos] at h1
      have h2 : s[0] = 45 := by simpa using h1
      rw [h2]; rfl
    have hpos2 : (0 : Int) < (s.size : Int) := by omega
    have hE : Hid (numS s = numD true (s.extract 1 s.size)) := Lib.hid (by unfold numS; rw [hneg]; rfl)
    have hts : (s.extract 1 s.size).size = s.size - 1 := by rw [ByteArray.size_extract]; omega
    clear hneg
    obtain ⟨T, hT⟩ : ∃ T, s.extract 1 s.size = T := ⟨_, rfl⟩
    rw [hT] at hE
    clear hts
    by_cases h0 : T.size = 0
    · have E := Lib.hid (numD_empty (neg := true) h0)
      have f0 : ((T.size : Int) == 0) = true := by rw [h0]; rfl
      clear h0
      go_enter Tryd.func31, Tryd.ntmps31
      go_wp2_with fail
      go_ret2
      exact ⟨by rw [hE.out, E.out]; rfl, rfl⟩
    have f0 : ((T.size : Int) == 0) = false := by rw [beq_eq_false_iff_ne]; omega
    have f1 : (0 : Int) < (T.size : Int) := by omega
    have f2 : 0 < T.size := by omega
    by_cases h1 : 17 < T.size
    · have E := Lib.hid (numD_long (neg := true) h1)
      have f3 : (17 : Int) < (T.size : Int) := by omega
      clear h0 h1
      go_enter Tryd.func31, Tryd.ntmps31
      go_wp2_with fail
      go_ret2
      exact ⟨by rw [hE.out, E.out]; rfl, rfl⟩
    have f3 : ¬ (17 : Int) < (T.size : Int) := by omega
    have ELSE := Lib.hid (fun h => numD_else (neg := true) h0 h1 h)
    have hloop : ∀ (hz : ¬ (T.data.toList.head? = some 48 ∧ (1 < T.size ∨ true = true))), Hid (numD true T = match Lib.decFrom 0 T.data.toList with | none => (0, false) | some n => (if true then -(n : Int) else n, true)) := fun hz => Lib.hid (ELSE.out hz)
    have hloop2 := Lib.hid hloop
    clear hloop ELSE
    by_cases hz : (T[0].toNat : Int) = 48
    · have hz2 : T.data.toList.head? = some 48 := by rw [head_at f2, show T[0] = 48 from UInt8.toNat_inj.1 (by show T[0].toNat = 48; omega)]
      have f4 : ((T[0].toNat : Int) == 48) = true := by rw [hz]; rfl
      have E := Lib.hid (numD_zero (neg := true) hz2 (.inr rfl))
      by_cases h2 : 1 < T.size
      · have f5 : (1 : Int) < (T.size : Int) := by omega
        clear hz hz2 hloop2 h0 h1 h2
        go_enter Tryd.func31, Tryd.ntmps31
        go_wp2_with fail
        go_ret2
        exact ⟨by rw [hE.out, E.out]; rfl, rfl⟩
      have f5 : ¬ (1 : Int) < (T.size : Int) := by omega
      clear hz hz2 hloop2 h0 h1 h2
      go_enter Tryd.func31, Tryd.ntmps31
      go_wp2_with fail
      go_ret2
      exact ⟨by rw [hE.out, E.out]; rfl, rfl⟩
    · have hz2 : ¬ (T.data.toList.head? = some 48 ∧ (1 < T.size ∨ true = true)) := by
        rintro ⟨h, _⟩
        rw [head_at f2] at h
        apply hz
        rw [show T[0] = 48 by simpa using h]; rfl
      have f4 : ((T[0].toNat : Int) == 48) = false := beq_eq_false_iff_ne.2 hz
      have E := hloop2.out hz2
      clear hz hz2 hloop2 h0 h1
      go_enter Tryd.func31, Tryd.ntmps31
      go_wp2_with fail
      go_loopw [5, 6] (fun n i wr => ∃ (k m : Nat), k ≤ T.size ∧ i = .int .i64 k ∧ n = .int .i64 m ∧ Lib.decFrom 0 (T.data.toList.take k) = some m ∧ wr = w) (fun _ i _ => T.size - (intOf i).toNat)
      case atStart => exact ⟨0, 0, Nat.zero_le _, rfl, rfl, rfl, rfl⟩
      case round =>
        obtain ⟨k, m, hk, rfl, rfl, hm, rfl⟩ := hrel
        have hk17 : k ≤ 17 := by omega
        have hmb := dec_bound hk17 hk hm
        have Hm := Lib.hid hm
        clear hm
        by_cases hlt : k < T.size
        · have hlt2 : (k : Int) < (T.size : Int) := by omega
          have Hst := Lib.hid (fun a b => dec_step hlt Hm.out a b)
          have Hfl := Lib.hid (fun a => dec_fail hlt a)
          obtain ⟨d, hd⟩ : ∃ d, T[k].toNat = d := ⟨_, rfl⟩
          have hd256 : d < 256 := by rw [← hd]; exact UInt8.toNat_lt _
          rw [hd] at Hst Hfl
          by_cases h48 : d < 48
          · have g1 : (d : Int) < 48 := by omega
            have E2 := Hfl.out (.inl h48)
            rw [E2] at E
            clear E2 h48
            go_wp2_with fail
            go_ret2
            exact ⟨by rw [hE.out, E.out]; rfl, rfl⟩
          · by_cases h57 : 57 < d
            · have g1 : ¬ (d : Int) < 48 := by omega
              have g2 : (57 : Int) < (d : Int) := by omega
              have E2 := Hfl.out (.inr h57)
              rw [E2] at E
              clear E2 h48 h57
              go_wp2_with fail
              go_ret2
              exact ⟨by rw [hE.out, E.out]; rfl, rfl⟩
            · have g1 : ¬ (d : Int) < 48 := by omega
              have g2 : ¬ (57 : Int) < (d : Int) := by omega
              have E3 := Lib.hid (Hst.out (by omega) (by omega))
              clear h48 h57
              go_wp2_with fail
              go_roundw
              case rel => exact ⟨k + 1, m * 10 + (d - 48), by omega, by go_num, by go_num, E3.out, by first | trivial | rfl⟩
              case measure => simp [intOf]; omega
        · obtain rfl : k = T.size := by omega
          have hm2 := Hm.out
          rw [List.take_of_length_le (by rw [Array.length_toList]; exact Nat.le_refl _)] at hm2
          rw [hm2] at E
          clear hm2 hlt
          go_wp2_with fail
          go_ret2
          exact ⟨by rw [hE.out, E.out]; rfl, rfl⟩
  · have hE : Hid (numS s = numD false s) := Lib.hid (by unfold numS; rw [show negB s = false by simpa using hneg]; rfl)
    by_cases h0 : s.size = 0
    · have E := Lib.hid (numD_empty (neg := false) h0)
      have f0 : ((s.size : Int) == 0) = true := by rw [h0]; rfl
      have f00 : (s.size : Int) = 0 := by omega
      clear h0
      go_enter Tryd.func31, Tryd.ntmps31
      go_wp2_with fail
      go_ret2
      exact ⟨by rw [hE.out, E.out]; rfl, rfl⟩
    have f0 : ((s.size : Int) == 0) = false := by rw [beq_eq_false_iff_ne]; omega
    have f1 : (0 : Int) < (s.size : Int) := by omega
    have f2 : 0 < s.size := by omega
    have hb : ((s[0].toNat : Int) == 45) = false := by
      rw [beq_eq_false_iff_ne]
      intro h
      apply hneg
      unfold negB
      rw [head_at f2, show s[0] = 45 from UInt8.toNat_inj.1 (by show s[0].toNat = 45; omega)]
      rfl
    clear hneg
    by_cases h1 : 17 < s.size
    · have E := Lib.hid (numD_long (neg := false) h1)
      have f3 : (17 : Int) < (s.size : Int) := by omega
      clear h0 h1
      go_enter Tryd.func31, Tryd.ntmps31
      go_wp2_with fail
      go_ret2
      exact ⟨by rw [hE.out, E.out]; rfl, rfl⟩
    have f3 : ¬ (17 : Int) < (s.size : Int) := by omega
    have ELSE := Lib.hid (fun h => numD_else (neg := false) h0 h1 h)
    have hloop : ∀ (hz : ¬ (s.data.toList.head? = some 48 ∧ (1 < s.size ∨ false = true))), Hid (numD false s = match Lib.decFrom 0 s.data.toList with | none => (0, false) | some n => (if false then -(n : Int) else n, true)) := fun hz => Lib.hid (ELSE.out hz)
    have hloop2 := Lib.hid hloop
    clear hloop ELSE
    by_cases hz : (s[0].toNat : Int) = 48
    · have hz2 : s.data.toList.head? = some 48 := by rw [head_at f2, show s[0] = 48 from UInt8.toNat_inj.1 (by show s[0].toNat = 48; omega)]
      have f4 : ((s[0].toNat : Int) == 48) = true := by rw [hz]; rfl
      by_cases h2 : 1 < s.size
      · have E := Lib.hid (numD_zero (neg := false) hz2 (.inl h2))
        have f5 : (1 : Int) < (s.size : Int) := by omega
        clear hz hz2 hloop2 h0 h1 h2
        go_enter Tryd.func31, Tryd.ntmps31
        go_wp2_with fail
        go_ret2
        exact ⟨by rw [hE.out, E.out]; rfl, rfl⟩
      have f5 : ¬ (1 : Int) < (s.size : Int) := by omega
      have E := hloop2.out (by simp [h2])
      clear hz hz2 hloop2 h0 h1 h2
      go_enter Tryd.func31, Tryd.ntmps31
      go_wp2_with fail
      go_loopw [5, 6] (fun n i wr => ∃ (k m : Nat), k ≤ s.size ∧ i = .int .i64 k ∧ n = .int .i64 m ∧ Lib.decFrom 0 (s.data.toList.take k) = some m ∧ wr = w) (fun _ i _ => s.size - (intOf i).toNat)
      case atStart => exact ⟨0, 0, Nat.zero_le _, rfl, rfl, rfl, rfl⟩
      case round =>
        obtain ⟨k, m, hk, rfl, rfl, hm, rfl⟩ := hrel
        have hk17 : k ≤ 17 := by omega
        have hmb := dec_bound hk17 hk hm
        have Hm := Lib.hid hm
        clear hm
        by_cases hlt : k < s.size
        · have hlt2 : (k : Int) < (s.size : Int) := by omega
          have Hst := Lib.hid (fun a b => dec_step hlt Hm.out a b)
          have Hfl := Lib.hid (fun a => dec_fail hlt a)
          obtain ⟨d, hd⟩ : ∃ d, s[k].toNat = d := ⟨_, rfl⟩
          have hd256 : d < 256 := by rw [← hd]; exact UInt8.toNat_lt _
          rw [hd] at Hst Hfl
          by_cases h48 : d < 48
          · have g1 : (d : Int) < 48 := by omega
            have E2 := Hfl.out (.inl h48)
            rw [E2] at E
            clear E2 h48
            go_wp2_with fail
            go_ret2
            exact ⟨by rw [hE.out, E.out]; rfl, rfl⟩
          · by_cases h57 : 57 < d
            · have g1 : ¬ (d : Int) < 48 := by omega
              have g2 : (57 : Int) < (d : Int) := by omega
              have E2 := Hfl.out (.inr h57)
              rw [E2] at E
              clear E2 h48 h57
              go_wp2_with fail
              go_ret2
              exact ⟨by rw [hE.out, E.out]; rfl, rfl⟩
            · have g1 : ¬ (d : Int) < 48 := by omega
              have g2 : ¬ (57 : Int) < (d : Int) := by omega
              have E3 := Lib.hid (Hst.out (by omega) (by omega))
              clear h48 h57
              go_wp2_with fail
              go_roundw
              case rel => exact ⟨k + 1, m * 10 + (d - 48), by omega, by go_num, by go_num, E3.out, by first | trivial | rfl⟩
              case measure => simp [intOf]; omega
        · obtain rfl : k = s.size := by omega
          have hm2 := Hm.out
          rw [List.take_of_length_le (by rw [Array.length_toList]; exact Nat.le_refl _)] at hm2
          rw [hm2] at E
          clear hm2 hlt
          go_wp2_with fail
          go_ret2
          exact ⟨by rw [hE.out, E.out]; rfl, rfl⟩
    · have hz2 : ¬ (s.data.toList.head? = some 48 ∧ (1 < s.size ∨ false = true)) := by
        rintro ⟨h, _⟩
        rw [head_at f2] at h
        apply hz
        rw [show s[0] = 48 by simpa using h]; rfl
      have f4 : ((s[0].toNat : Int) == 48) = false := beq_eq_false_iff_ne.2 hz
      have E := hloop2.out hz2
      clear hz hz2 hloop2 h0 h1
      go_enter Tryd.func31, Tryd.ntmps31
      go_wp2_with fail
      go_loopw [5, 6] (fun n i wr => ∃ (k m : Nat), k ≤ s.size ∧ i = .int .i64 k ∧ n = .int .i64 m ∧ Lib.decFrom 0 (s.data.toList.take k) = some m ∧ wr = w) (fun _ i _ => s.size - (intOf i).toNat)
      case atStart => exact ⟨0, 0, Nat.zero_le _, rfl, rfl, rfl, rfl⟩
      case round =>
        obtain ⟨k, m, hk, rfl, rfl, hm, rfl⟩ := hrel
        have hk17 : k ≤ 17 := by omega
        have hmb := dec_bound hk17 hk hm
        have Hm := Lib.hid hm
        clear hm
        by_cases hlt : k < s.size
        · have hlt2 : (k : Int) < (s.size : Int) := by omega
          have Hst := Lib.hid (fun a b => dec_step hlt Hm.out a b)
          have Hfl := Lib.hid (fun a => dec_fail hlt a)
          obtain ⟨d, hd⟩ : ∃ d, s[k].toNat = d := ⟨_, rfl⟩
          have hd256 : d < 256 := by rw [← hd]; exact UInt8.toNat_lt _
          rw [hd] at Hst Hfl
          by_cases h48 : d < 48
          · have g1 : (d : Int) < 48 := by omega
            have E2 := Hfl.out (.inl h48)
            rw [E2] at E
            clear E2 h48
            go_wp2_with fail
            go_ret2
            exact ⟨by rw [hE.out, E.out]; rfl, rfl⟩
          · by_cases h57 : 57 < d
            · have g1 : ¬ (d : Int) < 48 := by omega
              have g2 : (57 : Int) < (d : Int) := by omega
              have E2 := Hfl.out (.inr h57)
              rw [E2] at E
              clear E2 h48 h57
              go_wp2_with fail
              go_ret2
              exact ⟨by rw [hE.out, E.out]; rfl, rfl⟩
            · have g1 : ¬ (d : Int) < 48 := by omega
              have g2 : ¬ (57 : Int) < (d : Int) := by omega
              have E3 := Lib.hid (Hst.out (by omega) (by omega))
              clear h48 h57
              go_wp2_with fail
              go_roundw
              case rel => exact ⟨k + 1, m * 10 + (d - 48), by omega, by go_num, by go_num, E3.out, by first | trivial | rfl⟩
              case measure => simp [intOf]; omega
        · obtain rfl : k = s.size := by omega
          have hm2 := Hm.out
          rw [List.take_of_length_le (by rw [Array.length_toList]; exact Nat.le_refl _)] at hm2
          rw [hm2] at E
          clear hm2 hlt
          go_wp2_with fail
          go_ret2
          exact ⟨by rw [hE.out, E.out]; rfl, rfl⟩
end Go.Proofs.YtpdbkohfmkmemaaDoor
