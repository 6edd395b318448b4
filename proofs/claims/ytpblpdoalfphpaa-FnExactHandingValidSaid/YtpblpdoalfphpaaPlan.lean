/-
  Which plans and tables are valid, by the reference and by the program.
-/
import Derived.Test.YtpblpdoalfphpaaDeedS
namespace Go.Proofs.Ytpblpdoalfphpaa
open Go.RowKit
set_option linter.unusedSimpArgs false
set_option linter.unusedVariables false

def passL : List UInt8 := [112, 97, 115, 115]
def eachL : List UInt8 := [101, 97, 99, 104]
def earB (L : List UInt8) : Bool := L == takeL || L == eachL
def act3B (L : List UInt8) : Bool := L == putL || L == passL || L == endL || earB L
/-- a deed that can stand in a plan -/
def planDB (L : List UInt8) (line word lines : Int) : Bool := act3B L && inB line 0 lines && inB word 0 1000 && (L == putL || word == 0)
theorem l3Takes_any (s : ByteArray) (w : World) : Calls Try.prog 50 #[.string s] w fun e w' => e = .returned (.bool (earB s.toList)) ∧ w = w' := by
  go_enter Try.func50, Try.ntmps50
  go_wp2
  all_goals
    go_ret
    refine ⟨ret_bool ?_, rfl⟩
    simp [earB, takeL, eachL, *]
theorem usesEar_any (s : ByteArray) (w : World) : Calls Try.prog 53 #[.string s] w fun e w' => e = .returned (.bool (earB s.toList)) ∧ w = w' := by
  go_enter Try.func53, Try.ntmps53
  go_wp2
  all_goals
    go_ret
    refine ⟨ret_bool ?_, rfl⟩
    simp [earB, takeL, eachL, *]
theorem l3Act_any (s : ByteArray) (w : World) : Calls Try.prog 33 #[.string s] w fun e w' => e = .returned (.bool (act3B s.toList)) ∧ w = w' := by
  go_enter Try.func33, Try.ntmps33
  go_wp2_with (go_at_call 50; refine (l3Takes_any _ _).mono ?_; rintro e w' ⟨rfl, rfl⟩)
  all_goals
    go_ret
    refine ⟨ret_bool ?_, rfl⟩
    simp [act3B, putL, passL, endL, *]
theorem planDB_line {L : List UInt8} {line word lines : Int} (h : ¬ (0 ≤ line ∧ line ≤ lines)) : planDB L line word lines = false := by simp [planDB, inB_false.2 h]
theorem planDB_rest {L : List UInt8} {line word lines : Int} (h2 : 0 ≤ line ∧ line ≤ lines) : planDB L line word lines = (act3B L && inB word 0 1000 && (L == putL || word == 0)) := by
  simp [planDB, inB_true.2 h2]
theorem planDeedValid_any (s : ByteArray) (line word lines : Int) (w : World) : Calls Try.prog 36 #[.agg #[.string s, .int .i64 line, .int .i64 word], .int .i64 lines] w fun e w' =>
    e = .returned (.bool (planDB s.toList line word lines)) ∧ Below w.heap.size w w' := by
  by_cases h3 : line < 0
  · have H := Lib.hid (planDB_line (L := s.toList) (line := line) (word := word) (lines := lines) (by omega))
    go_enter Try.func36, Try.ntmps36
    go_wp2
    go_ret
    exact ⟨ret_bool H.out.symm, (Below.refl _ _).alloc (Nat.le_refl _) _⟩
  by_cases h4 : lines < line
  · have H := Lib.hid (planDB_line (L := s.toList) (line := line) (word := word) (lines := lines) (by omega))
    go_enter Try.func36, Try.ntmps36
    go_wp2
    go_ret
    exact ⟨ret_bool H.out.symm, (Below.refl _ _).alloc (Nat.le_refl _) _⟩
  have H := Lib.hid (planDB_rest (L := s.toList) (line := line) (word := word) (lines := lines) (by omega))
  have hz : (word == 0) = decide (0 ≤ word ∧ word ≤ 0) := by rw [Bool.eq_iff_iff]; simp; omega
  have Hz := Lib.hid hz
  clear hz
  go_enter Try.func36, Try.ntmps36
  go_wp2
  all_goals
    go_ret
    refine ⟨ret_bool ?_, (Below.refl _ _).alloc (Nat.le_refl _) _⟩
    rw [H.out]
    first
      | (simp_all [act3B, earB, putL, takeL, endL, passL, eachL]; done)
      | (simp_all [act3B, earB, putL, takeL, endL, passL, eachL, inB]; done)
      | (simp_all [act3B, earB, putL, takeL, endL, passL, eachL, inB]; omega)

/-- a deed of a list, as data -/
def okAll (p : Dd → Bool) (l : List Dd) : Bool := l.all p
theorem okAll_no {p : Dd → Bool} {l : List Dd} {k : Nat} (hk : k < l.length) (h : p l[k] = false) : okAll p l = false := by
  unfold okAll
  rw [List.all_eq_false]
  exact ⟨l[k], List.getElem_mem hk, by simp [h]⟩
theorem okAll_succ {p : Dd → Bool} {l : List Dd} {k : Nat} (hk : k < l.length) (h1 : okAll p (l.take k) = true) (h : p l[k] = true) : okAll p (l.take (k + 1)) = true := by
  unfold okAll at *
  rw [take_snoc l k hk, List.all_append, h1]
  simp [h]
def planP (lines : Int) (d : Dd) : Bool := planDB d.1.toList d.2.1 d.2.2 lines
def planB (l : List Dd) (lines : Int) : Bool := okAll (planP lines) l && inB lines 1 6 && decide ((l.length : Int) ≤ 12)
set_option maxHeartbeats 2000000 in
theorem sPlanValid_any (A : Option Addr) (c : Nat) (l : List Dd) (lines : Int) (w : World) (h : RD w w.heap.size A l) (hn : l.length ≤ 1048576) :
    Calls Try.prog 9 #[.slice A l.length c, .int .i64 lines] w fun e w' => e = .returned (.bool (planB l lines)) ∧ Below w.heap.size w w' := by
  go_enter Try.func9, Try.ntmps9
  go_wp2
  go_loopw [5] (fun i wr => ∃ k : Nat, k ≤ l.length ∧ i = .int .i64 k ∧ okAll (planP lines) (l.take k) = true ∧ Below w.heap.size w wr) (fun i _ => l.length - (intOf i).toNat)
  case atStart => exact ⟨0, Nat.zero_le _, rfl, by simp [okAll], Below.refl _ _⟩
  case round =>
    obtain ⟨k, hk, rfl, hall, hbel⟩ := hrel
    have Hall := Lib.hid hall
    by_cases hlt : k < l.length
    · obtain ⟨ad, rfl, hb, c1, c2, c3⟩ := (h.below hbel).at_ hlt
      have Hs := Lib.hid (okAll_succ hlt hall)
      have Hf := Lib.hid (okAll_no (p := planP lines) hlt)
      clear hall
      obtain ⟨d, hd⟩ : ∃ d, l[k] = d := ⟨_, rfl⟩
      rw [hd] at c1 c2 c3 Hs Hf
      obtain ⟨s, x, y⟩ := d
      clear hd
      have hp : Hid (planP lines (s, x, y) = (act3B s.toList && inB x 0 lines && inB y 0 1000 && (s.toList == putL || y == 0))) := Lib.hid rfl
      simp only at c1 c2 c3
      have hs := hbel.size
      have hbs := hbel.alloc hs (.cells #[.string s, .int .i64 x, .int .i64 y] 54)
      cases h1 : act3B s.toList
      · have E := Lib.hid (Hf.out (by rw [hp.out, h1]; rfl))
        go_wp2_with (first | (go_at_call 33; refine (l3Act_any _ _).mono ?_; rintro e w' ⟨rfl, rfl⟩) | (go_at_call 34; refine (l1In_any _ _ _ _).mono ?_; rintro e w' ⟨rfl, rfl⟩))
        go_ret
        exact ⟨ret_bool (by simp [planB, E.out]), hbs⟩
      cases h2 : inB x 0 lines
      · have E := Lib.hid (Hf.out (by rw [hp.out, h1, h2]; rfl))
        go_wp2_with (first | (go_at_call 33; refine (l3Act_any _ _).mono ?_; rintro e w' ⟨rfl, rfl⟩) | (go_at_call 34; refine (l1In_any _ _ _ _).mono ?_; rintro e w' ⟨rfl, rfl⟩))
        go_ret
        exact ⟨ret_bool (by simp [planB, E.out]), hbs⟩
      cases h3 : inB y 0 1000
      · have E := Lib.hid (Hf.out (by rw [hp.out, h1, h2, h3]; rfl))
        go_wp2_with (first | (go_at_call 33; refine (l3Act_any _ _).mono ?_; rintro e w' ⟨rfl, rfl⟩) | (go_at_call 34; refine (l1In_any _ _ _ _).mono ?_; rintro e w' ⟨rfl, rfl⟩))
        go_ret
        exact ⟨ret_bool (by simp [planB, E.out]), hbs⟩
      go_wp2_with (first | (go_at_call 33; refine (l3Act_any _ _).mono ?_; rintro e w' ⟨rfl, rfl⟩) | (go_at_call 34; refine (l1In_any _ _ _ _).mono ?_; rintro e w' ⟨rfl, rfl⟩))
      all_goals first
        | (go_ret
           refine ⟨ret_bool ?_, hbs⟩
           have E : planP lines (s, x, y) = false := by rw [hp.out, h1, h2, h3]; simp_all [putL]
           simp [planB, Hf.out E])
        | (refine ⟨⟨k + 1, by omega, by go_num, Hs.out ?_, hbs⟩, by simp [intOf]; omega⟩
           rw [hp.out, h1, h2, h3]
           simp_all [putL])
    · have hk' : k = l.length := by omega
      have Hall2 : Hid (okAll (planP lines) l = true) := by rw [hk', List.take_length] at hall; exact Lib.hid hall
      clear hall hk' Hall
      cases h1 : inB lines 1 6
      all_goals
        go_wp2_with (first | (go_at_call 34; refine (l1In_any _ _ _ _).mono ?_; rintro e w' ⟨rfl, rfl⟩))
        go_ret
        exact ⟨ret_bool (by simp [planB, Hall2.out, h1]), hbel⟩
set_option maxHeartbeats 2000000 in
theorem iPlanValid_any (A : Option Addr) (c : Nat) (l : List Dd) (lines : Int) (w : World) (h : RD w w.heap.size A l) (hn : l.length ≤ 1048576) :
    Calls Try.prog 11 #[.slice A l.length c, .int .i64 lines] w fun e w' => e = .returned (.bool (planB l lines)) ∧ Below w.heap.size w w' := by
  by_cases hb : (1 ≤ lines ∧ lines ≤ 6) ∧ l.length ≤ 12
  case neg =>
    have Hin : Hid (planB l lines = false) := Lib.hid (by
      unfold planB
      by_cases h1 : 1 ≤ lines ∧ lines ≤ 6
      · have : ¬ (l.length : Int) ≤ 12 := by omega
        simp [this]
      · simp [inB_false.2 h1])
    clear h
    by_cases h1 : lines < 1
    · clear hb
      go_enter Try.func11, Try.ntmps11
      go_wp2
      go_ret
      exact ⟨ret_bool (by rw [Hin.out]), Below.refl _ _⟩
    by_cases h2 : 6 < lines
    · clear hb
      go_enter Try.func11, Try.ntmps11
      go_wp2
      go_ret
      exact ⟨ret_bool (by rw [Hin.out]), Below.refl _ _⟩
    have h3 : 12 < l.length := by omega
    clear hb
    go_enter Try.func11, Try.ntmps11
    go_wp2
    go_ret
    exact ⟨ret_bool (by rw [Hin.out]), Below.refl _ _⟩
  obtain ⟨⟨hl1, hl2⟩, hl3⟩ := hb
  have Hin : Hid (inB lines 1 6 = true) := Lib.hid (inB_true.2 ⟨by omega, by omega⟩)
  go_enter Try.func11, Try.ntmps11
  go_wp2
  go_loopw [20, 6] (fun i _ wr => ∃ k : Nat, k ≤ l.length ∧ i = .int .i64 k ∧ okAll (planP lines) (l.take k) = true ∧ Below w.heap.size w wr) (fun i _ _ => l.length - (intOf i).toNat)
  case atStart => exact ⟨0, Nat.zero_le _, rfl, by simp [okAll], Below.refl _ _⟩
  case round =>
    obtain ⟨k, hk, rfl, hall, hbel⟩ := hrel
    by_cases hlt : k < l.length
    · obtain ⟨ad, rfl, hb, c1, c2, c3⟩ := (h.below hbel).at_ hlt
      have Hs := Lib.hid (okAll_succ hlt hall)
      have Hf := Lib.hid (okAll_no (p := planP lines) hlt)
      clear hall
      obtain ⟨d, hd⟩ : ∃ d, l[k] = d := ⟨_, rfl⟩
      rw [hd] at c1 c2 c3 Hs Hf
      obtain ⟨s, x, y⟩ := d
      clear hd
      have hp : Hid (planP lines (s, x, y) = planDB s.toList x y lines) := Lib.hid rfl
      simp only at c1 c2 c3
      have hs := hbel.size
      have hbs := hbel.alloc hs (.cells #[.string s, .int .i64 x, .int .i64 y] 54)
      cases h1 : planDB s.toList x y lines
      · have E := Lib.hid (Hf.out (by rw [hp.out, h1]))
        go_wp2_with (first | (go_at_call 36; refine (planDeedValid_any _ _ _ _ _).mono ?_; rintro e w1 ⟨rfl, hb1⟩))
        go_ret
        exact ⟨ret_bool (by simp [planB, E.out]), hbs.trans (hb1.mono (by simp; omega))⟩
      · go_wp2_with (first | (go_at_call 36; refine (planDeedValid_any _ _ _ _ _).mono ?_; rintro e w1 ⟨rfl, hb1⟩))
        go_roundw
        case rel => exact ⟨k + 1, by omega, by go_num, Hs.out (by rw [hp.out, h1]), hbs.trans (hb1.mono (by simp; omega))⟩
        case measure => simp [intOf]; omega
    · have hk' : k = l.length := by omega
      have Hall2 : Hid (okAll (planP lines) l = true) := by rw [hk', List.take_length] at hall; exact Lib.hid hall
      clear hall hk'
      go_wp2
      go_ret
      exact ⟨ret_bool (by simp [planB, Hall2.out, Hin.out]; omega), hbel⟩

def tabP (lines : Int) (d : Dd) : Bool := deedB d.1.toList d.2.1 d.2.2 lines && (d.1.toList == putL || d.1.toList == takeL)
def tableB (l : List Dd) (lines : Int) : Bool := okAll (tabP lines) l && inB lines 1 6 && inB l.length 1 8
set_option maxHeartbeats 2000000 in
theorem sTableValid_any (A : Option Addr) (c : Nat) (l : List Dd) (lines : Int) (w : World) (h : RD w w.heap.size A l) (hn : l.length ≤ 1048576) :
    Calls Try.prog 13 #[.slice A l.length c, .int .i64 lines] w fun e w' => e = .returned (.bool (tableB l lines)) ∧ Below w.heap.size w w' := by
  go_enter Try.func13, Try.ntmps13
  go_wp2
  go_loopw [5] (fun i wr => ∃ k : Nat, k ≤ l.length ∧ i = .int .i64 k ∧ okAll (tabP lines) (l.take k) = true ∧ Below w.heap.size w wr) (fun i _ => l.length - (intOf i).toNat)
  case atStart => exact ⟨0, Nat.zero_le _, rfl, by simp [okAll], Below.refl _ _⟩
  case round =>
    obtain ⟨k, hk, rfl, hall, hbel⟩ := hrel
    have Hall := Lib.hid hall
    by_cases hlt : k < l.length
    · have hR := h.below hbel
      obtain ⟨ad, rfl, hb, c1, c2, c3⟩ := hR.at_ hlt
      have Hs := Lib.hid (okAll_succ hlt hall)
      have Hf := Lib.hid (okAll_no (p := tabP lines) hlt)
      clear hall
      obtain ⟨d, hd⟩ : ∃ d, l[k] = d := ⟨_, rfl⟩
      rw [hd] at c1 c2 c3 Hs Hf
      obtain ⟨s, x, y⟩ := d
      clear hd
      have hp : Hid (tabP lines (s, x, y) = (deedB s.toList x y lines && (s.toList == putL || s.toList == takeL))) := Lib.hid rfl
      simp only at c1 c2 c3
      have hs := hbel.size
      have hbk : (ad.add (k * 3)).block < wr.heap.size := by rw [block_of_add]; omega
      cases h1 : deedB s.toList x y lines
      · have E := Lib.hid (Hf.out (by rw [hp.out, h1]; rfl))
        go_wp2_with (first | (go_at_call 38; refine (sDeedValid_any _ _ _ _ _).mono ?_; rintro e w1 ⟨rfl, hb1⟩))
        go_ret
        exact ⟨ret_bool (by simp [tableB, E.out]), hbel.trans (hb1.mono hs)⟩
      go_wp2_with (first | (go_at_call 38; refine (sDeedValid_any _ _ _ _ _).mono ?_; rintro e w1 ⟨rfl, hb1⟩; have k1 := (hb1.cell (p := ad.add (k * 3)) hbk).trans c1))
      all_goals first
        | (go_ret
           refine ⟨ret_bool ?_, hbel.trans (hb1.mono hs)⟩
           have E : tabP lines (s, x, y) = false := by rw [hp.out, h1]; simp_all [putL, takeL]
           simp [tableB, Hf.out E])
        | (refine ⟨⟨k + 1, by omega, by go_num, Hs.out ?_, hbel.trans (hb1.mono hs)⟩, by simp [intOf]; omega⟩
           rw [hp.out, h1]
           simp_all [putL, takeL])
    · have hk' : k = l.length := by omega
      have Hall2 : Hid (okAll (tabP lines) l = true) := by rw [hk', List.take_length] at hall; exact Lib.hid hall
      clear hall hk' Hall
      cases h1 : inB lines 1 6
      all_goals
        go_wp2_with (first | (go_at_call 34; refine (l1In_any _ _ _ _).mono ?_; rintro e w' ⟨rfl, rfl⟩))
        go_ret
        exact ⟨ret_bool (by simp [tableB, Hall2.out, h1]), hbel⟩
set_option maxHeartbeats 2000000 in
theorem iTableValid_any (A : Option Addr) (c : Nat) (l : List Dd) (lines : Int) (w : World) (h : RD w w.heap.size A l) (hn : l.length ≤ 1048576) :
    Calls Try.prog 14 #[.slice A l.length c, .int .i64 lines] w fun e w' => e = .returned (.bool (tableB l lines)) ∧ Below w.heap.size w w' := by
  by_cases hb : (1 ≤ lines ∧ lines ≤ 6) ∧ 1 ≤ l.length ∧ l.length ≤ 8
  case neg =>
    have Hin : Hid (tableB l lines = false) := Lib.hid (by
      unfold tableB
      by_cases h1 : 1 ≤ lines ∧ lines ≤ 6
      · rw [inB_false.2 (show ¬ ((1 : Int) ≤ l.length ∧ (l.length : Int) ≤ 8) by omega)]
        simp
      · simp [inB_false.2 h1])
    clear h
    by_cases h1 : lines < 1
    · clear hb
      go_enter Try.func14, Try.ntmps14
      go_wp2
      go_ret
      exact ⟨ret_bool (by rw [Hin.out]), Below.refl _ _⟩
    by_cases h2 : 6 < lines
    · clear hb
      go_enter Try.func14, Try.ntmps14
      go_wp2
      go_ret
      exact ⟨ret_bool (by rw [Hin.out]), Below.refl _ _⟩
    by_cases h0 : l.length < 1
    · have h00 : l.length = 0 := by omega
      rw [h00]
      clear hb h0 h00
      go_enter Try.func14, Try.ntmps14
      go_wp2
      go_ret
      exact ⟨ret_bool (by rw [Hin.out]), Below.refl _ _⟩
    have h3 : 8 < l.length := by omega
    clear hb
    go_enter Try.func14, Try.ntmps14
    go_wp2
    go_ret
    exact ⟨ret_bool (by rw [Hin.out]), Below.refl _ _⟩
  obtain ⟨⟨hl1, hl2⟩, hl3, hl4⟩ := hb
  have Hin : Hid (inB lines 1 6 = true) := Lib.hid (inB_true.2 ⟨by omega, by omega⟩)
  have Hin2 : Hid (inB l.length 1 8 = true) := Lib.hid (inB_true.2 ⟨by omega, by omega⟩)
  go_enter Try.func14, Try.ntmps14
  go_wp2
  go_loopw [25, 6] (fun i _ wr => ∃ k : Nat, k ≤ l.length ∧ i = .int .i64 k ∧ okAll (tabP lines) (l.take k) = true ∧ Below w.heap.size w wr) (fun i _ _ => l.length - (intOf i).toNat)
  case atStart => exact ⟨0, Nat.zero_le _, rfl, by simp [okAll], Below.refl _ _⟩
  case round =>
    obtain ⟨k, hk, rfl, hall, hbel⟩ := hrel
    by_cases hlt : k < l.length
    · obtain ⟨ad, rfl, hb, c1, c2, c3⟩ := (h.below hbel).at_ hlt
      have Hs := Lib.hid (okAll_succ hlt hall)
      have Hf := Lib.hid (okAll_no (p := tabP lines) hlt)
      clear hall
      obtain ⟨d, hd⟩ : ∃ d, l[k] = d := ⟨_, rfl⟩
      rw [hd] at c1 c2 c3 Hs Hf
      obtain ⟨s, x, y⟩ := d
      clear hd
      have hp : Hid (tabP lines (s, x, y) = (deedB s.toList x y lines && (s.toList == putL || s.toList == takeL))) := Lib.hid rfl
      simp only at c1 c2 c3
      have hs := hbel.size
      have hbs := hbel.alloc hs (.cells #[.string s, .int .i64 x, .int .i64 y] 54)
      cases h1 : deedB s.toList x y lines
      all_goals
        go_wp2_with (first | (go_at_call 39; refine (iDeedValid_any _ _ _ _ _).mono ?_; rintro e w1 ⟨rfl, hb1⟩))
        all_goals first
          | (go_ret
             refine ⟨ret_bool ?_, (by first | exact hbs | exact hbs.trans (hb1.mono (by simp; omega)))⟩
             have E : tabP lines (s, x, y) = false := by rw [hp.out, h1]; simp_all [putL, takeL]
             simp [tableB, Hf.out E])
          | (refine ⟨⟨k + 1, by omega, by go_num, Hs.out ?_, hbs.trans (hb1.mono (by simp; omega))⟩, by simp [intOf]; omega⟩
             rw [hp.out, h1]
             simp_all [putL, takeL])
    · obtain rfl : k = l.length := by omega
      have Hall2 : Hid (okAll (tabP lines) l = true) := by rw [List.take_length] at hall; exact Lib.hid hall
      clear hall
      go_wp2
      go_ret
      exact ⟨ret_bool (by simp [tableB, Hall2.out, Hin.out, Hin2.out]), hbel⟩
end Go.Proofs.Ytpblpdoalfphpaa
