/-
  HandingValid, walked; the law.
-/
import Derived.Test.YtpblpdoalfphpaaHand2
namespace Go.Proofs.Ytpblpdoalfphpaa
open Go.RowKit
set_option linter.unusedSimpArgs false
set_option linter.unusedVariables false

def handP (n : Int) (d : Dd) : Bool := handDB d.1.toList d.2.1 d.2.2 n
def handPB (n : Int) (p : List Dd) : Bool := okAll (handP n) p && decide ((p.length : Int) ≤ 12)
noncomputable def handB (l E : List Int) (R : List DRow) : Bool := roomsB l && decide (E.length = l.length) && inB R.length 1 4 && allIn E (-1) ((R.length : Int) - 1) && usersB l.length R false && rowsAll (handPB l.length) R
theorem handPB_no {n : Int} {p : List Dd} {k : Nat} (hk : k < p.length) (h : handP n p[k] = false) : handPB n p = false := by
  unfold handPB
  rw [okAll_no hk h]
  rfl
theorem allIn_no {l : List Int} {lo hi : Int} {k : Nat} (hk : k < l.length) (h : inB l[k] lo hi = false) : allIn l lo hi = false := allIn_false hk h
set_option maxHeartbeats 4000000 in
theorem sHandingValid_any (A : Option Addr) (c : Nat) (l : List Int) (A1 : Option Addr) (c1 : Nat) (E : List Int) (A' : Option Addr) (c' : Nat) (R : List DRow) (w : World) (h : RI w w.heap.size A l) (h1 : RI w w.heap.size A1 E) (h' : RLD w w.heap.size A' R) (hn : l.length ≤ 1048576) (hnE : E.length ≤ 1048576) (hn' : R.length ≤ 1048576) (hn2 : ∀ r ∈ R, r.2.1.length ≤ 1048576) :
    Calls Try.prog 30 #[.slice A l.length c, .slice A1 E.length c1, .slice A' R.length c'] w fun e w' => e = .returned (.bool (handB l E R)) ∧ Below w.heap.size w w' := by
  cases hr : roomsB l
  · have X : Hid (handB l E R = false) := Lib.hid (by simp [handB, hr])
    go_enter Try.func30, Try.ntmps30
    go_wp2_with (go_at_call 44; refine (sRoomsValid_any _ _ l _ _ h hn).mono ?_; rintro e w' ⟨rfl, rfl⟩)
    go_ret
    exact ⟨ret_bool X.out.symm, Below.refl _ _⟩
  by_cases hl : E.length = l.length
  case neg =>
    have X : Hid (handB l E R = false) := Lib.hid (by simp [handB, hl])
    have hne : ((E.length : Int) != (l.length : Int)) = true := by simp; omega
    clear hl
    go_enter Try.func30, Try.ntmps30
    go_wp2_with (go_at_call 44; refine (sRoomsValid_any _ _ l _ _ h hn).mono ?_; rintro e w' ⟨rfl, rfl⟩)
    go_ret
    exact ⟨ret_bool X.out.symm, Below.refl _ _⟩
  have hne : ((l.length : Int) != (l.length : Int)) = false := by simp
  cases hin : inB R.length 1 4
  · have X : Hid (handB l E R = false) := Lib.hid (by simp [handB, hin])
    rw [hl]
    clear hl
    go_enter Try.func30, Try.ntmps30
    go_wp2_with (first | (go_at_call 44; refine (sRoomsValid_any _ _ l _ _ h hn).mono ?_; rintro e w' ⟨rfl, rfl⟩) | (go_at_call 34; refine (l1In_any _ _ _ _).mono ?_; rintro e w' ⟨rfl, rfl⟩))
    go_ret
    exact ⟨ret_bool X.out.symm, Below.refl _ _⟩
  obtain ⟨hl1, hl6⟩ := roomsB_len hr
  have HR := Lib.hid hr
  have HI := Lib.hid hin
  have HL := Lib.hid hl
  rw [hl]
  clear hl
  go_enter Try.func30, Try.ntmps30
  go_wp2_with (first | (go_at_call 44; refine (sRoomsValid_any _ _ l _ _ h hn).mono ?_; rintro e w' ⟨rfl, rfl⟩) | (go_at_call 34; refine (l1In_any _ _ _ _).mono ?_; rintro e w' ⟨rfl, rfl⟩))
  clear hr hin hne
  go_loop [7] (fun i => ∃ k : Nat, k ≤ l.length ∧ i = .int .i64 ((k : Int) + 1) ∧ allIn (E.take k) (-1) ((R.length : Int) - 1) = true ∧ Free R false (k + 1)) (fun i => l.length + 1 - (intOf i).toNat)
  case atStart => exact ⟨0, by omega, rfl, by simp [allIn], fun x h1 h2 => by omega⟩
  case round =>
    obtain ⟨k, hk, rfl, hall, hf⟩ := hrel
    have HF := Lib.hid hf
    clear hf
    by_cases hlt : k < l.length
    · have hltE : k < E.length := by rw [HL.out]; exact hlt
      obtain ⟨ad, rfl, hb, hc⟩ := h1.at_ hltE
      have Hs := Lib.hid (allIn_take_succ (lo := -1) (hi := (R.length : Int) - 1) hltE hall)
      have Hf := Lib.hid (allIn_false (l := E) (lo := -1) (hi := (R.length : Int) - 1) hltE)
      obtain ⟨v, hv⟩ : ∃ v, E[k]'hltE = v := ⟨_, rfl⟩
      rw [hv] at hc Hs Hf
      clear hv hall
      cases hin : inB v (-1) ((R.length : Int) - 1)
      · have X : Hid (handB l E R = false) := Lib.hid (by simp [handB, Hf.out hin])
        go_wp2_with (first | (go_at_call 34; refine (l1In_any _ _ _ _).mono ?_; rintro e w' ⟨rfl, rfl⟩))
        go_ret
        exact ⟨ret_bool X.out.symm, Below.refl _ _⟩
      · have Hs2 : Hid (allIn (E.take (k + 1)) (-1) ((R.length : Int) - 1) = true) := Lib.hid (by rw [Hs.out, hin])
        have hu := l3User_any A' c' R ((k : Int) + 1) false w _ h' hn' hn2
        cases ht : twB R ((k : Int) + 1) false
        · have HF2 := Lib.hid (HF.out.succ (k := k + 1) ht)
          go_wp2_with fail
          refine (l1In_any _ _ _ _).mono ?_
          rintro e w' ⟨rfl, rfl⟩
          go_wp2_with fail
          refine hu.mono ?_
          rintro e w' ⟨⟨v2, rfl, hv2⟩, rfl⟩
          rw [ht] at hv2
          clear hu
          go_wp2_with fail
          go_round
          case rel => exact ⟨k + 1, by omega, by congr 1, Hs2.out, HF2.out⟩
          case measure => simp [intOf]; omega
        · have X : Hid (handB l E R = false) := Lib.hid (by
            have e : usersB l.length R false = false := usersB_no (k := k + 1) (by omega) (by omega) ht
            simp [handB, e])
          go_wp2_with fail
          refine (l1In_any _ _ _ _).mono ?_
          rintro e w' ⟨rfl, rfl⟩
          go_wp2_with fail
          refine hu.mono ?_
          rintro e w' ⟨⟨v2, rfl, hv2⟩, rfl⟩
          rw [ht] at hv2
          clear hu
          go_wp2_with fail
          go_ret
          exact ⟨ret_bool X.out.symm, Below.refl _ _⟩
    · obtain rfl : k = l.length := by omega
      have HU := Lib.hid (HF.out.done (n := l.length) rfl)
      have HE : Hid (allIn E (-1) ((R.length : Int) - 1) = true) := Lib.hid (by rw [← HL.out, List.take_length] at hall; exact hall)
      clear hall h h1
      go_wp2_with fail
      go_loopw [8] (fun i wr => ∃ p : Nat, p ≤ R.length ∧ i = .int .i64 p ∧ rowsAll (handPB l.length) (R.take p) = true ∧ Below w.heap.size w wr) (fun i _ => R.length - (intOf i).toNat)
      case atStart => exact ⟨0, Nat.zero_le _, rfl, by simp [rowsAll], Below.refl _ _⟩
      case round =>
        obtain ⟨p, hp, rfl, hrow, hbel⟩ := hrel
        have hs := hbel.size
        by_cases hpl : p < R.length
        · have hn1 := hn2 R[p] (List.getElem_mem _)
          obtain ⟨ad0, hA, hb0, c0, -, -, hr0⟩ := h'.at_ hpl
          have Hs := Lib.hid (rowsAll_succ hpl hrow)
          have Hf := Lib.hid (rowsAll_no (p := handPB l.length) hpl)
          obtain ⟨d, hd⟩ : ∃ d, R[p] = d := ⟨_, rfl⟩
          rw [hd] at c0 hr0 hn1 Hs Hf
          obtain ⟨Ar, l1, cc1⟩ := d
          simp only at c0 hr0 hn1
          subst hA
          have hbk : (ad0.add p).block < w.heap.size := by rw [block_of_add]; exact hb0
          clear hd hrow h'
          have cr := (hbel.cell (p := ad0.add p) hbk).trans c0
          go_wp2_with fail
          go_loopw [9] (fun i wx => ∃ j : Nat, j ≤ l1.length ∧ i = .int .i64 j ∧ okAll (handP l.length) (l1.take j) = true ∧ Below w.heap.size w wx) (fun i _ => l1.length - (intOf i).toNat)
          case atStart => exact ⟨0, Nat.zero_le _, rfl, by simp [okAll], hbel⟩
          case round =>
            obtain ⟨j, hj, rfl, hok, hbel2⟩ := hrel
            have hs2 := hbel2.size
            have cx := (hbel2.cell (p := ad0.add p) hbk).trans c0
            by_cases hjl : j < l1.length
            · obtain ⟨ad1, rfl, hb1, d1, d2, d3⟩ := (hr0.below hbel2).at_ hjl
              have Hos := Lib.hid (okAll_succ hjl hok)
              have Hno := Lib.hid (handPB_no (n := l.length) hjl)
              obtain ⟨d, hd⟩ : ∃ d, l1[j] = d := ⟨_, rfl⟩
              rw [hd] at d1 d2 d3 Hos Hno
              obtain ⟨s, a, b⟩ := d
              have Hd : Hid (handP l.length (s, a, b) = handDB s.toList a b l.length) := Lib.hid rfl
              simp only at d1 d2 d3
              have hbk2 : (ad1.add (j * 3)).block < wr.heap.size := by rw [block_of_add]; omega
              clear hd hok cr
              have hq := l4Deed_any s a b l.length wr (by omega) (by omega)
              cases hx : handDB s.toList a b l.length
              · have X : Hid (handB l E R = false) := Lib.hid (by simp [handB, Hf.out (Hno.out (by rw [Hd.out, hx]))])
                rw [hx] at hq
                go_wp2_with fail
                refine hq.mono ?_
                rintro e w1 ⟨rfl, hb2⟩
                clear hq
                go_wp2_with fail
                go_ret
                exact ⟨ret_bool X.out.symm, hbel2.trans (hb2.mono hs2)⟩
              · have Hos2 := Lib.hid (Hos.out (by rw [Hd.out, hx]))
                rw [hx] at hq
                go_wp2_with fail
                refine hq.mono ?_
                rintro e w1 ⟨rfl, hb2⟩
                clear hq
                go_wp2_with fail
                go_roundw
                case rel => exact ⟨j + 1, by omega, by go_num, Hos2.out, hbel2.trans (hb2.mono hs2)⟩
                case measure => simp [intOf]; omega
            · have hj' : j = l1.length := by omega
              have Hok : Hid (okAll (handP l.length) l1 = true) := by rw [hj', List.take_length] at hok; exact Lib.hid hok
              clear hok hj' cr
              by_cases h12 : l1.length ≤ 12
              · have Hrow := Lib.hid (Hs.out (by simp [handPB, Hok.out]; omega))
                go_wp2_with fail
                go_roundw
                case rel => exact ⟨p + 1, by omega, by go_num, Hrow.out, hbel2⟩
                case measure => simp [intOf]; omega
              · have X : Hid (handB l E R = false) := Lib.hid (by
                  have : handPB l.length l1 = false := by simp [handPB]; omega
                  simp [handB, Hf.out this])
                have h13 : 12 < l1.length := by omega
                clear h12
                go_wp2_with fail
                go_ret
                exact ⟨ret_bool X.out.symm, hbel2⟩
        · have hp' : p = R.length := by omega
          have Hrow : Hid (rowsAll (handPB l.length) R = true) := by rw [hp', List.take_length] at hrow; exact Lib.hid hrow
          have X : Hid (handB l E R = true) := Lib.hid (by simp [handB, HR.out, HI.out, HU.out, HE.out, HL.out, Hrow.out])
          clear hrow hp' h' hn2
          go_wp2_with fail
          go_ret
          exact ⟨ret_bool X.out.symm, hbel⟩
set_option maxHeartbeats 4000000 in
theorem iHandingValid_any (A : Option Addr) (c : Nat) (l : List Int) (A1 : Option Addr) (c1 : Nat) (E : List Int) (A' : Option Addr) (c' : Nat) (R : List DRow) (w : World) (h : RI w w.heap.size A l) (h1 : RI w w.heap.size A1 E) (h' : RLD w w.heap.size A' R) (hn : l.length ≤ 1048576) (hnE : E.length ≤ 1048576) (hn' : R.length ≤ 1048576) (hn2 : ∀ r ∈ R, r.2.1.length ≤ 1048576) :
    Calls Try.prog 31 #[.slice A l.length c, .slice A1 E.length c1, .slice A' R.length c'] w fun e w' => e = .returned (.bool (handB l E R)) ∧ Below w.heap.size w w' := by
  cases hr : roomsB l
  · have X : Hid (handB l E R = false) := Lib.hid (by simp [handB, hr])
    go_enter Try.func31, Try.ntmps31
    go_wp2_with (go_at_call 46; refine (iRoomsValid_any _ _ l _ _ h hn).mono ?_; rintro e w' ⟨rfl, rfl⟩)
    go_ret
    exact ⟨ret_bool X.out.symm, Below.refl _ _⟩
  by_cases hl : E.length = l.length
  case neg =>
    have X : Hid (handB l E R = false) := Lib.hid (by simp [handB, hl])
    have hne : ((E.length : Int) != (l.length : Int)) = true := by simp; omega
    clear hl
    go_enter Try.func31, Try.ntmps31
    go_wp2_with (go_at_call 46; refine (iRoomsValid_any _ _ l _ _ h hn).mono ?_; rintro e w' ⟨rfl, rfl⟩)
    go_ret
    exact ⟨ret_bool X.out.symm, Below.refl _ _⟩
  have hne : ((l.length : Int) != (l.length : Int)) = false := by simp
  have HL := Lib.hid hl
  rw [hl]
  clear hl
  by_cases hb : 1 ≤ R.length ∧ R.length ≤ 4
  case neg =>
    have X : Hid (handB l E R = false) := Lib.hid (by simp [handB, inB_false.2 (show ¬ ((1 : Int) ≤ R.length ∧ (R.length : Int) ≤ 4) by omega)])
    clear h'
    by_cases h0 : R.length < 1
    · have h00 : R.length = 0 := by omega
      rw [h00]
      clear hb h0 h00 hn'
      go_enter Try.func31, Try.ntmps31
      go_wp2_with (go_at_call 46; refine (iRoomsValid_any _ _ l _ _ h hn).mono ?_; rintro e w' ⟨rfl, rfl⟩)
      go_ret
      exact ⟨ret_bool X.out.symm, Below.refl _ _⟩
    · have h4 : 4 < R.length := by omega
      clear hb
      go_enter Try.func31, Try.ntmps31
      go_wp2_with (go_at_call 46; refine (iRoomsValid_any _ _ l _ _ h hn).mono ?_; rintro e w' ⟨rfl, rfl⟩)
      go_ret
      exact ⟨ret_bool X.out.symm, Below.refl _ _⟩
  obtain ⟨hb1, hb4⟩ := hb
  obtain ⟨hl1, hl6⟩ := roomsB_len hr
  have HR := Lib.hid hr
  have HI : Hid (inB R.length 1 4 = true) := Lib.hid (inB_true.2 (by omega))
  go_enter Try.func31, Try.ntmps31
  go_wp2_with (go_at_call 46; refine (iRoomsValid_any _ _ l _ _ h hn).mono ?_; rintro e w' ⟨rfl, rfl⟩)
  clear hr hne
  go_loop [35, 8] (fun i _ => ∃ k : Nat, k ≤ l.length ∧ i = .int .i64 k ∧ allIn (E.take k) (-1) ((R.length : Int) - 1) = true) (fun i _ => l.length - (intOf i).toNat)
  case atStart => exact ⟨0, by omega, rfl, by simp [allIn]⟩
  case round =>
    obtain ⟨k, hk, rfl, hall⟩ := hrel
    by_cases hlt : k < l.length
    · have hltE : k < E.length := by rw [HL.out]; exact hlt
      obtain ⟨ad, rfl, hb, hc⟩ := h1.at_ hltE
      have Hs := Lib.hid (allIn_take_succ (lo := -1) (hi := (R.length : Int) - 1) hltE hall)
      have Hf := Lib.hid (allIn_false (l := E) (lo := -1) (hi := (R.length : Int) - 1) hltE)
      obtain ⟨v, hv⟩ : ∃ v, E[k]'hltE = v := ⟨_, rfl⟩
      rw [hv] at hc Hs Hf
      clear hv hall
      by_cases hv1 : v < -1
      · have X : Hid (handB l E R = false) := Lib.hid (by simp [handB, Hf.out (inB_false.2 (by omega))])
        go_wp2_with fail
        go_ret
        exact ⟨ret_bool X.out.symm, Below.refl _ _⟩
      · by_cases hv2 : (R.length : Int) ≤ v
        · have X : Hid (handB l E R = false) := Lib.hid (by simp [handB, Hf.out (inB_false.2 (by omega))])
          go_wp2_with fail
          go_ret
          exact ⟨ret_bool X.out.symm, Below.refl _ _⟩
        · have Hs2 : Hid (allIn (E.take (k + 1)) (-1) ((R.length : Int) - 1) = true) := Lib.hid (by rw [Hs.out]; exact inB_true.2 (by omega))
          go_wp2_with fail
          go_round
          case rel => exact ⟨k + 1, by omega, by go_num, Hs2.out⟩
          case measure => simp [intOf]; omega
    · obtain rfl : k = l.length := by omega
      have HE : Hid (allIn E (-1) ((R.length : Int) - 1) = true) := Lib.hid (by rw [← HL.out, List.take_length] at hall; exact hall)
      clear hall h h1
      go_wp2_with fail
      go_loopw [50, 10] (fun i _ wr => ∃ p : Nat, p ≤ R.length ∧ i = .int .i64 p ∧ rowsAll (handPB l.length) (R.take p) = true ∧ Below w.heap.size w wr) (fun i _ _ => R.length - (intOf i).toNat)
      case atStart => exact ⟨0, Nat.zero_le _, rfl, by simp [rowsAll], Below.refl _ _⟩
      case round =>
        obtain ⟨p, hp, rfl, hrow, hbel⟩ := hrel
        have hs := hbel.size
        by_cases hpl : p < R.length
        · have hn1 := hn2 R[p] (List.getElem_mem _)
          obtain ⟨ad0, rfl, hb0, cr, -, -, -⟩ := (h'.below hbel).at_ hpl
          obtain ⟨-, -, -, -, -, -, hr0⟩ := h'.at_ hpl
          have Hs := Lib.hid (rowsAll_succ hpl hrow)
          have Hf := Lib.hid (rowsAll_no (p := handPB l.length) hpl)
          obtain ⟨d, hd⟩ : ∃ d, R[p] = d := ⟨_, rfl⟩
          rw [hd] at cr hr0 hn1 Hs Hf
          obtain ⟨Ar, l1, cc1⟩ := d
          simp only at cr hr0 hn1
          clear hd hrow
          by_cases h12 : l1.length ≤ 12
          case neg =>
            have X : Hid (handB l E R = false) := Lib.hid (by
              have : handPB l.length l1 = false := by simp [handPB]; omega
              simp [handB, Hf.out this])
            have h13 : 12 < l1.length := by omega
            clear h12 h'
            go_wp2_with fail
            go_ret
            exact ⟨ret_bool X.out.symm, hbel⟩
          go_wp2_with fail
          go_loopw [59, 12] (fun i _ wx => ∃ j : Nat, j ≤ l1.length ∧ i = .int .i64 j ∧ okAll (handP l.length) (l1.take j) = true ∧ Below w.heap.size w wx) (fun i _ _ => l1.length - (intOf i).toNat)
          case atStart => exact ⟨0, Nat.zero_le _, rfl, by simp [okAll], hbel⟩
          case round =>
            obtain ⟨j, hj, rfl, hok, hbel2⟩ := hrel
            have hs2 := hbel2.size
            by_cases hjl : j < l1.length
            · obtain ⟨ad1, rfl, hb1, d1, d2, d3⟩ := (hr0.below hbel2).at_ hjl
              have Hos := Lib.hid (okAll_succ hjl hok)
              have Hno := Lib.hid (handPB_no (n := l.length) hjl)
              obtain ⟨d, hd⟩ : ∃ d, l1[j] = d := ⟨_, rfl⟩
              rw [hd] at d1 d2 d3 Hos Hno
              obtain ⟨s, a, b⟩ := d
              have Hd : Hid (handP l.length (s, a, b) = handDB s.toList a b l.length) := Lib.hid rfl
              simp only at d1 d2 d3
              have hbs := hbel2.alloc hs2 (.cells #[.string s, .int .i64 a, .int .i64 b] 54)
              have hq := fun W => handDeedValid_any s a b l.length W (by omega) (by omega)
              clear hd hok cr
              cases hx : handDB s.toList a b l.length
              · have X : Hid (handB l E R = false) := Lib.hid (by simp [handB, Hf.out (Hno.out (by rw [Hd.out, hx]))])
                rw [hx] at hq
                go_wp2_with fail
                refine (hq _).mono ?_
                rintro e w1 ⟨rfl, hb2⟩
                clear hq
                go_wp2_with fail
                go_ret
                exact ⟨ret_bool X.out.symm, hbs.trans (hb2.mono (by simp; omega))⟩
              · have Hos2 := Lib.hid (Hos.out (by rw [Hd.out, hx]))
                rw [hx] at hq
                go_wp2_with fail
                refine (hq _).mono ?_
                rintro e w1 ⟨rfl, hb2⟩
                clear hq
                go_wp2_with fail
                go_roundw
                case rel => exact ⟨j + 1, by omega, by go_num, Hos2.out, hbs.trans (hb2.mono (by simp; omega))⟩
                case measure => simp [intOf]; omega
            · have hj' : j = l1.length := by omega
              have Hok : Hid (okAll (handP l.length) l1 = true) := by rw [hj', List.take_length] at hok; exact Lib.hid hok
              clear hok hj' cr
              have Hrow := Lib.hid (Hs.out (by simp [handPB, Hok.out]; omega))
              go_wp2_with fail
              go_roundw
              case rel => exact ⟨p + 1, by omega, by go_num, Hrow.out, hbel2⟩
              case measure => simp [intOf]; omega
        · have hp' : p = R.length := by omega
          have Hrow : Hid (rowsAll (handPB l.length) R = true) := by rw [hp', List.take_length] at hrow; exact Lib.hid hrow
          have hR := (h'.below hbel).more hs
          clear hrow hp' h'
          go_wp2_with fail
          refine (usersOf_any A' c' R l.length false wr hR hn' hn2 hl6).mono ?_
          rintro e w1 ⟨⟨v1, rfl⟩, hb2⟩
          have X : Hid (handB l E R = usersB l.length R false) := Lib.hid (by simp [handB, HR.out, HI.out, HE.out, HL.out, Hrow.out])
          clear hR hn2
          go_wp2_with fail
          go_ret
          exact ⟨ret_bool X.out.symm, hbel.trans (hb2.mono hs)⟩
theorem handB_congr {R R' : List DRow} (he : R'.map (·.2.1) = R.map (·.2.1)) (l E : List Int) : handB l E R' = handB l E R := by
  unfold handB
  rw [rows_len he, rowsAll_congr he, usersB_congr he]
set_option maxHeartbeats 2000000 in
theorem FnExactHandingValid_walk (A0 : Option Addr) (l0 : List Int) (c0 : Nat) (A2 : Option Addr) (l2 : List Int) (c2 : Nat) (A1 : Option Addr) (l1 : List DRow) (c1 : Nat) (w : World) (h0 : Reads w w.heap.size 1 A0 l0.length (l0.map (Value.int .i64))) (hc0 : l0.length ≤ c0) (hm0 : c0 ≤ maxLen) (hw0 : ∀ x ∈ l0, (Lit.int .i64 x).wf = true)
    (h2 : Reads w w.heap.size 1 A2 l2.length (l2.map (Value.int .i64))) (hc2 : l2.length ≤ c2) (hm2 : c2 ≤ maxLen) (hw2 : ∀ x ∈ l2, (Lit.int .i64 x).wf = true)
    (h1 : RL encD 3 w w.heap.size A1 l1) (hc1 : l1.length ≤ c1) (hm1 : c1 ≤ maxLen) (hw1 : ∀ r ∈ l1, ∀ x ∈ r.2.1, gdDD x) :
    Calls Try.prog 7 #[.slice A0 l0.length c0, .slice A2 l2.length c2, .slice A1 l1.length c1] w fun e w' => e = .returned (.bool true) ∧ Below w.heap.size w w' := by
  by_cases hn0 : l0.length ≤ 1048576
  case neg =>
    have h' : 1048576 < l0.length := by omega
    clear h0 h1 h2 hn0 hw0 hw1 hw2 hc0 hm0 hc1 hm1 hc2 hm2
    go_enter Try.func7, Try.ntmps7
    go_wp2
    go_ret
    exact ⟨rfl, Below.refl _ _⟩
  by_cases hnE : l2.length ≤ 1048576
  case neg =>
    have h' : 1048576 < l2.length := by omega
    clear h0 h1 h2 hnE hw0 hw1 hw2 hc0 hm0 hc1 hm1 hc2 hm2
    go_enter Try.func7, Try.ntmps7
    go_wp2
    go_ret
    exact ⟨rfl, Below.refl _ _⟩
  have h0 : RI w w.heap.size A0 l0 := h0
  have h2 : RI w w.heap.size A2 l2 := h2
  have h1 : RLD w w.heap.size A1 l1 := h1
  have hz := szDeedSS_any A1 c1 l1 1048576 w h1 hc1 hm1 (fun r hr d hd => (hw1 r hr d hd).1) (by omega) (by omega)
  clear hc0 hm0 hw0 hc1 hm1 hw1 hc2 hm2 hw2
  by_cases hn : (szDD l1 : Int) ≤ 1048576
  case neg =>
    rw [leftDD_no (by omega)] at hz
    clear hn
    go_enter Try.func7, Try.ntmps7
    go_wp2_with fail
    refine hz.mono ?_
    rintro e w1 ⟨rfl, hb1⟩
    clear hz
    go_wp2
    go_ret
    exact ⟨rfl, hb1⟩
  rw [leftDD_ok hn] at hz
  obtain ⟨hn1, hn2⟩ := gd_short hn
  obtain ⟨t, ht, ht0, ht1⟩ : ∃ t : Int, (1048576 : Int) - szDD l1 = t ∧ 0 ≤ t ∧ t ≤ 1048576 := ⟨_, rfl, by omega, by omega⟩
  rw [ht] at hz
  clear ht hn
  go_enter Try.func7, Try.ntmps7
  go_wp2_with fail
  refine hz.mono ?_
  rintro e w1 ⟨rfl, B1⟩
  clear hz
  -- the reference
  go_wp2_with fail
  refine (toIntS_any A0 c0 l0 w1 ((h0.below B1).more B1.size) hn0).mono ?_
  rintro e w2 ⟨g2, rfl, hg2, hb2, hbel2⟩
  have B2 := B1.trans (hbel2.mono B1.size)
  have i2 := hb2.RI
  go_wp2_with fail
  refine (toIntS_any A2 c2 l2 w2 ((h2.below B2).more B2.size) hnE).mono ?_
  rintro e w2b ⟨g2b, rfl, hg2b, hb2b, hbel2b⟩
  have B2b := B2.trans (hbel2b.mono B2.size)
  have i2' := (i2.below hbel2b).more hbel2b.size
  have j2 := hb2b.RI
  go_wp2_with fail
  refine (toDeedSS_any A1 c1 l1 w2b ((h1.below B2b).more B2b.size) hn1 hn2).mono ?_
  rintro e w3 ⟨A3, R3, rfl, he3, hR3, hbel3⟩
  have B3 := B2b.trans (hbel3.mono B2b.size)
  have i3 := (i2'.below hbel3).more hbel3.size
  have j3 := (j2.below hbel3).more hbel3.size
  have hS3 := Lib.hid (rows_short he3 hn2)
  have hL3 : R3.length ≤ 1048576 := by rw [rows_len he3]; exact hn1
  have E3 := Lib.hid (handB_congr he3 l0 l2)
  clear he3
  go_wp2_with fail
  refine (sHandingValid_any _ _ l0 _ _ l2 A3 _ R3 w3 i3 j3 hR3 hn0 hnE hL3 hS3.out).mono ?_
  rintro e w4 ⟨rfl, hbel4⟩
  have B4 := B3.trans (hbel4.mono B3.size)
  rw [E3.out]
  clear hR3 i2 i2' i3 j2 j3 hb2 hb2b hbel2 hbel2b hbel3 hbel4
  -- the program
  go_wp2_with fail
  refine (toIntS_any A0 c0 l0 w4 ((h0.below B4).more B4.size) hn0).mono ?_
  rintro e w5 ⟨g5, rfl, hg5, hb5, hbel5⟩
  have B5 := B4.trans (hbel5.mono B4.size)
  have i5 := hb5.RI
  go_wp2_with fail
  refine (toIntS_any A2 c2 l2 w5 ((h2.below B5).more B5.size) hnE).mono ?_
  rintro e w5b ⟨g5b, rfl, hg5b, hb5b, hbel5b⟩
  have B5b := B5.trans (hbel5b.mono B5.size)
  have i5' := (i5.below hbel5b).more hbel5b.size
  have j5 := hb5b.RI
  go_wp2_with fail
  refine (toDeedSS_any A1 c1 l1 w5b ((h1.below B5b).more B5b.size) hn1 hn2).mono ?_
  rintro e w6 ⟨A6, R6, rfl, he6, hR6, hbel6⟩
  have B6 := B5b.trans (hbel6.mono B5b.size)
  have i6 := (i5'.below hbel6).more hbel6.size
  have j6 := (j5.below hbel6).more hbel6.size
  have hS6 := Lib.hid (rows_short he6 hn2)
  have hL6 : R6.length ≤ 1048576 := by rw [rows_len he6]; exact hn1
  have E6 := Lib.hid (handB_congr he6 l0 l2)
  have He6 := Lib.hid he6
  clear he6 hb5 hbel5 hb5b hbel5b i5 i5' j5
  go_wp2_with fail
  refine (iHandingValid_any _ _ l0 _ _ l2 A6 _ R6 w6 i6 j6 hR6 hn0 hnE hL6 hS6.out).mono ?_
  rintro e w7 ⟨rfl, hbel7⟩
  have B7 := B6.trans (hbel7.mono B6.size)
  have i7 := (i6.below hbel7).more hbel7.size
  have j7 := (j6.below hbel7).more hbel7.size
  have hR7 := (hR6.below hbel7).more hbel7.size
  rw [E6.out]
  have hne : (handB l0 l2 l1 != handB l0 l2 l1) = false := by simp
  clear i6 j6 hR6 hbel6 hbel7
  go_wp2_with fail
  refine (toIntS_any A0 c0 l0 w7 ((h0.below B7).more B7.size) hn0).mono ?_
  rintro e w8 ⟨g8, rfl, hg8, hb8, hbel8⟩
  have B8 := B7.trans (hbel8.mono B7.size)
  have i8 := (i7.below hbel8).more hbel8.size
  have j8 := (j7.below hbel8).more hbel8.size
  have hR8 := (hR7.below hbel8).more hbel8.size
  go_wp2_with fail
  refine (eqIntS_any _ _ _ _ l0 l0 w8 _ _ i8 hb8.RI hn0 hn0).mono ?_
  rintro e w9' ⟨rfl, n9, rfl⟩
  rw [beq_self_eq_true]
  have B9 := below_drewN B8 n9
  have hR9 : RLD (w8.drewN n9) (w8.drewN n9).heap.size A6 R6 := hR8.below (below_drewN (Below.refl _ _) n9)
  have j9 : RI (w8.drewN n9) (w8.drewN n9).heap.size _ l2 := j8.drewN n9
  clear hb8 hbel8 i7 i8 j7 j8 hR7 hR8
  generalize w8.drewN n9 = w9 at B9 hR9 j9 ⊢
  go_wp2_with fail
  refine (toIntS_any A2 c2 l2 w9 ((h2.below B9).more B9.size) hnE).mono ?_
  rintro e w10 ⟨g10, rfl, hg10, hb10, hbel10⟩
  have B10 := B9.trans (hbel10.mono B9.size)
  have j10 := (j9.below hbel10).more hbel10.size
  have hR10 := (hR9.below hbel10).more hbel10.size
  go_wp2_with fail
  refine (eqIntS_any _ _ _ _ l2 l2 w10 _ _ j10 hb10.RI hnE hnE).mono ?_
  rintro e w11' ⟨rfl, n11, rfl⟩
  rw [beq_self_eq_true]
  have B11 := below_drewN B10 n11
  have hR11 : RLD (w10.drewN n11) (w10.drewN n11).heap.size A6 R6 := hR10.below (below_drewN (Below.refl _ _) n11)
  clear hb10 hbel10 j9 j10 hR9 hR10
  generalize w10.drewN n11 = w11 at B11 hR11 ⊢
  go_wp2_with fail
  refine (toDeedSS_any A1 c1 l1 w11 ((h1.below B11).more B11.size) hn1 hn2).mono ?_
  rintro e w12 ⟨A12, R12, rfl, he12, hR12, hbel12⟩
  have B12 := B11.trans (hbel12.mono B11.size)
  have hR12' := (hR11.below hbel12).more hbel12.size
  have He := Lib.hid (he12.trans He6.out.symm)
  clear he12 hbel12
  go_wp2_with fail
  refine (eqDeedSS_same A6 A12 _ _ R6 R12 w12 hR12' hR12 He.out hL6 hS6.out).mono ?_
  rintro e w13 ⟨rfl, hbel13⟩
  have B13 := B12.trans (hbel13.mono B12.size)
  go_wp2
  go_ret
  exact ⟨rfl, B13⟩
end Go.Proofs.Ytpblpdoalfphpaa
