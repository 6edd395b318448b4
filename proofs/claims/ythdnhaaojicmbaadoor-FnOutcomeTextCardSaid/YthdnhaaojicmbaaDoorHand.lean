/-
  Which lists of plans are valid: PartiesValid and HandingValid, by the reference and by the program.
-/
import Derived.Test.YthdnhaaojicmbaaDoorUsers2
namespace Go.Proofs.YthdnhaaojicmbaaDoor
open Go.RowKit
set_option linter.unusedSimpArgs false
set_option linter.unusedVariables false

def rowsAll (p : List Dd → Bool) (R : List DRow) : Bool := R.all fun r => p r.2.1
theorem rowsAll_no {p : List Dd → Bool} {R : List DRow} {k : Nat} (hk : k < R.length) (h : p R[k].2.1 = false) : rowsAll p R = false := by
  unfold rowsAll
  rw [List.all_eq_false]
  exact ⟨R[k], List.getElem_mem hk, by simp [h]⟩
theorem rowsAll_succ {p : List Dd → Bool} {R : List DRow} {k : Nat} (hk : k < R.length) (h1 : rowsAll p (R.take k) = true) (h : p R[k].2.1 = true) : rowsAll p (R.take (k + 1)) = true := by
  unfold rowsAll at *
  rw [take_snoc R k hk, List.all_append, h1]
  simp [h]
noncomputable def partiesB (l : List Int) (R : List DRow) : Bool := roomsB l && inB R.length 1 4 && rowsAll (fun p => planB p l.length) R && usersB l.length R true && usersB l.length R false
/-- none of the lines below k is used twice -/
def Free (R : List DRow) (ear : Bool) (k : Nat) : Prop := ∀ x : Int, 1 ≤ x → x < k → twB R x ear = false
theorem Free.done {R : List DRow} {ear : Bool} {n k : Nat} (h : Free R ear k) (hk : k = n + 1) : usersB n R ear = true :=
  usersB_true.2 fun x h1 h2 => twB_false.1 (h x h1 (by omega))
theorem Free.succ {R : List DRow} {ear : Bool} {k : Nat} (h : Free R ear k) (h2 : twB R k ear = false) : Free R ear (k + 1) := fun x h1 hx => by
  by_cases e : x = k
  · rw [e]; exact h2
  · exact h x h1 (by omega)
theorem usersB_no {R : List DRow} {ear : Bool} {n k : Nat} (h1 : 1 ≤ k) (h2 : k ≤ n) (h : twB R k ear = true) : usersB n R ear = false := usersB_false (x := k) (by omega) (by omega) (twB_true.1 h)
theorem roomsB_len {l : List Int} (h : roomsB l = true) : 1 ≤ l.length ∧ l.length ≤ 6 := by
  unfold roomsB at h
  simp [inB] at h
  omega
set_option maxHeartbeats 4000000 in
theorem sPartiesValid_any (A : Option Addr) (c : Nat) (l : List Int) (A' : Option Addr) (c' : Nat) (R : List DRow) (w : World) (h : RI w w.heap.size A l) (h' : RLD w w.heap.size A' R) (hn : l.length ≤ 1048576) (hn' : R.length ≤ 1048576) (hn2 : ∀ r ∈ R, r.2.1.length ≤ 1048576) :
    Calls Tryd.prog 35 #[.slice A l.length c, .slice A' R.length c'] w fun e w' => e = .returned (.bool (partiesB l R)) ∧ Below w.heap.size w w' := by
  cases hr : roomsB l
  · have E : Hid (partiesB l R = false) := Lib.hid (by simp [partiesB, hr])
    go_enter Tryd.func35, Tryd.ntmps35
    go_wp2_with (go_at_call 43; refine (sRoomsValid_any _ _ l _ _ h hn).mono ?_; rintro e w' ⟨rfl, rfl⟩)
    go_ret
    exact ⟨ret_bool E.out.symm, Below.refl _ _⟩
  cases hin : inB R.length 1 4
  · have E : Hid (partiesB l R = false) := Lib.hid (by simp [partiesB, hin])
    go_enter Tryd.func35, Tryd.ntmps35
    go_wp2_with (first | (go_at_call 43; refine (sRoomsValid_any _ _ l _ _ h hn).mono ?_; rintro e w' ⟨rfl, rfl⟩) | (go_at_call 44; refine (l1In_any _ _ _ _).mono ?_; rintro e w' ⟨rfl, rfl⟩))
    go_ret
    exact ⟨ret_bool E.out.symm, Below.refl _ _⟩
  obtain ⟨hl1, hl6⟩ := roomsB_len hr
  have HR := Lib.hid hr
  have HI := Lib.hid hin
  go_enter Tryd.func35, Tryd.ntmps35
  go_wp2_with (first | (go_at_call 43; refine (sRoomsValid_any _ _ l _ _ h hn).mono ?_; rintro e w' ⟨rfl, rfl⟩) | (go_at_call 44; refine (l1In_any _ _ _ _).mono ?_; rintro e w' ⟨rfl, rfl⟩))
  clear hr hin
  go_loopw [5] (fun i wr => ∃ k : Nat, k ≤ R.length ∧ i = .int .i64 k ∧ rowsAll (fun p => planB p l.length) (R.take k) = true ∧ Below w.heap.size w wr) (fun i _ => R.length - (intOf i).toNat)
  case atStart => exact ⟨0, Nat.zero_le _, rfl, by simp [rowsAll], Below.refl _ _⟩
  case round =>
    obtain ⟨k, hk, rfl, hall, hbel⟩ := hrel
    have Hall := Lib.hid hall
    have hs := hbel.size
    by_cases hlt : k < R.length
    · obtain ⟨ad, rfl, hb, c1, hc1, hm1, hr1⟩ := (h'.below hbel).at_ hlt
      have hn1 := hn2 R[k] (List.getElem_mem _)
      have Hs := Lib.hid (rowsAll_succ hlt hall)
      have Hf := Lib.hid (rowsAll_no (p := fun p => planB p l.length) hlt)
      obtain ⟨d, hd⟩ : ∃ d, R[k] = d := ⟨_, rfl⟩
      rw [hd] at c1 hr1 hn1 Hs Hf
      obtain ⟨A1, l1, cc1⟩ := d
      simp only at c1 hr1 hn1
      have hR1 := hr1.more hs
      clear hd hall hc1 hm1 hr1
      cases hp : planB l1 l.length
      · have E : Hid (partiesB l R = false) := Lib.hid (by simp [partiesB, Hf.out hp])
        go_wp2_with fail
        refine (sPlanValid_any A1 cc1 l1 l.length wr hR1 hn1).mono ?_
        rintro e w1 ⟨rfl, hb1⟩
        rw [hp]
        go_wp2_with fail
        go_ret
        exact ⟨ret_bool E.out.symm, hbel.trans (hb1.mono hs)⟩
      · have Hs2 := Lib.hid (Hs.out hp)
        go_wp2_with fail
        refine (sPlanValid_any A1 cc1 l1 l.length wr hR1 hn1).mono ?_
        rintro e w1 ⟨rfl, hb1⟩
        rw [hp]
        go_wp2_with fail
        go_roundw
        case rel => exact ⟨k + 1, by omega, by go_num, Hs2.out, hbel.trans (hb1.mono hs)⟩
        case measure => simp [intOf]; omega
    · have hk' : k = R.length := by omega
      have Hall2 : Hid (rowsAll (fun p => planB p l.length) R = true) := by rw [hk', List.take_length] at hall; exact Lib.hid hall
      clear hall hk' Hall
      have hR := (h'.below hbel).more hs
      clear h h'
      go_wp2_with fail
      go_loop [6] (fun i => ∃ k : Nat, 1 ≤ k ∧ k ≤ l.length + 1 ∧ i = .int .i64 k ∧ Free R true k ∧ Free R false k) (fun i => l.length + 1 - (intOf i).toNat)
      case atStart => exact ⟨1, by omega, by omega, rfl, fun x h1 h2 => by omega, fun x h1 h2 => by omega⟩
      case round =>
        obtain ⟨x, hx1, hx2, rfl, hf1, hf2⟩ := hrel
        have HF1 := Lib.hid hf1
        have HF2 := Lib.hid hf2
        clear hf1 hf2
        by_cases hxl : x ≤ l.length
        · cases ht : twB R x true
          · have HF1s := Lib.hid (HF1.out.succ ht)
            cases hv : twB R x false
            · have HF2s := Lib.hid (HF2.out.succ hv)
              go_wp2_with fail
              refine (l3User_any A' c' R x true wr _ hR hn' hn2).mono ?_
              rintro e w' ⟨⟨v, rfl, hv1⟩, rfl⟩
              rw [ht] at hv1
              go_wp2_with fail
              refine (l3User_any A' c' R x false wr _ hR hn' hn2).mono ?_
              rintro e w' ⟨⟨v2, rfl, hv2⟩, rfl⟩
              rw [hv] at hv2
              go_wp2_with fail
              go_round
              case rel => exact ⟨x + 1, by omega, by omega, by go_num, HF1s.out, HF2s.out⟩
              case measure => simp [intOf]; omega
            · have E : Hid (partiesB l R = false) := Lib.hid (by simp [partiesB, usersB_no hx1 hxl hv])
              go_wp2_with fail
              refine (l3User_any A' c' R x true wr _ hR hn' hn2).mono ?_
              rintro e w' ⟨⟨v, rfl, hv1⟩, rfl⟩
              rw [ht] at hv1
              go_wp2_with fail
              refine (l3User_any A' c' R x false wr _ hR hn' hn2).mono ?_
              rintro e w' ⟨⟨v2, rfl, hv2⟩, rfl⟩
              rw [hv] at hv2
              go_wp2_with fail
              go_ret
              exact ⟨ret_bool E.out.symm, hbel⟩
          · have E : Hid (partiesB l R = false) := Lib.hid (by simp [partiesB, usersB_no hx1 hxl ht])
            go_wp2_with fail
            refine (l3User_any A' c' R x true wr _ hR hn' hn2).mono ?_
            rintro e w' ⟨⟨v, rfl, hv1⟩, rfl⟩
            rw [ht] at hv1
            go_wp2_with fail
            go_ret
            exact ⟨ret_bool E.out.symm, hbel⟩
        · have E : Hid (partiesB l R = true) := Lib.hid (by
            simp [partiesB, HR.out, HI.out, Hall2.out, HF1.out.done (n := l.length) (by omega), HF2.out.done (n := l.length) (by omega)])
          go_wp2_with fail
          go_ret
          exact ⟨ret_bool E.out.symm, hbel⟩
end Go.Proofs.YthdnhaaojicmbaaDoor
