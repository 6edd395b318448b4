/-
  The law FnSameLine, walked: it returns true and writes nothing that was there.
-/
import Derived.Test.YtnfjgepakfbcnaaField3
import Derived.Test.YtnfjgepakfbcnaaDraw3
namespace Go.Proofs.Ytnfjgepakfbcnaa
open Go.RowKit
set_option linter.unusedSimpArgs false
set_option linter.unusedVariables false

theorem wf_u8 {x : Int} (h : (Lit.int .u8 x).wf = true) : 0 ≤ x ∧ x ≤ 255 := by simpa [Lit.wf, IntKind.min, IntKind.max, IntKind.signed, IntKind.bits] using h
theorem sameB_comm (L : List Int) (x y : Int) : sameB L y x = sameB L x y := by
  unfold sameB
  rw [Bool.eq_iff_iff]
  simp only [Bool.and_eq_true, beq_iff_eq]
  constructor <;> (rintro ⟨⟨⟨a, b⟩, c⟩, d⟩; exact ⟨⟨⟨a, c⟩, b⟩, d.symm⟩)
/-- is y among the numbers of l? -/
def hasB (l : List Int) (y : Int) : Bool := l.any fun z => z == y
theorem hasB_take_succ {l : List Int} {k : Nat} (h : k < l.length) (y : Int) : hasB (l.take (k + 1)) y = (hasB (l.take k) y || l[k] == y) := by
  unfold hasB
  rw [take_snoc l k h, List.any_append]
  simp
theorem hasB_pos {L : List Int} {x y : Int} (y0 : 0 ≤ y) (y1 : y < L.length) : hasB (posOf L (L.getD x.toNat 0)) y = (L.getD x.toNat 0 == L.getD y.toNat 0) := by
  rw [Bool.eq_iff_iff]
  unfold hasB
  simp only [List.any_eq_true, beq_iff_eq]
  constructor
  · rintro ⟨z, hz, rfl⟩
    obtain ⟨k, rfl, hk⟩ := mem_posOf.1 hz
    rw [List.getD_eq_getElem?_getD (i := (k : Int).toNat), Int.toNat_natCast, hk]
    rfl
  · intro e
    refine ⟨y, mem_posOf.2 ⟨y.toNat, by omega, ?_⟩, rfl⟩
    rw [List.getElem?_eq_getElem (by omega), e, List.getD_eq_getElem?_getD, List.getElem?_eq_getElem (by omega)]
    rfl
set_option maxRecDepth 100000 in
set_option maxHeartbeats 4000000 in
theorem FnSameLine_walk (A0 : Option Addr) (l0 : List Int) (c0 : Nat) (w : World) (h0 : Reads w w.heap.size 1 A0 l0.length (l0.map (Value.int .u8))) (hc0 : l0.length ≤ c0) (hm0 : c0 ≤ maxLen) (hw0 : ∀ x ∈ l0, (Lit.int .u8 x).wf = true) :
    Calls Try.prog 7 #[.slice A0 l0.length c0] w fun e w' => e = .returned (.bool true) ∧ Below w.heap.size w w' := by
  by_cases hn0 : l0.length ≤ 1048576
  case neg =>
    have h' : 1048576 < l0.length := by omega
    clear h0 hn0 hw0 hc0 hm0
    go_enter Try.func7, Try.ntmps7
    go_wp2
    go_ret
    exact ⟨rfl, Below.refl _ _⟩
  have hRB : RB w w.heap.size A0 l0 := ⟨h0, fun x hx => wf_u8 (hw0 x hx)⟩
  have HM := Lib.hid hm0
  clear h0 hw0 hm0
  go_enter Try.func7, Try.ntmps7
  go_wp2_with fail
  refine (DrawSameLine_any A0 c0 l0 w hRB hc0 HM.out hn0).mono ?_
  rintro e w1 ⟨L, A, c, x, y, rfl, hL, o1, B1⟩
  have hn : L.length ≤ 1048576 := by omega
  clear hRB hc0 hn0
  go_wp2_with fail
  refine (iSameLine_any A c L x y w1 (RI.of_own o1) hn).mono ?_
  rintro e w2 ⟨rfl, hbel2⟩
  have B2 := B1.trans (hbel2.mono B1.size)
  have o2 := own_below o1 hbel2
  clear o1 hbel2
  go_wp2_with fail
  refine (sSameLine_any A c L x y w2 _ (RI.of_own o2) hn).mono ?_
  rintro e v3 ⟨rfl, n3, rfl⟩
  have B3 := below_drewN B2 n3
  have o3 := own_drewN o2 n3
  clear o2 B2
  generalize w2.drewN n3 = w3 at B3 o3 ⊢
  have hne : (sameB L x y != sameB L x y) = false := by simp
  have hne2 : (fieldB L != fieldB L) = false := by simp
  go_wp2_with fail
  refine (iFieldValid_any A c L _ _ (RI.of_own o3) hn).mono ?_
  rintro e w' ⟨rfl, rfl⟩
  go_wp2_with fail
  refine (sFieldValid_any A c L _ _ (RI.of_own o3) hn).mono ?_
  rintro e w' ⟨rfl, rfl⟩
  go_wp2_with fail
  refine (iFieldValid_any A c L _ _ (RI.of_own o3) hn).mono ?_
  rintro e w' ⟨rfl, rfl⟩
  cases hf : fieldB L
  · have hs : sameB L x y = false := by simp [sameB, hf]
    go_wp2_with fail
    refine (sSameLine_any A c L x y _ _ (RI.of_own o3) hn).mono ?_
    rintro e v4 ⟨rfl, n4, rfl⟩
    have B4 := below_drewN B3 n4
    have o4 := own_drewN o3 n4
    generalize w3.drewN n4 = w4 at B4 o4 ⊢
    go_wp2_with fail
    refine (iFieldValid_any A c L _ _ (RI.of_own o4) hn).mono ?_
    rintro e w' ⟨rfl, rfl⟩
    go_wp2_with fail
    refine (sFieldValid_any A c L _ _ (RI.of_own o4) hn).mono ?_
    rintro e w' ⟨rfl, rfl⟩
    go_wp2_with fail
    go_ret
    exact ⟨rfl, B4⟩
  · by_cases hin : 0 ≤ x ∧ 0 ≤ y ∧ x < L.length ∧ y < L.length
    · obtain ⟨x0, y0, x1, y1⟩ := hin
      obtain ⟨hn20, hval⟩ := fieldB_true hf
      have hsx : sameB L x y = (L.getD x.toNat 0 == L.getD y.toNat 0) := by
        have p1 : plugB L x = true := inB_true.2 (by omega)
        have p2 : plugB L y = true := inB_true.2 (by omega)
        simp [sameB, hf, p1, p2]
      have hxx : sameB L x x = true := by
        have p1 : plugB L x = true := inB_true.2 (by omega)
        simp [sameB, hf, p1]
      have hyx : sameB L y x = sameB L x y := sameB_comm L x y
      have hhas := hasB_pos (L := L) (x := x) y0 y1
      rw [← hsx] at hhas
      have Hhas := Lib.hid hhas
      have Hyx := Lib.hid hyx
      have Hxx := Lib.hid hxx
      clear hhas hyx hxx hsx hval
      obtain ⟨ad, rfl, _, hcx⟩ := (RI.of_own o3).int_at x0 x1
      obtain ⟨v, hv⟩ : ∃ v, L.getD x.toNat 0 = v := ⟨_, rfl⟩
      rw [hv] at hcx
      have Hv := Lib.hid hv
      clear hv
      obtain ⟨s, hs⟩ : ∃ s, sameB L x y = s := ⟨_, rfl⟩
      rw [hs]
      have Hs := Lib.hid hs
      clear hs hne
      go_wp2_with fail
      refine (iPlugsOf_any (some ad) c L v w3 (RI.of_own o3) hn).mono ?_
      rintro e w4 ⟨A4, c4, rfl, q4, hbel4⟩
      have B4 := B3.trans (hbel4.mono B3.size)
      have o4 := own_below o3 hbel4
      have hpl : plugsL L v = posOf L v := by simp [plugsL, hf]
      rw [hpl] at q4 ⊢
      have hlen : (posOf L v).length ≤ 30 := Nat.le_trans (posOf_length_le _ _) hL
      have R4 := RI.of_own q4
      clear hpl q4
      go_wp2_with fail
      go_loop [9, 7] (fun j s => ∃ k : Nat, k ≤ (posOf L v).length ∧ j = .int .i64 k ∧ s = .bool (hasB ((posOf L v).take k) y)) (fun j _ => (posOf L v).length - (intOf j).toNat)
      case atStart => exact ⟨0, Nat.zero_le _, rfl, rfl⟩
      case round =>
        obtain ⟨k, hk, rfl, rfl⟩ := hrel
        by_cases hlt : k < (posOf L v).length
        · obtain ⟨ad4, rfl, _, hc4⟩ := R4.at_ hlt
          have Ht := Lib.hid (hasB_take_succ hlt y)
          obtain ⟨z, hz⟩ : ∃ z, (posOf L v)[k] = z := ⟨_, rfl⟩
          rw [hz] at hc4
          have Hz := Lib.hid hz
          clear hz
          cases hh : hasB ((posOf L v).take k) y
          all_goals
            go_wp2
            go_round
            case rel => exact ⟨k + 1, by omega, by go_num, by rw [Ht.out, Hz.out, hh]; rfl⟩
            case measure => simp [intOf]; omega
        · obtain rfl : k = (posOf L v).length := by omega
          rw [List.take_length]
          have E1 : hasB (posOf L v) y = s := by
            have h1 := Hhas.out
            rw [Hv.out, Hs.out] at h1
            exact h1
          rw [E1]
          have hss : (s == s) = true := by simp
          clear E1
          go_wp2_with fail
          refine (iSameLine_any (some ad) c L y x w4 (RI.of_own o4) hn).mono ?_
          rintro e w5 ⟨rfl, hbel5⟩
          have B5 := B4.trans (hbel5.mono B4.size)
          have o5 := own_below o4 hbel5
          rw [Hyx.out, Hs.out]
          go_wp2_with fail
          refine (iSameLine_any (some ad) c L x x w5 (RI.of_own o5) hn).mono ?_
          rintro e w6 ⟨rfl, hbel6⟩
          have B6 := B5.trans (hbel6.mono B5.size)
          rw [Hxx.out]
          go_wp2_with fail
          go_ret
          exact ⟨rfl, B6⟩
    · have hs : sameB L x y = false := by
        cases hs : sameB L x y
        · rfl
        · exfalso
          simp only [sameB, Bool.and_eq_true] at hs
          have h1 := plugB_true hs.1.1.2
          have h2 := plugB_true hs.1.2
          omega
      go_wp2_with fail
      all_goals (first | (go_ret; exact ⟨rfl, B3⟩) | omega)
end Go.Proofs.Ytnfjgepakfbcnaa
