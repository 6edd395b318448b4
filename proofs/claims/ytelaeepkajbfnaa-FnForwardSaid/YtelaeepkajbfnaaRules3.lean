/-
  impl.RulesValid.
-/
import Derived.Test.YtelaeepkajbfnaaRules2
namespace Go.Proofs.Ytelaeepkajbfnaa
open Go.RowKit
set_option linter.unusedSimpArgs false
set_option linter.unusedVariables false
/-- which lines the map of those seen holds -/
structure Seen (w wr : World) (Q : Nat) (ch : Int → Option Nat) (l : List (Int × Int)) (k : Nat) : Prop where
  hcm : mcm wr Q = true
  hget : ∀ x : Int, 0 ≤ x → x ≤ 6 → (mget wr Q (ch x)).isSome = (l.take k).any fun q => q.1 == x
  hbel : Below Q w wr
section
variable {w wr : World} {Q : Nat} {ch : Int → Option Nat} {l : List (Int × Int)} {k : Nat}
theorem any_take_succ {l : List (Int × Int)} {k : Nat} (hk : k < l.length) (f : Int × Int → Bool) : (l.take (k + 1)).any f = ((l.take k).any f || f l[k]) := by
  rw [take_snoc l k hk, List.any_append]
  simp
theorem goodB_any_no {l : List (Int × Int)} {k : Nat} (hk : k < l.length) (h : ((l.take k).any fun q => q.1 == l[k].1) = true) : goodB l k = false := by
  simp [goodB, List.getElem?_eq_getElem hk, h]
theorem goodB_any_ok {l : List (Int × Int)} {k : Nat} (hk : k < l.length) (h1 : inB l[k].1 1 6 = true) (h2 : inB l[k].2 0 6 = true) (h : ((l.take k).any fun q => q.1 == l[k].1) = false) : goodB l k = true := by
  simp [goodB, List.getElem?_eq_getElem hk, h1, h2, h]
theorem Seen.next (h : Seen w wr Q ch l k) (hk : k < l.length) {w' : World} (hc : mcm w' Q = true) (hg : ∀ r, mget w' Q r = mget wr Q r) (hb : Below Q w w') (v : Value)
    (inj : ∀ i j : Int, 0 ≤ i → i ≤ 6 → 0 ≤ j → j ≤ 6 → ch i = ch j → i = j) (h1 : 0 ≤ l[k].1) (h2 : l[k].1 ≤ 6) : Seen w (mput w' Q (ch l[k].1) v) Q ch l (k + 1) := by
  refine ⟨mcm_mput hc, fun x x0 x6 => ?_, mput_below hb (Nat.le_refl _)⟩
  rw [mget_mput hc, any_take_succ hk, hg]
  by_cases he : ch x = ch l[k].1
  · have := inj _ _ x0 x6 h1 h2 he
    simp [he, this]
  · have : ¬ l[k].1 = x := fun e => he (by rw [e])
    rw [if_neg he, h.hget x x0 x6]
    simp [this]
end
theorem zero_int' (w : World) : (zeroValue 3).run Try.prog w = .ok (.int .i64 0) w := by kernel_rfl
@[go_sem] theorem look_seen {w : World} {b : Nat} (h : mcm w b = true) (r : Option Nat) : (Instr.lookup 56 (.map (some b)) (.chan r) true).run Try.prog w = .ok (.tuple #[(mget w b r).getD (.int .i64 0), .bool (mget w b r).isSome]) w := by
  rw [run_lookup_ch Try.underlying56 Try.underlying57 (zero_int' w) h r true]
  cases mget w b r <;> rfl
set_option maxHeartbeats 4000000 in
theorem RulesValid_any (A : Option Addr) (c : Nat) (l : List (Int × Int)) (w : World) (h : RR w w.heap.size A l) (hn : l.length ≤ 1048576) :
    Calls Try.prog 12 #[.slice A l.length c] w fun e w' => e = .returned (.bool (rulesB l)) ∧ Below w.heap.size w w' := by
  have hmm := @run_makeMap Try.prog
  have hnp : ∀ W : World, Calls Try.prog 32 #[.slice none 0 0] W (NewBoard W []) := fun W => newPatchboard_any none 0 [] W RI.nil_ (by simp) (by simp)
  go_enter Try.func12, Try.ntmps12
  go_wp2_with fail
  refine (hnp _).mono ?_
  rintro e w1 ⟨S, L, M, G, ch, rfl, hB, b1, b2, b3, b4, hbel⟩
  go_wp2_with fail
  go_loopw [13] (fun i wr => ∃ k : Nat, k ≤ l.length ∧ i = .int .i64 k ∧ (∀ i, i < k → goodB l i = true) ∧ Seen w1 wr w1.heap.size ch l k) (fun i _ => l.length - (intOf i).toNat)
  case atStart => exact ⟨0, Nat.zero_le _, rfl, fun i hi => by omega, mcm_new _ _, fun x _ _ => by rw [mget_new]; rfl, (Below.refl _ _).alloc (Nat.le_refl _) _⟩
  case round =>
    obtain ⟨k, hk, rfl, hall, hseen⟩ := hrel
    have Hall := Lib.hid hall
    clear hall
    by_cases hlt : k < l.length
    · have hs := hseen.hbel.size
      have hs1 := hbel.size
      have hBel : Below w.heap.size w wr := hbel.trans (hseen.hbel.mono hs1)
      obtain ⟨ad, rfl, hb, h1, h2⟩ := (h.below hBel).at_ hlt
      have Hf := Lib.hid (goodB_from (l := l) hlt)
      have Ht := Lib.hid (goodB_to (l := l) hlt)
      have Hw := Lib.hid (goodB_any_no (l := l) hlt)
      have Ho := Lib.hid (goodB_any_ok (l := l) hlt)
      have Hn := Lib.hid (rulesB_no (l := l) hlt)
      have Hs := Lib.hid hseen
      have hcm := hseen.hcm
      have Hx := Lib.hid (fun w' hc hg hb v i0 i6 => hseen.next hlt (w' := w') hc hg hb v hB.inj i0 i6)
      obtain ⟨a, ha⟩ : ∃ a, l[k].1 = a := ⟨_, rfl⟩
      obtain ⟨b, hb2⟩ : ∃ b, l[k].2 = b := ⟨_, rfl⟩
      rw [ha] at h1 Hf Ho Hw Hx
      rw [hb2] at h2 Ht Ho
      clear ha hb2 hseen
      have Hret : Hid (∀ w', Below w1.heap.size w1 w' → Below w.heap.size w w') := Lib.hid fun w' hb => hbel.trans (hb.mono hs1)
      have hbl := Hs.out.hbel
      by_cases ha0 : a = 0
      · have E := Lib.hid (Hn.out (Hf.out (by subst ha0; rfl)))
        subst ha0
        go_wp2_with (first | (go_at_call 33; refine (isLine_any _ _).mono ?_; rintro e w' ⟨rfl, rfl⟩))
        go_ret
        refine ⟨ret_bool E.out.symm, Hret.out _ ?_⟩
        repeat first | with_reducible exact hbl | with_reducible apply Below.drew | (with_reducible refine Below.alloc ?_ hs _)
      have hz : (a == 0) = false := by simp [ha0]
      cases hia : inB a 0 6
      · have E := Lib.hid (Hn.out (Hf.out (by simp [inB] at hia ⊢; omega)))
        go_wp2_with (first | (go_at_call 33; refine (isLine_any _ _).mono ?_; rintro e w' ⟨rfl, rfl⟩))
        go_ret
        refine ⟨ret_bool E.out.symm, Hret.out _ ?_⟩
        repeat first | with_reducible exact hbl | with_reducible apply Below.drew | (with_reducible refine Below.alloc ?_ hs _)
      cases hib : inB b 0 6
      · have E := Lib.hid (Hn.out (Ht.out hib))
        go_wp2_with (first | (go_at_call 33; refine (isLine_any _ _).mono ?_; rintro e w' ⟨rfl, rfl⟩))
        go_ret
        refine ⟨ret_bool E.out.symm, Hret.out _ ?_⟩
        repeat first | with_reducible exact hbl | with_reducible apply Below.drew | (with_reducible refine Below.alloc ?_ hs _)
      obtain ⟨a0, a6⟩ : 0 ≤ a ∧ a ≤ 6 := by simpa [inB] using hia
      have hia1 : Hid (inB a 1 6 = true) := Lib.hid (by simp [inB] at hia ⊢; omega)
      have c0 := (hB.keep hbl).s0
      have cl := (hB.keep hbl).line a0 a6
      obtain ⟨ltS, ltL, ltM, ltG⟩ := (hB.keep hbl).lts
      have fr := (hB.keep hbl).hL.frozen a.toNat
      have hg : Hid ((mget wr w1.heap.size (ch a)).isSome = (l.take k).any fun q => q.1 == a) := Lib.hid (Hs.out.hget a a0 a6)
      cases hm : mget wr w1.heap.size (ch a) with
      | some v =>
        have E := Lib.hid (Hn.out (Hw.out (by rw [← hg.out, hm]; rfl)))
        go_wp2_with (first | (go_at_call 33; refine (isLine_any _ _).mono ?_; rintro e w' ⟨rfl, rfl⟩))
        go_region
        go_wp2_with fail
        go_ret
        refine ⟨ret_bool E.out.symm, Hret.out _ ?_⟩
        repeat first | with_reducible exact hbl | with_reducible apply Below.drew | (with_reducible refine Below.alloc ?_ hs _)
      | none =>
        have E := Lib.hid (Ho.out hia1.out hib (by rw [← hg.out, hm]; rfl))
        go_wp2_with (first | (go_at_call 33; refine (isLine_any _ _).mono ?_; rintro e w' ⟨rfl, rfl⟩))
        go_region
        go_wp2_with fail
        go_region
        go_wp2_with fail
        go_roundw
        case rel =>
          refine ⟨k + 1, by omega, by go_num, fun i hi => ?_, Hx.out _ ?_ (fun r => ?_) ?_ _ a0 a6⟩
          · by_cases h0 : i = k
            · rw [h0]; exact E.out
            · exact Hall.out i (by omega)
          · simp only [go_sem, hcm]
          · simp only [go_sem]
          · repeat first | with_reducible exact hbl | with_reducible apply Below.drew | (with_reducible refine Below.alloc ?_ hs _)
        case measure => simp [intOf]; omega
    · obtain rfl : k = l.length := by omega
      have hs1 := hbel.size
      have hBel : Below w.heap.size w wr := hbel.trans (hseen.hbel.mono hs1)
      clear hseen
      go_wp2
      go_ret
      exact ⟨ret_bool (rulesB_yes Hall.out).symm, hBel⟩
end Go.Proofs.Ytelaeepkajbfnaa
