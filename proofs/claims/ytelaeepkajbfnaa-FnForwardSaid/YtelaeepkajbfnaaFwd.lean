/-
  The end of the way of a line, by the reference and by the program.
-/
import Derived.Test.YtelaeepkajbfnaaRules3
import Derived.Test.YtelaeepkajbfnaaFieldA
import Derived.Test.YtelaeepkajbfnaaRules4
namespace Go.Proofs.Ytelaeepkajbfnaa
open Go.RowKit
set_option linter.unusedSimpArgs false
set_option linter.unusedVariables false

/-- what the end of a way is told as -/
def endI (o : Option Int) : Int := o.getD 0
theorem lkp_some_range {l : List (Int × Int)} (h : rulesB l = true) {x y : Int} (hx : lkp l x = some y) : 0 ≤ y ∧ y ≤ 6 := lkp_range h hx
set_option maxHeartbeats 2000000 in
theorem l2End_any (A : Option Addr) (c : Nat) (l : List (Int × Int)) (x : Int) (w : World) (B : Nat) (h : RR w B A l) (hn : l.length ≤ 1048576) :
    Calls Try.prog 35 #[.slice A l.length c, .int .i64 x] w fun e w' => e = .returned (.tuple #[.int .i64 (endI (endF l (l.length + 1) x)), .bool (endF l (l.length + 1) x).isSome]) ∧ w = w' := by
  go_enter Try.func35, Try.ntmps35
  go_wp2
  go_loop [6, 1] (fun i v => ∃ (k : Nat) (y : Int), k ≤ l.length + 1 ∧ i = .int .i64 k ∧ v = .int .i64 y ∧ endF l (l.length + 1) x = endF l (l.length + 1 - k) y) (fun i _ => l.length + 1 - (intOf i).toNat)
  case atStart => exact ⟨0, x, by omega, rfl, rfl, rfl⟩
  case round =>
    obtain ⟨k, y, hk, rfl, rfl, he⟩ := hrel
    have He := Lib.hid he
    clear he
    by_cases hlt : k ≤ l.length
    · obtain ⟨m, hm⟩ : ∃ m, l.length + 1 - k = m + 1 := ⟨l.length - k, by omega⟩
      have hm2 : Hid (l.length + 1 - (k + 1) = m) := Lib.hid (by omega)
      have He2 : Hid (endF l (l.length + 1) x = match lkp l y with | none => some y | some z => endF l m z) := Lib.hid (by rw [He.out, hm]; rfl)
      clear hm
      cases hl : lkp l y with
      | none =>
        have E : Hid (endF l (l.length + 1) x = some y) := Lib.hid (by rw [He2.out, hl])
        go_wp2_with fail
        refine (l2To_any A c l y w B h hn).mono ?_
        rintro e w' ⟨rfl, rfl⟩
        rw [hl]
        clear hl
        go_wp2_with fail
        go_ret2
        rw [E.out]
        exact ⟨rfl, rfl⟩
      | some z =>
        have E : Hid (endF l (l.length + 1) x = endF l m z) := Lib.hid (by rw [He2.out, hl])
        go_wp2_with fail
        refine (l2To_any A c l y w B h hn).mono ?_
        rintro e w' ⟨rfl, rfl⟩
        rw [hl]
        clear hl
        go_wp2_with fail
        go_round
        case rel => exact ⟨k + 1, z, by omega, by go_num, rfl, by rw [hm2.out]; exact E.out⟩
        case measure => simp [intOf]; omega
    · have hk' : k = l.length + 1 := by omega
      have E : Hid (endF l (l.length + 1) x = none) := Lib.hid (by rw [He.out, hk', Nat.sub_self]; rfl)
      clear h hk'
      go_wp2
      go_ret2
      rw [E.out]
      exact ⟨rfl, rfl⟩
def flB (l : List (Int × Int)) (x : Int) : Bool := rulesB l && inB x 0 6 && (endF l (l.length + 1) x).isSome
def flV (l : List (Int × Int)) (x : Int) : Int := if (rulesB l && inB x 0 6) = true then endI (endF l (l.length + 1) x) else 0
set_option maxHeartbeats 1000000 in
theorem sForwardLine_any (A : Option Addr) (c : Nat) (l : List (Int × Int)) (x : Int) (w : World) (B : Nat) (h : RR w B A l) (hn : l.length ≤ 1048576) :
    Calls Try.prog 14 #[.slice A l.length c, .int .i64 x] w fun e w' => e = .returned (.tuple #[.int .i64 (flV l x), .bool (flB l x)]) ∧ ∃ n, w' = w.drewN n := by
  cases hr : rulesB l
  · have E1 : Hid (flB l x = false) := Lib.hid (by simp [flB, hr])
    have E2 : Hid (flV l x = 0) := Lib.hid (by simp [flV, hr])
    go_enter Try.func14, Try.ntmps14
    go_wp2_with fail
    refine (sRulesValid_any A c l w B h hn).mono ?_
    rintro e w1 ⟨rfl, n1, rfl⟩
    rw [hr]
    go_wp2_with fail
    go_ret2
    rw [E1.out, E2.out]
    exact ⟨rfl, _, rfl⟩
  cases hx : inB x 0 6
  · have E1 : Hid (flB l x = false) := Lib.hid (by simp [flB, hx])
    have E2 : Hid (flV l x = 0) := Lib.hid (by simp [flV, hx])
    go_enter Try.func14, Try.ntmps14
    go_wp2_with fail
    refine (sRulesValid_any A c l w B h hn).mono ?_
    rintro e w1 ⟨rfl, n1, rfl⟩
    rw [hr]
    go_wp2_with fail
    refine (l2Line_any _ _).mono ?_
    rintro e w' ⟨rfl, rfl⟩
    rw [hx]
    go_wp2_with fail
    go_ret2
    rw [E1.out, E2.out]
    exact ⟨rfl, _, rfl⟩
  have E1 : Hid (flB l x = (endF l (l.length + 1) x).isSome) := Lib.hid (by simp [flB, hr, hx])
  have E2 : Hid (flV l x = endI (endF l (l.length + 1) x)) := Lib.hid (by simp [flV, hr, hx])
  go_enter Try.func14, Try.ntmps14
  go_wp2_with fail
  refine (sRulesValid_any A c l w B h hn).mono ?_
  rintro e w1 ⟨rfl, n1, rfl⟩
  rw [hr]
  go_wp2_with fail
  refine (l2Line_any _ _).mono ?_
  rintro e w' ⟨rfl, rfl⟩
  rw [hx]
  go_wp2_with fail
  refine (l2End_any A c l x (w.drewN n1) B (h.drewN n1) hn).mono ?_
  rintro e w' ⟨rfl, rfl⟩
  go_wp2_with fail
  go_ret2
  rw [E1.out, E2.out]
  exact ⟨rfl, _, rfl⟩

/-- the map 'next': where each line is forwarded to, as channels -/
structure NextMap (w : World) (Q : Nat) (ch : Int → Option Nat) (l : List (Int × Int)) : Prop where
  hcm : mcm w Q = true
  hget : ∀ x : Int, 0 ≤ x → x ≤ 6 → mget w Q (ch x) = (lkp l x).map fun y => Value.chan (ch y)
theorem NextMap.keep {w w' : World} {Q : Nat} {ch : Int → Option Nat} {l : List (Int × Int)} (h : NextMap w Q ch l) (hb : Below w.heap.size w w') : NextMap w' Q ch l :=
  ⟨(mcm_below hb (mcm_lt h.hcm)).trans h.hcm, fun x h0 h6 => (mget_below hb (mcm_lt h.hcm)).trans (h.hget x h0 h6)⟩
theorem NextMap.drewN {w : World} {Q : Nat} {ch : Int → Option Nat} {l : List (Int × Int)} (h : NextMap w Q ch l) (n : Nat) : NextMap (w.drewN n) Q ch l := ⟨h.hcm, h.hget⟩
theorem NextMap.next {wr w' : World} {Q : Nat} {ch : Int → Option Nat} {l : List (Int × Int)} {k : Nat} (h : NextMap wr Q ch (l.take k)) (hk : k < l.length) (hr : rulesB l = true)
    (inj : ∀ i j : Int, 0 ≤ i → i ≤ 6 → 0 ≤ j → j ≤ 6 → ch i = ch j → i = j) (hc : mcm w' Q = true) (hg : ∀ r, mget w' Q r = mget wr Q r) :
    NextMap (mput w' Q (ch l[k].1) (.chan (ch l[k].2))) Q ch (l.take (k + 1)) := by
  refine ⟨mcm_mput hc, fun x h0 h6 => ?_⟩
  have ha := (rulesB_at hr hk).1
  rw [mget_mput hc, lkp_take_succ hk, hg]
  by_cases he : l[k].1 = x
  · subst he
    rw [if_pos rfl, rulesB_fresh hr hk]
    simp
  · have : ch x ≠ ch l[k].1 := fun e => he (inj _ _ h0 h6 (by omega) ha.2 e).symm
    rw [if_neg this, h.hget x h0 h6, if_neg he]
    cases lkp (l.take k) x <;> rfl
@[go_sem] theorem upd_next {w : World} {b : Nat} (h : mcm w b = true) (r : Option Nat) (v : Value) : (Instr.mapUpdate 64 (.map (some b)) (.chan r) v).run Try.prog w = .ok () (mput w b r v) :=
  run_mapUpdate_ch Try.underlying64 Try.underlying57 h r v
@[go_sem] theorem look_next_ok {w : World} {b : Nat} (h : mcm w b = true) (r : Option Nat) : (Instr.lookup 64 (.map (some b)) (.chan r) true).run Try.prog w = .ok (.tuple #[(mget w b r).getD (.chan none), .bool (mget w b r).isSome]) w := by
  rw [run_lookup_ch Try.underlying64 Try.underlying57 (zero_chan w) h r true]
  cases mget w b r <;> rfl
@[go_sem] theorem look_next {w : World} {b : Nat} (h : mcm w b = true) (r : Option Nat) : (Instr.lookup 64 (.map (some b)) (.chan r) false).run Try.prog w = .ok ((mget w b r).getD (.chan none)) w := by
  rw [run_lookup_ch Try.underlying64 Try.underlying57 (zero_chan w) h r false]
  cases mget w b r <;> rfl
set_option maxHeartbeats 2000000 in
theorem endOf_any (Q : Nat) (ch : Int → Option Nat) (l : List (Int × Int)) (x : Int) (w : World) (h : NextMap w Q ch l) (hr : rulesB l = true) (x0 : 0 ≤ x) (x6 : x ≤ 6) :
    Calls Try.prog 36 #[.map (some Q), .chan (ch x)] w fun e w' => e = .returned (.tuple #[.chan ((endF l 7 x).elim none ch), .bool (endF l 7 x).isSome]) ∧ w = w' := by
  have hcm := h.hcm
  have HR := Lib.hid hr
  clear hr
  go_enter Try.func36, Try.ntmps36
  go_wp2
  go_loop [6, 1] (fun i v => ∃ (k : Nat) (y : Int), k ≤ 7 ∧ 0 ≤ y ∧ y ≤ 6 ∧ i = .int .i64 k ∧ v = .chan (ch y) ∧ endF l 7 x = endF l (7 - k) y) (fun i _ => 7 - (intOf i).toNat)
  case atStart => exact ⟨0, x, by omega, x0, x6, rfl, rfl, rfl⟩
  case round =>
    obtain ⟨k, y, hk, y0, y6, rfl, rfl, he⟩ := hrel
    have He := Lib.hid he
    clear he
    by_cases hlt : k ≤ 6
    · obtain ⟨m, hm⟩ : ∃ m, 7 - k = m + 1 := ⟨6 - k, by omega⟩
      have hm2 : Hid (7 - (k + 1) = m) := Lib.hid (by omega)
      have He2 : Hid (endF l 7 x = match lkp l y with | none => some y | some z => endF l m z) := Lib.hid (by rw [He.out, hm]; rfl)
      have hg := h.hget y y0 y6
      clear hm
      cases hl : lkp l y with
      | none =>
        have E : Hid (endF l 7 x = some y) := Lib.hid (by rw [He2.out, hl])
        rw [hl] at hg
        simp only [Option.map_none] at hg
        clear hl
        go_wp2_with fail
        go_ret2
        rw [E.out]
        exact ⟨rfl, rfl⟩
      | some z =>
        have E : Hid (endF l 7 x = endF l m z) := Lib.hid (by rw [He2.out, hl])
        have hz := lkp_range HR.out hl
        rw [hl] at hg
        simp only [Option.map_some] at hg
        clear hl
        go_wp2_with fail
        go_round
        case rel => exact ⟨k + 1, z, by omega, hz.1, hz.2, by go_num, rfl, by rw [hm2.out]; exact E.out⟩
        case measure => simp [intOf]; omega
    · have hk' : k = 7 := by omega
      have E : Hid (endF l 7 x = none) := Lib.hid (by rw [He.out, hk', Nat.sub_self]; rfl)
      clear hk'
      go_wp2
      go_ret2
      rw [E.out]
      exact ⟨rfl, rfl⟩
/-- what forwards leaves -/
def NewNext (w : World) (ch : Int → Option Nat) (l : List (Int × Int)) (e : Ending) (w' : World) : Prop :=
  ∃ Q, e = .returned (.map (some Q)) ∧ w.heap.size ≤ Q ∧ NextMap w' Q ch l ∧ Below w.heap.size w w'
set_option maxHeartbeats 4000000 in
theorem forwards_any (S L M G : Nat) (ch : Int → Option Nat) (p : List Int) (A : Option Addr) (c : Nat) (l : List (Int × Int)) (w : World) (hB : Board w S L M G ch p) (h : RR w w.heap.size A l) (hn : l.length ≤ 1048576) (hr : rulesB l = true) :
    Calls Try.prog 37 #[.pointer (some ⟨S, 0, none⟩), .slice A l.length c] w (NewNext w ch l) := by
  have hmm := @run_makeMap Try.prog
  have HR := Lib.hid hr
  clear hr
  go_enter Try.func37, Try.ntmps37
  go_wp2_with fail
  go_loopw [11, 7] (fun i _ wr => ∃ k : Nat, k ≤ l.length ∧ i = .int .i64 k ∧ NextMap wr w.heap.size ch (l.take k) ∧ Below w.heap.size w wr) (fun i _ _ => l.length - (intOf i).toNat)
  case atStart => exact ⟨0, Nat.zero_le _, rfl, ⟨mcm_new _ _, fun x _ _ => by rw [mget_new]; rfl⟩, (Below.refl _ _).alloc (Nat.le_refl _) _⟩
  case round =>
    obtain ⟨k, hk, rfl, hnx, hbel⟩ := hrel
    have hs := hbel.size
    by_cases hlt : k < l.length
    · obtain ⟨ad, rfl, hb, h1, h2⟩ := (h.below hbel).at_ hlt
      obtain ⟨⟨a1, a6⟩, b0, b6⟩ := rulesB_at HR.out hlt
      have Hx := Lib.hid (fun w' hc hg => hnx.next hlt HR.out hB.inj (w' := w') hc hg)
      have hcm := hnx.hcm
      obtain ⟨a, ha⟩ : ∃ a, l[k].1 = a := ⟨_, rfl⟩
      obtain ⟨b, hb2⟩ : ∃ b, l[k].2 = b := ⟨_, rfl⟩
      rw [ha] at h1 a1 a6 Hx
      rw [hb2] at h2 b0 b6 Hx
      clear ha hb2 hnx
      have a0 : 0 ≤ a := by omega
      have c0 := (hB.keep hbel).s0
      have ca := (hB.keep hbel).line a0 a6
      have cb := (hB.keep hbel).line b0 b6
      obtain ⟨ltS, ltL, ltM, ltG⟩ := (hB.keep hbel).lts
      have hbl := hbel
      go_wp2_with fail
      go_region
      go_wp2_with fail
      go_roundw
      case rel =>
        refine ⟨k + 1, by omega, by go_num, Hx.out _ ?_ (fun r => ?_), ?_⟩
        · simp only [go_sem, hcm]
        · simp only [go_sem]
        · refine mput_below ?_ (Nat.le_refl _)
          repeat first | with_reducible exact hbl | with_reducible apply Below.drew | (with_reducible refine Below.alloc ?_ hs _)
      case measure => simp [intOf]; omega
    · have hk' : k = l.length := by omega
      have Hn : Hid (NextMap wr w.heap.size ch l) := by rw [hk', List.take_length] at hnx; exact Lib.hid hnx
      clear hnx hk' h
      go_wp2
      go_ret
      exact ⟨_, rfl, Nat.le_refl _, Hn.out, hbel⟩
end Go.Proofs.Ytelaeepkajbfnaa
