/-
  impl.ForwardLine; the law.
-/
import Derived.Test.YtelaeepkajbfnaaFwd
namespace Go.Proofs.Ytelaeepkajbfnaa
open Go.RowKit
set_option linter.unusedSimpArgs false
set_option linter.unusedVariables false

theorem endF_7 {l : List (Int × Int)} (h : rulesB l = true) (x : Int) : endF l 7 x = endF l (l.length + 1) x := endF_enough l x (by have := rulesB_len h; omega)
theorem end_num {w : World} {S L M G : Nat} {ch : Int → Option Nat} {p : List Int} (h : Board w S L M G ch p) {l : List (Int × Int)} {n : Nat} {x : Int} (hr : rulesB l = true) (hx : 0 ≤ x ∧ x ≤ 6) : mget w M ((endF l n x).elim none ch) = some (.int .i64 (endI (endF l n x))) := by
  cases he : endF l n x with
  | none =>
    have := h.hget 0 (by omega) (by omega)
    rw [h.h0] at this
    exact this
  | some e =>
    have hr' := endF_range hr hx he
    exact h.hget e hr'.1 hr'.2
set_option maxHeartbeats 4000000 in
theorem iForwardLine_any (A : Option Addr) (c : Nat) (l : List (Int × Int)) (x : Int) (w : World) (h : RR w w.heap.size A l) (hn : l.length ≤ 1048576) :
    Calls Try.prog 15 #[.slice A l.length c, .int .i64 x] w fun e w' => e = .returned (.tuple #[.int .i64 (flV l x), .bool (flB l x)]) ∧ Below w.heap.size w w' := by
  cases hr : rulesB l
  · have E1 : Hid (flB l x = false) := Lib.hid (by simp [flB, hr])
    have E2 : Hid (flV l x = 0) := Lib.hid (by simp [flV, hr])
    go_enter Try.func15, Try.ntmps15
    go_wp2_with fail
    refine (RulesValid_any A c l w h hn).mono ?_
    rintro e w1 ⟨rfl, hb1⟩
    rw [hr]
    go_wp2_with fail
    go_ret2
    rw [E1.out, E2.out]
    exact ⟨rfl, hb1⟩
  cases hx : inB x 0 6
  · have E1 : Hid (flB l x = false) := Lib.hid (by simp [flB, hx])
    have E2 : Hid (flV l x = 0) := Lib.hid (by simp [flV, hx])
    go_enter Try.func15, Try.ntmps15
    go_wp2_with fail
    refine (RulesValid_any A c l w h hn).mono ?_
    rintro e w1 ⟨rfl, hb1⟩
    rw [hr]
    go_wp2_with fail
    refine (isLine_any _ _).mono ?_
    rintro e w' ⟨rfl, rfl⟩
    rw [hx]
    go_wp2_with fail
    go_ret2
    rw [E1.out, E2.out]
    exact ⟨rfl, hb1⟩
  have E1 : Hid (flB l x = (endF l 7 x).isSome) := Lib.hid (by simp [flB, hr, hx, endF_7 hr])
  have E2 : Hid (flV l x = endI (endF l 7 x)) := Lib.hid (by simp [flV, hr, hx, endF_7 hr])
  obtain ⟨x0, x6⟩ := inB_true.1 hx
  have x7 : x < 7 := by omega
  have HR := Lib.hid hr
  go_enter Try.func15, Try.ntmps15
  go_wp2_with fail
  refine (RulesValid_any A c l w h hn).mono ?_
  rintro e w1 ⟨rfl, hb1⟩
  rw [hr]
  go_wp2_with fail
  refine (isLine_any _ _).mono ?_
  rintro e w' ⟨rfl, rfl⟩
  rw [hx]
  clear hr hx
  go_wp2_with fail
  refine (newPatchboard_any none 0 [] w1 RI.nil_ (by simp) (by simp)).mono ?_
  rintro e w2 ⟨S, L, M, G, ch, rfl, hB, b1, b2, b3, b4, hbel⟩
  have B2 := hb1.trans (hbel.mono hb1.size)
  have hR := (h.below B2).more B2.size
  have c0 := hB.s0
  have cl := hB.line x0 x6
  obtain ⟨ltS, ltL, ltM, ltG⟩ := hB.lts
  clear h hb1 hbel
  go_wp2_with fail
  go_region_held3 (fun w' => w'.cell? ⟨S, 0, none⟩ = some (.slice (some ⟨L, 0, none⟩) 7 7) ∧ w'.cell? ⟨L, x.toNat, none⟩ = some (.chan (ch x))) (go_keep) (first | (go_at_call 37; refine (forwards_any S L M G ch [] A c l w2.drew hB.drew hR hn HR.out).mono ?_; rintro e w3 ⟨Q, rfl, hQ, hnx, hb3⟩; have k1 := (hb3.cell (p := ⟨S, 0, none⟩) ltS).trans c0; have k2 := (hb3.cell (p := ⟨L, x.toNat, none⟩) ltL).trans cl) | (go_at_call 36; refine (endOf_any Q ch l x w3 hnx HR.out x0 x6).mono ?_; rintro e w4 ⟨rfl, rfl⟩))
  have hB3 := hB.drew.keep hb3
  have c1 := hB3.s1
  have hcm := hB3.hcm
  have hq := end_num hB3 (l := l) (n := 7) (x := x) HR.out ⟨x0, x6⟩
  go_wp2_with fail
  go_ret2
  rw [E1.out, E2.out]
  exact ⟨rfl, B2.trans ((below_drew_ hb3).mono B2.size)⟩
set_option maxHeartbeats 2000000 in
theorem FnExactForwardLine_walk (A0 : Option Addr) (l0 : List (Int × Int)) (c0 : Nat) (x1 : Int) (w : World) (h0 : Reads w w.heap.size 2 A0 l0.length (l0.flatMap fun r => [Value.int .i64 r.1, Value.int .i64 r.2])) (hc0 : l0.length ≤ c0) (hm0 : c0 ≤ maxLen) (hw0 : ∀ r ∈ l0, (Lit.int .i64 r.1).wf = true ∧ (Lit.int .i64 r.2).wf = true) (wx1 : (Lit.int .i64 x1).wf = true) :
    Calls Try.prog 4 #[.slice A0 l0.length c0, .int .i64 x1] w fun e w' => e = .returned (.bool true) ∧ Below w.heap.size w w' := by
  have h0 : RR w w.heap.size A0 l0 := h0
  by_cases hn0 : l0.length ≤ 1048576
  case neg =>
    have h' : 1048576 < l0.length := by omega
    have hz := szRuleS_no A0 c0 l0 w h' hc0 hm0
    clear h0 hn0 hc0 hm0 hw0 wx1
    go_enter Try.func4, Try.ntmps4
    go_wp2_with fail
    refine hz.mono ?_
    rintro e w' ⟨rfl, rfl⟩
    go_wp2
    go_ret
    exact ⟨rfl, Below.refl _ _⟩
  clear hc0 hm0 hw0 wx1
  go_enter Try.func4, Try.ntmps4
  go_wp2_with fail
  refine (szRuleS_ok A0 c0 l0 w hn0).mono ?_
  rintro e w' ⟨rfl, rfl⟩
  go_wp2_with fail
  refine (toRuleS_any A0 c0 l0 w h0 hn0).mono ?_
  rintro e w1 ⟨g1, rfl, hg1, hb1, hbel1⟩
  go_wp2_with fail
  refine (sForwardLine_any _ _ l0 x1 w1 _ hb1.RR_ hn0).mono ?_
  rintro e v1 ⟨rfl, n1, rfl⟩
  have B1 := below_drewN hbel1 n1
  go_wp2_with fail
  refine (toRuleS_any A0 c0 l0 (w1.drewN n1) ((h0.below B1).more B1.size) hn0).mono ?_
  rintro e w2 ⟨g2, rfl, hg2, hb2, hbel2⟩
  have B2 := B1.trans (hbel2.mono B1.size)
  clear hb1 hbel1 hbel2
  go_wp2_with fail
  refine (iForwardLine_any _ _ l0 x1 w2 hb2.RR_ hn0).mono ?_
  rintro e w3 ⟨rfl, hbel3⟩
  have B3 := B2.trans (hbel3.mono B2.size)
  have r3 := (hb2.RR_.below hbel3).more hbel3.size
  have hne1 : (flV l0 x1 != flV l0 x1) = false := by simp
  have hne2 : (flB l0 x1 != flB l0 x1) = false := by simp
  clear hb2 hbel3
  go_wp2_with fail
  refine (toRuleS_any A0 c0 l0 w3 ((h0.below B3).more B3.size) hn0).mono ?_
  rintro e w4 ⟨g4, rfl, hg4, hb4, hbel4⟩
  have B4 := B3.trans (hbel4.mono B3.size)
  have r4 := (r3.below hbel4).more hbel4.size
  go_wp2_with fail
  refine (eqRuleS_any _ _ _ _ l0 l0 w4 r4 hb4.RR_ hn0 hn0).mono ?_
  rintro e w5 ⟨rfl, hbel5⟩
  have B5 := B4.trans (hbel5.mono B4.size)
  have hbe : (l0 == l0) = true := by simp
  go_wp2
  go_ret
  exact ⟨rfl, B5⟩
end Go.Proofs.Ytelaeepkajbfnaa
