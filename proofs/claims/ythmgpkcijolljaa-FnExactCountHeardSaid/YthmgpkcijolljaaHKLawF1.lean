/-
  The law FnExactCountHeard, walked beside leavers.
-/
import Derived.Test.YthmgpkcijolljaaH26
namespace Go.Proofs.Ythmgpkcijolljaa
open Go.Conc Go.RowKit Go.Conc.Lib Go.ConcR.Gen
set_option linter.unusedSimpArgs false
set_option linter.unusedVariables false
set_option maxRecDepth 100000 in
set_option maxHeartbeats 16000000 in
theorem FnExactCountHeard_wins (g : Int) (A : Option Addr) (l : List Dd) (c : Nat) (W : World) (wg : (Lit.int .i64 g).wf = true) (h : RD W W.heap.size A l) (hc : l.length ≤ c) (hm : c ≤ maxLen) (hwf : ∀ r ∈ l, gdD r) :
  KA KL (G (Frame.enter Try.prog 3 #[.int .i64 g, .slice A l.length c] .normal) []) W.shutAll := by
 have hF := (shutAll_veil noGlobals W).flat
 have hA : RD W.shutAll W.shutAll.heap.size A l := shutAll_reads h
 have hws : ∀ d ∈ l, d.1.size ≤ maxLen := fun d hd => (hwf d hd).1
 generalize W.shutAll = v at hF hA ⊢
 clear h hwf wg
 have hK := kl_ok
 rw [enter_at _ Try.func3 rfl]
 walk_nrmf Try.f3
 refine kSeq hK hF (kLift closedS hK hF (by kernel_rfl) (by k_ne) fun t => ?_)
 generalize hQ : Behind _ _ _ _ _ = Q
 go_wp2
 subst hQ
 refine fun _ _ => KA.re ?_
 refine kSeq hK hF (kLift closedS hK hF (by kernel_rfl) (by k_ne) fun t => ?_)
 generalize hQ : Behind _ _ _ _ _ = Q
 go_wp2
 subst hQ
 refine fun _ _ => KA.re ?_
 refine kSeq hK hF (kLift closedS hK hF (by kernel_rfl) (by k_ne) fun t => ?_)
 generalize hQ : Behind _ _ _ _ _ = Q
 go_wp2_with (go_at_call 10; refine (szSaidS_any A c l 1048576 (v.re t 0) hA hc hm hws (by omega) (by omega)).mono ?_; rintro e w1 ⟨rfl, hb⟩)
 subst hQ
 refine fun hF1 _ => ?_
 have e1 : Ups v w1 := ups_of (v := v) (t := t) hb
 clear hb
 by_cases hs : (szD l : Int) ≤ 1048576
 case neg =>
  have hl : leftD l 1048576 = -1 := leftD_no (by omega)
  rw [hl]
  refine kSeq hK hF1 (kLift closedS hK hF1 (by kernel_rfl) (by k_ne) fun t => ?_)
  generalize hQ : Behind _ _ _ _ _ = Q
  go_wp2
  subst hQ
  refine fun todo _ _ => KA.re ?_
  exact law_ret rfl rfl Try.func3 rfl (by kernel_rfl) rfl
 obtain ⟨x, hx⟩ : ∃ x, x = leftD l 1048576 := ⟨_, rfl⟩
 have hx0 : 0 ≤ x := by rw [hx, leftD_ok hs]; omega
 rw [← hx]
 have hn : l.length ≤ 1048576 := by have := szD_len (l := l); omega
 clear hx hs hws hc hm
 refine kSeq hK hF1 (kLift closedS hK hF1 (by kernel_rfl) (by k_ne) fun t => ?_)
 generalize hQ : Behind _ _ _ _ _ = Q
 go_wp2
 subst hQ
 refine fun _ _ => KA.re ?_
 refine kSeq hK hF1 (kLift closedS hK hF1 (by kernel_rfl) (by k_ne) fun t => ?_)
 generalize hQ : Behind _ _ _ _ _ = Q
 have hA1 : RD (w1.re t 0) (w1.re t 0).heap.size A l := hA.ups (e1.re t 0)
 go_wp2_with fail
 refine (toSaidS_any A c l _ hA1 hn).mono ?_
 rintro e w2 ⟨g2, rfl, hg2, hb2, hB2⟩
 go_wp2_with fail
 refine (sCountHeard_any _ _ g l w2 hb2.RD_ hn).mono ?_
 rintro e w3 ⟨rfl, hB3⟩
 go_wp2_with fail
 subst hQ
 refine fun hF3 _ => ?_
 have e13 : Ups w1 w3 := Ups.trans (v := w1) (u := w2) (ups_of (v := w1) (t := t) hB2) (ups_of' hB3)
 have e3 := e1.trans e13
 obtain ⟨cv, hcv⟩ : ∃ cv, cv = cntI g l := ⟨_, rfl⟩
 have Hc := Lib.hid hcv
 rw [← hcv]
 have hcc : (cv != cv) = false := by simp
 clear hcv
 clear hA1 hb2 hB2 hB3
 refine kSeq hK hF3 (kLift closedS hK hF3 (by kernel_rfl) (by k_ne) fun t => ?_)
 generalize hQ : Behind _ _ _ _ _ = Q
 have hA1 : RD (w3.re t 0) (w3.re t 0).heap.size A l := hA.ups (e3.re t 0)
 go_wp2_with fail
 refine (toSaidS_any A c l _ hA1 hn).mono ?_
 rintro e w4 ⟨gx, rfl, hgx0, hX4, hB4⟩
 go_wp2_with fail
 subst hQ
 refine fun hF4 _ => ?_
 have e34 : Ups w3 w4 := ups_of (v := w3) (t := t) hB4
 have e4 := e3.trans e34
 have hgx : w3.heap.size ≤ gx := hgx0
 clear hA1 hB4 hgx0
 refine kSeq hK hF4 (kRegion hK hF4 ?_)
 refine kOp closedS.bodies hK hF4 (val := .int .i64 g) (by k_ne) rfl rfl (by kernel_rfl) (fun v₁ hv => by go_simp <;> rfl) ?_
 walk_nrm
 refine kOp closedS.bodies hK hF4 (val := .slice (some ⟨gx, 0, none⟩) l.length l.length) (by k_ne) rfl rfl (by kernel_rfl) (fun v₁ hv => by go_simp <;> rfl) ?_
 walk_nrm
 refine count_call rfl rfl (by k_ne) rfl rfl rfl hF4 hX4.RD_ hn (fun w5 hF5 e45 => ?_)
 rw [← Hc.out]
 walk_nrm
 refine kOp closedS.bodies hK hF5 (val := .int .i64 cv) (by k_ne) rfl rfl (by kernel_rfl) (fun v₁ hv => by go_simp <;> rfl) ?_
 walk_nrm
 refine kRegEnd hK hF5 ?_
 have hX5 := hX4.ups e45
 have e5 := e4.trans e45
 clear hX4 hF hF1 hF3 hF4
 refine kSeq hK hF5 (kLift closedS hK hF5 (by kernel_rfl) (by k_ne) fun t => ?_)
 generalize hQ : Behind _ _ _ _ _ = Q
 go_wp2
 subst hQ
 refine fun _ _ => KA.re ?_
 refine kSeq hK hF5 (kLift closedS hK hF5 (by kernel_rfl) (by k_ne) fun t => ?_)
 generalize hQ : Behind _ _ _ _ _ = Q
 have hA1 : RD (w5.re t 0) (w5.re t 0).heap.size A l := hA.ups (e5.re t 0)
 go_wp2_with fail
 refine (toSaidS_any A c l _ hA1 hn).mono ?_
 rintro e w6 ⟨g6, rfl, hg6, hb6, hB6⟩
 have hX6 : Blk w6 gx 41 (cells3 l).toArray := hX5.ups (ups_of (v := w5) (t := t) hB6)
 go_wp2_with fail
 refine (eqSaidS_same _ _ _ _ l w6 hX6.RD_ hb6.RD_ hn).mono ?_
 rintro e w7 ⟨rfl, hB7⟩
 go_wp2_with fail
 subst hQ
 refine fun hF7 _ => ?_
 have e57 : Ups w5 w7 := Ups.trans (v := w5) (u := w6) (ups_of (v := w5) (t := t) hB6) (ups_of' hB7)
 have e7 := e5.trans e57
 clear hA1 hb6 hB6 hB7 hX6
 refine kLift closedS hK hF7 (by kernel_rfl) (by k_ne) fun t => ?_
 generalize hQ : Behind _ _ _ _ _ = Q
 go_wp2
 subst hQ
 refine fun todo _ _ => KA.re ?_
 exact law_ret rfl rfl Try.func3 rfl (by kernel_rfl) rfl
end Go.Proofs.Ythmgpkcijolljaa
