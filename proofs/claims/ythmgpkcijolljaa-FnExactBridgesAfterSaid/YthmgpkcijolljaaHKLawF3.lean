/-
  The law FnExactBridgesAfter, walked beside leavers.
-/
import Derived.Test.YthmgpkcijolljaaH26
namespace Go.Proofs.Ythmgpkcijolljaa
open Go.Conc Go.RowKit Go.Conc.Lib Go.ConcR.Gen
set_option linter.unusedSimpArgs false
set_option linter.unusedVariables false
set_option maxRecDepth 100000 in
set_option maxHeartbeats 16000000 in
theorem FnExactBridgesAfter_wins (g : Int) (A : Option Addr) (l : List Dd) (c : Nat) (W : World) (wg : (Lit.int .i64 g).wf = true) (h : RD W W.heap.size A l) (hc : l.length ≤ c) (hm : c ≤ maxLen) (hwf : ∀ r ∈ l, gdD r) :
  KA KL (G (Frame.enter Try.prog 7 #[.int .i64 g, .slice A l.length c] .normal) []) W.shutAll := by
 have hF := (shutAll_veil noGlobals W).flat
 have hA : RD W.shutAll W.shutAll.heap.size A l := shutAll_reads h
 have hws : ∀ d ∈ l, d.1.size ≤ maxLen := fun d hd => (hwf d hd).1
 generalize W.shutAll = v at hF hA ⊢
 clear h hwf wg
 have hK := kl_ok
 rw [enter_at _ Try.func7 rfl]
 walk_nrmf Try.f7
 refine kSeq hK hF (kLift closedS hK hF (by kernel_rfl) (by k_ne) fun t => ?_)
 generalize hQ : Behind _ _ _ _ _ = Q
 go_wp2
 subst hQ
 refine fun _ _ => KA.re ?_
 refine kSeq hK hF (kLift closedS hK hF (by kernel_rfl) (by k_ne) fun t => ?_)
 generalize hQ : Behind _ _ _ _ _ = Q
 go_wp2
 subst hQ
 refine fun _ _ => KA.re ?_
 refine kSeq hK hF (kLift closedS hK hF (by kernel_rfl) (by k_ne) fun t => ?_)
 generalize hQ : Behind _ _ _ _ _ = Q
 go_wp2_with (go_at_call 10; refine (szSaidS_any A c l 1048576 (v.re t 0) hA hc hm hws (by omega) (by omega)).mono ?_; rintro e w1 ⟨rfl, hb⟩)
 subst hQ
 refine fun hF1 _ => ?_
 have e1 : Ups v w1 := ups_of (v := v) (t := t) hb
 clear hb
 by_cases hs : (szD l : Int) ≤ 1048576
 case neg =>
  have hl : leftD l 1048576 = -1 := leftD_no (by omega)
  rw [hl]
  refine kSeq hK hF1 (kLift closedS hK hF1 (by kernel_rfl) (by k_ne) fun t => ?_)
  generalize hQ : Behind _ _ _ _ _ = Q
  go_wp2
  subst hQ
  refine fun todo _ _ => KA.re ?_
  exact law_ret rfl rfl Try.func7 rfl (by kernel_rfl) rfl
 obtain ⟨x, hx⟩ : ∃ x, x = leftD l 1048576 := ⟨_, rfl⟩
 have hx0 : 0 ≤ x := by rw [hx, leftD_ok hs]; omega
 rw [← hx]
 have hn : l.length ≤ 1048576 := by have := szD_len (l := l); omega
 clear hx hs hws hc hm
 refine kSeq hK hF1 (kLift closedS hK hF1 (by kernel_rfl) (by k_ne) fun t => ?_)
 generalize hQ : Behind _ _ _ _ _ = Q
 go_wp2
 subst hQ
 refine fun _ _ => KA.re ?_
 refine kSeq hK hF1 (kLift closedS hK hF1 (by kernel_rfl) (by k_ne) fun t => ?_)
 generalize hQ : Behind _ _ _ _ _ = Q
 have hA1 : RD (w1.re t 0) (w1.re t 0).heap.size A l := hA.ups (e1.re t 0)
 go_wp2_with fail
 refine (toSaidS_any A c l _ hA1 hn).mono ?_
 rintro e w2 ⟨g2, rfl, hg2, hb2, hB2⟩
 go_wp2_with fail
 refine (sBridgesAfter_any _ _ g l w2 hb2.RD_ hn).mono ?_
 rintro e w3 h3
 obtain ⟨Aw, cw, rfl, hW3, hB3⟩ := h3
 go_wp2_with fail
 subst hQ
 refine fun hF3 _ => ?_
 have e13 : Ups w1 w3 := Ups.trans (v := w1) (u := w2) (ups_of (v := w1) (t := t) hB2) (ups_of' hB3)
 have e3 := e1.trans e13
 obtain ⟨lw, hlw⟩ : ∃ lw, lw = bridgeL g l := ⟨_, rfl⟩
 have hlen : lw.length ≤ 1048576 := by rw [hlw]; exact bridgeL_len _ _
 have hll : (lw == lw) = true := by simp
 have Hl := Lib.hid hlw
 rw [← hlw] at hW3
 rw [← hlw]
 obtain ⟨bo, hbo⟩ : ∃ bo, bo = meetB g l := ⟨_, rfl⟩
 have Hbo := Lib.hid hbo
 rw [← hbo]
 clear hbo
 have hbb : (bo != bo) = false := by simp
 obtain ⟨B0, hB0⟩ : ∃ B0, B0 = w3.heap.size := ⟨_, rfl⟩
 have hBw : B0 ≤ w3.heap.size := by omega
 rw [← hB0] at hW3
 clear hA1 hb2 hB2 hB3 hlw
 refine kSeq hK hF3 (kLift closedS hK hF3 (by kernel_rfl) (by k_ne) fun t => ?_)
 generalize hQ : Behind _ _ _ _ _ = Q
 have hA1 : RD (w3.re t 0) (w3.re t 0).heap.size A l := hA.ups (e3.re t 0)
 go_wp2_with fail
 refine (toSaidS_any A c l _ hA1 hn).mono ?_
 rintro e w4 ⟨gx, rfl, hgx0, hX4, hB4⟩
 go_wp2_with fail
 subst hQ
 refine fun hF4 _ => ?_
 have e34 : Ups w3 w4 := ups_of (v := w3) (t := t) hB4
 have e4 := e3.trans e34
 have hgx : w3.heap.size ≤ gx := hgx0
 have hW4 := hW3.ups hBw e34
 have hBx : B0 ≤ gx := by omega
 clear hA1 hB4 hgx0 hW3
 refine kSeq hK hF4 (kRegion hK hF4 ?_)
 refine kOp closedS.bodies hK hF4 (val := .int .i64 g) (by k_ne) rfl rfl (by kernel_rfl) (fun v₁ hv => by go_simp <;> rfl) ?_
 walk_nrm
 refine kOp closedS.bodies hK hF4 (val := .slice (some ⟨gx, 0, none⟩) l.length l.length) (by k_ne) rfl rfl (by kernel_rfl) (fun v₁ hv => by go_simp <;> rfl) ?_
 walk_nrm
 refine bridges_call rfl rfl (by k_ne) rfl rfl rfl hF4 hX4.RD_ hn (fun w5 ug hF5 e45 hG0 => ?_)
 rw [← Hl.out] at hG0
 rw [← Hbo.out]
 obtain ⟨Ag, cg, rfl⟩ := own_form hG0
 walk_nrm
 refine kOp closedS.bodies hK hF5 (val := .tuple #[.slice Ag lw.length cg, .bool bo]) (by k_ne) rfl rfl (by kernel_rfl) (fun v₁ hv => by go_simp <;> rfl) ?_
 walk_nrm
 refine kOp closedS.bodies hK hF5 (val := .slice Ag lw.length cg) (by k_ne) rfl rfl (by kernel_rfl) (fun v₁ hv => by go_simp <;> rfl) ?_
 walk_nrm
 refine kOp closedS.bodies hK hF5 (val := .bool bo) (by k_ne) rfl rfl (by kernel_rfl) (fun v₁ hv => by go_simp <;> rfl) ?_
 walk_nrm
 refine kOp closedS.bodies hK hF5 (val := .slice Ag lw.length cg) (by k_ne) rfl rfl (by kernel_rfl) (fun v₁ hv => by go_simp <;> rfl) ?_
 walk_nrm
 refine kOp closedS.bodies hK hF5 (val := .bool bo) (by k_ne) rfl rfl (by kernel_rfl) (fun v₁ hv => by go_simp <;> rfl) ?_
 walk_nrm
 refine kRegEnd hK hF5 ?_
 have hX5 := hX4.ups e45
 have e5 := e4.trans e45
 have hW5 := hW4.ups (by have := e34.size; omega) e45
 have hG5 := hG0
 have hgl : gx < w4.heap.size := hX4.lt
 have hGb : ∀ b, (Value.slice Ag lw.length cg).ownBlock = some b → w4.heap.size ≤ b := fun b hb => (hG0.lt b hb).1
 clear hW4 hG0
 clear hX4 hF hF1 hF3 hF4
 refine kSeq hK hF5 (kLift closedS hK hF5 (by kernel_rfl) (by k_ne) fun t => ?_)
 generalize hQ : Behind _ _ _ _ _ = Q
 have hR1 : RI (w5.re t 0) _ Ag lw := RI.of_own hG5
 have hR2 : RI (w5.re t 0) B0 Aw lw := hW5
 go_wp2_with (go_at_call 22; refine (eqIntS_any _ _ _ _ lw lw (w5.re t 0) _ _ hR1 hR2 hlen hlen).mono ?_; rintro e w' ⟨rfl, n2, rfl⟩)
 subst hQ
 refine fun _ _ => KA.drewN ?_ _
 clear hR1 hR2
 refine kSeq hK hF5 (kLift closedS hK hF5 (by kernel_rfl) (by k_ne) fun t => ?_)
 generalize hQ : Behind _ _ _ _ _ = Q
 have hA1 : RD (w5.re t 0) (w5.re t 0).heap.size A l := hA.ups (e5.re t 0)
 go_wp2_with fail
 refine (toSaidS_any A c l _ hA1 hn).mono ?_
 rintro e w6 ⟨g6, rfl, hg6, hb6, hB6⟩
 have hX6 : Blk w6 gx 41 (cells3 l).toArray := hX5.ups (ups_of (v := w5) (t := t) hB6)
 go_wp2_with fail
 refine (eqSaidS_same _ _ _ _ l w6 hX6.RD_ hb6.RD_ hn).mono ?_
 rintro e w7 ⟨rfl, hB7⟩
 go_wp2_with fail
 subst hQ
 refine fun hF7 _ => ?_
 have e57 : Ups w5 w7 := Ups.trans (v := w5) (u := w6) (ups_of (v := w5) (t := t) hB6) (ups_of' hB7)
 have e7 := e5.trans e57
 have hX7 := hX5.ups e57
 have hW7 := hW5.ups (by have := e34.size; have := e45.size; omega) e57
 have hG7 := own_ups hG5 e57
 have hs7 : w4.heap.size ≤ w7.heap.size := by have := e45.size; have := e57.size; omega
 clear hA1 hb6 hB6 hB7 hX6 hX5 hW5 hG5 hF5
 refine kSeq hK hF7 (kLift closedS hK hF7 (by kernel_rfl) (by k_ne) fun t => ?_)
 generalize hQ : Behind _ _ _ _ _ = Q
 go_wp2
 subst hQ
 refine fun _ _ => KA.re ?_
 refine kSeq hK hF7 (kLift closedS hK hF7 (by kernel_rfl) (by k_ne) fun t => ?_)
 generalize hQ : Behind _ _ _ _ _ = Q
 have hO1 : (w7.re t 0).ownsRow 0 41 3 (.slice (some ⟨gx, 0, none⟩) l.length l.length) l.length (cells3 l) := own_blk3 hX7 (Nat.zero_le _) hn
 go_wp2_with (go_at_call 23; refine (markSaidS_any _ _ l 1 (w7.re t 0) 0 hO1 hn (by omega) (by omega)).mono ?_; rintro e w8 ⟨rfl, hm8, hg8⟩)
 subst hQ
 refine fun hF8 _ => ?_
 have hne : ∀ b, b ≠ gx → b < w7.heap.size → w8.heap[b]? = w7.heap[b]? := fun b h1 h2 => hg8.block b h2 (fun e => h1 (by simpa [Value.ownBlock] using e))
 have hs8 : w7.heap.size ≤ w8.heap.size := hg8.size
 have e8 : Ups v w8 := ⟨Nat.le_trans e7.size hs8, fun b hb => (hne b (by have := e3.size; omega) (by have := e7.size; omega)).trans (e7.get b hb)⟩
 have hW8 : RI w8 B0 Aw lw := hW7.kept fun b hb => hne b (by omega) (by have := e34.size; have := e45.size; have := e57.size; omega)
 have hG8 : w8.ownsRow w4.heap.size 3 1 (.slice Ag lw.length cg) lw.length (ints lw) := own_to hG7 fun b hb => hne b (by have := hGb b hb; omega) (hG7.lt b hb).2
 have hk0 : ¬ (1 : Int) + 3 * (l.length : Int) < 0 := by omega
 obtain ⟨kk, hkk⟩ : ∃ kk : Int, kk = 1 + 3 * (l.length : Int) := ⟨_, rfl⟩
 rw [← hkk] at hk0 ⊢
 clear hO1 hm8 hg8 hX7 hW7 hG7 hF7 hkk hne
 refine kSeq hK hF8 (kLift closedS hK hF8 (by kernel_rfl) (by k_ne) fun t => ?_)
 generalize hQ : Behind _ _ _ _ _ = Q
 have hR1 : RI (w8.re t 0) _ Ag lw := RI.of_own hG8
 have hR2 : RI (w8.re t 0) B0 Aw lw := hW8
 go_wp2_with (go_at_call 22; refine (eqIntS_any _ _ _ _ lw lw (w8.re t 0) _ _ hR1 hR2 hlen hlen).mono ?_; rintro e w' ⟨rfl, n2, rfl⟩)
 subst hQ
 refine fun _ _ => KA.drewN ?_ _
 clear hR1 hR2
 refine kSeq hK hF8 (kLift closedS hK hF8 (by kernel_rfl) (by k_ne) fun t => ?_)
 generalize hQ : Behind _ _ _ _ _ = Q
 go_wp2
 subst hQ
 refine fun _ _ => KA.re ?_
 refine kSeq hK hF8 (kLift closedS hK hF8 (by kernel_rfl) (by k_ne) fun t => ?_)
 generalize hQ : Behind _ _ _ _ _ = Q
 have hG1 : (w8.re t 0).ownsRow w4.heap.size 3 1 (.slice Ag lw.length cg) lw.length (ints lw) := hG8
 go_wp2_with (go_at_call 24; refine (markIntS_any Ag cg lw 1 _ w4.heap.size hG1 hlen (by omega) (by omega)).mono ?_; rintro e w9 ⟨rfl, hG9, hg9⟩)
 subst hQ
 refine fun hF9 _ => ?_
 have hne : ∀ b, b < w4.heap.size → w9.heap[b]? = w8.heap[b]? := fun b h1 => hg9.block b (Nat.lt_of_lt_of_le h1 (Nat.le_trans hs7 hs8)) (fun e => by have := hGb b e.symm; omega)
 have hs9 : w8.heap.size ≤ w9.heap.size := hg9.size
 have e9 : Ups v w9 := ⟨Nat.le_trans e8.size hs9, fun b hb => (hne b (by have := e4.size; omega)).trans (e8.get b hb)⟩
 have hW9 : RI w9 B0 Aw lw := hW8.kept fun b hb => hne b (by omega)
 have hH9 : RI w9 w9.heap.size Ag (markL 1 lw.length) := RI.of_marks hG9
 have hnn : ((1 + lw.length : Int) != 1 + lw.length) = false := by simp
 have hnp : ¬ ((1 + lw.length : Int) < 0) := by omega
 clear hg9 hG1 hW8 hG8 hF8 hne
 refine kSeq hK hF9 (kLift closedS hK hF9 (by kernel_rfl) (by k_ne) fun t => ?_)
 generalize hQ : Behind _ _ _ _ _ = Q
 go_wp2
 subst hQ
 refine fun _ _ => KA.re ?_
 refine kSeq hK hF9 (kLift closedS hK hF9 (by kernel_rfl) (by k_ne) fun t => ?_)
 generalize hQ : Behind _ _ _ _ _ = Q
 have hH1 : RI (w9.re t 0) (w9.re t 0).heap.size Ag (markL 1 lw.length) := hH9
 go_wp2_with (go_at_call 25; refine (heldIntS_ok Ag cg lw.length 1 _ _ hH1 hlen (by omega) (by omega)).mono ?_; rintro e w' ⟨rfl, rfl⟩)
 subst hQ
 refine fun _ _ => KA.re ?_
 clear hH1
 refine kSeq hK hF9 (kLift closedS hK hF9 (by kernel_rfl) (by k_ne) fun t => ?_)
 generalize hQ : Behind _ _ _ _ _ = Q
 go_wp2
 subst hQ
 refine fun _ _ => KA.re ?_
 refine kSeq hK hF9 (kLift closedS hK hF9 (by kernel_rfl) (by k_ne) fun t => ?_)
 generalize hQ : Behind _ _ _ _ _ = Q
 go_wp2
 subst hQ
 refine fun _ _ => KA.re ?_
 refine kSeq hK hF9 (kRegion hK hF9 ?_)
 refine kOp closedS.bodies hK hF9 (val := .int .i64 g) (by k_ne) rfl rfl (by kernel_rfl) (fun v₁ hv => by go_simp <;> rfl) ?_
 walk_nrm
 refine kOp closedS.bodies hK hF9 (val := .slice A l.length c) (by k_ne) rfl rfl (by kernel_rfl) (fun v₁ hv => by go_simp <;> rfl) ?_
 walk_nrm
 refine kCallW closedS hK hF9 rfl rfl (by k_ne) rfl Try.func12 (by kernel_rfl) rfl (by kernel_rfl) rfl (xs := #[.slice A l.length c]) (by simp [Act.eval]) (fun t => ?_)
 have hA1 : RD (w9.re t 0) (w9.re t 0).heap.size A l := hA.ups (e9.re t 0)
 refine Go.wp_mono (toSaidS_wp A c l (w9.re t 0) hA1 hn rfl) (bodyPost_mono fun e wa he => ?_)
 obtain ⟨ga, rfl, hga, hba, hBa⟩ := he
 refine ⟨_, rfl, fun hFa _ => ?_⟩
 have e9a : Ups w9 wa := ups_of (v := w9) (t := t) hBa
 have hWa := hW9.ups (by have := e34.size; omega) e9a
 have hHa : RI wa wa.heap.size Ag (markL 1 lw.length) := (hH9.ups (Nat.le_refl _) e9a).more e9a.size
 clear hA1 hBa hW9 hH9
 walk_nrm
 refine bridges_call rfl rfl (by k_ne) rfl rfl rfl hFa hba.RD_ hn (fun wb uh hFb eab hGb0 => ?_)
 rw [← Hl.out] at hGb0
 rw [← Hbo.out]
 obtain ⟨Ah, ch, rfl⟩ := own_form hGb0
 walk_nrm
 refine kOp closedS.bodies hK hFb (val := .tuple #[.slice Ah lw.length ch, .bool bo]) (by k_ne) rfl rfl (by kernel_rfl) (fun v₁ hv => by go_simp <;> rfl) ?_
 walk_nrm
 refine kOp closedS.bodies hK hFb (val := .slice Ah lw.length ch) (by k_ne) rfl rfl (by kernel_rfl) (fun v₁ hv => by go_simp <;> rfl) ?_
 walk_nrm
 refine kOp closedS.bodies hK hFb (val := .bool bo) (by k_ne) rfl rfl (by kernel_rfl) (fun v₁ hv => by go_simp <;> rfl) ?_
 walk_nrm
 refine kOp closedS.bodies hK hFb (val := .slice Ah lw.length ch) (by k_ne) rfl rfl (by kernel_rfl) (fun v₁ hv => by go_simp <;> rfl) ?_
 walk_nrm
 refine kOp closedS.bodies hK hFb (val := .bool bo) (by k_ne) rfl rfl (by kernel_rfl) (fun v₁ hv => by go_simp <;> rfl) ?_
 walk_nrm
 refine kRegEnd hK hFb ?_
 have hWb := hWa.ups (by have := e34.size; have := e9a.size; omega) eab
 have hHb : RI wb wb.heap.size Ag (markL 1 lw.length) := (hHa.ups (Nat.le_refl _) eab).more eab.size
 clear hWa hHa hba hFa hF9
 refine kSeq hK hFb (kLift closedS hK hFb (by kernel_rfl) (by k_ne) fun t => ?_)
 generalize hQ : Behind _ _ _ _ _ = Q
 have hR1 : RI (wb.re t 0) _ Ah lw := RI.of_own hGb0
 have hR2 : RI (wb.re t 0) B0 Aw lw := hWb
 go_wp2_with (go_at_call 22; refine (eqIntS_any _ _ _ _ lw lw (wb.re t 0) _ _ hR1 hR2 hlen hlen).mono ?_; rintro e w' ⟨rfl, n2, rfl⟩)
 subst hQ
 refine fun _ _ => KA.drewN ?_ _
 clear hR1 hR2
 refine kSeq hK hFb (kLift closedS hK hFb (by kernel_rfl) (by k_ne) fun t => ?_)
 generalize hQ : Behind _ _ _ _ _ = Q
 go_wp2
 subst hQ
 refine fun _ _ => KA.re ?_
 refine kSeq hK hFb (kLift closedS hK hFb (by kernel_rfl) (by k_ne) fun t => ?_)
 generalize hQ : Behind _ _ _ _ _ = Q
 have hH1 : RI (wb.re t 0) (wb.re t 0).heap.size Ag (markL 1 lw.length) := hHb
 go_wp2_with (go_at_call 25; refine (heldIntS_ok Ag cg lw.length 1 _ _ hH1 hlen (by omega) (by omega)).mono ?_; rintro e w' ⟨rfl, rfl⟩)
 subst hQ
 refine fun _ _ => KA.re ?_
 clear hH1
 refine kLift closedS hK hFb (by kernel_rfl) (by k_ne) fun t => ?_
 generalize hQ : Behind _ _ _ _ _ = Q
 go_wp2
 subst hQ
 refine fun todo _ _ => KA.re ?_
 exact law_ret rfl rfl Try.func7 rfl (by kernel_rfl) rfl
end Go.Proofs.Ythmgpkcijolljaa
