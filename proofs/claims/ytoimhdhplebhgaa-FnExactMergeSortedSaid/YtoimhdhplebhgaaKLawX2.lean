/-
  The law FnExactMergeSorted, walked beside leavers.
-/
import Derived.Test.YtoimhdhplebhgaaKLawK
import Derived.Test.YtoimhdhplebhgaaKSort3
import Derived.Test.YtoimhdhplebhgaaKSpecS
namespace Go.Proofs.Ytoimhdhplebhgaa
open Go.Conc Go.RowKit Go.Conc.Lib Go.ConcR.Gen
set_option linter.unusedSimpArgs false
set_option linter.unusedVariables false

set_option maxRecDepth 100000 in
set_option maxHeartbeats 16000000 in
theorem FnExactMergeSorted_wins (A : Option Addr) (R : List IRow) (c : Nat) (W : World) (h : RLI W W.heap.size A R) (hc : R.length ≤ c) (hm : c ≤ maxLen) (hwf : ∀ r ∈ R, ∀ x ∈ r.2.1, (Lit.int .i64 x).wf = true) :
    KA KL (G (Frame.enter Try.prog 6 #[.slice A R.length c] .normal) []) W.shutAll := by
  have hF := (shutAll_veil noGlobals W).flat
  have hA := shutAll_rli h
  have hm' : R.length ≤ maxLen := Nat.le_trans hc hm
  generalize W.shutAll = v at hF hA ⊢
  clear h hc hm hwf
  have hK := kl_ok
  rw [enter_at _ Try.func6 rfl]
  walk_nrmf Try.f6
  refine kSeq hK hF (kLift closedS hK hF (by kernel_rfl) (by k_ne) fun t => ?_)
  generalize hQ : Behind _ _ _ _ _ = Q
  go_wp2
  subst hQ
  refine fun _ _ => KA.re ?_
  refine kSeq hK hF (kLift closedS hK hF (by kernel_rfl) (by k_ne) fun t => ?_)
  generalize hQ : Behind _ _ _ _ _ = Q
  go_wp2
  subst hQ
  refine fun _ _ => KA.re ?_
  refine kSeq hK hF (kLift closedS hK hF (by kernel_rfl) (by k_ne) fun t => ?_)
  generalize hQ : Behind _ _ _ _ _ = Q
  go_wp2_with (go_at_call 11; refine (szIntSS_any A c R 1048576 _ (rli_re hA t) hm' (by omega) (by omega)).mono ?_; rintro e w' ⟨rfl, rfl⟩)
  subst hQ
  refine fun _ _ => KA.re ?_
  by_cases hs : (szAll (rowsOf R) : Int) ≤ 1048576
  case neg =>
    have hl : leftR (rowsOf R) 1048576 = -1 := leftR_no (by omega)
    rw [hl]
    refine kSeq hK hF (kLift closedS hK hF (by kernel_rfl) (by k_ne) fun t => ?_)
    generalize hQ : Behind _ _ _ _ _ = Q
    go_wp2
    subst hQ
    refine fun todo _ _ => KA.re ?_
    exact law_ret rfl rfl Try.func6 rfl (by kernel_rfl) rfl
  obtain ⟨x, hx⟩ : ∃ x, x = leftR (rowsOf R) 1048576 := ⟨_, rfl⟩
  have hx0 : 0 ≤ x := by rw [hx, leftR_ok hs]; omega
  rw [← hx]
  obtain ⟨hn1, hn2, hn3⟩ := rows_le (M := rowsOf R) (by omega)
  have hn0 : R.length ≤ 1048576 := by simpa [rowsOf_length] using hn1
  clear hx hs
  refine kSeq hK hF (kLift closedS hK hF (by kernel_rfl) (by k_ne) fun t => ?_)
  generalize hQ : Behind _ _ _ _ _ = Q
  go_wp2
  subst hQ
  refine fun _ _ => KA.re ?_
  refine kSeq hK hF (kLift closedS hK hF (by kernel_rfl) (by k_ne) fun t => ?_)
  generalize hQ : Behind _ _ _ _ _ = Q
  have hA1 := rli_re hA t
  go_wp2_with fail
  refine (toIntSS_any A c R _ hA1 hn0 hn3).mono ?_
  rintro e w1 ⟨V0, rfl, hO, hb⟩
  go_wp2_with fail
  refine (sMergeSorted_any _ _ _ V0 _ w1 hO hn1 hn3).mono ?_
  rintro e w2 ⟨Aw, cw, rfl, hw0, hb2⟩
  go_wp2_with fail
  subst hQ
  refine fun hF2 _ => ?_
  have e2 : Ext v w2 := Ext.trans (v := w1) (ext_of (v := v) (t := t) hb) (ext_of' hb2)
  have hW2 := own_mono hw0 (Nat.zero_le _)
  clear hO hb hb2 hw0 hA1
  refine kSeq hK hF2 (kLift closedS hK hF2 (by kernel_rfl) (by k_ne) fun t => ?_)
  generalize hQ : Behind _ _ _ _ _ = Q
  have hA1 := rli_re (rli_ext hA e2) t
  go_wp2_with fail
  refine (toIntSS_any A c R _ hA1 hn0 hn3).mono ?_
  rintro e w3 ⟨V, rfl, hX, hb⟩
  go_wp2_with fail
  subst hQ
  refine fun hF3 _ => ?_
  have hX3 := hX
  have e23 : Ext w2 w3 := ext_of (v := w2) (t := t) hb
  have e3 := e2.trans e23
  have hW3 := own_ext hW2 e23
  have hWl : ∀ b, (Value.slice Aw (sL (rowsOf R)).length cw).ownBlock = some b → b < w2.heap.size := fun b hb => (hW2.lt b hb).2
  obtain ⟨l, hl⟩ : ∃ l, l = sL (rowsOf R) := ⟨_, rfl⟩
  have hlen : l.length ≤ 1048576 := by rw [hl]; exact Nat.le_trans (sL_len _) (by omega)
  have hll : (l == l) = true := by simp
  obtain ⟨bo, hbo⟩ : ∃ bo, bo = sB (rowsOf R) := ⟨_, rfl⟩
  have Hl := Lib.hid hl
  have Hbo := Lib.hid hbo
  rw [← hl] at hW3 hWl
  rw [← hl, ← hbo]
  clear hl hbo hA1 hb hW2
  -- the first call
  refine kSeq hK hF3 (kRegion hK hF3 ?_)
  refine kOp closedS.bodies hK hF3 (val := .slice (some ⟨w2.heap.size, 0, none⟩) (rowsOf R).length (rowsOf R).length) (by k_ne) rfl rfl (by kernel_rfl) (fun v₁ hv => by go_simp <;> rfl) ?_
  walk_nrm
  refine sorted_call (B0 := w2.heap.size) (V := V) rfl rfl (by k_ne) rfl rfl hF3 hX hn1 hn3 (fun w4 sg hF4 hb4 hG4 => ?_)
  rw [← Hl.out] at hG4
  rw [← Hbo.out]
  obtain ⟨Ag, cg, rfl⟩ := own_form hG4
  have e34 := ext_of' hb4
  have hW4 := own_ext hW3 e34
  have hX4 := oii_ext hX e34
  have e4 := e3.trans e34
  have hGb : ∀ b, (Value.slice Ag l.length cg).ownBlock = some b → w3.heap.size ≤ b := fun b hb => (hG4.lt b hb).1
  clear hb4 hX hW3 hF hF2 hF3
  walk_nrm
  refine kOp closedS.bodies hK hF4 (val := .tuple #[.slice Ag l.length cg, .bool bo]) (by k_ne) rfl rfl (by kernel_rfl) (fun v₁ hv => by go_simp <;> rfl) ?_
  walk_nrm
  refine kOp closedS.bodies hK hF4 (val := .slice Ag l.length cg) (by k_ne) rfl rfl (by kernel_rfl) (fun v₁ hv => by go_simp <;> rfl) ?_
  walk_nrm
  refine kOp closedS.bodies hK hF4 (val := .bool bo) (by k_ne) rfl rfl (by kernel_rfl) (fun v₁ hv => by go_simp <;> rfl) ?_
  walk_nrm
  refine kOp closedS.bodies hK hF4 (val := .slice Ag l.length cg) (by k_ne) rfl rfl (by kernel_rfl) (fun v₁ hv => by go_simp <;> rfl) ?_
  walk_nrm
  refine kOp closedS.bodies hK hF4 (val := .bool bo) (by k_ne) rfl rfl (by kernel_rfl) (fun v₁ hv => by go_simp <;> rfl) ?_
  walk_nrm
  refine kRegEnd hK hF4 ?_
  refine kSeq hK hF4 (kLift closedS hK hF4 (by kernel_rfl) (by k_ne) fun t => ?_)
  generalize hQ : Behind _ _ _ _ _ = Q
  have hR1 : RI (w4.re t 0) _ _ l := RI.of_own hG4
  have hR2 : RI (w4.re t 0) _ _ l := RI.of_own hW4
  go_wp2_with (go_at_call 13; refine (eqIntS_any _ _ _ _ l l (w4.re t 0) _ _ hR1 hR2 hlen hlen).mono ?_; rintro e w' ⟨rfl, n2, rfl⟩)
  subst hQ
  refine fun _ _ => KA.drewN ?_ _
  clear hR1 hR2
  refine kSeq hK hF4 (kLift closedS hK hF4 (by kernel_rfl) (by k_ne) fun t => ?_)
  generalize hQ : Behind _ _ _ _ _ = Q
  have hA1 := rli_re (rli_ext hA e4) t
  have hX1 := oii_re hX4 t
  go_wp2_with fail
  refine (toIntSS_any A c R _ hA1 hn0 hn3).mono ?_
  rintro e w5 ⟨V5, rfl, hY, hb⟩
  go_wp2_with fail
  have hb' : Below w4.heap.size (w4.re t 0) w5 := hb
  refine (eqIntSS_same _ _ _ _ (rowsOf R) V V5 _ _ w5 (hX1.below hb) hY hn1 hn3).mono ?_
  rintro e w6 ⟨rfl, hb6⟩
  go_wp2_with fail
  subst hQ
  refine fun hF6 _ => ?_
  have e46 : Ext w4 w6 := Ext.trans (v := w5) (ext_of (v := w4) (t := t) hb) (ext_of' hb6)
  have hW6 := own_ext hW4 e46
  have hG6 := own_ext hG4 e46
  have hX6 := oii_ext hX4 e46
  have e6 := e4.trans e46
  have hs6 := e46.size
  clear hA1 hX1 hb hb' hb6 hY hX4 hW4 hG4 hF4
  refine kSeq hK hF6 (kLift closedS hK hF6 (by kernel_rfl) (by k_ne) fun t => ?_)
  generalize hQ : Behind _ _ _ _ _ = Q
  go_wp2
  subst hQ
  refine fun _ _ => KA.re ?_
  refine kSeq hK hF6 (kLift closedS hK hF6 (by kernel_rfl) (by k_ne) fun t => ?_)
  generalize hQ : Behind _ _ _ _ _ = Q
  have hX1 := oii_re hX6 t
  have hsz : w2.heap.size ≤ w6.heap.size := by have := e23.size; have := e34.size; omega
  go_wp2_with (go_at_call 15; refine (markIntSS_any _ _ (rowsOf R) V w2.heap.size _ hX1 hn1 hn2 hsz).mono ?_; rintro e w7 ⟨rfl, hX7, hb7, hkr⟩)
  subst hQ
  refine fun hF7 _ => ?_
  have hb7' : Below w2.heap.size w6 (w7.re w6.tape w6.drawn) := ⟨hb7.os, rfl, hb7.output, hb7.size, hb7.block⟩
  have hkr' : KeptRows V w6 w7 := hkr
  have e7 : Ext v w7 := ⟨Nat.le_trans e6.size hb7.size, fun b hb => (hb7.block b (by have := e2.size; omega)).trans (e6.blk b hb)⟩
  have hW7 : w7.ownsRow 0 3 1 (.slice Aw l.length cw) l.length (ints l) := own_blocks hW6 fun b hb => hb7.block b (hWl b hb)
  have hG7 : w7.ownsRow w3.heap.size 3 1 (.slice Ag l.length cg) l.length (ints l) := own_of_kept hG6 hkr' fun b hb u hu e => by
    obtain ⟨i, hi⟩ := List.getElem?_of_mem hu
    have hiM : i < (rowsOf R).length := by rw [hX3.len]; exact (List.getElem?_eq_some_iff.1 hi).1
    have h8 := ((hX3.row i u _ hi (List.getElem?_eq_getElem hiM)).lt b e).2
    have h9 := hGb b hb
    omega
  have hk0 : ¬ kTo 1 (rowsOf R) (rowsOf R).length < 0 := by have := kTo_bound (G := rowsOf R) 1 (rowsOf R).length; omega
  obtain ⟨kk, hkk⟩ : ∃ kk, kk = kTo 1 (rowsOf R) (rowsOf R).length := ⟨_, rfl⟩
  rw [← hkk] at hk0 ⊢
  have hs7 := hb7.size
  clear hX1 hX6 hX7 hb7 hb7' hkr hkr' hW6 hG6 hF6 hkk
  refine kSeq hK hF7 (kLift closedS hK hF7 (by kernel_rfl) (by k_ne) fun t => ?_)
  generalize hQ : Behind _ _ _ _ _ = Q
  have hR1 : RI (w7.re t 0) _ _ l := RI.of_own hG7
  have hR2 : RI (w7.re t 0) _ _ l := RI.of_own hW7
  go_wp2_with (go_at_call 13; refine (eqIntS_any _ _ _ _ l l (w7.re t 0) _ _ hR1 hR2 hlen hlen).mono ?_; rintro e w' ⟨rfl, n2, rfl⟩)
  subst hQ
  refine fun _ _ => KA.drewN ?_ _
  clear hR1 hR2
  refine kSeq hK hF7 (kLift closedS hK hF7 (by kernel_rfl) (by k_ne) fun t => ?_)
  generalize hQ : Behind _ _ _ _ _ = Q
  go_wp2
  subst hQ
  refine fun _ _ => KA.re ?_
  refine kSeq hK hF7 (kLift closedS hK hF7 (by kernel_rfl) (by k_ne) fun t => ?_)
  generalize hQ : Behind _ _ _ _ _ = Q
  have hG1 : (w7.re t 0).ownsRow w3.heap.size 3 1 (.slice Ag l.length cg) l.length (ints l) := hG7
  go_wp2_with (go_at_call 16; refine (markIntS_any Ag cg l 1 _ w3.heap.size hG1 hlen (by omega) (by omega)).mono ?_; rintro e w8 ⟨rfl, hG8, hg8⟩)
  subst hQ
  refine fun hF8 _ => ?_
  have hg8' : w7.grownBy (w8.re w7.tape w7.drawn) (Value.slice Ag l.length cg).ownBlock := ⟨hg8.os, rfl, hg8.output, hg8.size, hg8.block⟩
  have e8 : Ext v w8 := ⟨Nat.le_trans e7.size hg8.size, fun b hb => (hg8.block b (Nat.lt_of_lt_of_le hb e7.size) (fun e => by have := hGb b e.symm; have := e3.size; omega)).trans (e7.blk b hb)⟩
  have hW8 : w8.ownsRow 0 3 1 (.slice Aw l.length cw) l.length (ints l) := own_blocks hW7 fun b hb => hg8.block b (hW7.lt b hb).2 (fun e => by have := hGb b e.symm; have := hWl b hb; have := e23.size; omega)
  have hH8 := RI.of_marks hG8
  have hnn : ((1 + l.length : Int) != 1 + l.length) = false := by simp
  have hnp : ¬ ((1 + l.length : Int) < 0) := by omega
  clear hg8 hg8' hG1 hW7 hG7 hF7
  refine kSeq hK hF8 (kLift closedS hK hF8 (by kernel_rfl) (by k_ne) fun t => ?_)
  generalize hQ : Behind _ _ _ _ _ = Q
  go_wp2
  subst hQ
  refine fun _ _ => KA.re ?_
  refine kSeq hK hF8 (kLift closedS hK hF8 (by kernel_rfl) (by k_ne) fun t => ?_)
  generalize hQ : Behind _ _ _ _ _ = Q
  have hH1 : RI (w8.re t 0) (w8.re t 0).heap.size Ag (markL 1 l.length) := hH8
  go_wp2_with (go_at_call 17; refine (heldIntS_ok Ag cg l.length 1 _ _ hH1 hlen (by omega) (by omega)).mono ?_; rintro e w' ⟨rfl, rfl⟩)
  subst hQ
  refine fun _ _ => KA.re ?_
  clear hH1
  refine kSeq hK hF8 (kLift closedS hK hF8 (by kernel_rfl) (by k_ne) fun t => ?_)
  generalize hQ : Behind _ _ _ _ _ = Q
  go_wp2
  subst hQ
  refine fun _ _ => KA.re ?_
  refine kSeq hK hF8 (kLift closedS hK hF8 (by kernel_rfl) (by k_ne) fun t => ?_)
  generalize hQ : Behind _ _ _ _ _ = Q
  go_wp2
  subst hQ
  refine fun _ _ => KA.re ?_
  refine kSeq hK hF8 (kRegion hK hF8 ?_)
  refine kOp closedS.bodies hK hF8 (val := .slice A R.length c) (by k_ne) rfl rfl (by kernel_rfl) (fun v₁ hv => by go_simp <;> rfl) ?_
  walk_nrm
  refine kCallW closedS hK hF8 rfl rfl (by k_ne) rfl Try.func12 (by kernel_rfl) rfl (by kernel_rfl) rfl (xs := #[.slice A R.length c]) (by simp [Act.eval]) (fun t => ?_)
  refine Go.wp_mono (toIntSS_wp A c R (w8.re t 0) (rli_re (rli_ext hA e8) t) hn0 hn3 rfl) (bodyPost_mono fun e w9 he => ?_)
  obtain ⟨V9, rfl, hX9, hb9⟩ := he
  refine ⟨_, rfl, fun hF9 _ => ?_⟩
  have e89 : Ext w8 w9 := ext_of (v := w8) (t := t) hb9
  have hW9 := own_ext hW8 e89
  have hH9 := RI.ext hH8 e89
  clear hb9 hW8 hH8
  walk_nrm
  refine sorted_call (V := V9) rfl rfl (by k_ne) rfl rfl hF9 hX9 hn1 hn3 (fun wa sh hFa hba hGa => ?_)
  rw [← Hl.out] at hGa
  rw [← Hbo.out]
  obtain ⟨Ah, ch, rfl⟩ := own_form hGa
  have ea := ext_of' hba
  have hWa := own_ext hW9 ea
  have hHa := RI.ext hH9 ea
  clear hba hX9 hW9 hH9 hF8 hF9
  walk_nrm
  refine kOp closedS.bodies hK hFa (val := .tuple #[.slice Ah l.length ch, .bool bo]) (by k_ne) rfl rfl (by kernel_rfl) (fun v₁ hv => by go_simp <;> rfl) ?_
  walk_nrm
  refine kOp closedS.bodies hK hFa (val := .slice Ah l.length ch) (by k_ne) rfl rfl (by kernel_rfl) (fun v₁ hv => by go_simp <;> rfl) ?_
  walk_nrm
  refine kOp closedS.bodies hK hFa (val := .bool bo) (by k_ne) rfl rfl (by kernel_rfl) (fun v₁ hv => by go_simp <;> rfl) ?_
  walk_nrm
  refine kOp closedS.bodies hK hFa (val := .slice Ah l.length ch) (by k_ne) rfl rfl (by kernel_rfl) (fun v₁ hv => by go_simp <;> rfl) ?_
  walk_nrm
  refine kOp closedS.bodies hK hFa (val := .bool bo) (by k_ne) rfl rfl (by kernel_rfl) (fun v₁ hv => by go_simp <;> rfl) ?_
  walk_nrm
  refine kRegEnd hK hFa ?_
  refine kSeq hK hFa (kLift closedS hK hFa (by kernel_rfl) (by k_ne) fun t => ?_)
  generalize hQ : Behind _ _ _ _ _ = Q
  have hR1 : RI (wa.re t 0) _ _ l := RI.of_own hGa
  have hR2 : RI (wa.re t 0) _ _ l := RI.of_own hWa
  go_wp2_with (go_at_call 13; refine (eqIntS_any _ _ _ _ l l (wa.re t 0) _ _ hR1 hR2 hlen hlen).mono ?_; rintro e w' ⟨rfl, n2, rfl⟩)
  subst hQ
  refine fun _ _ => KA.drewN ?_ _
  clear hR1 hR2
  refine kSeq hK hFa (kLift closedS hK hFa (by kernel_rfl) (by k_ne) fun t => ?_)
  generalize hQ : Behind _ _ _ _ _ = Q
  go_wp2
  subst hQ
  refine fun _ _ => KA.re ?_
  refine kSeq hK hFa (kLift closedS hK hFa (by kernel_rfl) (by k_ne) fun t => ?_)
  generalize hQ : Behind _ _ _ _ _ = Q
  have hH1 : RI (wa.re t 0) (wa.re t 0).heap.size Ag (markL 1 l.length) := hHa
  go_wp2_with (go_at_call 17; refine (heldIntS_ok Ag cg l.length 1 _ _ hH1 hlen (by omega) (by omega)).mono ?_; rintro e w' ⟨rfl, rfl⟩)
  subst hQ
  refine fun _ _ => KA.re ?_
  clear hH1
  refine kSeq hK hFa (kLift closedS hK hFa (by kernel_rfl) (by k_ne) fun t => ?_)
  generalize hQ : Behind _ _ _ _ _ = Q
  go_wp2
  subst hQ
  refine fun _ _ => KA.re ?_
  refine kSeq hK hFa (kLift closedS hK hFa (by kernel_rfl) (by k_ne) fun t => ?_)
  generalize hQ : Behind _ _ _ _ _ = Q
  go_wp2
  subst hQ
  refine fun _ _ => KA.re ?_
  refine kSeq hK hFa (kLift closedS hK hFa (by kernel_rfl) (by k_ne) fun t => ?_)
  generalize hQ : Behind _ _ _ _ _ = Q
  go_wp2
  subst hQ
  refine fun _ _ => KA.re ?_
  refine kRet hK hFa ?_
  exact law_ret rfl rfl Try.func6 rfl (by kernel_rfl) rfl
end Go.Proofs.Ytoimhdhplebhgaa
