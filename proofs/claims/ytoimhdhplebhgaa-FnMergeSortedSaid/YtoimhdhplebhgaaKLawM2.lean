/-
  The law FnMergeSorted, walked beside leavers.
-/
import Derived.Test.YtoimhdhplebhgaaKLawM1
import Derived.Test.YtoimhdhplebhgaaKSort3
import Derived.Test.YtoimhdhplebhgaaKSpecS
import Derived.Test.YtoimhdhplebhgaaG12
import Derived.Test.YtoimhdhplebhgaaG13
import Derived.Test.YtoimhdhplebhgaaKGo2
namespace Go.Proofs.Ytoimhdhplebhgaa
open Go.Conc Go.RowKit Go.Conc.Lib Go.ConcR.Gen
set_option linter.unusedSimpArgs false
set_option linter.unusedVariables false

theorem cntk_le (l : List Int) (x : Int) (k : Nat) : cnt l x k ≤ k := by
  unfold cnt
  exact Nat.le_trans List.count_le_length (by rw [List.length_take]; exact Nat.min_le_left _ _)
theorem own_re {w : World} {base n sz : Nat} {e : TypeId} {v : Value} {xs : List Value} (h : w.ownsRow base e sz v n xs) (t : Nat → Question → Nat) (d : Nat) : (w.re t d).ownsRow base e sz v n xs := h
/-- a list of one row -/
theorem OII.one {w w' : World} {A : Option Addr} {c : Nat} {l : List Int} {base : Nat} (h : w.ownsRow base 3 1 (.slice A l.length c) l.length (ints l)) (hb : base ≤ w.heap.size) (ho : w'.heap = (w.alloc (.cells #[.slice A l.length c] 25)).heap) :
    OII w' base (.slice (some ⟨w.heap.size, 0, none⟩) 1 1) [.slice A l.length c] [l] := by
  have hlow : ∀ b, b < w.heap.size → w'.heap[b]? = w.heap[b]? := fun b hb' => by rw [ho]; exact Below.heap_alloc w _ b hb'
  have hc := h.2
  refine ⟨rfl, ⟨rfl, .inr ⟨w.heap.size, 1, #[.slice A l.length c], rfl, hb, by rw [ho]; exact heap_alloc_new w _, Nat.le_refl _, by unfold maxLen; omega, rfl, rfl⟩⟩, fun i u l' h1 h2 => ?_, ?_⟩
  · have hi : i = 0 := by
      have := (List.getElem?_eq_some_iff.1 h1).1
      simpa using this
    subst hi
    simp at h1 h2
    subst h1 h2
    exact own_blocks h fun b hb' => hlow b (h.lt b hb').2
  · intro i j u u' hij h1 h2
    have h3 := (List.getElem?_eq_some_iff.1 h1).1
    have h4 := (List.getElem?_eq_some_iff.1 h2).1
    simp at h3 h4
    omega
set_option maxRecDepth 100000 in
set_option maxHeartbeats 16000000 in
theorem FnMergeSorted_wins (A0 : Option Addr) (l0 : List Int) (c0 : Nat) (W : World) (h0 : Reads W W.heap.size 1 A0 l0.length (l0.map (Value.int .u8))) (hc0 : l0.length ≤ c0) (hm0 : c0 ≤ maxLen) (hw0 : ∀ x ∈ l0, (Lit.int .u8 x).wf = true) :
    KA KL (G (Frame.enter Try.prog 5 #[.slice A0 l0.length c0] .normal) []) W.shutAll := by
  have hF := (shutAll_veil noGlobals W).flat
  have hRB : RB W.shutAll W.shutAll.heap.size A0 l0 := ⟨shutAll_reads h0, fun x hx => wf_u8 (hw0 x hx)⟩
  generalize W.shutAll = v at hF hRB ⊢
  have HM := Lib.hid hm0
  clear h0 hw0 hm0
  have hK := kl_ok
  rw [enter_at _ Try.func5 rfl]
  walk_nrmf Try.f5
  refine kSeq hK hF (kLift closedS hK hF (by kernel_rfl) (by k_ne) fun t => ?_)
  generalize hQ : Behind _ _ _ _ _ = Q
  go_wp2
  subst hQ
  refine fun _ _ => KA.re ?_
  by_cases hn0 : l0.length ≤ 1048576
  case neg =>
    have h' : 1048576 < l0.length := by omega
    clear hRB hn0
    refine kSeq hK hF (kLift closedS hK hF (by kernel_rfl) (by k_ne) fun t => ?_)
    generalize hQ : Behind _ _ _ _ _ = Q
    go_wp2
    subst hQ
    refine fun todo _ _ => KA.re ?_
    exact law_ret rfl rfl Try.func5 rfl (by kernel_rfl) rfl
  refine kSeq hK hF (kLift closedS hK hF (by kernel_rfl) (by k_ne) fun t => ?_)
  generalize hQ : Behind _ _ _ _ _ = Q
  go_wp2
  subst hQ
  refine fun _ _ => KA.re ?_
  refine kSeq hK hF (kLift closedS hK hF (by kernel_rfl) (by k_ne) fun t => ?_)
  generalize hQ : Behind _ _ _ _ _ = Q
  have hRt : RB (v.re t 0) (v.re t 0).heap.size A0 l0 := hRB.keep fun _ _ => rfl
  go_wp2_with fail
  refine (DrawMergeSorted_any A0 c0 l0 _ hRt hc0 HM.out hn0).mono ?_
  rintro e w1 ⟨V, M, A, c, rfl, h4, h41, hO, hb⟩
  go_wp2_with fail
  subst hQ
  refine fun hF1 _ => ?_
  have hn1 : M.length ≤ 1048576 := by omega
  have hn3 : ∀ l ∈ M, l.length ≤ 1048576 := fun l hl => by have := h41 l hl; omega
  obtain ⟨l, hl⟩ : ∃ l, l = sL M := ⟨_, rfl⟩
  have hlen : l.length ≤ 1000 := by rw [hl]; exact sL_len _
  have hlen' : l.length ≤ 1048576 := by omega
  obtain ⟨bo, hbo⟩ : ∃ bo, bo = sB M := ⟨_, rfl⟩
  have Hl := Lib.hid hl
  have Hbo := Lib.hid hbo
  clear hl hbo hb hRt hRB hn0 hc0
  refine kSeq hK hF1 (kRegion hK hF1 ?_)
  refine kOp closedS.bodies hK hF1 (val := .slice A M.length c) (by k_ne) rfl rfl (by kernel_rfl) (fun v₁ hv => by go_simp <;> rfl) ?_
  walk_nrm
  refine sorted_call (V := V) rfl rfl (by k_ne) rfl rfl hF1 hO hn1 hn3 (fun w2 sg hF2 hb2 hG2 => ?_)
  rw [← Hl.out] at hG2
  rw [← Hbo.out]
  obtain ⟨Ag, cg, rfl⟩ := own_form hG2
  have e12 := ext_of' hb2
  have hO2 := oii_ext hO e12
  clear hb2 hO hF hF1
  walk_nrm
  refine kOp closedS.bodies hK hF2 (val := .tuple #[.slice Ag l.length cg, .bool bo]) (by k_ne) rfl rfl (by kernel_rfl) (fun v₁ hv => by go_simp <;> rfl) ?_
  walk_nrm
  refine kOp closedS.bodies hK hF2 (val := .slice Ag l.length cg) (by k_ne) rfl rfl (by kernel_rfl) (fun v₁ hv => by go_simp <;> rfl) ?_
  walk_nrm
  refine kOp closedS.bodies hK hF2 (val := .bool bo) (by k_ne) rfl rfl (by kernel_rfl) (fun v₁ hv => by go_simp <;> rfl) ?_
  walk_nrm
  refine kOp closedS.bodies hK hF2 (val := .slice Ag l.length cg) (by k_ne) rfl rfl (by kernel_rfl) (fun v₁ hv => by go_simp <;> rfl) ?_
  walk_nrm
  refine kOp closedS.bodies hK hF2 (val := .bool bo) (by k_ne) rfl rfl (by kernel_rfl) (fun v₁ hv => by go_simp <;> rfl) ?_
  walk_nrm
  refine kRegEnd hK hF2 ?_
  refine kSeq hK hF2 (kLift closedS hK hF2 (by kernel_rfl) (by k_ne) fun t => ?_)
  generalize hQ : Behind _ _ _ _ _ = Q
  have hOt := oii_re hO2 t
  go_wp2_with fail
  refine (sMergeSorted_any _ _ M V _ _ hOt hn1 hn3).mono ?_
  rintro e w3 ⟨Aw, cw, rfl, hw3, hb3⟩
  rw [← Hl.out] at hw3
  rw [← Hl.out, ← Hbo.out]
  go_wp2_with fail
  subst hQ
  refine fun hF3 _ => ?_
  have e23 : Ext w2 w3 := ext_of (v := w2) (t := t) hb3
  have hO3 := oii_ext hO2 e23
  have hG3 := own_ext hG2 e23
  clear hb3 hO2 hG2 hOt hF2
  have hbb : (bo != bo) = false := by simp
  have hbe : (bo == bo) = true := by simp
  cases hbc : bo
  case false =>
    subst hbc
    refine kSeq hK hF3 (kLift closedS hK hF3 (by kernel_rfl) (by k_ne) fun t => ?_)
    generalize hQ : Behind _ _ _ _ _ = Q
    have hR1 : RI (w3.re t 0) _ _ l := RI.of_own hG3
    have hR2 : RI (w3.re t 0) _ _ l := RI.of_own hw3
    clear hO3 hG3 hw3
    go_wp2_with fail
    refine (cbSame_same _ _ _ _ l (w3.re t 0) _ _ hR1 hR2 hlen').mono ?_
    rintro e w' ⟨rfl, n2, rfl⟩
    have hR3 := RI.drewN hR1 n2
    have hR4 := RI.drewN hR2 n2
    go_wp2_with fail
    refine (cbSame_same _ _ _ _ l _ _ _ hR3 hR4 hlen').mono ?_
    rintro e w' ⟨rfl, n3, rfl⟩
    rw [World.drewN_drewN]
    go_wp2_with fail
    subst hQ
    refine fun todo _ _ => KA.drewN ?_ _
    exact law_ret rfl rfl Try.func5 rfl (by kernel_rfl) rfl
  subst hbc
  refine kSeq hK hF3 (kLift closedS hK hF3 (by kernel_rfl) (by k_ne) fun t => ?_)
  generalize hQ : Behind _ _ _ _ _ = Q
  have hR1 : RI (w3.re t 0) _ _ l := RI.of_own hG3
  have hR2 : RI (w3.re t 0) _ _ l := RI.of_own hw3
  go_wp2_with fail
  refine (cbSame_same _ _ _ _ l (w3.re t 0) _ _ hR1 hR2 hlen').mono ?_
  rintro e w' ⟨rfl, n2, rfl⟩
  go_wp2_with fail
  subst hQ
  refine fun _ _ => KA.drewN ?_ _
  clear hR1 hR2 hw3 hbb hbe
  have hsB := Hbo.out.symm
  have hlB := (sB_true hsB).1
  obtain ⟨la, hla⟩ : ∃ la, la = aL M := ⟨_, rfl⟩
  have hlae : la.length = l.length := by rw [hla, Hl.out]; exact len_same hsB
  have Hla := Lib.hid hla
  have Hcnt := Lib.hid (fun x => cnt_same hsB x)
  rw [← hla, ← Hl.out] at Hcnt
  have HsB := Lib.hid hsB
  clear hla hsB
  refine kSeq hK hF3 (kRegion hK hF3 ?_)
  refine kOp closedS.bodies hK hF3 (val := .slice A M.length c) (by k_ne) rfl rfl (by kernel_rfl) (fun v₁ hv => by go_simp <;> rfl) ?_
  walk_nrm
  refine around_call (V := V) rfl rfl (by k_ne) rfl rfl hF3 hO3 hn1 hn3 (fun w4 sa hF4 hb4 hA4 => ?_)
  rw [← Hla.out] at hA4
  rw [hlB]
  obtain ⟨Aa, ca, rfl⟩ := own_form hA4
  have e34 := ext_of' hb4
  have hG4 := own_ext hG3 e34
  clear hb4 hO3 hG3 hF3 hlB
  walk_nrm
  refine kOp closedS.bodies hK hF4 (val := .tuple #[.slice Aa la.length ca, .bool true]) (by k_ne) rfl rfl (by kernel_rfl) (fun v₁ hv => by go_simp <;> rfl) ?_
  walk_nrm
  refine kOp closedS.bodies hK hF4 (val := .slice Aa la.length ca) (by k_ne) rfl rfl (by kernel_rfl) (fun v₁ hv => by go_simp <;> rfl) ?_
  walk_nrm
  refine kOp closedS.bodies hK hF4 (val := .bool true) (by k_ne) rfl rfl (by kernel_rfl) (fun v₁ hv => by go_simp <;> rfl) ?_
  walk_nrm
  refine kOp closedS.bodies hK hF4 (val := .slice Aa la.length ca) (by k_ne) rfl rfl (by kernel_rfl) (fun v₁ hv => by go_simp <;> rfl) ?_
  walk_nrm
  refine kOp closedS.bodies hK hF4 (val := .bool true) (by k_ne) rfl rfl (by kernel_rfl) (fun v₁ hv => by go_simp <;> rfl) ?_
  walk_nrm
  refine kRegEnd hK hF4 ?_
  refine kSeq hK hF4 (kLift closedS hK hF4 (by kernel_rfl) (by k_ne) fun t => ?_)
  generalize hQ : Behind _ _ _ _ _ = Q
  have hRo : RI (w4.re t 0) (w4.re t 0).heap.size Ag l := RI.of_own hG4
  have hRa : RI (w4.re t 0) (w4.re t 0).heap.size Aa la := RI.of_own hA4
  have Hup := Lib.hid (fun k (h : k + 1 < l.length) => (show l[k] ≤ l[k + 1] from by
    have h1 := sL_up HsB.out
    rw [← Hl.out] at h1
    exact (ascB_iff l).1 (pair_asc h1) k h))
  go_wp2
  go_loopw [10] (fun iv wr => ∃ j n : Nat, j ≤ l.length ∧ iv = .int .i64 j ∧ wr = (w4.re t 0).drewN n) (fun iv _ => l.length - (intOf iv).toNat)
  case atStart => exact ⟨0, 0, Nat.zero_le _, rfl, rfl⟩
  case round =>
    obtain ⟨j, nq, hj, rfl, rfl⟩ := hrel
    by_cases hjl : j < l.length
    case neg =>
      obtain rfl : j = l.length := by omega
      go_wp2
      subst hQ
      refine fun _ _ => KA.drewN ?_ _
      refine kSeq hK hF4 (kRegion hK hF4 ?_)
      refine kOp closedS.bodies hK hF4 (val := .slice Ag l.length cg) (by k_ne) rfl rfl (by kernel_rfl) (fun v₁ hv => by go_simp <;> rfl) ?_
      walk_nrm
      refine kOpN closedS.bodies hK hF4 (val := .slice (some ⟨w4.heap.size, 0, none⟩) 1 1) (v' := w4.alloc (.cells #[.slice Ag l.length cg] 25)) (by k_ne) rfl rfl (by kernel_rfl) (fun t e => by go_simp <;> exact ⟨rfl, rfl⟩) ?_
      walk_nrm
      intro hF5
      have hO5 : OII (w4.alloc (.cells #[.slice Ag l.length cg] 25)) 0 (.slice (some ⟨w4.heap.size, 0, none⟩) 1 1) [.slice Ag l.length cg] [l] := OII.one (own_mono hG4 (Nat.zero_le _)) (Nat.zero_le _) rfl
      have hG5 : (w4.alloc (.cells #[.slice Ag l.length cg] 25)).ownsRow 0 3 1 (.slice Ag l.length cg) l.length (ints l) := own_blocks (own_mono hG4 (Nat.zero_le _)) fun b hb => Below.heap_alloc w4 _ b (hG4.lt b hb).2
      generalize w4.alloc (.cells #[.slice Ag l.length cg] 25) = w5 at hF5 hO5 hG5 ⊢
      have hb40 : Hid (l.length ≤ 40 → sL [l] = l) := Lib.hid (fun h => by
        have h1 := (sL_again HsB.out (by rw [← Hl.out]; exact h)).1
        rwa [← Hl.out] at h1)
      have hls := sL_len [l]
      obtain ⟨m, hm⟩ : ∃ m, m = sL [l] := ⟨_, rfl⟩
      obtain ⟨bm, hbm⟩ : ∃ bm, bm = sB [l] := ⟨_, rfl⟩
      have Hm := Lib.hid hm
      have Hbm := Lib.hid hbm
      rw [← hm] at hls
      clear hm hbm
      refine sorted_call (M := [l]) (B0 := 0) (V := [.slice Ag l.length cg]) rfl rfl (by k_ne) rfl rfl hF5 hO5 (by simp) (fun x hx => by rw [List.mem_singleton.1 hx]; exact hlen') (fun w6 sm hF6 hb6 hM6 => ?_)
      rw [← Hm.out] at hM6
      rw [← Hbm.out]
      obtain ⟨Am, cm, rfl⟩ := own_form hM6
      have e56 := ext_of' hb6
      have hG6 := own_ext hG5 e56
      clear hb6 hO5 hG5 hF5
      walk_nrm
      refine kOp closedS.bodies hK hF6 (val := .tuple #[.slice Am m.length cm, .bool bm]) (by k_ne) rfl rfl (by kernel_rfl) (fun v₁ hv => by go_simp <;> rfl) ?_
      walk_nrm
      refine kOp closedS.bodies hK hF6 (val := .slice Am m.length cm) (by k_ne) rfl rfl (by kernel_rfl) (fun v₁ hv => by go_simp <;> rfl) ?_
      walk_nrm
      refine kOp closedS.bodies hK hF6 (val := .bool bm) (by k_ne) rfl rfl (by kernel_rfl) (fun v₁ hv => by go_simp <;> rfl) ?_
      walk_nrm
      refine kOp closedS.bodies hK hF6 (val := .slice Am m.length cm) (by k_ne) rfl rfl (by kernel_rfl) (fun v₁ hv => by go_simp <;> rfl) ?_
      walk_nrm
      refine kOp closedS.bodies hK hF6 (val := .bool bm) (by k_ne) rfl rfl (by kernel_rfl) (fun v₁ hv => by go_simp <;> rfl) ?_
      walk_nrm
      refine kRegEnd hK hF6 ?_
      have ele : ((la.length : Int) == (l.length : Int)) = true := by rw [hlae]; simp
      by_cases h40 : l.length ≤ 40
      · have hml : m = l := by rw [Hm.out]; exact hb40.out h40
        subst hml
        refine kSeq hK hF6 (kLift closedS hK hF6 (by kernel_rfl) (by k_ne) fun t => ?_)
        generalize hQ : Behind _ _ _ _ _ = Q
        have hR1 : RI (w6.re t 0) _ _ m := RI.of_own hM6
        have hR2 : RI (w6.re t 0) _ _ m := RI.of_own hG6
        have hd1 : ¬ (40 : Int) < (m.length : Int) := by omega
        clear hM6 hG6 hA4 hG4
        go_wp2_with fail
        refine (cbSame_same _ _ _ _ m (w6.re t 0) _ _ hR1 hR2 hlen').mono ?_
        rintro e w' ⟨rfl, n2, rfl⟩
        go_wp2_with fail
        subst hQ
        refine fun _ _ => KA.drewN ?_ _
        refine kRet hK hF6 ?_
        exact law_ret rfl rfl Try.func5 rfl (by kernel_rfl) rfl
      · have hd1 : (40 : Int) < (l.length : Int) := by omega
        clear h40 hM6 hG6 hA4 hG4
        refine kSeq hK hF6 (kLift closedS hK hF6 (by kernel_rfl) (by k_ne) fun t => ?_)
        generalize hQ : Behind _ _ _ _ _ = Q
        go_wp2
        subst hQ
        refine fun _ _ => KA.re ?_
        refine kRet hK hF6 ?_
        exact law_ret rfl rfl Try.func5 rfl (by kernel_rfl) rfl
    obtain ⟨ad, rfl, hb1, hc1⟩ := hRo.at_ hjl
    obtain ⟨x, hx⟩ : ∃ x, l[j] = x := ⟨_, rfl⟩
    have hjI : (j : Int) < (l.length : Int) := by omega
    have HO := Lib.hid hRo
    have HA := Lib.hid hRa
    have HC := Lib.hid (Hcnt.out x)
    have HX := Lib.hid hx
    rw [hx] at hc1
    rcases Nat.eq_zero_or_pos j with hj0 | hj0
    · have hg : decide ((0 : Int) < (j : Int)) = false := decide_eq_false (by omega)
      have hgn : decide (0 < j) = false := decide_eq_false (by omega)
      clear hj0
      clear hx hRo hRa
      go_wp2
      go_quiet (fail)
      go_wp2
      go_loopw [11, 12, 13] (fun av bv kv wx => ∃ k a b n : Nat, k ≤ la.length ∧ kv = .int .i64 k ∧ av = .int .i64 a ∧ bv = .int .i64 b ∧ a = cnt la x k ∧ b = cnt l x k ∧ wx = (w4.re t 0).drewN n) (fun _ _ kv _ => la.length - (intOf kv).toNat)
      case atStart => exact ⟨0, 0, 0, _, Nat.zero_le _, rfl, rfl, rfl, (cnt_zero _ _).symm, (cnt_zero _ _).symm, World.drewN_drewN _ _ _⟩
      case round =>
        obtain ⟨k, a, b, n2, hk, rfl, rfl, rfl, ha, hb, rfl⟩ := hrel
        by_cases hkl : k < la.length
        · have hkl' : k < l.length := by omega
          obtain ⟨aa, rfl, hba, hca⟩ := HA.out.at_ hkl
          obtain ⟨_, e, hbo, hco⟩ := HO.out.at_ hkl'
          injection e with e
          subst e
          have hs1 := cnt_succ (x := x) hkl
          have hs2 := cnt_succ (x := x) hkl'
          have hak : a ≤ k := by rw [ha]; exact cntk_le _ _ _
          have hbk : b ≤ k := by rw [hb]; exact cntk_le _ _ _
          obtain ⟨y, hy⟩ : ∃ y, la[k] = y := ⟨_, rfl⟩
          obtain ⟨z, hz⟩ : ∃ z, l[k] = z := ⟨_, rfl⟩
          rw [hy] at hca hs1
          rw [hz] at hco hs2
          have HS := Lib.hid (And.intro hs1 (And.intro hs2 (And.intro ha hb)))
          have hki : (k : Int) < (la.length : Int) := by omega
          have hkj : (k : Int) < (l.length : Int) := by omega
          have hal : a ≤ 1000 := by omega
          have hbl : b ≤ 1000 := by omega
          have hkm : k ≤ 1000 := by omega
          clear hy hz hs1 hs2 ha hb hak hbk hkl'
          by_cases hyx : y = x
          · by_cases hzx : z = x
            · have HE := Lib.hid (And.intro hyx hzx)
              have e1 : (y == x) = true := by simp [hyx]
              have e2 : (z == x) = true := by simp [hzx]
              clear hyx hzx
              go_wp2
              go_quiet (fail)
              try rw [e1]
              go_wp2
              go_quiet (fail)
              try rw [e2]
              go_wp2
              go_roundw
              case rel => exact ⟨k + 1, a + 1, b + 1, _, by omega, by go_num, by go_num, by go_num, by rw [HS.out.1, ← HS.out.2.2.1, if_pos HE.out.1], by rw [HS.out.2.1, ← HS.out.2.2.2, if_pos HE.out.2], rfl⟩
              case measure => simp [intOf]; omega
            · have HE := Lib.hid (And.intro hyx hzx)
              have e1 : (y == x) = true := by simp [hyx]
              have e2 : (z == x) = false := by simp [hzx]
              clear hyx hzx
              go_wp2
              go_quiet (fail)
              try rw [e1]
              go_wp2
              go_quiet (fail)
              try rw [e2]
              go_wp2
              go_roundw
              case rel => exact ⟨k + 1, a + 1, b, _, by omega, by go_num, by go_num, rfl, by rw [HS.out.1, ← HS.out.2.2.1, if_pos HE.out.1], by rw [HS.out.2.1, ← HS.out.2.2.2, if_neg HE.out.2, Nat.add_zero], rfl⟩
              case measure => simp [intOf]; omega
          · by_cases hzx : z = x
            · have HE := Lib.hid (And.intro hyx hzx)
              have e1 : (y == x) = false := by simp [hyx]
              have e2 : (z == x) = true := by simp [hzx]
              clear hyx hzx
              go_wp2
              go_quiet (fail)
              try rw [e1]
              go_wp2
              go_quiet (fail)
              try rw [e2]
              go_wp2
              go_roundw
              case rel => exact ⟨k + 1, a, b + 1, _, by omega, by go_num, rfl, by go_num, by rw [HS.out.1, ← HS.out.2.2.1, if_neg HE.out.1, Nat.add_zero], by rw [HS.out.2.1, ← HS.out.2.2.2, if_pos HE.out.2], rfl⟩
              case measure => simp [intOf]; omega
            · have HE := Lib.hid (And.intro hyx hzx)
              have e1 : (y == x) = false := by simp [hyx]
              have e2 : (z == x) = false := by simp [hzx]
              clear hyx hzx
              go_wp2
              go_quiet (fail)
              try rw [e1]
              go_wp2
              go_quiet (fail)
              try rw [e2]
              go_wp2
              go_roundw
              case rel => exact ⟨k + 1, a, b, _, by omega, by go_num, rfl, rfl, by rw [HS.out.1, ← HS.out.2.2.1, if_neg HE.out.1, Nat.add_zero], by rw [HS.out.2.1, ← HS.out.2.2.2, if_neg HE.out.2, Nat.add_zero], rfl⟩
              case measure => simp [intOf]; omega
        · have hab : a = b := by
            have h1 := HC.out
            rw [ha, hb, show k = la.length by omega, h1, hlae]
          subst hab
          have en : ((a : Int) != (a : Int)) = false := by simp
          clear ha hb
          go_wp2
          go_roundw
          case rel => exact ⟨j + 1, n2, by omega, by go_num, rfl⟩
          case measure => simp [intOf]; omega
    · obtain ⟨m, hm⟩ : ∃ m, j = m + 1 := ⟨j - 1, by omega⟩
      have hml : m + 1 < l.length := by omega
      obtain ⟨_, e, hb2, hc2⟩ := hRo.at_ (k := m) (Nat.lt_of_succ_lt hml)
      injection e with e
      subst e
      have hup := Hup.out m hml
      have hjx : l[m + 1] = x := by rw [← hx]; simp [hm]
      rw [hjx] at hup
      obtain ⟨y, hy⟩ : ∃ y, l[m]'(Nat.lt_of_succ_lt hml) = y := ⟨_, rfl⟩
      rw [hy] at hc2 hup
      have hg : decide ((0 : Int) < (j : Int)) = true := decide_eq_true (by omega)
      have hm1 : ((j : Int) - 1).toNat = m := by omega
      have hm2 : (0 : Int) ≤ (j : Int) - 1 := by omega
      have hm3 : (j : Int) - 1 < (l.length : Int) := by omega
      have hm5 : IntKind.i64.wrap ((j : Int) - 1) = (j : Int) - 1 := by rw [IntKind.wrap_i64] <;> omega
      have hd : decide (x < y) = false := decide_eq_false (by omega)
      clear hx hjx hy hup hml hRo hRa
      clear hm
      go_wp2
      go_quiet (fail)
      go_wp2
      go_loopw [11, 12, 13] (fun av bv kv wx => ∃ k a b n : Nat, k ≤ la.length ∧ kv = .int .i64 k ∧ av = .int .i64 a ∧ bv = .int .i64 b ∧ a = cnt la x k ∧ b = cnt l x k ∧ wx = (w4.re t 0).drewN n) (fun _ _ kv _ => la.length - (intOf kv).toNat)
      case atStart => exact ⟨0, 0, 0, _, Nat.zero_le _, rfl, rfl, rfl, (cnt_zero _ _).symm, (cnt_zero _ _).symm, World.drewN_drewN _ _ _⟩
      case round =>
        obtain ⟨k, a, b, n2, hk, rfl, rfl, rfl, ha, hb, rfl⟩ := hrel
        by_cases hkl : k < la.length
        · have hkl' : k < l.length := by omega
          obtain ⟨aa, rfl, hba, hca⟩ := HA.out.at_ hkl
          obtain ⟨_, e, hbo, hco⟩ := HO.out.at_ hkl'
          injection e with e
          subst e
          have hs1 := cnt_succ (x := x) hkl
          have hs2 := cnt_succ (x := x) hkl'
          have hak : a ≤ k := by rw [ha]; exact cntk_le _ _ _
          have hbk : b ≤ k := by rw [hb]; exact cntk_le _ _ _
          obtain ⟨y, hy⟩ : ∃ y, la[k] = y := ⟨_, rfl⟩
          obtain ⟨z, hz⟩ : ∃ z, l[k] = z := ⟨_, rfl⟩
          rw [hy] at hca hs1
          rw [hz] at hco hs2
          have HS := Lib.hid (And.intro hs1 (And.intro hs2 (And.intro ha hb)))
          have hki : (k : Int) < (la.length : Int) := by omega
          have hkj : (k : Int) < (l.length : Int) := by omega
          have hal : a ≤ 1000 := by omega
          have hbl : b ≤ 1000 := by omega
          have hkm : k ≤ 1000 := by omega
          clear hy hz hs1 hs2 ha hb hak hbk hkl'
          by_cases hyx : y = x
          · by_cases hzx : z = x
            · have HE := Lib.hid (And.intro hyx hzx)
              have e1 : (y == x) = true := by simp [hyx]
              have e2 : (z == x) = true := by simp [hzx]
              clear hyx hzx
              go_wp2
              go_quiet (fail)
              try rw [e1]
              go_wp2
              go_quiet (fail)
              try rw [e2]
              go_wp2
              go_roundw
              case rel => exact ⟨k + 1, a + 1, b + 1, _, by omega, by go_num, by go_num, by go_num, by rw [HS.out.1, ← HS.out.2.2.1, if_pos HE.out.1], by rw [HS.out.2.1, ← HS.out.2.2.2, if_pos HE.out.2], rfl⟩
              case measure => simp [intOf]; omega
            · have HE := Lib.hid (And.intro hyx hzx)
              have e1 : (y == x) = true := by simp [hyx]
              have e2 : (z == x) = false := by simp [hzx]
              clear hyx hzx
              go_wp2
              go_quiet (fail)
              try rw [e1]
              go_wp2
              go_quiet (fail)
              try rw [e2]
              go_wp2
              go_roundw
              case rel => exact ⟨k + 1, a + 1, b, _, by omega, by go_num, by go_num, rfl, by rw [HS.out.1, ← HS.out.2.2.1, if_pos HE.out.1], by rw [HS.out.2.1, ← HS.out.2.2.2, if_neg HE.out.2, Nat.add_zero], rfl⟩
              case measure => simp [intOf]; omega
          · by_cases hzx : z = x
            · have HE := Lib.hid (And.intro hyx hzx)
              have e1 : (y == x) = false := by simp [hyx]
              have e2 : (z == x) = true := by simp [hzx]
              clear hyx hzx
              go_wp2
              go_quiet (fail)
              try rw [e1]
              go_wp2
              go_quiet (fail)
              try rw [e2]
              go_wp2
              go_roundw
              case rel => exact ⟨k + 1, a, b + 1, _, by omega, by go_num, rfl, by go_num, by rw [HS.out.1, ← HS.out.2.2.1, if_neg HE.out.1, Nat.add_zero], by rw [HS.out.2.1, ← HS.out.2.2.2, if_pos HE.out.2], rfl⟩
              case measure => simp [intOf]; omega
            · have HE := Lib.hid (And.intro hyx hzx)
              have e1 : (y == x) = false := by simp [hyx]
              have e2 : (z == x) = false := by simp [hzx]
              clear hyx hzx
              go_wp2
              go_quiet (fail)
              try rw [e1]
              go_wp2
              go_quiet (fail)
              try rw [e2]
              go_wp2
              go_roundw
              case rel => exact ⟨k + 1, a, b, _, by omega, by go_num, rfl, rfl, by rw [HS.out.1, ← HS.out.2.2.1, if_neg HE.out.1, Nat.add_zero], by rw [HS.out.2.1, ← HS.out.2.2.2, if_neg HE.out.2, Nat.add_zero], rfl⟩
              case measure => simp [intOf]; omega
        · have hab : a = b := by
            have h1 := HC.out
            rw [ha, hb, show k = la.length by omega, h1, hlae]
          subst hab
          have en : ((a : Int) != (a : Int)) = false := by simp
          clear ha hb
          go_wp2
          go_roundw
          case rel => exact ⟨j + 1, n2, by omega, by go_num, rfl⟩
          case measure => simp [intOf]; omega
end Go.Proofs.Ytoimhdhplebhgaa
