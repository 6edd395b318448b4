/-
  The law FnMergeAround, walked beside leavers.
-/
import Derived.Test.YtoimhdhplebhgaaKLawK
import Derived.Test.YtoimhdhplebhgaaG13
namespace Go.Proofs.Ytoimhdhplebhgaa
open Go.Conc Go.RowKit Go.Conc.Lib Go.ConcR.Gen
set_option linter.unusedSimpArgs false
set_option linter.unusedVariables false

theorem wf_u8 {x : Int} (h : (Lit.int .u8 x).wf = true) : 0 ≤ x ∧ x ≤ 255 := by simpa [Lit.wf, IntKind.min, IntKind.max, IntKind.signed, IntKind.bits] using h
theorem mem_take_snoc {α : Type} {M : List α} {j : Nat} {x : α} (hj : j < M.length) (h : x ∈ M.take (j + 1)) : x ∈ M.take j ∨ x = M[j] := by
  rw [take_snoc M j hj] at h
  rcases List.mem_append.1 h with h1 | h1
  · exact .inl h1
  · exact .inr (List.mem_singleton.1 h1)
theorem sum_take_snoc {M : List (List Int)} {j : Nat} (hj : j < M.length) : ((M.take (j + 1)).map List.length).sum = ((M.take j).map List.length).sum + M[j].length := by
  rw [take_snoc M j hj, List.map_append, List.sum_append]
  rfl
set_option maxRecDepth 100000 in
set_option maxHeartbeats 16000000 in
theorem FnMergeAround_wins (A0 : Option Addr) (l0 : List Int) (c0 : Nat) (W : World) (h0 : Reads W W.heap.size 1 A0 l0.length (l0.map (Value.int .u8))) (hc0 : l0.length ≤ c0) (hm0 : c0 ≤ maxLen) (hw0 : ∀ x ∈ l0, (Lit.int .u8 x).wf = true) :
    KA KL (G (Frame.enter Try.prog 3 #[.slice A0 l0.length c0] .normal) []) W.shutAll := by
  have hF := (shutAll_veil noGlobals W).flat
  have hRB : RB W.shutAll W.shutAll.heap.size A0 l0 := ⟨shutAll_reads h0, fun x hx => wf_u8 (hw0 x hx)⟩
  generalize W.shutAll = v at hF hRB ⊢
  have HM := Lib.hid hm0
  clear h0 hw0 hm0
  have hK := kl_ok
  rw [enter_at _ Try.func3 rfl]
  walk_nrmf Try.f3
  refine kSeq hK hF (kLift closedS hK hF (by kernel_rfl) (by k_ne) fun t => ?_)
  generalize hQ : Behind _ _ _ _ _ = Q
  go_wp2
  subst hQ
  refine fun _ _ => KA.re ?_
  by_cases hn0 : l0.length ≤ 1048576
  case neg =>
    have h' : 1048576 < l0.length := by omega
    clear hRB hn0
    refine kSeq hK hF (kLift closedS hK hF (by kernel_rfl) (by k_ne) fun t => ?_)
    generalize hQ : Behind _ _ _ _ _ = Q
    go_wp2
    subst hQ
    refine fun todo _ _ => KA.re ?_
    exact law_ret rfl rfl Try.func3 rfl (by kernel_rfl) rfl
  refine kSeq hK hF (kLift closedS hK hF (by kernel_rfl) (by k_ne) fun t => ?_)
  generalize hQ : Behind _ _ _ _ _ = Q
  go_wp2
  subst hQ
  refine fun _ _ => KA.re ?_
  refine kSeq hK hF (kLift closedS hK hF (by kernel_rfl) (by k_ne) fun t => ?_)
  generalize hQ : Behind _ _ _ _ _ = Q
  have hRt : RB (v.re t 0) (v.re t 0).heap.size A0 l0 := hRB.keep fun _ _ => rfl
  go_wp2_with fail
  refine (DrawMergeAround_any A0 c0 l0 _ hRt hc0 HM.out hn0).mono ?_
  rintro e w1 ⟨V, M, A, c, rfl, h4, h41, hO, hb⟩
  go_wp2_with fail
  subst hQ
  refine fun hF1 _ => ?_
  have hn1 : M.length ≤ 1048576 := by omega
  have hn3 : ∀ l ∈ M, l.length ≤ 1048576 := fun l hl => by have := h41 l hl; omega
  obtain ⟨l, hl⟩ : ∃ l, l = aL M := ⟨_, rfl⟩
  have hlen : l.length ≤ 1048576 := by rw [hl]; exact Nat.le_trans (aL_len _) (by omega)
  obtain ⟨bo, hbo⟩ : ∃ bo, bo = listsB M := ⟨_, rfl⟩
  have Hl := Lib.hid hl
  have Hbo := Lib.hid hbo
  clear hl hbo hb hRt hRB hn0 hc0
  refine kSeq hK hF1 (kRegion hK hF1 ?_)
  refine kOp closedS.bodies hK hF1 (val := .slice A M.length c) (by k_ne) rfl rfl (by kernel_rfl) (fun v₁ hv => by go_simp <;> rfl) ?_
  walk_nrm
  refine around_call (V := V) rfl rfl (by k_ne) rfl rfl hF1 hO hn1 hn3 (fun w2 sg hF2 hb2 hG2 => ?_)
  rw [← Hl.out] at hG2
  rw [← Hbo.out]
  obtain ⟨Ag, cg, rfl⟩ := own_form hG2
  have e12 := ext_of' hb2
  have hO2 := oii_ext hO e12
  clear hb2 hO hF hF1
  walk_nrm
  refine kOp closedS.bodies hK hF2 (val := .tuple #[.slice Ag l.length cg, .bool bo]) (by k_ne) rfl rfl (by kernel_rfl) (fun v₁ hv => by go_simp <;> rfl) ?_
  walk_nrm
  refine kOp closedS.bodies hK hF2 (val := .slice Ag l.length cg) (by k_ne) rfl rfl (by kernel_rfl) (fun v₁ hv => by go_simp <;> rfl) ?_
  walk_nrm
  refine kOp closedS.bodies hK hF2 (val := .bool bo) (by k_ne) rfl rfl (by kernel_rfl) (fun v₁ hv => by go_simp <;> rfl) ?_
  walk_nrm
  refine kOp closedS.bodies hK hF2 (val := .slice Ag l.length cg) (by k_ne) rfl rfl (by kernel_rfl) (fun v₁ hv => by go_simp <;> rfl) ?_
  walk_nrm
  refine kOp closedS.bodies hK hF2 (val := .bool bo) (by k_ne) rfl rfl (by kernel_rfl) (fun v₁ hv => by go_simp <;> rfl) ?_
  walk_nrm
  refine kRegEnd hK hF2 ?_
  refine kSeq hK hF2 (kLift closedS hK hF2 (by kernel_rfl) (by k_ne) fun t => ?_)
  generalize hQ : Behind _ _ _ _ _ = Q
  have hOt := oii_re hO2 t
  go_wp2_with fail
  refine (sMergeAround_any _ _ M V _ _ hOt hn1 hn3).mono ?_
  rintro e w3 ⟨Aw, cw, rfl, hw3, hb3⟩
  rw [← Hl.out] at hw3
  rw [← Hl.out, ← Hbo.out]
  go_wp2_with fail
  subst hQ
  refine fun hF3 _ => ?_
  have e23 : Ext w2 w3 := ext_of (v := w2) (t := t) hb3
  have hO3 := oii_ext hO2 e23
  have hG3 := own_ext hG2 e23
  clear hb3 hO2 hG2 hOt hF2
  have hbb : (bo != bo) = false := by simp
  have hbe : (bo == bo) = true := by simp
  cases hbc : bo
  case false =>
    subst hbc
    refine kSeq hK hF3 (kLift closedS hK hF3 (by kernel_rfl) (by k_ne) fun t => ?_)
    generalize hQ : Behind _ _ _ _ _ = Q
    have hR1 : RI (w3.re t 0) _ _ l := RI.of_own hG3
    have hR2 : RI (w3.re t 0) _ _ l := RI.of_own hw3
    clear hO3 hG3 hw3
    go_wp2_with fail
    refine (cbSame_same _ _ _ _ l (w3.re t 0) _ _ hR1 hR2 hlen).mono ?_
    rintro e w' ⟨rfl, n2, rfl⟩
    have hR3 := RI.drewN hR1 n2
    have hR4 := RI.drewN hR2 n2
    go_wp2_with fail
    refine (cbSame_same _ _ _ _ l _ _ _ hR3 hR4 hlen).mono ?_
    rintro e w' ⟨rfl, n3, rfl⟩
    rw [World.drewN_drewN]
    go_wp2_with fail
    subst hQ
    refine fun todo _ _ => KA.drewN ?_ _
    exact law_ret rfl rfl Try.func3 rfl (by kernel_rfl) rfl
  subst hbc
  refine kSeq hK hF3 (kLift closedS hK hF3 (by kernel_rfl) (by k_ne) fun t => ?_)
  generalize hQ : Behind _ _ _ _ _ = Q
  have hR1 : RI (w3.re t 0) _ _ l := RI.of_own hG3
  have hR2 : RI (w3.re t 0) _ _ l := RI.of_own hw3
  go_wp2_with fail
  refine (cbSame_same _ _ _ _ l (w3.re t 0) _ _ hR1 hR2 hlen).mono ?_
  rintro e w' ⟨rfl, n2, rfl⟩
  go_wp2_with fail
  subst hQ
  refine fun _ _ => KA.drewN ?_ _
  clear hR1 hR2 hw3 hbb hbe
  refine kSeq hK hF3 (kLift closedS hK hF3 (by kernel_rfl) (by k_ne) fun t => ?_)
  generalize hQ : Behind _ _ _ _ _ = Q
  go_wp2
  subst hQ
  refine fun _ _ => KA.re ?_
  refine kSeq hK hF3 (kLift closedS hK hF3 (by kernel_rfl) (by k_ne) fun t => ?_)
  generalize hQ : Behind _ _ _ _ _ = Q
  have hOt := oii_re hO3 t
  go_wp2
  go_loopw [8, 9, 10] (fun nv mv i wr => ∃ j mm N : Nat, j ≤ M.length ∧ i = .int .i64 j ∧ nv = .int .i64 N ∧ mv = .int .i64 mm ∧ N = ((M.take j).map List.length).sum ∧ N ≤ 41 * j ∧ mm ≤ 41 ∧ (∀ x ∈ M.take j, x.length ≤ mm) ∧ wr = w3.re t 0) (fun _ _ i _ => M.length - (intOf i).toNat)
  case atStart => exact ⟨0, 0, 0, Nat.zero_le _, rfl, rfl, rfl, by simp, by omega, by omega, by simp, rfl⟩
  case round =>
    obtain ⟨j, mm, N, hj, rfl, rfl, rfl, hN, hN2, hmm, hall, rfl⟩ := hrel
    by_cases hlt : j < M.length
    · obtain ⟨ad, A1, c1, rfl, hb, hc1, _, hr1⟩ := hOt.at_ hlt
      have hn := h41 M[j] (List.getElem_mem _)
      have hS := sum_take_snoc hlt
      have HA := Lib.hid (fun x (hx : x ∈ M.take (j + 1)) => mem_take_snoc hlt hx)
      obtain ⟨n, hnl⟩ : ∃ n, M[j].length = n := ⟨_, rfl⟩
      rw [hnl] at hc1 hn hS
      have Hall := Lib.hid hall
      have Hnl := Lib.hid hnl
      have HS := Lib.hid hS
      have HN := Lib.hid hN
      clear hr1 hall hnl hS hN hO3 hG3 h41 hn3 hOt
      go_wp2
      go_roundw
      case rel =>
        refine ⟨j + 1, max mm n, N + n, by omega, by go_num, by go_num, ?_, by rw [HS.out, HN.out], by omega, by omega, fun x hx => ?_, trivial⟩
        · congr 1
          split <;> omega
        · rcases HA.out x hx with h1 | h1
          · have := Hall.out x h1
            omega
          · rw [h1, Hnl.out]; omega
      case measure => simp [intOf]; omega
    · obtain rfl : j = M.length := by omega
      rw [List.take_length] at hN hall
      have HN := Lib.hid hN
      have Hall := Lib.hid hall
      clear hN hall
      go_wp2
      subst hQ
      refine fun _ _ => KA.re ?_
      clear hOt
      refine kSeq hK hF3 (kLift closedS hK hF3 (by kernel_rfl) (by k_ne) fun t => ?_)
      generalize hQ : Behind _ _ _ _ _ = Q
      go_wp2
      subst hQ
      refine fun _ _ => KA.re ?_
      refine kSeq hK hF3 (kLift closedS hK hF3 (by kernel_rfl) (by k_ne) fun t => ?_)
      generalize hQ : Behind _ _ _ _ _ = Q
      have hOt := oii_re hO3 t
      have hGt : RI (w3.re t 0) _ _ l := RI.of_own hG3
      have hv := Hbo.out.symm
      clear hO3 hG3 hn3
      go_wp2
      go_loopw [11, 12] (fun av kv wr => ∃ k T n : Nat, k ≤ mm ∧ kv = .int .i64 k ∧ av = .int .i64 T ∧ T = (sTo M k 0).length ∧ wr = (w3.re t 0).drewN n) (fun _ kv _ => mm - (intOf kv).toNat)
      case atStart => exact ⟨0, 0, 0, Nat.zero_le _, rfl, rfl, by rw [sTo_zero]; rfl, rfl⟩
      case round =>
        obtain ⟨k, T, n, hk, rfl, rfl, hT, rfl⟩ := hrel
        by_cases hkm : k < mm
        · have HT := Lib.hid hT
          have HR := Lib.hid (sTo_round M k)
          clear hT
          go_wp2
          go_loopw [11, 13] (fun av jv wx => ∃ j T n : Nat, j ≤ M.length ∧ jv = .int .i64 j ∧ av = .int .i64 T ∧ T = (sTo M k j).length ∧ wx = (w3.re t 0).drewN n) (fun _ jv _ => M.length - (intOf jv).toNat)
          case atStart => exact ⟨0, T, n, Nat.zero_le _, rfl, rfl, HT.out, rfl⟩
          case round =>
            obtain ⟨j, T2, n2, hj, rfl, rfl, hT2, rfl⟩ := hrel
            by_cases hlt : j < M.length
            · obtain ⟨ad, A1, c1, rfl, hb, hc1, _, hr1⟩ := hOt.at_ hlt
              have hn := h41 M[j] (List.getElem_mem _)
              have R1 := RI.of_own hr1
              have hlen2 := sTo_len M k j
              have hmul : k * M.length ≤ 41 * 4 := Nat.mul_le_mul (by omega) h4
              by_cases hkl : k < M[j].length
              · have Hy := Lib.hid (sTo_yes hlt hkl)
                obtain ⟨ar, rfl, hbr, hcr⟩ := R1.at_ hkl
                obtain ⟨hTl, hTv⟩ := aL_get hv hlt hkl
                rw [← hT2] at hlen2
                have hTl' : T2 < l.length := by rw [hT2, Hl.out]; exact hTl
                have hTv' : l[T2] = M[j][k] := by
                  have h1 : l[T2]? = some M[j][k] := by rw [hT2, Hl.out, List.getElem?_eq_getElem hTl, hTv]
                  rw [List.getElem?_eq_getElem hTl'] at h1
                  exact Option.some.inj h1
                obtain ⟨y, hy⟩ : ∃ y, M[j][k] = y := ⟨_, rfl⟩
                rw [hy] at hcr Hy hTv'
                obtain ⟨ag, rfl, hbg, hcg⟩ := hGt.at_ hTl'
                rw [hTv'] at hcg
                have hyy : (y != y) = false := by simp
                obtain ⟨n, hnl⟩ : ∃ n, M[j].length = n := ⟨_, rfl⟩
                rw [hnl] at hc1 hkl hn
                have HT2 := Lib.hid hT2
                clear hT2 hy hTv' hTv hTl hnl hr1 R1 h41 hOt hGt hmul
                have hTi : (T2 : Int) < (l.length : Int) := by omega
                have hji : (j : Int) < (M.length : Int) := by omega
                have hki : (k : Int) < (n : Int) := by omega
                have hge : decide ((l.length : Int) ≤ (T2 : Int)) = false := decide_eq_false (by omega)
                go_wp2
                go_quiet (fail)
                go_wp2
                go_roundw
                case rel => exact ⟨j + 1, T2 + 1, _, by omega, by go_num, by go_num, by rw [Hy.out, HT2.out]; simp, rfl⟩
                case measure => simp [intOf]; omega
              · have Hno := Lib.hid (sTo_no hlt (show M[j].length ≤ k by omega))
                obtain ⟨n, hnl⟩ : ∃ n, M[j].length = n := ⟨_, rfl⟩
                rw [hnl] at hc1 hkl hn
                have HT2 := Lib.hid hT2
                clear hT2 hnl hr1 R1 h41 hOt hGt hmul
                go_wp2
                go_roundw
                case rel => exact ⟨j + 1, T2, n2, by omega, by go_num, rfl, by rw [Hno.out]; exact HT2.out, rfl⟩
                case measure => simp [intOf]; omega
            · obtain rfl : j = M.length := by omega
              have HT2 := Lib.hid hT2
              clear hT2 hOt hGt h41
              go_wp2
              go_roundw
              case rel => exact ⟨k + 1, T2, n2, by omega, by go_num, rfl, by rw [HR.out]; exact HT2.out, rfl⟩
              case measure => simp [intOf]; omega
        · obtain rfl : k = mm := by omega
          have hTN : T = N := by rw [hT, sTo_count, min_all Hall.out, HN.out]
          have hLN : l.length = N := by rw [Hl.out, aL_count hv, HN.out]
          have e1 : ((N : Int) == (N : Int)) = true := by simp
          have e2 : ((l.length : Int) == (N : Int)) = true := by rw [hLN]; simp
          clear hT hOt hGt h41
          subst hTN
          clear hLN
          go_wp2
          subst hQ
          refine fun _ _ => KA.drewN ?_ _
          refine kSeq hK hF3 (kLift closedS hK hF3 (by kernel_rfl) (by k_ne) fun t => ?_)
          generalize hQ : Behind _ _ _ _ _ = Q
          go_wp2
          subst hQ
          refine fun _ _ => KA.re ?_
          refine kRet hK hF3 ?_
          exact law_ret rfl rfl Try.func3 rfl (by kernel_rfl) rfl
end Go.Proofs.Ytoimhdhplebhgaa
