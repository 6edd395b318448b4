/-
  The law FnForwardField, walked: it returns true and writes nothing that was there.
-/
import Derived.Test.YtelaeepkajbfnaaField3
import Derived.Test.YtelaeepkajbfnaaDraw4
namespace Go.Proofs.Ytelaeepkajbfnaa
open Go.RowKit
set_option linter.unusedSimpArgs false
set_option linter.unusedVariables false

theorem wf_u8 {x : Int} (h : (Lit.int .u8 x).wf = true) : 0 ≤ x ∧ x ≤ 255 := by simpa [Lit.wf, IntKind.min, IntKind.max, IntKind.signed, IntKind.bits] using h
theorem fieldB_of {l : List Int} (h1 : l.length ≤ 20) (h2 : ∀ x ∈ l, 0 ≤ x ∧ x ≤ 6) : fieldB l = true := by
  unfold fieldB allIn
  rw [Bool.and_eq_true, List.all_eq_true]
  exact ⟨fun x hx => inB_true.2 (h2 x hx), by simp; omega⟩
theorem endF_end {l : List (Int × Int)} {n : Nat} {x e : Int} (h : endF l n x = some e) : lkp l e = none := by
  induction n generalizing x with
  | zero => cases h
  | succ n ih =>
    rw [endF] at h
    cases hl : lkp l x with
    | none =>
      rw [hl] at h
      have e2 : x = e := Option.some.inj h
      rw [← e2]
      exact hl
    | some y =>
      rw [hl] at h
      exact ih h
theorem endF_stop {l : List (Int × Int)} {x : Int} (h : lkp l x = none) (n : Nat) : endF l (n + 1) x = some x := by rw [endF, h]
theorem enI_spec {l : List (Int × Int)} {x : Int} (h : enB l x = true) : endF l (l.length + 1) x = some (enI l x) := by
  unfold enB at h
  unfold enI endI
  cases he : endF l (l.length + 1) x with
  | none => rw [he] at h; cases h
  | some e => rfl
theorem enI_again {l : List (Int × Int)} {x : Int} (h : enB l x = true) : enB l (enI l x) = true ∧ enI l (enI l x) = enI l x := by
  have h1 := endF_stop (endF_end (enI_spec h)) l.length
  constructor
  · unfold enB
    rw [h1]
    rfl
  · have h2 : enI l (enI l x) = endI (endF l (l.length + 1) (enI l x)) := rfl
    rw [h2, h1]
    rfl
theorem ff_parts {l : List (Int × Int)} {f : List Int} (h : ffB l f = true) : rulesB l = true ∧ fieldB f = true ∧ ∀ x ∈ f, enB l x = true := by
  unfold ffB at h
  simp only [Bool.and_eq_true, List.all_eq_true] at h
  exact ⟨h.1.1, h.1.2, h.2⟩
theorem ff_field {l : List (Int × Int)} {f : List Int} (h : ffB l f = true) : fieldB (f.map (enI l)) = true := by
  obtain ⟨h1, h2, h3⟩ := ff_parts h
  obtain ⟨a, b⟩ := fieldB_true h2
  refine fieldB_of (by simpa using a) fun y hy => ?_
  obtain ⟨x, hx, rfl⟩ := List.mem_map.1 hy
  exact endF_range h1 (b x hx) (enI_spec (h3 x hx))
theorem ff_again {l : List (Int × Int)} {f : List Int} (h : ffB l f = true) : ffB l (f.map (enI l)) = true ∧ ffL l (f.map (enI l)) = f.map (enI l) := by
  obtain ⟨h1, h2, h3⟩ := ff_parts h
  have e : ffB l (f.map (enI l)) = true := by
    unfold ffB
    simp only [Bool.and_eq_true, List.all_eq_true]
    refine ⟨⟨h1, ff_field h⟩, fun y hy => ?_⟩
    obtain ⟨x, hx, rfl⟩ := List.mem_map.1 hy
    exact (enI_again (h3 x hx)).1
  refine ⟨e, ?_⟩
  unfold ffL
  rw [if_pos e, List.map_map]
  refine List.map_congr_left fun x hx => ?_
  exact (enI_again (h3 x hx)).2
theorem ff_line {l : List (Int × Int)} {f : List Int} (h : ffB l f = true) {k : Nat} (hk : k < f.length) : flB l f[k] = true ∧ flV l f[k] = enI l f[k] := by
  obtain ⟨h1, h2, h3⟩ := ff_parts h
  have hx := h3 _ (List.getElem_mem hk)
  have hr := (fieldB_true h2).2 _ (List.getElem_mem hk)
  have hi : inB f[k] 0 6 = true := inB_true.2 hr
  constructor
  · unfold flB
    rw [h1, hi, enI_spec hx]
    rfl
  · unfold flV
    rw [h1, hi]
    rfl
theorem ff_same {l : List (Int × Int)} {f : List Int} (h : ffB l f = true) {i j : Int} (hs : sameB f i j = true) : sameB (f.map (enI l)) i j = true := by
  unfold sameB at hs ⊢
  simp only [Bool.and_eq_true, beq_iff_eq] at hs ⊢
  obtain ⟨⟨⟨a, b⟩, c⟩, d⟩ := hs
  have pb := plugB_true b
  have pc := plugB_true c
  refine ⟨⟨⟨ff_field h, ?_⟩, ?_⟩, ?_⟩
  · unfold plugB at b ⊢
    simpa using b
  · unfold plugB at c ⊢
    simpa using c
  · rw [List.getD_eq_getElem?_getD, List.getD_eq_getElem?_getD, List.getElem?_eq_getElem (by omega), List.getElem?_eq_getElem (by omega)] at d
    rw [List.getD_eq_getElem?_getD, List.getD_eq_getElem?_getD, List.getElem?_eq_getElem (by simp; omega), List.getElem?_eq_getElem (by simp; omega)]
    simp only [Option.getD_some, List.getElem_map] at d ⊢
    rw [d]
set_option maxRecDepth 100000 in
set_option maxHeartbeats 8000000 in
theorem FnForwardField_walk (A0 : Option Addr) (l0 : List Int) (c0 : Nat) (w : World) (h0 : Reads w w.heap.size 1 A0 l0.length (l0.map (Value.int .u8))) (hc0 : l0.length ≤ c0) (hm0 : c0 ≤ maxLen) (hw0 : ∀ x ∈ l0, (Lit.int .u8 x).wf = true) :
    Calls Try.prog 8 #[.slice A0 l0.length c0] w fun e w' => e = .returned (.bool true) ∧ Below w.heap.size w w' := by
  by_cases hn0 : l0.length ≤ 1048576
  case neg =>
    have h' : 1048576 < l0.length := by omega
    clear h0 hn0 hw0 hc0 hm0
    go_enter Try.func8, Try.ntmps8
    go_wp2
    go_ret
    exact ⟨rfl, Below.refl _ _⟩
  have hRB : RB w w.heap.size A0 l0 := ⟨h0, fun x hx => wf_u8 (hw0 x hx)⟩
  have HM := Lib.hid hm0
  clear h0 hw0 hm0
  go_enter Try.func8, Try.ntmps8
  go_wp2_with fail
  refine (DrawForwardField_any A0 c0 l0 w hRB hc0 HM.out hn0).mono ?_
  rintro e w1 ⟨L, A, c, F, A', c', rfl, hL, hF, o1, p1, B1⟩
  have hn : L.length ≤ 1048576 := by omega
  have hn' : F.length ≤ 1048576 := by omega
  clear hRB hc0 hn0
  have hgl := ffL_len (l := L) hn'
  go_wp2_with fail
  refine (iForwardField_any A c L A' c' F w1 (RR.of_own o1) (RI.of_own p1) hn hn').mono ?_
  rintro e w2 ⟨A2, c2, rfl, q2, hbel2⟩
  have B2 := B1.trans (hbel2.mono B1.size)
  have o2 := own_below o1 hbel2
  have p2 := own_below p1 hbel2
  clear o1 p1
  go_wp2_with fail
  refine (sForwardField_any A c L A' c' F w2 (RR.of_own o2) (RI.of_own p2) hn hn').mono ?_
  rintro e w3 ⟨A3, c3, rfl, q3, hbel3⟩
  have B3 := B2.trans (hbel3.mono B2.size)
  have o3 := own_below o2 hbel3
  have p3 := own_below p2 hbel3
  have q3' := own_below q2 hbel3
  clear o2 p2 q2 hbel2
  have hbb : (ffB L F != ffB L F) = false := by simp
  have hbe : (ffB L F == ffB L F) = true := by simp
  go_wp2_with fail
  refine (cbSame_same A2 A3 c2 c3 (ffL L F) w3 _ _ (RI.of_own q3') (RI.of_own q3) hgl).mono ?_
  rintro e v4 ⟨rfl, n4, rfl⟩
  have B4 := below_drewN B3 n4
  have o4 := own_drewN o3 n4
  have p4 := own_drewN p3 n4
  have r4 := own_drewN q3' n4
  have s4 := own_drewN q3 n4
  generalize w3.drewN n4 = w4 at B4 o4 p4 r4 s4 ⊢
  clear o3 p3 q3 q3' B3 hbel3
  cases hff : ffB L F
  · go_wp2_with fail
    refine (cbSame_same A2 A3 c2 c3 (ffL L F) w4 _ _ (RI.of_own r4) (RI.of_own s4) hgl).mono ?_
    rintro e v5 ⟨rfl, n5, rfl⟩
    go_wp2_with fail
    go_ret
    exact ⟨rfl, below_drewN B4 n5⟩
  · have HFF := Lib.hid hff
    have hGL : ffL L F = F.map (enI L) := by unfold ffL; rw [if_pos hff]
    clear s4 hbb hbe hgl
    rw [hGL] at r4 ⊢
    have HG : Hid ((F.map (enI L)).length = F.length) := Lib.hid (by simp)
    have hg6 : (F.map (enI L)).length ≤ 1048576 := by rw [HG.out]; exact hn'
    obtain ⟨G, hG⟩ : ∃ G, F.map (enI L) = G := ⟨_, rfl⟩
    rw [hG] at r4 HG hg6 ⊢
    have HGE := Lib.hid hG
    have hge : ((G.length : Int) == (F.length : Int)) = true := by rw [HG.out]; simp
    have HA := Lib.hid (ff_again HFF.out)
    rw [hG] at HA
    have HS := Lib.hid (fun i j => ff_same HFF.out (i := i) (j := j))
    rw [hG] at HS
    clear hff hGL hG
    go_wp2_with fail
    go_loopw [9] (fun i wr => ∃ k : Nat, k ≤ F.length ∧ i = .int .i64 k ∧ Below w4.heap.size w4 wr) (fun i _ => F.length - (intOf i).toNat)
    case atStart => exact ⟨0, Nat.zero_le _, rfl, Below.refl _ _⟩
    case round =>
      obtain ⟨k, hk, rfl, hbr⟩ := hrel
      have or := own_below o4 hbr
      have pr := own_below p4 hbr
      have gr := own_below r4 hbr
      have Br := B4.trans (hbr.mono B4.size)
      by_cases hlt : k < F.length
      · obtain ⟨ad, rfl, _, hc⟩ := (RI.of_own pr).at_ hlt
        obtain ⟨f1, f2⟩ := ff_line HFF.out hlt
        have F1 := Lib.hid f1
        have F2 := Lib.hid f2
        clear f1 f2
        go_wp2_with fail
        refine (iForwardLine_any A c L F[k] wr (RR.of_own or) hn).mono ?_
        rintro e w5 ⟨rfl, hbel5⟩
        rw [F1.out, F2.out]
        have hbr5 := hbr.trans (hbel5.mono hbr.size)
        have p5 := own_below p4 hbr5
        have g5 := own_below r4 hbr5
        have hlg : k < G.length := by rw [HG.out]; exact hlt
        obtain ⟨ag, rfl, _, hcg⟩ := (RI.of_own g5).at_ hlg
        have hgk : G[k] = enI L F[k] := by
          have := HGE.out
          subst this
          simp
        rw [hgk] at hcg
        obtain ⟨v, hv⟩ : ∃ v, enI L F[k] = v := ⟨_, rfl⟩
        rw [hv] at hcg ⊢
        have hvv : (v != v) = false := by simp
        clear hgk hv hc F1 F2
        go_wp2_with fail
        go_loopw [12] (fun i wr => ∃ j : Nat, j ≤ F.length ∧ i = .int .i64 j ∧ Below w5.heap.size w5 wr) (fun i _ => F.length - (intOf i).toNat)
        case atStart => exact ⟨0, Nat.zero_le _, rfl, Below.refl _ _⟩
        case round =>
          obtain ⟨j, hj, rfl, hb6⟩ := hrel
          have p6 := own_below p5 hb6
          by_cases hlt2 : j < F.length
          · cases hs : sameB F k j
            · go_wp2_with fail
              refine (iSameLine_any (some ad) c' F k j _ (RI.of_own p6) hn').mono ?_
              rintro e w7 ⟨rfl, hb7⟩
              rw [hs]
              go_wp2_with fail
              go_roundw
              case rel => exact ⟨j + 1, by omega, by go_num, hb6.trans (hb7.mono hb6.size)⟩
              case measure => simp [intOf]; omega
            · have hs2 := HS.out _ _ hs
              go_wp2_with fail
              refine (iSameLine_any (some ad) c' F k j _ (RI.of_own p6) hn').mono ?_
              rintro e w7 ⟨rfl, hb7⟩
              rw [hs]
              have hb67 := hb6.trans (hb7.mono hb6.size)
              have g7 := own_below g5 hb67
              go_wp2_with fail
              refine (iSameLine_any (some ag) c2 G k j _ (RI.of_own g7) hg6).mono ?_
              rintro e w8 ⟨rfl, hb8⟩
              rw [hs2]
              go_wp2_with fail
              go_roundw
              case rel => exact ⟨j + 1, by omega, by go_num, hb67.trans (hb8.mono hb67.size)⟩
              case measure => simp [intOf]; omega
          · obtain rfl : j = F.length := by omega
            have hbe := hbr5.trans (hb6.mono hbr5.size)
            go_wp2_with fail
            go_roundw
            case rel => exact ⟨k + 1, by omega, by go_num, hbe⟩
            case measure => simp [intOf]; omega
      · obtain rfl : k = F.length := by omega
        go_wp2_with fail
        refine (iForwardField_any A c L A2 c2 G wr (RR.of_own or) (RI.of_own gr) hn hg6).mono ?_
        rintro e w5 ⟨A5, c5, rfl, q5, hbel5⟩
        have B5 := Br.trans (hbel5.mono Br.size)
        have g5 := own_below gr hbel5
        rw [HA.out.2] at q5 ⊢
        go_wp2_with fail
        refine (cbSame_same A5 A2 c5 c2 G w5 _ _ (RI.of_own q5) (RI.of_own g5) hg6).mono ?_
        rintro e v6 ⟨rfl, n6, rfl⟩
        go_wp2_with fail
        go_ret
        exact ⟨rfl, below_drewN B5 n6⟩
end Go.Proofs.Ytelaeepkajbfnaa
