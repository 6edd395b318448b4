/-
  The law FnMovePlugs, walked.
-/
import Derived.Test.YtbihnjfckaeioaaLawsP
namespace Go.Proofs.Ytbihnjfckaeioaa
open Go.RowKit
set_option linter.unusedSimpArgs false
set_option linter.unusedVariables false

set_option maxRecDepth 100000 in
set_option maxHeartbeats 2000000 in
theorem FnMovePlugs_walk (A0 : Option Addr) (l0 : List Int) (c0 : Nat) (w : World) (h0 : Reads w w.heap.size 1 A0 l0.length (l0.map (Value.int .u8))) (hc0 : l0.length ≤ c0) (hm0 : c0 ≤ maxLen) (hw0 : ∀ x ∈ l0, (Lit.int .u8 x).wf = true) :
    Calls Try.prog 3 #[.slice A0 l0.length c0] w fun e w' => e = .returned (.bool true) ∧ Below w.heap.size w w' := by
  by_cases hn0 : l0.length ≤ 1048576
  case neg =>
    have h' : 1048576 < l0.length := by omega
    clear h0 hn0 hw0 hc0 hm0
    go_enter Try.func3, Try.ntmps3
    go_wp2
    go_ret
    exact ⟨rfl, Below.refl _ _⟩
  have hRB : RB w w.heap.size A0 l0 := ⟨h0, fun x hx => wf_u8 (hw0 x hx)⟩
  have HM := Lib.hid hm0
  clear h0 hw0 hm0
  go_enter Try.func3, Try.ntmps3
  go_wp2_with fail
  refine (DrawMovePlugs_any A0 c0 l0 w hRB hc0 HM.out hn0).mono ?_
  rintro e w1 ⟨F, A, c, x, y, rfl, hF, p1, B1⟩
  have hn : F.length ≤ 1048576 := by omega
  clear hRB hc0 hn0
  have hgl := moveL_len (l := F) (i := x) (x := y) hn
  go_wp2_with fail
  refine (iMovePlugs_any A c F x y w1 (RI.of_own p1) hn).mono ?_
  rintro e w2 ⟨A2, c2, rfl, q2, hbel2⟩
  have B2 := B1.trans (hbel2.mono B1.size)
  have p2 := own_below p1 hbel2
  clear p1
  go_wp2_with fail
  refine (sMovePlugs_any A c F x y w2 (RI.of_own p2) hn).mono ?_
  rintro e w3 ⟨A3, c3, rfl, q3, hbel3⟩
  have B3 := B2.trans (hbel3.mono B2.size)
  have p3 := own_below p2 hbel3
  have q3' := own_below q2 hbel3
  clear p2 q2 hbel2
  have hbb : (moveB F x y != moveB F x y) = false := by simp
  have hbe : (moveB F x y == moveB F x y) = true := by simp
  go_wp2_with fail
  refine (cbSame_same A2 A3 c2 c3 (moveL F x y) w3 _ _ (RI.of_own q3') (RI.of_own q3) hgl).mono ?_
  rintro e v4 ⟨rfl, n4, rfl⟩
  have B4 := below_drewN B3 n4
  have p4 := own_drewN p3 n4
  have r4 := own_drewN q3' n4
  have s4 := own_drewN q3 n4
  generalize w3.drewN n4 = w4 at B4 p4 r4 s4 ⊢
  clear p3 q3 q3' B3 hbel3
  cases hff : moveB F x y
  · go_wp2_with fail
    refine (cbSame_same A2 A3 c2 c3 (moveL F x y) w4 _ _ (RI.of_own r4) (RI.of_own s4) hgl).mono ?_
    rintro e v5 ⟨rfl, n5, rfl⟩
    go_wp2_with fail
    go_ret
    exact ⟨rfl, below_drewN B4 n5⟩
  · have HFF := Lib.hid hff
    have hGL : moveL F x y = F.map (mv x y) := by unfold moveL; rw [if_pos hff]
    clear s4 hbb hbe hgl
    rw [hGL] at r4 ⊢
    have HG : Hid ((F.map (mv x y)).length = F.length) := Lib.hid (by simp)
    have hg6 : (F.map (mv x y)).length ≤ 1048576 := by rw [HG.out]; exact hn
    obtain ⟨G, hG⟩ : ∃ G, F.map (mv x y) = G := ⟨_, rfl⟩
    have HFI := Lib.hid (move_field hff)
    have HS := Lib.hid (fun i j => map_same HFI.out (i := i) (j := j))
    obtain ⟨hfF, _, _⟩ := move_parts hff
    have HP : Hid (∀ v, plugsL F v = posOf F v) := Lib.hid (fun v => by unfold plugsL; rw [if_pos hfF])
    have HQ : Hid (∀ v, plugsL G v = posOf G v) := Lib.hid (fun v => by unfold plugsL; rw [← hG, if_pos HFI.out])
    rw [hG] at r4 HG hg6 HS ⊢
    have HGE := Lib.hid hG
    clear hff hGL hG hfF
    go_wp2_with fail
    go_loopw [10] (fun i wr => ∃ k : Nat, k ≤ F.length ∧ i = .int .i64 k ∧ Below w4.heap.size w4 wr) (fun i _ => F.length - (intOf i).toNat)
    case atStart => exact ⟨0, Nat.zero_le _, rfl, Below.refl _ _⟩
    case round =>
      obtain ⟨k, hk, rfl, hbr⟩ := hrel
      by_cases hlt : k < F.length
      · go_wp2_with fail
        go_loopw [11] (fun i wr => ∃ j : Nat, j ≤ F.length ∧ i = .int .i64 j ∧ Below w4.heap.size w4 wr) (fun i _ => F.length - (intOf i).toNat)
        case atStart => exact ⟨0, Nat.zero_le _, rfl, hbr⟩
        case round =>
          obtain ⟨j, hj, rfl, hb6⟩ := hrel
          have p6 := own_below p4 hb6
          by_cases hlt2 : j < F.length
          · cases hs : sameB F k j
            · go_wp2_with fail
              refine (iSameLine_any A c F k j _ (RI.of_own p6) hn).mono ?_
              rintro e w7 ⟨rfl, hb7⟩
              rw [hs]
              go_wp2_with fail
              go_roundw
              case rel => exact ⟨j + 1, by omega, by go_num, hb6.trans (hb7.mono hb6.size)⟩
              case measure => simp [intOf]; omega
            · have hs2 := HS.out _ _ hs
              go_wp2_with fail
              refine (iSameLine_any A c F k j _ (RI.of_own p6) hn).mono ?_
              rintro e w7 ⟨rfl, hb7⟩
              rw [hs]
              have hb67 := hb6.trans (hb7.mono hb6.size)
              have g7 := own_below r4 hb67
              go_wp2_with fail
              refine (iSameLine_any A2 c2 G k j _ (RI.of_own g7) hg6).mono ?_
              rintro e w8 ⟨rfl, hb8⟩
              rw [hs2]
              go_wp2_with fail
              go_roundw
              case rel => exact ⟨j + 1, by omega, by go_num, hb67.trans (hb8.mono hb67.size)⟩
              case measure => simp [intOf]; omega
          · obtain rfl : j = F.length := by omega
            go_wp2_with fail
            go_roundw
            case rel => exact ⟨k + 1, by omega, by go_num, hb6⟩
            case measure => simp [intOf]; omega
      · obtain rfl : k = F.length := by omega
        have pr := own_below p4 hbr
        have rr := own_below r4 hbr
        have Br := B4.trans (hbr.mono B4.size)
        have hla : (posOf F x).length ≤ 30 := Nat.le_trans (posOf_length_le _ _) hF
        have hlb : (posOf F y).length ≤ 30 := Nat.le_trans (posOf_length_le _ _) hF
        clear p4 r4
        go_wp2_with fail
        refine (iPlugsOf_any A c F x wr (RI.of_own pr) hn).mono ?_
        rintro e w5 ⟨A5, c5, rfl, _, hbel5⟩
        rw [HP.out]
        have B5 := Br.trans (hbel5.mono Br.size)
        have p5 := own_below pr hbel5
        have r5 := own_below rr hbel5
        clear pr rr hbel5
        go_wp2_with fail
        refine (iPlugsOf_any A c F y w5 (RI.of_own p5) hn).mono ?_
        rintro e w6 ⟨A6, c6, rfl, _, hbel6⟩
        rw [HP.out]
        have B6 := B5.trans (hbel6.mono B5.size)
        have r6 := own_below r5 hbel6
        clear p5 r5 hbel6
        by_cases hxy : x = y
        · subst hxy
          have hee : (x == x) = true := by simp
          have hlen : Hid ((posOf G x).length = (posOf F x).length) := Lib.hid (by rw [← HGE.out, move_none])
          have hll : (((posOf F x).length : Int) == ((posOf F x).length : Int)) = true := by simp
          go_wp2_with fail
          refine (iPlugsOf_any A2 c2 G x w6 (RI.of_own r6) hg6).mono ?_
          rintro e w7 ⟨A7, c7, rfl, _, hbel7⟩
          rw [HQ.out, hlen.out]
          have B7 := B6.trans (hbel7.mono B6.size)
          go_wp2_with fail
          go_ret
          exact ⟨rfl, B7⟩
        · have hee : (x == y) = false := by rw [beq_eq_false_iff_ne]; exact hxy
          have hlen : Hid ((posOf G y).length = (posOf F x).length + (posOf F y).length) := Lib.hid (by rw [← HGE.out, move_to hxy])
          have hno : Hid (posOf G x = []) := Lib.hid (by rw [← HGE.out, move_from hxy])
          have hll : (((((posOf F x).length + (posOf F y).length : Nat) : Int)) == ((posOf F x).length : Int) + ((posOf F y).length : Int)) = true := by simp
          go_wp2_with fail
          refine (iPlugsOf_any A2 c2 G y w6 (RI.of_own r6) hg6).mono ?_
          rintro e w7 ⟨A7, c7, rfl, _, hbel7⟩
          rw [HQ.out, hlen.out]
          have B7 := B6.trans (hbel7.mono B6.size)
          have r7 := own_below r6 hbel7
          go_wp2_with fail
          refine (iPlugsOf_any A2 c2 G x w7 (RI.of_own r7) hg6).mono ?_
          rintro e w8 ⟨A8, c8, rfl, _, hbel8⟩
          rw [HQ.out, hno.out]
          have B8 := B7.trans (hbel8.mono B7.size)
          go_wp2_with fail
          go_ret
          exact ⟨rfl, B8⟩
end Go.Proofs.Ytbihnjfckaeioaa
