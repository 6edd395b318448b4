/-
  The lines that are forwarded to themselves, by the reference and by the program.
-/
import Derived.Test.YtelaeepkajbfnaaFwd2
namespace Go.Proofs.Ytelaeepkajbfnaa
open Go.RowKit
set_option linter.unusedSimpArgs false
set_option linter.unusedVariables false

set_option maxHeartbeats 2000000 in
theorem l2Ring_any (A : Option Addr) (c : Nat) (l : List (Int × Int)) (x : Int) (w : World) (B : Nat) (h : RR w B A l) (hn : l.length ≤ 1048576) :
    Calls Try.prog 38 #[.slice A l.length c, .int .i64 x] w fun e w' => e = .returned (.bool (ringF l l.length x x)) ∧ w = w' := by
  go_enter Try.func38, Try.ntmps38
  go_wp2
  go_loop [6, 5] (fun i v => ∃ (k : Nat) (y : Int), k ≤ l.length ∧ i = .int .i64 k ∧ v = .int .i64 y ∧ ringF l l.length x x = ringF l (l.length - k) x y) (fun i _ => l.length - (intOf i).toNat)
  case atStart => exact ⟨0, x, by omega, rfl, rfl, rfl⟩
  case round =>
    obtain ⟨k, y, hk, rfl, rfl, he⟩ := hrel
    have He := Lib.hid he
    clear he
    by_cases hlt : k < l.length
    · obtain ⟨m, hm⟩ : ∃ m, l.length - k = m + 1 := ⟨l.length - k - 1, by omega⟩
      have hm2 : Hid (l.length - (k + 1) = m) := Lib.hid (by omega)
      have He2 : Hid (ringF l l.length x x = match lkp l y with | none => false | some z => z == x || ringF l m x z) := Lib.hid (by rw [He.out, hm]; rfl)
      clear hm
      cases hl : lkp l y with
      | none =>
        have E : Hid (ringF l l.length x x = false) := Lib.hid (by rw [He2.out, hl])
        go_wp2_with fail
        refine (l2To_any A c l y w B h hn).mono ?_
        rintro e w' ⟨rfl, rfl⟩
        rw [hl]
        clear hl
        go_wp2_with fail
        go_ret
        exact ⟨ret_bool E.out.symm, rfl⟩
      | some z =>
        by_cases hz : z = x
        · have E : Hid (ringF l l.length x x = true) := Lib.hid (by rw [He2.out, hl]; simp [hz])
          have hz1 : (z == x) = true := by simp [hz]
          go_wp2_with fail
          refine (l2To_any A c l y w B h hn).mono ?_
          rintro e w' ⟨rfl, rfl⟩
          rw [hl]
          clear hl hz
          go_wp2_with fail
          go_ret
          exact ⟨ret_bool E.out.symm, rfl⟩
        · have E : Hid (ringF l l.length x x = ringF l m x z) := Lib.hid (by rw [He2.out, hl]; simp [hz])
          have hz1 : (z == x) = false := by simp [hz]
          go_wp2_with fail
          refine (l2To_any A c l y w B h hn).mono ?_
          rintro e w' ⟨rfl, rfl⟩
          rw [hl]
          clear hl hz
          go_wp2_with fail
          go_round
          case rel => exact ⟨k + 1, z, by omega, by go_num, rfl, by rw [hm2.out]; exact E.out⟩
          case measure => simp [intOf]; omega
    · have hk' : k = l.length := by omega
      have E : Hid (ringF l l.length x x = false) := Lib.hid (by rw [He.out, hk', Nat.sub_self]; rfl)
      clear h hk'
      go_wp2
      go_ret
      exact ⟨ret_bool E.out.symm, rfl⟩
/-- those of the first k lines that are forwarded to themselves -/
def ringTo (l : List (Int × Int)) (k : Nat) : List Int := ((List.range k).map fun (i : Nat) => (i : Int) + 1).filter fun x => ringF l l.length x x
def ringL (l : List (Int × Int)) : List Int := if rulesB l = true then ringTo l 6 else []
theorem ringTo_succ (l : List (Int × Int)) (k : Nat) : ringTo l (k + 1) = ringTo l k ++ (if ringF l l.length ((k : Int) + 1) ((k : Int) + 1) = true then [(k : Int) + 1] else []) := by
  unfold ringTo
  rw [List.range_succ, List.map_append, List.filter_append]
  simp [List.filter_cons]
theorem ringTo_len (l : List (Int × Int)) (k : Nat) : (ringTo l k).length ≤ k := by
  unfold ringTo
  refine Nat.le_trans (List.length_filter_le _ _) ?_
  simp
theorem ringL_len {l : List (Int × Int)} : (ringL l).length ≤ 1048576 := by
  unfold ringL
  split
  · have := ringTo_len l 6
    omega
  · simp
set_option maxHeartbeats 4000000 in
theorem sRingLines_any (A : Option Addr) (c : Nat) (l : List (Int × Int)) (w : World) (h : RR w w.heap.size A l) (hn : l.length ≤ 1048576) :
    Calls Try.prog 16 #[.slice A l.length c] w (OwnInts w (ringL l)) := by
  cases hr : rulesB l
  · have hl : ringL l = [] := by simp [ringL, hr]
    rw [hl]
    clear hl
    go_enter Try.func16, Try.ntmps16
    go_wp2_with fail
    go_loopw [4, 3] (fun i v wr => i = .int .i64 1 ∧ v = .slice (some ⟨w.heap.size, 0, none⟩) 0 0 ∧ wr = w.alloc (.cells #[] 3)) (fun _ _ _ => 0)
    case atStart => exact ⟨rfl, rfl, rfl⟩
    case round =>
      obtain ⟨rfl, rfl, rfl⟩ := hrel
      go_wp2_with fail
      refine (sRulesValid_any A c l _ _ (Reads.alloc h (Nat.le_refl _) _) hn).mono ?_
      rintro e w1 ⟨rfl, n1, rfl⟩
      rw [hr]
      go_wp2_with fail
      go_ret
      exact OwnInts.mk_ (l := []) (own_drewN (ownsRow_empty' w) n1) (below_drewN ((Below.refl _ _).alloc (Nat.le_refl _) _) n1)
  have hl : Hid (ringL l = ringTo l 6) := Lib.hid (by simp [ringL, hr])
  obtain ⟨i0, hi, hz0, hz1, hz2⟩ := info_parts int_info
  have HR := Lib.hid hr
  clear hr
  go_enter Try.func16, Try.ntmps16
  go_wp2_with fail
  go_loopw [4, 3] (fun i v wr => ∃ k : Nat, k ≤ 6 ∧ i = .int .i64 ((k : Int) + 1) ∧ wr.ownsRow w.heap.size 3 1 v (ringTo l k).length (ints (ringTo l k)) ∧ Below w.heap.size w wr) (fun i _ _ => 7 - (intOf i).toNat)
  case atStart => exact ⟨0, by omega, rfl, ownsRow_empty' w, (Below.refl _ _).alloc (Nat.le_refl _) _⟩
  case round =>
    obtain ⟨k, hk, rfl, ho, hbel⟩ := hrel
    have hs := hbel.size
    go_wp2_with fail
    refine (sRulesValid_any A c l wr _ (h.below hbel) hn).mono ?_
    rintro e w1 ⟨rfl, n1, rfl⟩
    rw [HR.out]
    have hbel1 := below_drewN hbel n1
    have ho1 := own_drewN ho n1
    have hR1 := h.below hbel1
    by_cases hlt : k < 6
    · have hlen := ringTo_len l k
      cases hq : ringF l l.length ((k : Int) + 1) ((k : Int) + 1)
      · have Hs : Hid (ringTo l (k + 1) = ringTo l k) := Lib.hid (by rw [ringTo_succ, hq]; simp)
        go_wp2_with fail
        refine (l2Ring_any A c l ((k : Int) + 1) _ _ hR1 hn).mono ?_
        rintro e w' ⟨rfl, rfl⟩
        rw [hq]
        go_wp2_with fail
        go_roundw
        case rel => exact ⟨k + 1, by omega, by congr 1, by rw [Hs.out]; exact ho1, hbel1⟩
        case measure => simp [intOf]; omega
      · have Hs : Hid (ringTo l (k + 1) = ringTo l k ++ [(k : Int) + 1]) := Lib.hid (by rw [ringTo_succ, hq]; simp)
        have Ho := Lib.hid ho1
        go_wp2_with fail
        refine (l2Ring_any A c l ((k : Int) + 1) _ _ hR1 hn).mono ?_
        rintro e w' ⟨rfl, rfl⟩
        rw [hq]
        go_wp2_with (at_builtin; refine wpList_append_own_at _ rfl _ _ 32 rfl w.heap.size 3 i0 (.int .i64 0) 1 8 Try.underlying32 hi hz0 hz1 hz2 rfl (by decide) u3 _ _ rfl (ho1.alloc _) ⟨wr.heap.size, 0, none⟩ 1 1 [.int .i64 ((k : Int) + 1)] rfl rfl (cell_one_new _ _ _) (ints_oneCell .i64 [(k : Int) + 1]) ?_ ?_ ?_ ?_; (unfold maxLen; omega); omega; (simp; omega); intro v' w3 hown' hgrow hnil hloc)
        have hb3 : Below w.heap.size w w3 := below_of_grown hbel1 hgrow hs (fun q hq => (Ho.out.lt q hq).1)
        go_roundw
        case rel => exact ⟨k + 1, by omega, by congr 1, by rw [Hs.out]; simpa [ints] using hown', hb3⟩
        case measure => simp [intOf]; omega
    · obtain rfl : k = 6 := by omega
      obtain ⟨A2, c2, rfl⟩ := own_form ho1
      go_wp2_with fail
      go_ret
      rw [hl.out]
      exact ⟨A2, c2, rfl, ho1, hbel1⟩
set_option maxHeartbeats 8000000 in
theorem iRingLines_any (A : Option Addr) (c : Nat) (l : List (Int × Int)) (w : World) (h : RR w w.heap.size A l) (hn : l.length ≤ 1048576) :
    Calls Try.prog 17 #[.slice A l.length c] w (OwnInts w (ringL l)) := by
  cases hr : rulesB l
  · have hl : Hid (ringL l = []) := Lib.hid (by simp [ringL, hr])
    go_enter Try.func17, Try.ntmps17
    go_wp2_with fail
    refine (RulesValid_any A c l w h hn).mono ?_
    rintro e w1 ⟨rfl, hb1⟩
    rw [hr]
    go_wp2_with fail
    go_ret
    rw [hl.out]
    exact OwnInts.mk_ (l := []) (World.ownsRow_nil _ _ _ _) hb1
  have hl : Hid (ringL l = ringTo l 6) := Lib.hid (by simp [ringL, hr])
  have hsame : Hid (∀ x, ringF l 6 x x = ringF l l.length x x) := Lib.hid (fun x => ringF_enough l x (rulesB_len hr))
  have hzero : Hid (∀ n x, ringF l n x 0 = false) := Lib.hid (fun n x => ringF_zero hr n x)
  have hrange : Hid (∀ y z, lkp l y = some z → 0 ≤ z ∧ z ≤ 6) := Lib.hid (fun y z => lkp_range hr)
  obtain ⟨i0, hi, hz0, hz1, hz2⟩ := info_parts int_info
  have HR := Lib.hid hr
  go_enter Try.func17, Try.ntmps17
  go_wp2_with fail
  refine (RulesValid_any A c l w h hn).mono ?_
  rintro e w1 ⟨rfl, hb1⟩
  rw [hr]
  clear hr
  go_wp2_with fail
  refine (newPatchboard_any none 0 [] w1 RI.nil_ (by simp) (by simp)).mono ?_
  rintro e w2 ⟨S, L, M, G, ch, rfl, hB, b1, b2, b3, b4, hbel⟩
  have B2 := hb1.trans (hbel.mono hb1.size)
  have hR := (h.below B2).more B2.size
  clear h hb1 hbel
  go_wp2_with fail
  refine (forwards_any S L M G ch [] A c l w2 hB hR hn HR.out).mono ?_
  rintro e w3 ⟨Q, rfl, hQ, hnx, hb3⟩
  have hB3 := hB.keep hb3
  have B3 := B2.trans (hb3.mono B2.size)
  have hs3 := B3.size
  clear hB hR hb3 B2
  go_wp2_with fail
  go_loopw [6, 5] (fun i v wr => ∃ k : Nat, k ≤ 6 ∧ i = .int .i64 ((k : Int) + 1) ∧ wr.ownsRow w3.heap.size 3 1 v (ringTo l k).length (ints (ringTo l k)) ∧ Below w3.heap.size w3 wr) (fun i _ _ => 7 - (intOf i).toNat)
  case atStart => exact ⟨0, by omega, rfl, ownsRow_empty' w3, (Below.refl _ _).alloc (Nat.le_refl _) _⟩
  case round =>
    obtain ⟨k, hk, rfl, ho, hbel⟩ := hrel
    have hs := hbel.size
    have hBd := hB3.keep hbel
    have hNx := hnx.keep hbel
    have hlen := ringTo_len l k
    by_cases hlt : k < 6
    · have c0 := hBd.s0
      have cl := hBd.line (x := (k : Int) + 1) (by omega) (by omega)
      rw [show ((k : Int) + 1).toNat = k + 1 by omega] at cl
      have hk7 : (k : Int) + 1 < 7 := by omega
      have hcm := hNx.hcm
      obtain ⟨ltS, ltL, ltM, ltG⟩ := hBd.lts
      have Hyes : Hid (ringF l l.length ((k : Int) + 1) ((k : Int) + 1) = true → ringTo l (k + 1) = ringTo l k ++ [(k : Int) + 1]) := Lib.hid (fun hq => by rw [ringTo_succ, hq]; simp)
      have Hno : Hid (ringF l l.length ((k : Int) + 1) ((k : Int) + 1) = false → ringTo l (k + 1) = ringTo l k) := Lib.hid (fun hq => by rw [ringTo_succ, hq]; simp)
      have Ho := Lib.hid ho
      have ho1 := ho
      clear ho
      go_wp2_with fail
      go_loop [9, 8, 5] (fun a b d => ∃ (j : Nat) (y : Int), j ≤ 6 ∧ 0 ≤ y ∧ y ≤ 6 ∧ a = .int .i64 j ∧ b = .chan (ch y) ∧ d = u5 ∧ ringF l 6 ((k : Int) + 1) ((k : Int) + 1) = ringF l (6 - j) ((k : Int) + 1) y) (fun a _ _ => 6 - (intOf a).toNat)
      case atStart => exact ⟨0, (k : Int) + 1, by omega, by omega, by omega, rfl, rfl, rfl, rfl⟩
      case round =>
        obtain ⟨j, y, hj, y0, y6, rfl, rfl, rfl, he⟩ := hrel
        have He : Hid (ringF l l.length ((k : Int) + 1) ((k : Int) + 1) = ringF l (6 - j) ((k : Int) + 1) y) := Lib.hid (by rw [← hsame.out]; exact he)
        clear he
        by_cases hj6 : j < 6
        · obtain ⟨m, hm⟩ : ∃ m, 6 - j = m + 1 := ⟨5 - j, by omega⟩
          have hm2 : Hid (6 - (j + 1) = m) := Lib.hid (by omega)
          have He2 : Hid (ringF l l.length ((k : Int) + 1) ((k : Int) + 1) = match lkp l y with | none => false | some z => z == ((k : Int) + 1) || ringF l m ((k : Int) + 1) z) := Lib.hid (by rw [He.out, hm]; rfl)
          have hg := hNx.hget y y0 y6
          have hnn : Hid (ch ((k : Int) + 1) ≠ none) := Lib.hid (fun e => by
            have := hBd.inj ((k : Int) + 1) 0 (by omega) (by omega) (by omega) (by omega) (by rw [e, hBd.h0])
            omega)
          clear hm
          cases hl2 : lkp l y with
          | none =>
            have Hs := Lib.hid (Hno.out (by rw [He2.out, hl2]))
            rw [hl2] at hg
            simp only [Option.map_none] at hg
            have he1 : (none == ch ((k : Int) + 1)) = false := by rw [beq_eq_false_iff_ne]; exact fun e => hnn.out e.symm
            clear hl2
            go_wp2_with fail
            go_roundw
            case rel => exact ⟨k + 1, by omega, by congr 1, by rw [Hs.out]; exact Ho.out, hbel⟩
            case measure => simp [intOf]; omega
          | some z =>
            obtain ⟨z0, z6⟩ := hrange.out y z hl2
            rw [hl2] at hg
            simp only [Option.map_some] at hg
            by_cases hz : z = (k : Int) + 1
            · have Hs := Lib.hid (Hyes.out (by rw [He2.out, hl2]; simp [hz]))
              have he1 : (ch z == ch ((k : Int) + 1)) = true := by rw [hz]; simp
              clear hl2 hz
              go_wp2_with (at_builtin; refine wpList_append_own_at _ rfl _ _ 32 rfl w3.heap.size 3 i0 (.int .i64 0) 1 8 Try.underlying32 hi hz0 hz1 hz2 rfl (by decide) u5 _ _ rfl (ho1.alloc _) ⟨wr.heap.size, 0, none⟩ 1 1 [.int .i64 ((k : Int) + 1)] rfl rfl (cell_one_new _ _ _) (ints_oneCell .i64 [(k : Int) + 1]) ?_ ?_ ?_ ?_; (unfold maxLen; omega); omega; (simp; omega); intro v' w4 hown' hgrow hnil hloc)
              have hb4 : Below w3.heap.size w3 w4 := below_of_grown hbel hgrow hs (fun q hq => (Ho.out.lt q hq).1)
              go_roundw
              case rel => exact ⟨k + 1, by omega, by congr 1, by rw [Hs.out]; simpa [ints] using hown', hb4⟩
              case measure => simp [intOf]; omega
            · have he1 : (ch z == ch ((k : Int) + 1)) = false := by
                rw [beq_eq_false_iff_ne]
                exact fun e => hz (hBd.inj z ((k : Int) + 1) z0 z6 (by omega) (by omega) e)
              have E : Hid (ringF l l.length ((k : Int) + 1) ((k : Int) + 1) = ringF l m ((k : Int) + 1) z) := Lib.hid (by rw [He2.out, hl2]; simp [hz])
              by_cases hz00 : z = 0
              · have Hs := Lib.hid (Hno.out (by rw [E.out, hz00]; exact hzero.out _ _))
                have he2 : (ch z == none) = true := by rw [hz00, hBd.h0]; rfl
                clear hl2 hz hz00
                go_wp2_with fail
                go_roundw
                case rel => exact ⟨k + 1, by omega, by congr 1, by rw [Hs.out]; exact Ho.out, hbel⟩
                case measure => simp [intOf]; omega
              · have he2 : (ch z == none) = false := by
                  rw [beq_eq_false_iff_ne]
                  exact fun e => hz00 (hBd.inj z 0 z0 z6 (by omega) (by omega) (by rw [e, hBd.h0]))
                clear hl2 hz hz00
                go_wp2_with fail
                go_round
                case rel => exact ⟨j + 1, z, by omega, z0, z6, by go_num, rfl, rfl, by rw [hm2.out, hsame.out]; exact E.out⟩
                case measure => simp [intOf]; omega
        · have hj' : j = 6 := by omega
          have Hs := Lib.hid (Hno.out (by rw [He.out, hj', Nat.sub_self]; rfl))
          clear hj'
          go_wp2_with fail
          go_roundw
          case rel => exact ⟨k + 1, by omega, by congr 1, by rw [Hs.out]; exact Ho.out, hbel⟩
          case measure => simp [intOf]; omega
    · obtain rfl : k = 6 := by omega
      obtain ⟨A2, c2, rfl⟩ := own_form ho
      clear hBd hNx
      go_wp2_with fail
      go_ret
      rw [hl.out]
      exact ⟨A2, c2, rfl, own_mono ho hs3, B3.trans (hbel.mono hs3)⟩
end Go.Proofs.Ytelaeepkajbfnaa
