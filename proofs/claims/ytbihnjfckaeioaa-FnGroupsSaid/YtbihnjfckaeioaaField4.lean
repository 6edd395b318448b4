/-
  What MovePlugs of the program and of the reference returns.
-/
import Derived.Test.YtbihnjfckaeioaaField3
namespace Go.Proofs.Ytbihnjfckaeioaa
open Go.RowKit
set_option linter.unusedSimpArgs false
set_option linter.unusedVariables false

theorem sMovePlugs_any (A : Option Addr) (c : Nat) (l : List Int) (a b : Int) (w : World) (h : RI w w.heap.size A l) (hn : l.length ≤ 1048576) :
    Calls Try.prog 9 #[.slice A l.length c, .int .i64 a, .int .i64 b] w (OwnInts2 w (moveL l a b) (moveB l a b)) := by
  cases hf : fieldB l
  · have hb : moveB l a b = false := by simp [moveB, hf]
    have hl : moveL l a b = [] := by simp [moveL, hb]
    rw [hb, hl]
    clear hb hl
    go_enter Try.func9, Try.ntmps9
    go_wp2_with (go_at_call 34; refine (sFieldValid_any _ _ l _ _ h hn).mono ?_; rintro e w' ⟨rfl, rfl⟩)
    go_ret2
    exact OwnInts2.mk_ (l := []) (ownsRow_empty' w) ((Below.refl _ _).alloc (Nat.le_refl _) _)
  cases ha : inB a 0 6
  · have hb : moveB l a b = false := by simp [moveB, ha]
    have hl : moveL l a b = [] := by simp [moveL, hb]
    rw [hb, hl]
    clear hb hl
    go_enter Try.func9, Try.ntmps9
    go_wp2_with fail
    refine (sFieldValid_any _ _ l _ _ h hn).mono ?_
    rintro e w' ⟨rfl, rfl⟩
    go_wp2_with fail
    refine (l2Line_any _ _).mono ?_
    rintro e w' ⟨rfl, rfl⟩
    go_wp2_with fail
    go_ret2
    exact OwnInts2.mk_ (l := []) (ownsRow_empty' w) ((Below.refl _ _).alloc (Nat.le_refl _) _)
  cases hb0 : inB b 0 6
  · have hb : moveB l a b = false := by simp [moveB, hb0]
    have hl : moveL l a b = [] := by simp [moveL, hb]
    rw [hb, hl]
    clear hb hl
    go_enter Try.func9, Try.ntmps9
    go_wp2_with fail
    refine (sFieldValid_any _ _ l _ _ h hn).mono ?_
    rintro e w' ⟨rfl, rfl⟩
    go_wp2_with fail
    refine (l2Line_any _ _).mono ?_
    rintro e w' ⟨rfl, rfl⟩
    go_wp2_with fail
    refine (l2Line_any _ _).mono ?_
    rintro e w' ⟨rfl, rfl⟩
    go_wp2_with fail
    go_ret2
    exact OwnInts2.mk_ (l := []) (ownsRow_empty' w) ((Below.refl _ _).alloc (Nat.le_refl _) _)
  have hb : moveB l a b = true := by simp [moveB, ha, hb0, hf]
  have hl : moveL l a b = l.map (mv a b) := by simp [moveL, hb]
  rw [hb, hl]
  obtain ⟨hn20, hval⟩ := fieldB_true hf
  clear hb hl
  obtain ⟨ii0, hii, hz0, hz1, hz2⟩ := info_parts int_info
  go_enter Try.func9, Try.ntmps9
  go_wp2_with fail
  refine (sFieldValid_any _ _ l _ _ h hn).mono ?_
  rintro e w' ⟨rfl, rfl⟩
  go_wp2_with fail
  refine (l2Line_any _ _).mono ?_
  rintro e w' ⟨rfl, rfl⟩
  go_wp2_with fail
  refine (l2Line_any _ _).mono ?_
  rintro e w' ⟨rfl, rfl⟩
  go_wp2_with (at_builtin; refine wpList_append_any _ rfl _ _ 23 rfl w.heap.size 3 ii0 (.int .i64 0) 1 8 Try.underlying23 hii hz0 hz1 hz2 rfl (by decide) (.slice (some ⟨w.heap.size, 0, none⟩) 0 0) 0 [] rfl (ownsRow_empty w) w.heap.size A l.length c (ints l) rfl (h.alloc_ _) (ints_oneCell' l) ?_ ?_ ?_ ?_; (unfold maxLen; omega); omega; (simp); intro v' w1 hown' hgrow hloc; simp only [Nat.zero_add, List.nil_append] at hown'; obtain ⟨A', c', hv⟩ := own_form hown'; rw [hv] at hown'; rw [hv])
  have hbel1 : Below w.heap.size w w1 := ((Below.refl _ _).alloc (Nat.le_refl _) _).grown hgrow (by simp) (fun k hk => by simp [Value.ownBlock] at hk; omega)
  clear hgrow hloc hv h
  go_loopw [9] (fun i wr => ∃ k : Nat, k ≤ l.length ∧ i = .int .i64 k ∧ wr.ownsRow w.heap.size 3 1 (.slice A' l.length c') l.length (ints (moveTo l a b k)) ∧ Below w.heap.size w wr) (fun i _ => l.length - (intOf i).toNat)
  case atStart => exact ⟨0, Nat.zero_le _, rfl, by rw [moveTo_zero]; exact hown', hbel1⟩
  case round =>
    obtain ⟨k, hk, rfl, ho, hbel⟩ := hrel
    by_cases hlt : k < l.length
    · obtain ⟨g, c2, hv, hbg, hgl⟩ := own_some ho (by omega)
      obtain ⟨rfl, rfl⟩ : A' = some ⟨g, 0, none⟩ ∧ c' = c2 := by injection hv with e1 e2 e3; exact ⟨e1, e3⟩
      clear hv
      have hc : wr.cell? ⟨g, k, none⟩ = some (.int .i64 l[k]) := (ho.cellAt k (by omega)).trans (by simp [ints, moveTo_get l a b k hlt])
      have hf := ho.frozenAt k
      by_cases he : l[k] = a
      · have h1 : (l[k] == a) = true := by simp [he]
        have hst := (ho.stored k (.int .i64 b)).1
        rw [ints_set, moveTo_yes l a b k hlt he] at hst
        have Hst := Lib.hid hst
        clear hst
        generalize l[k] = lk at *
        clear he
        go_wp2
        go_roundw
        case rel => exact ⟨k + 1, by omega, by go_num, Hst.out, hbel.setCell hbg _⟩
        case measure => simp [intOf]; omega
      · have h1 : (l[k] == a) = false := by simp [he]
        have Ho := Lib.hid (moveTo_no l a b k hlt he)
        clear he
        go_wp2
        go_roundw
        case rel => exact ⟨k + 1, by omega, by go_num, by rw [← Ho.out]; exact ho, hbel⟩
        case measure => simp [intOf]; omega
    · obtain rfl : k = l.length := by omega
      rw [moveTo_all] at ho
      have hlen : (l.map (mv a b)).length = l.length := List.length_map ..
      go_wp2
      go_ret2
      exact ⟨A', c', by rw [hlen]; rfl, by rw [hlen]; exact ho, hbel⟩
theorem iMovePlugs_any (A : Option Addr) (c : Nat) (l : List Int) (a b : Int) (w : World) (h : RI w w.heap.size A l) (hn : l.length ≤ 1048576) :
    Calls Try.prog 8 #[.slice A l.length c, .int .i64 a, .int .i64 b] w (OwnInts2 w (moveL l a b) (moveB l a b)) := by
  cases hf : fieldB l
  · have hb : moveB l a b = false := by simp [moveB, hf]
    have hl : moveL l a b = [] := by simp [moveL, hb]
    rw [hb, hl]
    clear hb hl
    go_enter Try.func8, Try.ntmps8
    go_wp2_with (go_at_call 22; refine (iFieldValid_any _ _ l _ _ h hn).mono ?_; rintro e w' ⟨rfl, rfl⟩)
    go_ret2
    exact OwnInts2.mk_ (l := []) (World.ownsRow_nil _ _ _ _) (Below.refl _ _)
  cases ha : inB a 0 6
  · have hb : moveB l a b = false := by simp [moveB, ha]
    have hl : moveL l a b = [] := by simp [moveL, hb]
    rw [hb, hl]
    clear hb hl
    go_enter Try.func8, Try.ntmps8
    go_wp2_with fail
    refine (iFieldValid_any _ _ l _ _ h hn).mono ?_
    rintro e w' ⟨rfl, rfl⟩
    go_wp2_with fail
    refine (isLine_any _ _).mono ?_
    rintro e w' ⟨rfl, rfl⟩
    go_wp2_with fail
    go_ret2
    exact OwnInts2.mk_ (l := []) (World.ownsRow_nil _ _ _ _) (Below.refl _ _)
  cases hb0 : inB b 0 6
  · have hb : moveB l a b = false := by simp [moveB, hb0]
    have hl : moveL l a b = [] := by simp [moveL, hb]
    rw [hb, hl]
    clear hb hl
    go_enter Try.func8, Try.ntmps8
    go_wp2_with fail
    refine (iFieldValid_any _ _ l _ _ h hn).mono ?_
    rintro e w' ⟨rfl, rfl⟩
    go_wp2_with fail
    refine (isLine_any _ _).mono ?_
    rintro e w' ⟨rfl, rfl⟩
    go_wp2_with fail
    refine (isLine_any _ _).mono ?_
    rintro e w' ⟨rfl, rfl⟩
    go_wp2_with fail
    go_ret2
    exact OwnInts2.mk_ (l := []) (World.ownsRow_nil _ _ _ _) (Below.refl _ _)
  have hb : moveB l a b = true := by simp [moveB, ha, hb0, hf]
  have hl : moveL l a b = l.map (mv a b) := by simp [moveL, hb]
  rw [hb, hl]
  obtain ⟨hn20, hval⟩ := fieldB_true hf
  obtain ⟨a0, a6⟩ := inB_true.1 ha
  obtain ⟨b0, b6⟩ := inB_true.1 hb0
  have a7 : a < 7 := by omega
  have b7 : b < 7 := by omega
  clear hb hl
  go_enter Try.func8, Try.ntmps8
  go_wp2_with fail
  refine (iFieldValid_any _ _ l _ _ h hn).mono ?_
  rintro e w' ⟨rfl, rfl⟩
  go_wp2_with fail
  refine (isLine_any _ _).mono ?_
  rintro e w' ⟨rfl, rfl⟩
  go_wp2_with fail
  refine (isLine_any _ _).mono ?_
  rintro e w' ⟨rfl, rfl⟩
  go_wp2_with fail
  refine (newPatchboard_any A c l w h hn20 hval).mono ?_
  rintro e w1 ⟨S, L, M, G, ch, rfl, hbd, g1, g2, g3, g4, hbel⟩
  have c2 := hbd.s2
  have Hbd := Lib.hid hbd
  clear hbd h
  go_wp2_with fail
  go_loopw [31, 9, 10] (fun i _ _ wr => ∃ k : Nat, k ≤ l.length ∧ i = .int .i64 k ∧ Board wr S L M G ch (moveTo l a b k) ∧ Below w.heap.size w wr) (fun i _ _ _ => l.length - (intOf i).toNat)
  case atStart => exact ⟨0, Nat.zero_le _, rfl, by rw [moveTo_zero]; exact Hbd.out, hbel⟩
  case round =>
    obtain ⟨k, hk, rfl, hbd, hbl⟩ := hrel
    by_cases hlt : k < l.length
    · have c0 := hbd.s0
      have d2 := hbd.s2
      rw [moveTo_length] at d2
      have ca := hbd.line a0 a6
      have cb := hbd.line b0 b6
      have ck : wr.cell? ⟨G, k, none⟩ = some (.chan (ch l[k])) := (hbd.hG.cell k).trans (by simp [plugArr, moveTo_get l a b k hlt])
      have fk := hbd.hG.frozen k
      have hiff := hbd.eq_iff (hval l[k] (List.getElem_mem _)) ⟨a0, a6⟩
      by_cases he : l[k] = a
      · have h1 : (ch l[k] == ch a) = true := by rw [beq_iff_eq]; exact hiff.2 he
        have hst := (hbd.plug (i := k) ⟨b0, b6⟩).drew
        rw [moveTo_yes l a b k hlt he] at hst
        have Hst := Lib.hid hst
        clear hst hiff hval
        generalize l[k] = lk at *
        clear he hbd
        go_wp2
        go_region
        go_wp2
        go_roundw
        case rel => exact ⟨k + 1, by omega, by go_num, Hst.out, (hbl.setCell g4 _).drew⟩
        case measure => simp [intOf]; omega
      · have h1 : (ch l[k] == ch a) = false := by
          rw [beq_eq_false_iff_ne]
          exact fun e => he (hiff.1 e)
        have Ho := Lib.hid (moveTo_no l a b k hlt he)
        have Hb := Lib.hid hbd
        clear he hiff hval hbd
        go_wp2
        go_roundw
        case rel => exact ⟨k + 1, by omega, by go_num, by rw [← Ho.out]; exact Hb.out, hbl⟩
        case measure => simp [intOf]; omega
    · obtain rfl : k = l.length := by omega
      rw [moveTo_all] at hbd
      have Hb := Lib.hid hbd
      clear hbd
      have hlen : (l.map (mv a b)).length = l.length := List.length_map ..
      go_wp2_with fail
      refine (field_any S L M G ch (l.map (mv a b)) _ Hb.out (by omega)).mono ?_
      rintro e w2 hnew
      obtain ⟨g, rfl, hg, hb2, hbel2⟩ := hnew
      go_wp2_with fail
      go_ret2
      exact ⟨some ⟨g, 0, none⟩, (l.map (mv a b)).length, by rw [hlen]; rfl, ownsRow_blk hb2 (Nat.le_trans hbl.size hg) (by omega), hbl.trans (hbel2.mono hbl.size)⟩
end Go.Proofs.Ytbihnjfckaeioaa
