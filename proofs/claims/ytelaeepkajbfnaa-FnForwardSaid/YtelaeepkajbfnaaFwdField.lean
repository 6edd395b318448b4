/-
  ForwardField, by the reference and by the program; marks of rules.
-/
import Derived.Test.YtelaeepkajbfnaaFwd2
namespace Go.Proofs.Ytelaeepkajbfnaa
open Go.RowKit
set_option linter.unusedSimpArgs false
set_option linter.unusedVariables false

theorem own_blk2 {w : World} {base g : Nat} {l : List (Int × Int)} (h : Blk w g 45 (cells2 l).toArray) (hb : base ≤ g) (hl : l.length ≤ 1048576) : w.ownsRow base 45 2 (.slice (some ⟨g, 0, none⟩) l.length l.length) l.length (cells2 l) := by
  refine ⟨by simp, .inr ⟨g, l.length, (cells2 l).toArray, rfl, hb, h, Nat.le_refl _, by unfold maxLen; omega, by simp, ?_⟩⟩
  simp [List.take_of_length_le]
theorem RR.of_own {w : World} {base : Nat} {e : TypeId} {A : Option Addr} {c : Nat} {l : List (Int × Int)} (h : w.ownsRow base e 2 (.slice A l.length c) l.length (cells2 l)) : RR w w.heap.size A l := Reads.of_own h
/-- the first i of l marked from k on -/
def markRTo (l : List (Int × Int)) (k : Int) (i : Nat) : List (Int × Int) := l.mapIdx fun j x => if j < i then (k + 2 * (j : Int), k + 2 * (j : Int) + 1) else x
@[simp] theorem markRTo_length (l : List (Int × Int)) (k : Int) (i : Nat) : (markRTo l k i).length = l.length := by simp [markRTo]
theorem markRTo_zero (l : List (Int × Int)) (k : Int) : markRTo l k 0 = l := by
  apply List.ext_getElem?
  intro j
  simp only [markRTo, List.getElem?_mapIdx]
  by_cases h : j < l.length <;> simp [h]
theorem markRTo_set (l : List (Int × Int)) (k : Int) (i : Nat) : (markRTo l k i).set i (k + 2 * (i : Int), k + 2 * (i : Int) + 1) = markRTo l k (i + 1) := by
  apply List.ext_getElem?
  intro j
  rw [List.getElem?_set]
  simp only [markRTo, List.getElem?_mapIdx, List.length_mapIdx]
  by_cases hj : i = j
  · subst hj
    by_cases h : i < l.length <;> simp [h]
  · rw [if_neg hj]
    by_cases hjl : j < l.length
    · simp only [List.getElem?_eq_getElem hjl, Option.map_some]
      have : (j < i + 1) = (j < i) := by rw [eq_iff_iff]; omega
      simp only [this]
    · simp [hjl]
set_option maxHeartbeats 2000000 in
theorem markRuleS_any (A : Option Addr) (c : Nat) (l : List (Int × Int)) (k : Int) (w : World) (base : Nat) (h : w.ownsRow base 45 2 (.slice A l.length c) l.length (cells2 l)) (hn : l.length ≤ 1048576) (hk0 : 1 ≤ k) (hk : k ≤ 10000000) :
    Calls Try.prog 19 #[.slice A l.length c, .int .i64 k] w fun e w' => e = .returned (.int .i64 (k + 2 * l.length)) ∧ w.grownBy w' (.slice A l.length c : Value).ownBlock := by
  by_cases h0 : l.length = 0
  · obtain rfl : l = [] := List.eq_nil_of_length_eq_zero h0
    go_enter Try.func19, Try.ntmps19
    go_wp2
    go_loopw [5, 1] (fun i m wr => i = .int .i64 0 ∧ m = .int .i64 k ∧ wr = w) (fun i _ _ => 0)
    case atStart => exact ⟨rfl, rfl, rfl⟩
    case round =>
      obtain ⟨rfl, rfl, rfl⟩ := hrel
      go_wp2
      go_ret
      exact ⟨ret_int (by simp), World.grownBy.refl _ _⟩
  · obtain ⟨g, c', hv, hbg, hlt⟩ := own_some h (by omega)
    obtain ⟨rfl, rfl⟩ : A = some ⟨g, 0, none⟩ ∧ c = c' := by injection hv with e1 e2 e3; exact ⟨e1, e3⟩
    go_enter Try.func19, Try.ntmps19
    go_wp2
    go_loopw [5, 1] (fun i m wr => ∃ j : Nat, j ≤ l.length ∧ i = .int .i64 j ∧ m = .int .i64 (k + 2 * j) ∧ wr.ownsRow base 45 2 (.slice (some ⟨g, 0, none⟩) l.length c) l.length (cells2 (markRTo l k j)) ∧ w.grownBy wr (some g)) (fun i _ _ => l.length - (intOf i).toNat)
    case atStart => exact ⟨0, Nat.zero_le _, rfl, by simp, by rw [markRTo_zero]; exact h, World.grownBy.refl _ _⟩
    case round =>
      obtain ⟨j, hj, rfl, rfl, ho, hg⟩ := hrel
      by_cases hlt : j < l.length
      · have hlen : (cells2 (markRTo l k j)).length = l.length * 2 := by simp
        have c0 := (ho.cellAt (j * 2) (by omega)).trans (List.getElem?_eq_getElem (by rw [hlen]; omega))
        have c1 := (ho.cellAt (j * 2 + 1) (by omega)).trans (List.getElem?_eq_getElem (by rw [hlen]; omega))
        have f0 := ho.frozenAt (j * 2)
        have f1 := ho.frozenAt (j * 2 + 1)
        have hst := ((ho.stored (j * 2) (.int .i64 (k + 2 * j))).1.stored (j * 2 + 1) (.int .i64 (k + 2 * j + 1))).1
        rw [cells2_set (markRTo l k j) j (k + 2 * j, k + 2 * j + 1), markRTo_set] at hst
        have Hst := Lib.hid hst
        have Hg := Lib.hid (only_setCell_ (only_setCell_ hg (j * 2) (.int .i64 (k + 2 * j))) (j * 2 + 1) (.int .i64 (k + 2 * j + 1)))
        clear hst
        generalize (cells2 (markRTo l k j))[j * 2]'(by rw [hlen]; omega) = o0 at c0
        generalize (cells2 (markRTo l k j))[j * 2 + 1]'(by rw [hlen]; omega) = o1 at c1
        clear ho hg h hlen
        go_wp2
        go_roundw
        case rel => exact ⟨j + 1, by omega, by go_num, by congr 1; omega, Hst.out, Hg.out⟩
        case measure => simp [intOf]; omega
      · obtain rfl : j = l.length := by omega
        clear ho
        go_wp2
        go_ret
        exact ⟨rfl, hg⟩

/-- where a line leads, and whether it does -/
def enB (l : List (Int × Int)) (x : Int) : Bool := (endF l (l.length + 1) x).isSome
def enI (l : List (Int × Int)) (x : Int) : Int := endI (endF l (l.length + 1) x)
def ffB (l : List (Int × Int)) (f : List Int) : Bool := rulesB l && fieldB f && f.all (enB l)
def ffL (l : List (Int × Int)) (f : List Int) : List Int := if ffB l f = true then f.map (enI l) else []
theorem ffL_len {l : List (Int × Int)} {f : List Int} (h : f.length ≤ 1048576) : (ffL l f).length ≤ 1048576 := by
  unfold ffL
  split
  · simpa using h
  · simp
theorem allE_no {l : List (Int × Int)} {f : List Int} {k : Nat} (hk : k < f.length) (h : enB l f[k] = false) : f.all (enB l) = false := by
  rw [List.all_eq_false]
  exact ⟨f[k], List.getElem_mem hk, by simp [h]⟩
theorem allE_succ {l : List (Int × Int)} {f : List Int} {k : Nat} (hk : k < f.length) (h1 : (f.take k).all (enB l) = true) (h : enB l f[k] = true) : (f.take (k + 1)).all (enB l) = true := by
  rw [take_snoc f k hk, List.all_append, h1]
  simp [h]
set_option maxHeartbeats 4000000 in
theorem sForwardField_any (A : Option Addr) (c : Nat) (l : List (Int × Int)) (A' : Option Addr) (c' : Nat) (f : List Int) (w : World) (h : RR w w.heap.size A l) (h' : RI w w.heap.size A' f) (hn : l.length ≤ 1048576) (hn' : f.length ≤ 1048576) :
    Calls Try.prog 22 #[.slice A l.length c, .slice A' f.length c'] w (OwnInts2 w (ffL l f) (ffB l f)) := by
  obtain ⟨i0, hi, hz0, hz1, hz2⟩ := info_parts int_info
  cases hr : rulesB l
  · have E1 : Hid (ffB l f = false) := Lib.hid (by simp [ffB, hr])
    have E2 : Hid (ffL l f = []) := Lib.hid (by simp [ffL, E1.out])
    go_enter Try.func22, Try.ntmps22
    go_wp2_with fail
    refine (sRulesValid_any A c l _ _ (Reads.alloc h (Nat.le_refl _) _) hn).mono ?_
    rintro e w1 ⟨rfl, n1, rfl⟩
    rw [hr]
    go_wp2_with fail
    go_ret2
    rw [E1.out, E2.out]
    exact OwnInts2.mk_ (l := []) (own_drewN (ownsRow_empty' w) n1) (below_drewN ((Below.refl _ _).alloc (Nat.le_refl _) _) n1)
  cases hf : fieldB f
  · have E1 : Hid (ffB l f = false) := Lib.hid (by simp [ffB, hf])
    have E2 : Hid (ffL l f = []) := Lib.hid (by simp [ffL, E1.out])
    go_enter Try.func22, Try.ntmps22
    go_wp2_with fail
    refine (sRulesValid_any A c l _ _ (Reads.alloc h (Nat.le_refl _) _) hn).mono ?_
    rintro e w1 ⟨rfl, n1, rfl⟩
    rw [hr]
    go_wp2_with fail
    refine (sFieldValid_any A' c' f _ w.heap.size (Reads.drewN (Reads.alloc h' (Nat.le_refl _) _) n1) hn').mono ?_
    rintro e w' ⟨rfl, rfl⟩
    rw [hf]
    go_wp2_with fail
    go_ret2
    rw [E1.out, E2.out]
    exact OwnInts2.mk_ (l := []) (own_drewN (ownsRow_empty' w) n1) (below_drewN ((Below.refl _ _).alloc (Nat.le_refl _) _) n1)
  have E0 : Hid (ffB l f = f.all (enB l)) := Lib.hid (by simp [ffB, hr, hf])
  go_enter Try.func22, Try.ntmps22
  go_wp2_with fail
  refine (sRulesValid_any A c l _ _ (Reads.alloc h (Nat.le_refl _) _) hn).mono ?_
  rintro e w1 ⟨rfl, n1, rfl⟩
  rw [hr]
  go_wp2_with fail
  refine (sFieldValid_any A' c' f _ w.heap.size (Reads.drewN (Reads.alloc h' (Nat.le_refl _) _) n1) hn').mono ?_
  rintro e w' ⟨rfl, rfl⟩
  rw [hf]
  clear hr hf
  have o1 := own_drewN (ownsRow_empty' w) n1
  have b1 := below_drewN ((Below.refl w.heap.size w).alloc (Nat.le_refl _) (.cells #[] 3)) n1
  go_wp2_with fail
  go_loopw [7, 6] (fun i v wr => ∃ k : Nat, k ≤ f.length ∧ i = .int .i64 k ∧ (f.take k).all (enB l) = true ∧ wr.ownsRow w.heap.size 3 1 v k (ints ((f.take k).map (enI l))) ∧ Below w.heap.size w wr) (fun i _ _ => f.length - (intOf i).toNat)
  case atStart => exact ⟨0, Nat.zero_le _, rfl, by simp, by simpa [ints] using o1, b1⟩
  case round =>
    clear o1 b1
    obtain ⟨k, hk, rfl, hall, ho, hbel⟩ := hrel
    have hs := hbel.size
    by_cases hlt : k < f.length
    · obtain ⟨ad, rfl, hb, hc⟩ := (h'.below hbel).at_ hlt
      have hR := h.below hbel
      have Hs := Lib.hid (allE_succ hlt hall)
      have Hf := Lib.hid (allE_no (l := l) hlt)
      have Hmap : Hid ((f.take (k + 1)).map (enI l) = (f.take k).map (enI l) ++ [enI l f[k]]) := Lib.hid (by rw [take_snoc f k hlt, List.map_append]; rfl)
      obtain ⟨x, hx⟩ : ∃ x, f[k] = x := ⟨_, rfl⟩
      rw [hx] at hc Hs Hf Hmap
      clear hx hall h h'
      have Ho := Lib.hid ho
      have ho1 := ho
      clear ho
      cases hq : enB l x
      · have E1 : Hid (ffB l f = false) := Lib.hid (by rw [E0.out]; exact Hf.out hq)
        have E2 : Hid (ffL l f = []) := Lib.hid (by simp [ffL, E1.out])
        unfold enB at hq
        go_wp2_with fail
        refine (l2End_any A c l x wr _ hR hn).mono ?_
        rintro e w' ⟨rfl, rfl⟩
        rw [hq]
        go_wp2_with fail
        go_ret2
        rw [E1.out, E2.out]
        exact OwnInts2.mk_ (l := []) (own_mono (ownsRow_empty' wr) hs) (hbel.alloc hs _)
      · have Hs2 := Lib.hid (Hs.out hq)
        unfold enB at hq
        go_wp2_with fail
        refine (l2End_any A c l x wr _ hR hn).mono ?_
        rintro e w' ⟨rfl, rfl⟩
        rw [hq, show endI (endF l (l.length + 1) x) = enI l x from rfl]
        go_wp2_with (at_builtin; refine wpList_append_own_at _ rfl _ _ 32 rfl w.heap.size 3 i0 (.int .i64 0) 1 8 Try.underlying32 hi hz0 hz1 hz2 rfl (by decide) u6 k _ rfl (ho1.alloc _) ⟨wr.heap.size, 0, none⟩ 1 1 [.int .i64 (enI l x)] rfl rfl (cell_one_new _ _ _) (ints_oneCell .i64 [enI l x]) ?_ ?_ ?_ ?_; (unfold maxLen; omega); omega; (simp; omega); intro v' w3 hown' hgrow hnil hloc)
        have hb3 : Below w.heap.size w w3 := below_of_grown hbel hgrow hs (fun q hq => (Ho.out.lt q hq).1)
        go_roundw
        case rel => exact ⟨k + 1, by omega, by go_num, Hs2.out, by rw [Hmap.out]; simpa [ints] using hown', hb3⟩
        case measure => simp [intOf]; omega
    · obtain rfl : k = f.length := by omega
      rw [List.take_length] at hall ho
      have E1 : Hid (ffB l f = true) := Lib.hid (by rw [E0.out]; exact hall)
      have E2 : Hid (ffL l f = f.map (enI l)) := Lib.hid (by simp [ffL, E1.out])
      obtain ⟨A2, c2, rfl⟩ := own_form ho
      have hlen : (f.map (enI l)).length = f.length := List.length_map ..
      have Hlen := Lib.hid hlen
      clear hall h h' hlen
      go_wp2_with fail
      go_ret2
      rw [E1.out, E2.out]
      exact ⟨A2, c2, by rw [Hlen.out]; rfl, by rw [Hlen.out]; exact ho, hbel⟩
/-- the first k of f led to their ends -/
def endTo (l : List (Int × Int)) (f : List Int) (k : Nat) : List Int := f.mapIdx fun j y => if j < k then enI l y else y
theorem endTo_length (l : List (Int × Int)) (f : List Int) (k : Nat) : (endTo l f k).length = f.length := by simp [endTo]
theorem endTo_zero (l : List (Int × Int)) (f : List Int) : endTo l f 0 = f := by
  apply List.ext_getElem?
  intro j
  simp only [endTo, List.getElem?_mapIdx]
  by_cases h : j < f.length <;> simp [h]
theorem endTo_all (l : List (Int × Int)) (f : List Int) : endTo l f f.length = f.map (enI l) := by
  apply List.ext_getElem?
  intro j
  simp only [endTo, List.getElem?_mapIdx, List.getElem?_map]
  by_cases h : j < f.length <;> simp [h]
theorem endTo_get (l : List (Int × Int)) (f : List Int) (k : Nat) (h : k < f.length) : (endTo l f k)[k]? = some f[k] := by simp [endTo, List.getElem?_mapIdx, h]
theorem endTo_set (l : List (Int × Int)) (f : List Int) (k : Nat) (h : k < f.length) : (endTo l f k).set k (enI l f[k]) = endTo l f (k + 1) := by
  apply List.ext_getElem?
  intro j
  rw [List.getElem?_set]
  simp only [endTo, List.getElem?_mapIdx, List.length_mapIdx]
  by_cases hj : k = j
  · subst hj
    simp [h]
  · rw [if_neg hj]
    by_cases hjl : j < f.length
    · simp only [List.getElem?_eq_getElem hjl, Option.map_some]
      have : (j < k + 1) = (j < k) := by rw [eq_iff_iff]; omega
      simp only [this]
    · simp [hjl]
set_option maxHeartbeats 8000000 in
theorem iForwardField_any (A : Option Addr) (c : Nat) (l : List (Int × Int)) (A' : Option Addr) (c' : Nat) (f : List Int) (w : World) (h : RR w w.heap.size A l) (h' : RI w w.heap.size A' f) (hn : l.length ≤ 1048576) (hn' : f.length ≤ 1048576) :
    Calls Try.prog 24 #[.slice A l.length c, .slice A' f.length c'] w (OwnInts2 w (ffL l f) (ffB l f)) := by
  cases hr : rulesB l
  · have E1 : Hid (ffB l f = false) := Lib.hid (by simp [ffB, hr])
    have E2 : Hid (ffL l f = []) := Lib.hid (by simp [ffL, E1.out])
    go_enter Try.func24, Try.ntmps24
    go_wp2_with fail
    refine (RulesValid_any A c l w h hn).mono ?_
    rintro e w1 ⟨rfl, hb1⟩
    rw [hr]
    go_wp2_with fail
    go_ret2
    rw [E1.out, E2.out]
    exact OwnInts2.mk_ (l := []) (World.ownsRow_nil _ _ _ _) hb1
  cases hf : fieldB f
  · have E1 : Hid (ffB l f = false) := Lib.hid (by simp [ffB, hf])
    have E2 : Hid (ffL l f = []) := Lib.hid (by simp [ffL, E1.out])
    go_enter Try.func24, Try.ntmps24
    go_wp2_with fail
    refine (RulesValid_any A c l w h hn).mono ?_
    rintro e w1 ⟨rfl, hb1⟩
    rw [hr]
    go_wp2_with fail
    refine (iFieldValid_any A' c' f w1 _ (h'.below hb1) hn').mono ?_
    rintro e w' ⟨rfl, rfl⟩
    rw [hf]
    go_wp2_with fail
    go_ret2
    rw [E1.out, E2.out]
    exact OwnInts2.mk_ (l := []) (World.ownsRow_nil _ _ _ _) hb1
  have E0 : Hid (ffB l f = f.all (enB l)) := Lib.hid (by simp [ffB, hr, hf])
  obtain ⟨hn20, hval⟩ := fieldB_true hf
  have h7 : Hid (∀ x, endF l 7 x = endF l (l.length + 1) x) := Lib.hid (fun x => endF_7 hr x)
  have hrng : Hid (∀ x e, 0 ≤ x ∧ x ≤ 6 → endF l 7 x = some e → 0 ≤ e ∧ e ≤ 6) := Lib.hid (fun x e hx he => endF_range hr hx he)
  have HR := Lib.hid hr
  go_enter Try.func24, Try.ntmps24
  go_wp2_with fail
  refine (RulesValid_any A c l w h hn).mono ?_
  rintro e w1 ⟨rfl, hb1⟩
  rw [hr]
  go_wp2_with fail
  refine (iFieldValid_any A' c' f w1 _ (h'.below hb1) hn').mono ?_
  rintro e w' ⟨rfl, rfl⟩
  rw [hf]
  clear hr hf
  have h1' := (h'.below hb1).more hb1.size
  go_wp2_with fail
  refine (newPatchboard_any A' c' f w1 h1' hn20 hval).mono ?_
  rintro e w2 ⟨S, L, M, G, ch, rfl, hB, b1, b2, b3, b4, hbel2⟩
  have B2 := hb1.trans (hbel2.mono hb1.size)
  have hR := (h.below B2).more B2.size
  have hG : w.heap.size ≤ G := Nat.le_trans hb1.size b4
  clear h h' h1' hbel2
  go_wp2_with fail
  refine (forwards_any S L M G ch f A c l w2 hB hR hn HR.out).mono ?_
  rintro e w3 ⟨Q, rfl, hQ, hnx, hb3⟩
  have hB3 := hB.keep hb3
  have B3 := B2.trans (hb3.mono B2.size)
  have ltG2 := hB.lts.2.2.2
  have hQG : Q ≠ G := by omega
  have c2 := hB3.s2
  have HB3 := Lib.hid hB3
  clear hB hR hb3 B2 hB3
  go_wp2_with fail
  go_loopw [30, 8, 9] (fun i _ _ wr => ∃ k : Nat, k ≤ f.length ∧ i = .int .i64 k ∧ (f.take k).all (enB l) = true ∧ Board wr S L M G ch (endTo l f k) ∧ NextMap wr Q ch l ∧ Below w.heap.size w wr) (fun i _ _ _ => f.length - (intOf i).toNat)
  case atStart => exact ⟨0, Nat.zero_le _, rfl, by simp, by rw [endTo_zero]; exact HB3.out, hnx, B3⟩
  case round =>
    clear HB3 hnx c2
    obtain ⟨k, hk, rfl, hall, hBd, hNx, hbel⟩ := hrel
    by_cases hlt : k < f.length
    · have d2 := hBd.s2
      rw [endTo_length] at d2
      have ck : wr.cell? ⟨G, k, none⟩ = some (.chan (ch f[k])) := (hBd.hG.cell k).trans (by simp [plugArr, endTo_get l f k hlt])
      have fk := hBd.hG.frozen k
      have hv := hval f[k] (List.getElem_mem _)
      have Hs := Lib.hid (allE_succ hlt hall)
      have Hf := Lib.hid (allE_no (l := l) hlt)
      have Hset := Lib.hid (endTo_set l f k hlt)
      obtain ⟨x, hx⟩ : ∃ x, f[k] = x := ⟨_, rfl⟩
      rw [hx] at ck hv Hs Hf Hset
      have HBd := Lib.hid hBd
      have HNx := Lib.hid hNx
      clear hx hall hBd hval
      cases hq : endF l 7 x with
      | none =>
        have E1 : Hid (ffB l f = false) := Lib.hid (by rw [E0.out]; exact Hf.out (by rw [enB, ← h7.out, hq]; rfl))
        have E2 : Hid (ffL l f = []) := Lib.hid (by simp [ffL, E1.out])
        go_wp2_with fail
        refine (endOf_any Q ch l x wr hNx HR.out hv.1 hv.2).mono ?_
        rintro e w' ⟨rfl, rfl⟩
        rw [hq]
        clear hNx hq
        go_wp2_with fail
        go_ret2
        rw [E1.out, E2.out]
        exact OwnInts2.mk_ (l := []) (World.ownsRow_nil _ _ _ _) hbel
      | some e =>
        have he := hrng.out x e hv hq
        have Hs2 := Lib.hid (Hs.out (by rw [enB, ← h7.out, hq]; rfl))
        have Hen : Hid (enI l x = e) := Lib.hid (by rw [enI, ← h7.out, hq]; rfl)
        have Hst : Hid (Board (wr.setCell ⟨G, k, none⟩ (.chan (ch e))) S L M G ch (endTo l f (k + 1))) := Lib.hid (by
          rw [← Hset.out, Hen.out]
          exact HBd.out.plug he)
        have HN : Hid (NextMap (wr.setCell ⟨G, k, none⟩ (.chan (ch e))) Q ch l) := Lib.hid ⟨(mcm_setCell _ _).trans HNx.out.hcm, fun y y0 y6 => (mget_setCell _ _).trans (HNx.out.hget y y0 y6)⟩
        go_wp2_with fail
        refine (endOf_any Q ch l x wr hNx HR.out hv.1 hv.2).mono ?_
        rintro e' w' ⟨rfl, rfl⟩
        rw [hq]
        clear hNx hq
        go_wp2_with fail
        go_roundw
        case rel => exact ⟨k + 1, by omega, by go_num, Hs2.out, Hst.out, HN.out, hbel.setCell hG _⟩
        case measure => simp [intOf]; omega
    · obtain rfl : k = f.length := by omega
      rw [List.take_length] at hall
      rw [endTo_all] at hBd
      have E1 : Hid (ffB l f = true) := Lib.hid (by rw [E0.out]; exact hall)
      have E2 : Hid (ffL l f = f.map (enI l)) := Lib.hid (by simp [ffL, E1.out])
      have hlen : (f.map (enI l)).length = f.length := List.length_map ..
      have Hlen := Lib.hid hlen
      have HBd := Lib.hid hBd
      clear hall hlen hBd hNx hval
      go_wp2_with fail
      refine (field_any S L M G ch (f.map (enI l)) wr HBd.out (by rw [Hlen.out]; omega)).mono ?_
      rintro e w5 ⟨g5, rfl, hg5, hb5, hbel5⟩
      go_wp2_with fail
      go_ret2
      rw [E1.out, E2.out]
      exact ⟨some ⟨g5, 0, none⟩, (f.map (enI l)).length, by rw [Hlen.out]; rfl, ownsRow_blk hb5 (Nat.le_trans hbel.size hg5) (by rw [Hlen.out]; omega), hbel.trans (hbel5.mono hbel.size)⟩
end Go.Proofs.Ytelaeepkajbfnaa
