/-
  Slices of deeds and of entries served that the call itself has made: how they are marked and looked at; DeedsServed.
-/
import Derived.Test.YtpblpdoalfphpaaMarks
namespace Go.Proofs.Ytpblpdoalfphpaa
open Go.RowKit
set_option linter.unusedSimpArgs false
set_option linter.unusedVariables false

theorem own_blk3 {w : World} {base g : Nat} {l : List Dd} (h : Blk w g 54 (cells3 l).toArray) (hb : base ≤ g) (hl : l.length ≤ 1048576) : w.ownsRow base 54 3 (.slice (some ⟨g, 0, none⟩) l.length l.length) l.length (cells3 l) := by
  refine ⟨by simp, .inr ⟨g, l.length, (cells3 l).toArray, rfl, hb, h, Nat.le_refl _, by unfold maxLen; omega, by simp, ?_⟩⟩
  simp [List.take_of_length_le]
theorem RD.of_own {w : World} {base : Nat} {e : TypeId} {A : Option Addr} {c : Nat} {l : List Dd} (h : w.ownsRow base e 3 (.slice A l.length c) l.length (cells3 l)) : RD w w.heap.size A l := Reads.of_own h
/-- n marks of deeds from k on -/
def markD (k : Int) (n : Nat) : List Dd := (List.range n).map fun (i : Nat) => (markS (k + 3 * i), k + 3 * i + 1, k + 3 * i + 1 + 1)
@[simp] theorem markD_length (k : Int) (n : Nat) : (markD k n).length = n := by simp [markD]
theorem markD_get (k : Int) (n i : Nat) (h : i < (markD k n).length) : (markD k n)[i] = (markS (k + 3 * i), k + 3 * i + 1, k + 3 * i + 1 + 1) := by simp [markD]
/-- the first i of l marked from k on -/
def markDTo (l : List Dd) (k : Int) (i : Nat) : List Dd := l.mapIdx fun j x => if j < i then (markS (k + 3 * (j : Int)), k + 3 * (j : Int) + 1, k + 3 * (j : Int) + 1 + 1) else x
@[simp] theorem markDTo_length (l : List Dd) (k : Int) (i : Nat) : (markDTo l k i).length = l.length := by simp [markDTo]
theorem markDTo_zero (l : List Dd) (k : Int) : markDTo l k 0 = l := by
  apply List.ext_getElem?
  intro j
  simp only [markDTo, List.getElem?_mapIdx]
  by_cases h : j < l.length <;> simp [h]
theorem markDTo_all (l : List Dd) (k : Int) : markDTo l k l.length = markD k l.length := by
  apply List.ext_getElem?
  intro j
  simp only [markDTo, markD, List.getElem?_mapIdx, List.getElem?_map]
  by_cases h : j < l.length
  · simp [h, List.getElem?_range h]
  · simp [h, List.getElem?_eq_none (show (List.range l.length).length ≤ j by simp; omega)]
theorem markDTo_set (l : List Dd) (k : Int) (i : Nat) : (markDTo l k i).set i (markS (k + 3 * (i : Int)), k + 3 * (i : Int) + 1, k + 3 * (i : Int) + 1 + 1) = markDTo l k (i + 1) := by
  apply List.ext_getElem?
  intro j
  rw [List.getElem?_set]
  simp only [markDTo, List.getElem?_mapIdx, List.length_mapIdx]
  by_cases hj : i = j
  · subst hj
    by_cases h : i < l.length <;> simp [h]
  · rw [if_neg hj]
    by_cases hjl : j < l.length
    · simp only [List.getElem?_eq_getElem hjl, Option.map_some]
      have : (j < i + 1) = (j < i) := by rw [eq_iff_iff]; omega
      simp only [this]
    · simp [hjl]
set_option maxHeartbeats 2000000 in
theorem markDeedS_any (A : Option Addr) (c : Nat) (l : List Dd) (k : Int) (w : World) (base : Nat) (h : w.ownsRow base 54 3 (.slice A l.length c) l.length (cells3 l)) (hn : l.length ≤ 1048576) (hk0 : 1 ≤ k) (hk : k ≤ 10000000) :
    Calls Try.prog 20 #[.slice A l.length c, .int .i64 k] w fun e w' => e = .returned (.int .i64 (k + 3 * l.length)) ∧
      w'.ownsRow base 54 3 (.slice A l.length c) l.length (cells3 (markD k l.length)) ∧ w.grownBy w' (.slice A l.length c : Value).ownBlock := by
  by_cases h0 : l.length = 0
  · obtain rfl : l = [] := List.eq_nil_of_length_eq_zero h0
    go_enter Try.func20, Try.ntmps20
    go_wp2
    go_loopw [5, 1] (fun i m wr => i = .int .i64 0 ∧ m = .int .i64 k ∧ wr = w) (fun i _ _ => 0)
    case atStart => exact ⟨rfl, rfl, rfl⟩
    case round =>
      obtain ⟨rfl, rfl, rfl⟩ := hrel
      go_wp2
      go_ret
      exact ⟨ret_int (by simp), by simpa [markD] using h, World.grownBy.refl _ _⟩
  · obtain ⟨g, c', hv, hbg, hlt⟩ := own_some h (by omega)
    obtain ⟨rfl, rfl⟩ : A = some ⟨g, 0, none⟩ ∧ c = c' := by injection hv with e1 e2 e3; exact ⟨e1, e3⟩
    go_enter Try.func20, Try.ntmps20
    go_wp2
    go_loopw [5, 1] (fun i m wr => ∃ j : Nat, j ≤ l.length ∧ i = .int .i64 j ∧ m = .int .i64 (k + 3 * j) ∧ wr.ownsRow base 54 3 (.slice (some ⟨g, 0, none⟩) l.length c) l.length (cells3 (markDTo l k j)) ∧ w.grownBy wr (some g)) (fun i _ _ => l.length - (intOf i).toNat)
    case atStart => exact ⟨0, Nat.zero_le _, rfl, by simp, by rw [markDTo_zero]; exact h, World.grownBy.refl _ _⟩
    case round =>
      obtain ⟨j, hj, rfl, rfl, ho, hg⟩ := hrel
      by_cases hlt : j < l.length
      · have hbs := hg.size
        go_wp2_with fail
        refine (markText_any (k + 3 * j) wr (by omega) (by omega)).mono ?_
        rintro e w1 ⟨rfl, hb1⟩
        have ho1 := own_below ho hb1
        have hg1 : w.grownBy w1 (some g) := World.grownBy.trans hg ⟨hb1.os, hb1.tape, hb1.output, hb1.size, fun i hi _ => hb1.block i hi⟩
        have hlen : (cells3 (markDTo l k j)).length = l.length * 3 := by simp
        have c0 := (ho1.cellAt (j * 3) (by omega)).trans (List.getElem?_eq_getElem (by rw [hlen]; omega))
        have c1 := (ho1.cellAt (j * 3 + 1) (by omega)).trans (List.getElem?_eq_getElem (by rw [hlen]; omega))
        have c2 := (ho1.cellAt (j * 3 + 2) (by omega)).trans (List.getElem?_eq_getElem (by rw [hlen]; omega))
        have f0 := ho1.frozenAt (j * 3)
        have f1 := ho1.frozenAt (j * 3 + 1)
        have f2 := ho1.frozenAt (j * 3 + 2)
        have hst := (((ho1.stored (j * 3) (.string (markS (k + 3 * j)))).1.stored (j * 3 + 1) (.int .i64 (k + 3 * j + 1))).1.stored (j * 3 + 2) (.int .i64 (k + 3 * j + 1 + 1))).1
        rw [cells3_set (markDTo l k j) j (markS (k + 3 * j), k + 3 * j + 1, k + 3 * j + 1 + 1), markDTo_set] at hst
        have Hst := Lib.hid hst
        have Hg := Lib.hid (only_setCell_ (only_setCell_ (only_setCell_ hg1 (j * 3) (.string (markS (k + 3 * j)))) (j * 3 + 1) (.int .i64 (k + 3 * j + 1))) (j * 3 + 2) (.int .i64 (k + 3 * j + 1 + 1)))
        clear hst
        generalize (cells3 (markDTo l k j))[j * 3]'(by rw [hlen]; omega) = o0 at c0
        generalize (cells3 (markDTo l k j))[j * 3 + 1]'(by rw [hlen]; omega) = o1 at c1
        generalize (cells3 (markDTo l k j))[j * 3 + 2]'(by rw [hlen]; omega) = o2 at c2
        clear ho ho1 hg hg1 hb1 h hlen
        go_wp2
        go_roundw
        case rel => exact ⟨j + 1, by omega, by go_num, by congr 1; omega, Hst.out, Hg.out⟩
        case measure => simp [intOf]; omega
      · obtain rfl : j = l.length := by omega
        rw [markDTo_all] at ho
        go_wp2
        go_ret
        exact ⟨rfl, ho, hg⟩
set_option maxHeartbeats 2000000 in
theorem heldDeedS_ok (A : Option Addr) (c n : Nat) (k : Int) (w : World) (h : RD w w.heap.size A (markD k n)) (hn : n ≤ 1048576) (hk0 : 1 ≤ k) (hk : k ≤ 10000000) :
    Calls Try.prog 22 #[.slice A n c, .int .i64 k] w fun e w' => e = .returned (.int .i64 (k + 3 * n)) ∧ Below w.heap.size w w' := by
  go_enter Try.func22, Try.ntmps22
  go_wp2
  go_loopw [5, 1] (fun i m wr => ∃ j : Nat, j ≤ n ∧ i = .int .i64 j ∧ m = .int .i64 (k + 3 * j) ∧ Below w.heap.size w wr) (fun i _ _ => n - (intOf i).toNat)
  case atStart => exact ⟨0, Nat.zero_le _, rfl, by simp, Below.refl _ _⟩
  case round =>
    obtain ⟨j, hj, rfl, rfl, hbel⟩ := hrel
    by_cases hlt : j < n
    · obtain ⟨ad, rfl, hb, c1, c2, c3⟩ := (h.below hbel).at_ (k := j) (by simpa using hlt)
      rw [markD_get] at c1 c2 c3
      simp only at c1 c2 c3
      have hs := hbel.size
      have hbk : (ad.add (j * 3)).block < wr.heap.size := by rw [block_of_add]; omega
      have hs1 : ((markS (k + 3 * j)).toList != (markS (k + 3 * j)).toList) = false := by simp
      have hs2 : (!((markS (k + 3 * j)).toList == (markS (k + 3 * j)).toList)) = false := by simp
      have hx : (k + 3 * (j : Int) + 1 != k + 3 * j + 1) = false := by simp
      have hy : (k + 3 * (j : Int) + 1 + 1 != k + 3 * j + 1 + 1) = false := by simp
      go_wp2
      go_region_held3 (fun w' => w'.cell? (ad.add (j * 3)) = some (.string (markS (k + 3 * j))) ∧ w'.cell? ⟨(ad.add (j * 3)).block, (ad.add (j * 3)).off + 1, none⟩ = some (.int .i64 (k + 3 * j + 1)) ∧ w'.cell? ⟨(ad.add (j * 3)).block, (ad.add (j * 3)).off + 2, none⟩ = some (.int .i64 (k + 3 * j + 1 + 1))) (go_keep) (first | (go_at_call 43; refine (markText_any (k + 3 * j) _ (by omega) (by omega)).mono ?_; rintro e w2 ⟨rfl, hb2⟩; have k1 := (hb2.cell (p := ad.add (j * 3)) hbk).trans c1; have k2 := (hb2.cell (p := ⟨(ad.add (j * 3)).block, (ad.add (j * 3)).off + 1, none⟩) hbk).trans c2; have k3 := (hb2.cell (p := ⟨(ad.add (j * 3)).block, (ad.add (j * 3)).off + 2, none⟩) hbk).trans c3))
      go_wp2
      go_roundw
      case rel => exact ⟨j + 1, by omega, by go_num, by congr 1; omega, hbel.trans ((below_drew_ hb2).mono hs)⟩
      case measure => simp [intOf]; omega
    · obtain rfl : j = n := by omega
      go_wp2
      go_ret
      exact ⟨rfl, hbel⟩
end Go.Proofs.Ytpblpdoalfphpaa
