/-
  Slices of entries served: their count, a copy, equality of equals, marks; and DeedsServed.
-/
import Derived.Test.YtpblpdoalfphpaaServed
namespace Go.Proofs.Ytpblpdoalfphpaa
open Go.RowKit
set_option linter.unusedSimpArgs false
set_option linter.unusedVariables false

def cellsS (l : List Sv) : List Value := l.flatMap encS
@[simp] theorem cellsS_length (l : List Sv) : (cellsS l).length = l.length * 2 := flat_length encS_length l
theorem cellsS_get (l : List Sv) (k : Nat) (h : k < l.length) : (cellsS l)[k * 2]? = some (.int .i64 l[k].1) ∧ (cellsS l)[k * 2 + 1]? = some (.string l[k].2) :=
  ⟨flat_get encS_length l (j := 0) h (by omega), flat_get encS_length l (j := 1) h (by omega)⟩
theorem cellsS_set (l : List Sv) (i : Nat) (x : Sv) : ((cellsS l).set (i * 2) (.int .i64 x.1)).set (i * 2 + 1) (.string x.2) = cellsS (l.set i x) := by
  induction l generalizing i with
  | nil => simp [cellsS]
  | cons y l ih =>
    cases i with
    | zero => simp [cellsS, encS]
    | succ i =>
      have e1 : (i + 1) * 2 = i * 2 + 1 + 1 := by omega
      rw [e1]
      have := ih i
      simpa [cellsS, encS] using this
section
variable {w w' : World} {B B' : Nat} {A : Option Addr} {l : List Sv}
theorem RS.at_ (h : RS w B A l) {k : Nat} (hk : k < l.length) : ∃ ad, A = some ad ∧ ad.block < B ∧ w.cell? (ad.add (k * 2)) = some (.int .i64 l[k].1) ∧
    w.cell? ⟨(ad.add (k * 2)).block, (ad.add (k * 2)).off + 1, none⟩ = some (.string l[k].2) := by
  obtain ⟨ad, e, hb, hc⟩ := h.2 (by omega)
  obtain ⟨g1, g2⟩ := cellsS_get l k hk
  exact ⟨ad, e, hb, hc _ _ g1, by have h2 := hc _ _ g2; rw [← add_of_add] at h2; exact h2⟩
theorem RS.below (h : RS w B A l) (hb : Below B w w') : RS w' B A l := Reads.below h hb
theorem RS.more (h : RS w B A l) (hB : B ≤ B') : RS w B' A l := Reads.more h hB
theorem RS.of_own {base : Nat} {e : TypeId} {c : Nat} (h : w.ownsRow base e 2 (.slice A l.length c) l.length (cellsS l)) : RS w w.heap.size A l := Reads.of_own h
end
theorem own_blkS {w : World} {base g : Nat} {l : List Sv} (h : Blk w g 63 (cellsS l).toArray) (hb : base ≤ g) (hl : l.length ≤ 1048576) : w.ownsRow base 63 2 (.slice (some ⟨g, 0, none⟩) l.length l.length) l.length (cellsS l) := by
  refine ⟨by simp, .inr ⟨g, l.length, (cellsS l).toArray, rfl, hb, h, Nat.le_refl _, by unfold maxLen; omega, by simp, ?_⟩⟩
  simp [List.take_of_length_le]
def szS (l : List Sv) : Nat := l.length + (l.map fun d => d.2.size).sum
def szST (l : List Sv) (k : Nat) : Nat := ((l.map fun d => d.2.size).take k).sum
theorem szST_zero (l : List Sv) : szST l 0 = 0 := by simp [szST]
theorem szST_all (l : List Sv) : l.length + szST l l.length = szS l := by
  unfold szST szS
  rw [List.take_of_length_le (by simp)]
theorem szST_succ {l : List Sv} {k : Nat} (h : k < l.length) : szST l (k + 1) = szST l k + l[k].2.size := by
  unfold szST
  rw [sum_take_succ _ k (by simpa using h)]
  simp
theorem szST_le (l : List Sv) (k : Nat) : l.length + szST l k ≤ szS l := by
  unfold szST szS
  have := sum_take_le (l.map fun d => d.2.size) k
  omega
theorem szS_len {l : List Sv} : l.length ≤ szS l := by unfold szS; omega
def leftS (l : List Sv) (left : Int) : Int := if (szS l : Int) ≤ left then left - szS l else -1
theorem leftS_ok {l : List Sv} {left : Int} (h : (szS l : Int) ≤ left) : leftS l left = left - szS l := if_pos h
theorem leftS_no {l : List Sv} {left : Int} (h : left < (szS l : Int)) : leftS l left = -1 := if_neg (by omega)
theorem szServed_no (s : ByteArray) (x left : Int) (w : World) (hs : s.size ≤ maxLen) (h0 : 0 ≤ left) (h1 : left ≤ 1048576) (h : left < s.size) : Calls Try.prog 40 #[.agg #[.int .i64 x, .string s], .int .i64 left] w fun e w' =>
    e = .returned (.int .i64 (-1)) ∧ Below w.heap.size w w' := by
  unfold maxLen at hs
  go_enter Try.func40, Try.ntmps40
  go_wp2
  go_ret
  exact ⟨rfl, (Below.refl _ _).alloc (Nat.le_refl _) _⟩
theorem szServed_ok (s : ByteArray) (x left : Int) (w : World) (h1 : left ≤ 1048576) (h : s.size ≤ left) : Calls Try.prog 40 #[.agg #[.int .i64 x, .string s], .int .i64 left] w fun e w' =>
    e = .returned (.int .i64 (left - s.size)) ∧ Below w.heap.size w w' := by
  go_enter Try.func40, Try.ntmps40
  go_wp2
  go_ret
  exact ⟨rfl, (Below.refl _ _).alloc (Nat.le_refl _) _⟩
theorem toServed_any (x : Int) (s : ByteArray) (w : World) : Calls Try.prog 41 #[.agg #[.int .i64 x, .string s]] w fun e w' =>
    e = .returned (.agg #[.int .i64 x, .string s]) ∧ Below w.heap.size w w' := by
  go_enter Try.func41, Try.ntmps41
  go_wp2
  exact bodyPost_ret (v := .agg #[.int .i64 x, .string s]) (by simp [results, Try.results41, go_sem]) rfl ⟨rfl, (((Below.refl _ _).alloc (Nat.le_refl _) _).alloc (by simp) _).alloc (by simp; omega) _⟩
theorem eqServed_same (x : Int) (s : ByteArray) (w : World) : Calls Try.prog 42 #[.agg #[.int .i64 x, .string s], .agg #[.int .i64 x, .string s]] w fun e w' =>
    e = .returned (.bool true) ∧ Below w.heap.size w w' := by
  have hs : (s.toList != s.toList) = false := by simp
  have hs2 : (!(s.toList == s.toList)) = false := by simp
  have hx : (x != x) = false := by simp
  go_enter Try.func42, Try.ntmps42
  go_wp2
  go_ret
  exact ⟨rfl, ((Below.refl _ _).alloc (Nat.le_refl _) _).alloc (by simp) _⟩
set_option maxHeartbeats 1000000 in
theorem szServedS_any (A : Option Addr) (c : Nat) (l : List Sv) (left : Int) (w : World) (h : RS w w.heap.size A l) (hc : l.length ≤ c) (hm : c ≤ maxLen) (hs : ∀ d ∈ l, d.2.size ≤ maxLen) (h0 : 0 ≤ left) (h1 : left ≤ 1048576) :
    Calls Try.prog 15 #[.slice A l.length c, .int .i64 left] w fun e w' => e = .returned (.int .i64 (leftS l left)) ∧ Below w.heap.size w w' := by
  by_cases hn : (l.length : Int) ≤ left
  · go_enter Try.func15, Try.ntmps15
    go_wp2
    go_loopw [5, 1] (fun i m wr => ∃ k : Nat, k ≤ l.length ∧ i = .int .i64 k ∧ m = .int .i64 (left - l.length - szST l k) ∧ (l.length : Int) + szST l k ≤ left ∧ Below w.heap.size w wr) (fun i _ _ => l.length - (intOf i).toNat)
    case atStart => exact ⟨0, Nat.zero_le _, rfl, by rw [szST_zero]; simp, by rw [szST_zero]; omega, Below.refl _ _⟩
    case round =>
      obtain ⟨k, hk, rfl, rfl, hle, hbel⟩ := hrel
      by_cases hlt : k < l.length
      · obtain ⟨ad, rfl, hb, c1, c2⟩ := (h.below hbel).at_ hlt
        have hsz := hs l[k] (List.getElem_mem _)
        have Hsuc := Lib.hid (szST_succ hlt)
        have hall := szST_le l (k + 1)
        obtain ⟨d, hd⟩ : ∃ d, l[k] = d := ⟨_, rfl⟩
        rw [hd] at c1 c2 hsz Hsuc
        obtain ⟨x, s⟩ := d
        have hbs := hbel.size
        clear hd h hs
        simp only at c1 c2 hsz
        obtain ⟨t, ht⟩ : ∃ t, szST l k = t := ⟨_, rfl⟩
        rw [ht] at hle Hsuc
        obtain ⟨t', ht'⟩ : ∃ t, szST l (k + 1) = t := ⟨_, rfl⟩
        rw [ht'] at hall Hsuc
        have Ht := Lib.hid ht
        have Ht' := Lib.hid ht'
        rw [ht]
        clear ht ht'
        by_cases hfit : (s.size : Int) ≤ left - l.length - t
        · go_wp2_with (go_at_call 40; refine (szServed_ok s x _ _ (by omega) hfit).mono ?_; rintro e w1 ⟨rfl, hb1⟩)
          go_roundw
          case rel =>
            have e1 := Hsuc.out
            exact ⟨k + 1, by omega, by go_num, by rw [Ht'.out, e1]; congr 1; omega, by rw [Ht'.out]; omega, hbel.trans (hb1.mono hbs)⟩
          case measure => simp [intOf]; omega
        · have E : Hid (leftS l left = -1) := Lib.hid (leftS_no (by have e1 := Hsuc.out; simp only at e1; omega))
          go_wp2_with (go_at_call 40; refine (szServed_no s x _ _ hsz (by omega) (by omega) (by omega)).mono ?_; rintro e w1 ⟨rfl, hb1⟩)
          go_ret
          exact ⟨ret_int E.out.symm, hbel.trans (hb1.mono hbs)⟩
      · obtain rfl : k = l.length := by omega
        have hall := szST_all l
        have E : Hid (leftS l left = left - l.length - szST l l.length) := Lib.hid (by rw [leftS_ok (by omega)]; omega)
        clear hall
        go_wp2
        go_ret
        exact ⟨ret_int E.out.symm, hbel⟩
  · have E : Hid (leftS l left = -1) := Lib.hid (leftS_no (by have := szS_len (l := l); omega))
    unfold maxLen at hm
    clear h hs
    go_enter Try.func15, Try.ntmps15
    go_wp2
    go_ret
    exact ⟨ret_int E.out.symm, Below.refl _ _⟩
def zS : Sv := (0, ByteArray.empty)
theorem served_info : (Try.prog.info? 63).map (fun i => (i.zero, i.size, i.bytes)) = some (some (Value.agg #[.int .i64 0, .string ByteArray.empty]), 2, 24) := by kernel_rfl
/-- a slice of its own that holds the entries l -/
def NewServed (w : World) (l : List Sv) (e : Ending) (w' : World) : Prop :=
  ∃ g, e = .returned (.slice (some ⟨g, 0, none⟩) l.length l.length) ∧ w.heap.size ≤ g ∧ Blk w' g 63 (cellsS l).toArray ∧ Below w.heap.size w w'
set_option maxHeartbeats 1000000 in
theorem toServedS_any (A : Option Addr) (c : Nat) (l : List Sv) (w : World) (h : RS w w.heap.size A l) (hn : l.length ≤ 1048576) :
    Calls Try.prog 17 #[.slice A l.length c] w (NewServed w l) := by
  obtain ⟨i0, hi, hz0, hz1, hz2⟩ := info_parts served_info
  have hmk : ∀ W : World, (Instr.makeSlice 33 (.int .i64 (l.length : Int)) (.int .i64 (l.length : Int))).run Try.prog W = .ok (.slice (some ⟨W.heap.size, 0, none⟩) l.length l.length) (W.alloc (.cells (cellsS (fillZ zS l 0)).toArray 63)) := fun W => by
    have hr := run_make (P := Try.prog) W 33 63 i0 _ Try.underlying33 hi hz0 .i64 .i64 l.length l.length (by omega) (by omega) (by rw [hz2]; omega) (by omega)
    simp only [Int.toNat_natCast] at hr
    rw [hr, hz1, fillZ_zero]
    unfold cellsS
    rw [flat_made (z := Value.agg #[.int .i64 0, .string ByteArray.empty]) (zs := zS) rfl encS_length (by omega)]
  clear hi hz0 hz1 hz2
  go_enter Try.func17, Try.ntmps17
  go_wp2_with fail
  go_loopw [4] (fun i wr => ∃ k : Nat, k ≤ l.length ∧ i = .int .i64 k ∧ Blk wr w.heap.size 63 (cellsS (fillZ zS l k)).toArray ∧ Below w.heap.size w wr) (fun i _ => l.length - (intOf i).toNat)
  case atStart => exact ⟨0, Nat.zero_le _, rfl, Blk.new _ _ _, (Below.refl _ _).alloc (Nat.le_refl _) _⟩
  case round =>
    obtain ⟨k, hk, rfl, hblk, hbel⟩ := hrel
    by_cases hlt : k < l.length
    · obtain ⟨ad, rfl, hb, h1, h2⟩ := (h.below hbel).at_ hlt
      obtain ⟨a, ha⟩ : ∃ a, l[k].1 = a := ⟨_, rfl⟩
      obtain ⟨s, hsq⟩ : ∃ s, l[k].2 = s := ⟨_, rfl⟩
      rw [ha] at h1
      rw [hsq] at h2
      have hsz : (cellsS (fillZ zS l k)).toArray.size = l.length * 2 := by simp
      go_wp2_with fail
      refine (toServed_any a s wr).mono ?_
      rintro e w1 ⟨rfl, hbel1⟩
      have hb1 := hblk.below hbel1 hblk.lt
      have hc0 : ∃ v, w1.cell? ⟨w.heap.size, k * 2, none⟩ = some v := ⟨_, (hb1.cell (k * 2)).trans (Array.getElem?_eq_getElem (by rw [hsz]; omega))⟩
      have hc1 : ∃ v, w1.cell? ⟨w.heap.size, k * 2 + 1, none⟩ = some v := ⟨_, (hb1.cell (k * 2 + 1)).trans (Array.getElem?_eq_getElem (by rw [hsz]; omega))⟩
      obtain ⟨v0, hc0⟩ := hc0
      obtain ⟨v1, hc1⟩ := hc1
      have f0 := hb1.frozen (k * 2)
      have f1 := hb1.frozen (k * 2 + 1)
      have hset := (hb1.set_ (k * 2) (.int .i64 a)).set_ (k * 2 + 1) (.string s)
      have B1 := hbel.trans (hbel1.mono hbel.size)
      have hcs : ((cellsS (fillZ zS l k)).toArray.setIfInBounds (k * 2) (.int .i64 a)).setIfInBounds (k * 2 + 1) (.string s) = (cellsS (fillZ zS l (k + 1))).toArray := by
        rw [← fillZ_set zS l k hlt, ← cellsS_set, hsq, ha]
        simp
      rw [hcs] at hset
      have Hset := Lib.hid hset
      clear hblk hbel1 hb1 hcs hset hsz ha hsq
      go_wp2
      go_roundw
      case rel => exact ⟨k + 1, by omega, by go_num, Hset.out, (B1.setCell (Nat.le_refl _) _).setCell (Nat.le_refl _) _⟩
      case measure => simp [intOf]; omega
    · obtain rfl : k = l.length := by omega
      rw [fillZ_all] at hblk
      have Hblk := Lib.hid hblk
      clear hblk
      go_wp2
      go_ret
      exact ⟨_, rfl, Nat.le_refl _, Hblk.out, hbel⟩
set_option maxHeartbeats 2000000 in
theorem eqServedS_same (A A' : Option Addr) (c c' : Nat) (l : List Sv) (w : World) (h : RS w w.heap.size A l) (h' : RS w w.heap.size A' l) (hn : l.length ≤ 1048576) :
    Calls Try.prog 19 #[.slice A l.length c, .slice A' l.length c'] w fun e w' => e = .returned (.bool true) ∧ Below w.heap.size w w' := by
  have hne : ((l.length : Int) != (l.length : Int)) = false := by simp
  go_enter Try.func19, Try.ntmps19
  go_wp2
  go_loopw [5] (fun i wr => ∃ k : Nat, k ≤ l.length ∧ i = .int .i64 k ∧ Below w.heap.size w wr) (fun i _ => l.length - (intOf i).toNat)
  case atStart => exact ⟨0, Nat.zero_le _, rfl, Below.refl _ _⟩
  case round =>
    obtain ⟨k, hk, rfl, hbel⟩ := hrel
    by_cases hlt : k < l.length
    · obtain ⟨ad, rfl, hb, h1, h2⟩ := (h.below hbel).at_ hlt
      obtain ⟨ad', rfl, hb', h1', h2'⟩ := (h'.below hbel).at_ hlt
      have hs := hbel.size
      obtain ⟨a, ha⟩ : ∃ a, l[k].1 = a := ⟨_, rfl⟩
      obtain ⟨s, hsq⟩ : ∃ s, l[k].2 = s := ⟨_, rfl⟩
      rw [ha] at h1 h1'
      rw [hsq] at h2 h2'
      clear hsq ha hne
      have hbk : (ad.add (k * 2)).block < wr.heap.size := by rw [block_of_add]; omega
      have hbk' : (ad'.add (k * 2)).block < wr.heap.size := by rw [block_of_add]; omega
      go_wp2
      go_region_held3 (fun w' => w'.cell? (ad.add (k * 2)) = some (.int .i64 a) ∧ w'.cell? ⟨(ad.add (k * 2)).block, (ad.add (k * 2)).off + 1, none⟩ = some (.string s) ∧ w'.cell? (ad'.add (k * 2)) = some (.int .i64 a) ∧ w'.cell? ⟨(ad'.add (k * 2)).block, (ad'.add (k * 2)).off + 1, none⟩ = some (.string s)) (go_keep) (first | (go_at_call 42; refine (eqServed_same a s _).mono ?_; rintro e w2 ⟨rfl, hb2⟩; have k1 := (hb2.cell (p := ad.add (k * 2)) hbk).trans h1; have k2 := (hb2.cell (p := ⟨(ad.add (k * 2)).block, (ad.add (k * 2)).off + 1, none⟩) hbk).trans h2; have k4 := (hb2.cell (p := ad'.add (k * 2)) hbk').trans h1'; have k5 := (hb2.cell (p := ⟨(ad'.add (k * 2)).block, (ad'.add (k * 2)).off + 1, none⟩) hbk').trans h2'))
      go_wp2
      go_roundw
      case rel => exact ⟨k + 1, by omega, by go_num, hbel.trans ((below_drew_ hb2).mono hs)⟩
      case measure => simp [intOf]; omega
    · obtain rfl : k = l.length := by omega
      go_wp2
      go_ret
      exact ⟨rfl, hbel⟩
/-- the first i of l marked from k on -/
def markSTo (l : List Sv) (k : Int) (i : Nat) : List Sv := l.mapIdx fun j x => if j < i then (k + 2 * (j : Int), markS (k + 2 * (j : Int) + 1)) else x
@[simp] theorem markSTo_length (l : List Sv) (k : Int) (i : Nat) : (markSTo l k i).length = l.length := by simp [markSTo]
theorem markSTo_zero (l : List Sv) (k : Int) : markSTo l k 0 = l := by
  apply List.ext_getElem?
  intro j
  simp only [markSTo, List.getElem?_mapIdx]
  by_cases h : j < l.length <;> simp [h]
theorem markSTo_set (l : List Sv) (k : Int) (i : Nat) : (markSTo l k i).set i (k + 2 * (i : Int), markS (k + 2 * (i : Int) + 1)) = markSTo l k (i + 1) := by
  apply List.ext_getElem?
  intro j
  rw [List.getElem?_set]
  simp only [markSTo, List.getElem?_mapIdx, List.length_mapIdx]
  by_cases hj : i = j
  · subst hj
    by_cases h : i < l.length <;> simp [h]
  · rw [if_neg hj]
    by_cases hjl : j < l.length
    · simp only [List.getElem?_eq_getElem hjl, Option.map_some]
      have : (j < i + 1) = (j < i) := by rw [eq_iff_iff]; omega
      simp only [this]
    · simp [hjl]
set_option maxHeartbeats 2000000 in
theorem markServedS_any (A : Option Addr) (c : Nat) (l : List Sv) (k : Int) (w : World) (base : Nat) (h : w.ownsRow base 63 2 (.slice A l.length c) l.length (cellsS l)) (hn : l.length ≤ 1048576) (hk0 : 1 ≤ k) (hk : k ≤ 10000000) :
    Calls Try.prog 21 #[.slice A l.length c, .int .i64 k] w fun e w' => e = .returned (.int .i64 (k + 2 * l.length)) ∧ w.grownBy w' (.slice A l.length c : Value).ownBlock := by
  by_cases h0 : l.length = 0
  · obtain rfl : l = [] := List.eq_nil_of_length_eq_zero h0
    go_enter Try.func21, Try.ntmps21
    go_wp2
    go_loopw [5, 1] (fun i m wr => i = .int .i64 0 ∧ m = .int .i64 k ∧ wr = w) (fun i _ _ => 0)
    case atStart => exact ⟨rfl, rfl, rfl⟩
    case round =>
      obtain ⟨rfl, rfl, rfl⟩ := hrel
      go_wp2
      go_ret
      exact ⟨ret_int (by simp), World.grownBy.refl _ _⟩
  · obtain ⟨g, c', hv, hbg, hlt⟩ := own_some h (by omega)
    obtain ⟨rfl, rfl⟩ : A = some ⟨g, 0, none⟩ ∧ c = c' := by injection hv with e1 e2 e3; exact ⟨e1, e3⟩
    go_enter Try.func21, Try.ntmps21
    go_wp2
    go_loopw [5, 1] (fun i m wr => ∃ j : Nat, j ≤ l.length ∧ i = .int .i64 j ∧ m = .int .i64 (k + 2 * j) ∧ wr.ownsRow base 63 2 (.slice (some ⟨g, 0, none⟩) l.length c) l.length (cellsS (markSTo l k j)) ∧ w.grownBy wr (some g)) (fun i _ _ => l.length - (intOf i).toNat)
    case atStart => exact ⟨0, Nat.zero_le _, rfl, by simp, by rw [markSTo_zero]; exact h, World.grownBy.refl _ _⟩
    case round =>
      obtain ⟨j, hj, rfl, rfl, ho, hg⟩ := hrel
      by_cases hlt : j < l.length
      · have hbs := hg.size
        have hlen : (cellsS (markSTo l k j)).length = l.length * 2 := by simp
        have c0 := (ho.cellAt (j * 2) (by omega)).trans (List.getElem?_eq_getElem (by rw [hlen]; omega))
        have f0 := ho.frozenAt (j * 2)
        have ho1 := (ho.stored (j * 2) (.int .i64 (k + 2 * j))).1
        have hg1 := only_setCell_ hg (j * 2) (.int .i64 (k + 2 * j))
        have Hlen := Lib.hid hlen
        generalize (cellsS (markSTo l k j))[j * 2]'(by rw [hlen]; omega) = o0 at c0
        go_wp2_with fail
        refine (markText_any (k + 2 * j + 1) _ (by omega) (by omega)).mono ?_
        rintro e w2 ⟨rfl, hb2⟩
        have ho2 := own_below ho1 hb2
        have hg2 : w.grownBy w2 (some g) := World.grownBy.trans hg1 ⟨hb2.os, hb2.tape, hb2.output, hb2.size, fun i hi _ => hb2.block i hi⟩
        have c1 := (ho2.cellAt (j * 2 + 1) (by omega)).trans (List.getElem?_eq_getElem (by rw [List.length_set, Hlen.out]; omega))
        have f1 := ho2.frozenAt (j * 2 + 1)
        have hst := (ho2.stored (j * 2 + 1) (.string (markS (k + 2 * j + 1)))).1
        rw [cellsS_set (markSTo l k j) j (k + 2 * j, markS (k + 2 * j + 1)), markSTo_set] at hst
        have Hst := Lib.hid hst
        have Hg := Lib.hid (only_setCell_ hg2 (j * 2 + 1) (.string (markS (k + 2 * j + 1))))
        clear hst
        generalize ((cellsS (markSTo l k j)).set (j * 2) (.int .i64 (k + 2 * j)))[j * 2 + 1]'(by rw [List.length_set, Hlen.out]; omega) = o1 at c1
        clear ho ho1 ho2 hg hg1 hg2 hb2 h hlen c0 f0
        go_wp2
        go_roundw
        case rel => exact ⟨j + 1, by omega, by go_num, by congr 1; omega, Hst.out, Hg.out⟩
        case measure => simp [intOf]; omega
      · obtain rfl : j = l.length := by omega
        clear ho
        go_wp2
        go_ret
        exact ⟨rfl, hg⟩
end Go.Proofs.Ytpblpdoalfphpaa
