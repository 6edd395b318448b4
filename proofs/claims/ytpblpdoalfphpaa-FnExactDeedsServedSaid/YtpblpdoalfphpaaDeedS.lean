/-
  What functions over slices of deeds return: their count, a copy, equality of equals.
-/
import Derived.Test.YtpblpdoalfphpaaList
import Derived.Test.YtpblpdoalfphpaaDeeds
import Derived.Deep.RegionHeld3
namespace Go.Proofs.Ytpblpdoalfphpaa
open Go.RowKit
set_option linter.unusedSimpArgs false
set_option linter.unusedVariables false

theorem below_drew_ {w w' : World} (h : Below w.drew.heap.size w.drew w') : Below w.heap.size w w' := ((Below.refl _ _).drew).trans h
/-- the texts of the first k deeds -/
def szT (l : List Dd) (k : Nat) : Nat := ((l.map fun d => d.1.size).take k).sum
theorem szT_zero (l : List Dd) : szT l 0 = 0 := by simp [szT]
theorem szT_all (l : List Dd) : l.length + szT l l.length = szD l := by
  unfold szT szD
  rw [List.take_of_length_le (by simp)]
theorem szT_succ {l : List Dd} {k : Nat} (h : k < l.length) : szT l (k + 1) = szT l k + l[k].1.size := by
  unfold szT
  rw [sum_take_succ _ k (by simpa using h)]
  simp
theorem szT_le (l : List Dd) (k : Nat) : l.length + szT l k ≤ szD l := by
  unfold szT szD
  have := sum_take_le (l.map fun d => d.1.size) k
  omega
/-- what is left of a count -/
def leftD (l : List Dd) (left : Int) : Int := if (szD l : Int) ≤ left then left - szD l else -1
theorem leftD_ok {l : List Dd} {left : Int} (h : (szD l : Int) ≤ left) : leftD l left = left - szD l := if_pos h
theorem leftD_no {l : List Dd} {left : Int} (h : left < (szD l : Int)) : leftD l left = -1 := if_neg (by omega)
set_option maxHeartbeats 1000000 in
theorem szDeedS_any (A : Option Addr) (c : Nat) (l : List Dd) (left : Int) (w : World) (h : RD w w.heap.size A l) (hc : l.length ≤ c) (hm : c ≤ maxLen) (hs : ∀ d ∈ l, d.1.size ≤ maxLen) (h0 : 0 ≤ left) (h1 : left ≤ 1048576) :
    Calls Try.prog 8 #[.slice A l.length c, .int .i64 left] w fun e w' => e = .returned (.int .i64 (leftD l left)) ∧ Below w.heap.size w w' := by
  by_cases hn : (l.length : Int) ≤ left
  · go_enter Try.func8, Try.ntmps8
    go_wp2
    go_loopw [5, 1] (fun i m wr => ∃ k : Nat, k ≤ l.length ∧ i = .int .i64 k ∧ m = .int .i64 (left - l.length - szT l k) ∧ (l.length : Int) + szT l k ≤ left ∧ Below w.heap.size w wr) (fun i _ _ => l.length - (intOf i).toNat)
    case atStart => exact ⟨0, Nat.zero_le _, rfl, by rw [szT_zero]; simp, by rw [szT_zero]; omega, Below.refl _ _⟩
    case round =>
      obtain ⟨k, hk, rfl, rfl, hle, hbel⟩ := hrel
      by_cases hlt : k < l.length
      · obtain ⟨ad, rfl, hb, c1, c2, c3⟩ := (h.below hbel).at_ hlt
        have hsz := hs l[k] (List.getElem_mem _)
        have Hsuc := Lib.hid (szT_succ hlt)
        have hall := szT_le l (k + 1)
        obtain ⟨d, hd⟩ : ∃ d, l[k] = d := ⟨_, rfl⟩
        rw [hd] at c1 c2 c3 hsz Hsuc
        obtain ⟨s, x, y⟩ := d
        have hbs := hbel.size
        clear hd h hs
        simp only at c1 c2 c3 hsz
        obtain ⟨t, ht⟩ : ∃ t, szT l k = t := ⟨_, rfl⟩
        rw [ht] at hle Hsuc
        obtain ⟨t', ht'⟩ : ∃ t, szT l (k + 1) = t := ⟨_, rfl⟩
        rw [ht'] at hall Hsuc
        have Ht := Lib.hid ht
        have Ht' := Lib.hid ht'
        rw [ht]
        clear ht ht'
        by_cases hfit : (s.size : Int) ≤ left - l.length - t
        · go_wp2_with (go_at_call 32; refine (szDeed_ok s x y _ _ (by omega) hfit).mono ?_; rintro e w1 ⟨rfl, hb1⟩)
          go_roundw
          case rel =>
            have e1 := Hsuc.out
            exact ⟨k + 1, by omega, by go_num, by rw [Ht'.out, e1]; congr 1; omega, by rw [Ht'.out]; omega, hbel.trans (hb1.mono hbs)⟩
          case measure => simp [intOf]; omega
        · have E : Hid (leftD l left = -1) := Lib.hid (leftD_no (by have e1 := Hsuc.out; simp only at e1; omega))
          go_wp2_with (go_at_call 32; refine (szDeed_no s x y _ _ hsz (by omega) (by omega) (by omega)).mono ?_; rintro e w1 ⟨rfl, hb1⟩)
          go_ret
          exact ⟨ret_int E.out.symm, hbel.trans (hb1.mono hbs)⟩
      · obtain rfl : k = l.length := by omega
        have hall := szT_all l
        have E : Hid (leftD l left = left - l.length - szT l l.length) := Lib.hid (by rw [leftD_ok (by omega)]; omega)
        clear hall
        go_wp2
        go_ret
        exact ⟨ret_int E.out.symm, hbel⟩
  · have E : Hid (leftD l left = -1) := Lib.hid (leftD_no (by have := szD_len (l := l); omega))
    unfold maxLen at hm
    clear h hs
    go_enter Try.func8, Try.ntmps8
    go_wp2
    go_ret
    exact ⟨ret_int E.out.symm, Below.refl _ _⟩

def zD : Dd := (ByteArray.empty, 0, 0)
theorem deed_info : (Try.prog.info? 54).map (fun i => (i.zero, i.size, i.bytes)) = some (some (Value.agg #[.string ByteArray.empty, .int .i64 0, .int .i64 0]), 3, 32) := by kernel_rfl
/-- a slice of its own that holds the deeds l -/
def NewDeeds (w : World) (l : List Dd) (e : Ending) (w' : World) : Prop :=
  ∃ g, e = .returned (.slice (some ⟨g, 0, none⟩) l.length l.length) ∧ w.heap.size ≤ g ∧ Blk w' g 54 (cells3 l).toArray ∧ Below w.heap.size w w'
set_option maxHeartbeats 1000000 in
theorem toDeedS_any (A : Option Addr) (c : Nat) (l : List Dd) (w : World) (h : RD w w.heap.size A l) (hn : l.length ≤ 1048576) :
    Calls Try.prog 10 #[.slice A l.length c] w (NewDeeds w l) := by
  obtain ⟨i0, hi, hz0, hz1, hz2⟩ := info_parts deed_info
  have hmk : ∀ W : World, (Instr.makeSlice 25 (.int .i64 (l.length : Int)) (.int .i64 (l.length : Int))).run Try.prog W = .ok (.slice (some ⟨W.heap.size, 0, none⟩) l.length l.length) (W.alloc (.cells (cells3 (fillZ zD l 0)).toArray 54)) := fun W => by
    have hr := run_make (P := Try.prog) W 25 54 i0 _ Try.underlying25 hi hz0 .i64 .i64 l.length l.length (by omega) (by omega) (by rw [hz2]; omega) (by omega)
    simp only [Int.toNat_natCast] at hr
    rw [hr, hz1, fillZ_zero]
    unfold cells3
    rw [flat_made (z := Value.agg #[.string ByteArray.empty, .int .i64 0, .int .i64 0]) (zs := zD) rfl encD_length (by omega)]
  clear hi hz0 hz1 hz2
  go_enter Try.func10, Try.ntmps10
  go_wp2_with fail
  go_loopw [4] (fun i wr => ∃ k : Nat, k ≤ l.length ∧ i = .int .i64 k ∧ Blk wr w.heap.size 54 (cells3 (fillZ zD l k)).toArray ∧ Below w.heap.size w wr) (fun i _ => l.length - (intOf i).toNat)
  case atStart => exact ⟨0, Nat.zero_le _, rfl, Blk.new _ _ _, (Below.refl _ _).alloc (Nat.le_refl _) _⟩
  case round =>
    obtain ⟨k, hk, rfl, hblk, hbel⟩ := hrel
    by_cases hlt : k < l.length
    · obtain ⟨ad, rfl, hb, h1, h2, h3⟩ := (h.below hbel).at_ hlt
      obtain ⟨s, hsq⟩ : ∃ s, l[k].1 = s := ⟨_, rfl⟩
      obtain ⟨a, ha⟩ : ∃ a, l[k].2.1 = a := ⟨_, rfl⟩
      obtain ⟨b, hb2⟩ : ∃ b, l[k].2.2 = b := ⟨_, rfl⟩
      rw [hsq] at h1
      rw [ha] at h2
      rw [hb2] at h3
      have hsz : (cells3 (fillZ zD l k)).toArray.size = l.length * 3 := by simp
      go_wp2_with fail
      refine (toDeed_any s a b wr).mono ?_
      rintro e w1 ⟨rfl, hbel1⟩
      have hb1 := hblk.below hbel1 hblk.lt
      have hc0 : ∃ v, w1.cell? ⟨w.heap.size, k * 3, none⟩ = some v := ⟨_, (hb1.cell (k * 3)).trans (Array.getElem?_eq_getElem (by rw [hsz]; omega))⟩
      have hc1 : ∃ v, w1.cell? ⟨w.heap.size, k * 3 + 1, none⟩ = some v := ⟨_, (hb1.cell (k * 3 + 1)).trans (Array.getElem?_eq_getElem (by rw [hsz]; omega))⟩
      have hc2 : ∃ v, w1.cell? ⟨w.heap.size, k * 3 + 2, none⟩ = some v := ⟨_, (hb1.cell (k * 3 + 2)).trans (Array.getElem?_eq_getElem (by rw [hsz]; omega))⟩
      obtain ⟨v0, hc0⟩ := hc0
      obtain ⟨v1, hc1⟩ := hc1
      obtain ⟨v2, hc2⟩ := hc2
      have f0 := hb1.frozen (k * 3)
      have f1 := hb1.frozen (k * 3 + 1)
      have f2 := hb1.frozen (k * 3 + 2)
      have hset := ((hb1.set_ (k * 3) (.string s)).set_ (k * 3 + 1) (.int .i64 a)).set_ (k * 3 + 2) (.int .i64 b)
      have B1 := hbel.trans (hbel1.mono hbel.size)
      have hcs : (((cells3 (fillZ zD l k)).toArray.setIfInBounds (k * 3) (.string s)).setIfInBounds (k * 3 + 1) (.int .i64 a)).setIfInBounds (k * 3 + 2) (.int .i64 b) = (cells3 (fillZ zD l (k + 1))).toArray := by
        rw [← fillZ_set zD l k hlt, ← cells3_set, hsq, ha, hb2]
        simp
      rw [hcs] at hset
      have Hset := Lib.hid hset
      clear hblk hbel1 hb1 hcs hset hsz ha hb2 hsq
      go_wp2
      go_roundw
      case rel => exact ⟨k + 1, by omega, by go_num, Hset.out, ((B1.setCell (Nat.le_refl _) _).setCell (Nat.le_refl _) _).setCell (Nat.le_refl _) _⟩
      case measure => simp [intOf]; omega
    · obtain rfl : k = l.length := by omega
      rw [fillZ_all] at hblk
      have Hblk := Lib.hid hblk
      clear hblk
      go_wp2
      go_ret
      exact ⟨_, rfl, Nat.le_refl _, Hblk.out, hbel⟩
theorem eqDeed_same (s : ByteArray) (x y : Int) (w : World) : Calls Try.prog 37 #[.agg #[.string s, .int .i64 x, .int .i64 y], .agg #[.string s, .int .i64 x, .int .i64 y]] w fun e w' =>
    e = .returned (.bool true) ∧ Below w.heap.size w w' := by
  have hs : (s.toList != s.toList) = false := by simp
  have hs2 : (!(s.toList == s.toList)) = false := by simp
  have hx : (x != x) = false := by simp
  have hy : (y != y) = false := by simp
  go_enter Try.func37, Try.ntmps37
  go_wp2
  go_ret
  exact ⟨rfl, ((Below.refl _ _).alloc (Nat.le_refl _) _).alloc (by simp) _⟩
set_option maxHeartbeats 2000000 in
theorem eqDeedS_same (A A' : Option Addr) (c c' : Nat) (l : List Dd) (w : World) (h : RD w w.heap.size A l) (h' : RD w w.heap.size A' l) (hn : l.length ≤ 1048576) :
    Calls Try.prog 12 #[.slice A l.length c, .slice A' l.length c'] w fun e w' => e = .returned (.bool true) ∧ Below w.heap.size w w' := by
  have hne : ((l.length : Int) != (l.length : Int)) = false := by simp
  go_enter Try.func12, Try.ntmps12
  go_wp2
  go_loopw [5] (fun i wr => ∃ k : Nat, k ≤ l.length ∧ i = .int .i64 k ∧ Below w.heap.size w wr) (fun i _ => l.length - (intOf i).toNat)
  case atStart => exact ⟨0, Nat.zero_le _, rfl, Below.refl _ _⟩
  case round =>
    obtain ⟨k, hk, rfl, hbel⟩ := hrel
    by_cases hlt : k < l.length
    · obtain ⟨ad, rfl, hb, h1, h2, h3⟩ := (h.below hbel).at_ hlt
      obtain ⟨ad', rfl, hb', h1', h2', h3'⟩ := (h'.below hbel).at_ hlt
      have hs := hbel.size
      obtain ⟨s, hsq⟩ : ∃ s, l[k].1 = s := ⟨_, rfl⟩
      obtain ⟨a, ha⟩ : ∃ a, l[k].2.1 = a := ⟨_, rfl⟩
      obtain ⟨b, hb2⟩ : ∃ b, l[k].2.2 = b := ⟨_, rfl⟩
      rw [hsq] at h1 h1'
      rw [ha] at h2 h2'
      rw [hb2] at h3 h3'
      clear hsq ha hb2 hne
      have hbk : (ad.add (k * 3)).block < wr.heap.size := by rw [block_of_add]; omega
      have hbk' : (ad'.add (k * 3)).block < wr.heap.size := by rw [block_of_add]; omega
      go_wp2
      go_region_held3 (fun w' => w'.cell? (ad.add (k * 3)) = some (.string s) ∧ w'.cell? ⟨(ad.add (k * 3)).block, (ad.add (k * 3)).off + 1, none⟩ = some (.int .i64 a) ∧ w'.cell? ⟨(ad.add (k * 3)).block, (ad.add (k * 3)).off + 2, none⟩ = some (.int .i64 b) ∧ w'.cell? (ad'.add (k * 3)) = some (.string s) ∧ w'.cell? ⟨(ad'.add (k * 3)).block, (ad'.add (k * 3)).off + 1, none⟩ = some (.int .i64 a) ∧ w'.cell? ⟨(ad'.add (k * 3)).block, (ad'.add (k * 3)).off + 2, none⟩ = some (.int .i64 b)) (go_keep) (first | (go_at_call 37; refine (eqDeed_same s a b _).mono ?_; rintro e w2 ⟨rfl, hb2⟩; have k1 := (hb2.cell (p := ad.add (k * 3)) hbk).trans h1; have k2 := (hb2.cell (p := ⟨(ad.add (k * 3)).block, (ad.add (k * 3)).off + 1, none⟩) hbk).trans h2; have k3 := (hb2.cell (p := ⟨(ad.add (k * 3)).block, (ad.add (k * 3)).off + 2, none⟩) hbk).trans h3; have k4 := (hb2.cell (p := ad'.add (k * 3)) hbk').trans h1'; have k5 := (hb2.cell (p := ⟨(ad'.add (k * 3)).block, (ad'.add (k * 3)).off + 1, none⟩) hbk').trans h2'; have k6 := (hb2.cell (p := ⟨(ad'.add (k * 3)).block, (ad'.add (k * 3)).off + 2, none⟩) hbk').trans h3'))
      go_wp2
      go_roundw
      case rel => exact ⟨k + 1, by omega, by go_num, hbel.trans ((below_drew_ hb2).mono hs)⟩
      case measure => simp [intOf]; omega
    · obtain rfl : k = l.length := by omega
      go_wp2
      go_ret
      exact ⟨rfl, hbel⟩
end Go.Proofs.Ytpblpdoalfphpaa
