/-
  The text of a mark.
-/
import Derived.Test.YthmgpkcijolljaaH1
import Derived.Laws.BytesArg
import Derived.Deep.RegionHeld3
namespace Go.Proofs.Ythmgpkcijolljaa
open Go.RowKit
set_option linter.unusedSimpArgs false
set_option linter.unusedVariables false
/-- the decimal digits of n, none of 0 -/
def digs (n : Nat) : List UInt8 := if h : n = 0 then [] else digs (n / 10) ++ [UInt8.ofNat (48 + n % 10)]
theorem digs_zero : digs 0 = [] := by rw [digs]; simp
theorem digs_pos {n : Nat} (h : 0 < n) : digs n = digs (n / 10) ++ [UInt8.ofNat (48 + n % 10)] := by
 rw [digs]
 simp [show ¬ n = 0 by omega]
theorem digs_len (m : Nat) : ∀ n, n < 10 ^ m → (digs n).length ≤ m := by
 induction m with
 | zero =>
  intro n h
  have : n = 0 := by simpa using h
  subst this; simp [digs_zero]
 | succ m ih =>
  intro n h
  by_cases h0 : n = 0
  ·subst h0; simp [digs_zero]
  ·rw [digs_pos (by omega)]
   have := ih (n / 10) (by rw [Nat.pow_succ] at h; exact Nat.div_lt_of_lt_mul (by rw [Nat.mul_comm]; exact h))
   simp
   omega
/-- the text that marks k -/
def markS (k : Int) : ByteArray := ⟨(109 :: digs k.toNat).toArray⟩
theorem ret_str {a b : ByteArray} (h : a = b) : Ending.returned (.string a) = .returned (.string b) := by rw [h]
theorem bytes_ext {a b : ByteArray} (h : a.data.toList = b.data.toList) : a = b := by
 cases a; cases b
 congr 1
 exact Array.toList_inj.1 h
set_option maxHeartbeats 1000000 in
theorem markText_any (k : Int) (w : World) (h1 : 1 ≤ k) (h2 : k ≤ 1099511627776) :
  Calls Try.prog 41 #[.int .i64 k] w fun e w' => e = .returned (.string (markS k)) ∧ Below w.heap.size w w' := by
 have hcv : ∀ (W : World) (d : Int), (convert 29 9 (.slice (some ⟨W.heap.size, 0, none⟩) 1 1)).run Try.prog (W.alloc (.cells #[.int .u8 d] 5)) = .ok (.string (strOfNums [d])) (W.alloc (.cells #[.int .u8 d] 5)) := fun W d =>
  run_convert_bytes_arg (W.alloc (.cells #[.int .u8 d] 5)) 29 5 Try.underlying29 Try.underlying5 W.heap.size 0 1 1 [d] rfl (fun i hi => by
   obtain rfl : i = 0 := by omega
   simp [go_sem]) 9 Try.underlying9
 obtain ⟨K0, rfl⟩ : ∃ K0 : Nat, k = (K0 : Int) := ⟨k.toNat, by omega⟩
 have hk1 : ¬ K0 = 0 := by omega
 have hss : ∀ d : Int, (strOfNums [d]).size = 1 := fun d => rfl
 have hk2 : K0 ≤ 1099511627776 := by omega
 clear h1 h2
 go_enter Try.func41, Try.ntmps41
 go_wp2
 go_loopw [0, 3] (fun a b wr => ∃ (K : Nat) (o : ByteArray), a = .int .i64 K ∧ b = .string o ∧ K ≤ K0 ∧ digs K ++ o.data.toList = digs K0 ∧ Below w.heap.size w wr) (fun a _ _ => (intOf a).toNat)
 case atStart => exact ⟨K0, ⟨#[]⟩, rfl, rfl, Nat.le_refl _, by simp, Below.refl _ _⟩
 case round =>
  obtain ⟨K, o, rfl, rfl, hK, ho, hbel⟩ := hrel
  have hlen : o.size ≤ 13 := by
   have h1 := digs_len 13 K0 (by omega)
   have h2 := congrArg List.length ho
   simp only [List.length_append, Array.length_toList] at h2
   have h3 : o.size = o.data.size := rfl
   omega
  have Ho := Lib.hid ho
  clear ho
  by_cases hK0 : 0 < K
  ·go_wp2
   go_roundw
   case rel =>
    refine ⟨K / 10, _, by congr 1, rfl, by omega, ?_, hbel.alloc hbel.size _⟩
    rw [← Ho.out, digs_pos hK0, List.append_assoc]
    congr 1
   case measure => simp [intOf]; omega
  ·obtain rfl : K = 0 := by omega
   go_wp2
   go_ret
   refine ⟨ret_str (bytes_ext ?_), hbel⟩
   have := Ho.out
   rw [digs_zero, List.nil_append] at this
   rw [ByteArray.data_append]
   simp [markS, this]
 all_goals rfl
end Go.Proofs.Ythmgpkcijolljaa
/-
  What functions over slices of saids return: their count, a copy, equality of equals, marks.
-/
namespace Go.Proofs.Ythmgpkcijolljaa
open Go.RowKit
set_option linter.unusedSimpArgs false
set_option linter.unusedVariables false
theorem below_drewd_ {w w' : World} (h : Below w.drew.heap.size w.drew w') : Below w.heap.size w w' := ((Below.refl _ _).drew).trans h
/-- the texts of the first k deeds -/
def szT (l : List Dd) (k : Nat) : Nat := ((l.map fun d => d.1.size).take k).sum
theorem szT_zero (l : List Dd) : szT l 0 = 0 := by simp [szT]
theorem szT_all (l : List Dd) : l.length + szT l l.length = szD l := by
 unfold szT szD
 rw [List.take_of_length_le (by simp)]
theorem szT_succ {l : List Dd} {k : Nat} (h : k < l.length) : szT l (k + 1) = szT l k + l[k].1.size := by
 unfold szT
 rw [sum_take_succ _ k (by simpa using h)]
 simp
theorem szT_le (l : List Dd) (k : Nat) : l.length + szT l k ≤ szD l := by
 unfold szT szD
 have := sum_take_le (l.map fun d => d.1.size) k
 omega
/-- what is left of a count -/
def leftD (l : List Dd) (left : Int) : Int := if (szD l : Int) ≤ left then left - szD l else -1
theorem leftD_ok {l : List Dd} {left : Int} (h : (szD l : Int) ≤ left) : leftD l left = left - szD l := if_pos h
theorem leftD_no {l : List Dd} {left : Int} (h : left < (szD l : Int)) : leftD l left = -1 := if_neg (by omega)
set_option maxHeartbeats 1000000 in
theorem szSaidS_any (A : Option Addr) (c : Nat) (l : List Dd) (left : Int) (w : World) (h : RD w w.heap.size A l) (hc : l.length ≤ c) (hm : c ≤ maxLen) (hs : ∀ d ∈ l, d.1.size ≤ maxLen) (h0 : 0 ≤ left) (h1 : left ≤ 1048576) :
  Calls Try.prog 10 #[.slice A l.length c, .int .i64 left] w fun e w' => e = .returned (.int .i64 (leftD l left)) ∧ Below w.heap.size w w' := by
 by_cases hn : (l.length : Int) ≤ left
 ·go_enter Try.func10, Try.ntmps10
  go_wp2
  go_loopw [5, 1] (fun i m wr => ∃ k : Nat, k ≤ l.length ∧ i = .int .i64 k ∧ m = .int .i64 (left - l.length - szT l k) ∧ (l.length : Int) + szT l k ≤ left ∧ Below w.heap.size w wr) (fun i _ _ => l.length - (intOf i).toNat)
  case atStart => exact ⟨0, Nat.zero_le _, rfl, by rw [szT_zero]; simp, by rw [szT_zero]; omega, Below.refl _ _⟩
  case round =>
   obtain ⟨k, hk, rfl, rfl, hle, hbel⟩ := hrel
   by_cases hlt : k < l.length
   ·obtain ⟨ad, rfl, hb, c1, c2, c3⟩ := (h.below hbel).at_ hlt
    have hsz := hs l[k] (List.getElem_mem _)
    have Hsuc := Lib.hid (szT_succ hlt)
    have hall := szT_le l (k + 1)
    obtain ⟨d, hd⟩ : ∃ d, l[k] = d := ⟨_, rfl⟩
    rw [hd] at c1 c2 c3 hsz Hsuc
    obtain ⟨s, x, y⟩ := d
    have hbs := hbel.size
    clear hd h hs
    simp only at c1 c2 c3 hsz
    obtain ⟨t, ht⟩ : ∃ t, szT l k = t := ⟨_, rfl⟩
    rw [ht] at hle Hsuc
    obtain ⟨t', ht'⟩ : ∃ t, szT l (k + 1) = t := ⟨_, rfl⟩
    rw [ht'] at hall Hsuc
    have Ht := Lib.hid ht
    have Ht' := Lib.hid ht'
    rw [ht]
    clear ht ht'
    by_cases hfit : (s.size : Int) ≤ left - l.length - t
    ·go_wp2_with (go_at_call 32; refine (szSaid_ok s x y _ _ (by omega) hfit).mono ?_; rintro e w1 ⟨rfl, hb1⟩)
     go_roundw
     case rel =>
      have e1 := Hsuc.out
      exact ⟨k + 1, by omega, by go_num, by rw [Ht'.out, e1]; congr 1; omega, by rw [Ht'.out]; omega, hbel.trans (hb1.mono hbs)⟩
     case measure => simp [intOf]; omega
    ·have E : Hid (leftD l left = -1) := Lib.hid (leftD_no (by have e1 := Hsuc.out; simp only at e1; omega))
     go_wp2_with (go_at_call 32; refine (szSaid_no s x y _ _ hsz (by omega) (by omega) (by omega)).mono ?_; rintro e w1 ⟨rfl, hb1⟩)
     go_ret
     exact ⟨ret_int E.out.symm, hbel.trans (hb1.mono hbs)⟩
   ·obtain rfl : k = l.length := by omega
    have hall := szT_all l
    have E : Hid (leftD l left = left - l.length - szT l l.length) := Lib.hid (by rw [leftD_ok (by omega)]; omega)
    clear hall
    go_wp2
    go_ret
    exact ⟨ret_int E.out.symm, hbel⟩
 ·have E : Hid (leftD l left = -1) := Lib.hid (leftD_no (by have := szD_len (l := l); omega))
  unfold maxLen at hm
  clear h hs
  go_enter Try.func10, Try.ntmps10
  go_wp2
  go_ret
  exact ⟨ret_int E.out.symm, Below.refl _ _⟩
def zD : Dd := (ByteArray.empty, 0, 0)
theorem said_info : (Try.prog.info? 41).map (fun i => (i.zero, i.size, i.bytes)) = some (some (Value.agg #[.string ByteArray.empty, .int .i64 0, .int .i64 0]), 3, 32) := by kernel_rfl
/-- a slice of its own that holds the deeds l -/
def NewSaids (w : World) (l : List Dd) (e : Ending) (w' : World) : Prop :=
 ∃ g, e = .returned (.slice (some ⟨g, 0, none⟩) l.length l.length) ∧ w.heap.size ≤ g ∧ Blk w' g 41 (cells3 l).toArray ∧ Below w.heap.size w w'
set_option maxHeartbeats 1000000 in
theorem toSaidS_wp (A : Option Addr) (c : Nat) (l : List Dd) (w : World) (h : RD w w.heap.size A l) (hn : l.length ≤ 1048576) {cd : Code} (hb : Try.f12.body = some cd) :
  cd.wp Try.prog (bodyPost Try.prog Try.f12 (NewSaids w l)) { tmps := #[.slice A l.length c] ++ Array.replicate (Try.f12.ntmps - (#[Value.slice A l.length c] : Array Value).size) undef, defers := [] } w := by
 obtain ⟨i0, hi, hz0, hz1, hz2⟩ := info_parts said_info
 have hmk : ∀ W : World, (Instr.makeSlice 25 (.int .i64 (l.length : Int)) (.int .i64 (l.length : Int))).run Try.prog W = .ok (.slice (some ⟨W.heap.size, 0, none⟩) l.length l.length) (W.alloc (.cells (cells3 (fillZ zD l 0)).toArray 41)) := fun W => by
  have hr := run_make (P := Try.prog) W 25 41 i0 _ Try.underlying25 hi hz0 .i64 .i64 l.length l.length (by omega) (by omega) (by rw [hz2]; omega) (by omega)
  simp only [Int.toNat_natCast] at hr
  rw [hr, hz1, fillZ_zero]
  unfold cells3
  rw [flat_made (z := Value.agg #[.string ByteArray.empty, .int .i64 0, .int .i64 0]) (zs := zD) rfl encD_length (by omega)]
 clear hi hz0 hz1 hz2
 cases hb
 simp only [Try.ntmps12, List.size_toArray, List.length_cons, List.length_nil, Nat.reduceAdd, Nat.reduceSub, Array.replicate_succ, Array.replicate_zero, List.push_toArray, List.append_toArray, List.nil_append, List.cons_append]
 go_wp2_with fail
 go_loopw [4] (fun i wr => ∃ k : Nat, k ≤ l.length ∧ i = .int .i64 k ∧ Blk wr w.heap.size 41 (cells3 (fillZ zD l k)).toArray ∧ Below w.heap.size w wr) (fun i _ => l.length - (intOf i).toNat)
 case atStart => exact ⟨0, Nat.zero_le _, rfl, Blk.new _ _ _, (Below.refl _ _).alloc (Nat.le_refl _) _⟩
 case round =>
  obtain ⟨k, hk, rfl, hblk, hbel⟩ := hrel
  by_cases hlt : k < l.length
  ·obtain ⟨ad, rfl, hb, h1, h2, h3⟩ := (h.below hbel).at_ hlt
   obtain ⟨s, hsq⟩ : ∃ s, l[k].1 = s := ⟨_, rfl⟩
   obtain ⟨a, ha⟩ : ∃ a, l[k].2.1 = a := ⟨_, rfl⟩
   obtain ⟨b, hb2⟩ : ∃ b, l[k].2.2 = b := ⟨_, rfl⟩
   rw [hsq] at h1
   rw [ha] at h2
   rw [hb2] at h3
   have hsz : (cells3 (fillZ zD l k)).toArray.size = l.length * 3 := by simp
   go_wp2_with fail
   refine (toSaid_any s a b wr).mono ?_
   rintro e w1 ⟨rfl, hbel1⟩
   have hb1 := hblk.below hbel1 hblk.lt
   have hc0 : ∃ v, w1.cell? ⟨w.heap.size, k * 3, none⟩ = some v := ⟨_, (hb1.cell (k * 3)).trans (Array.getElem?_eq_getElem (by rw [hsz]; omega))⟩
   have hc1 : ∃ v, w1.cell? ⟨w.heap.size, k * 3 + 1, none⟩ = some v := ⟨_, (hb1.cell (k * 3 + 1)).trans (Array.getElem?_eq_getElem (by rw [hsz]; omega))⟩
   have hc2 : ∃ v, w1.cell? ⟨w.heap.size, k * 3 + 2, none⟩ = some v := ⟨_, (hb1.cell (k * 3 + 2)).trans (Array.getElem?_eq_getElem (by rw [hsz]; omega))⟩
   obtain ⟨v0, hc0⟩ := hc0
   obtain ⟨v1, hc1⟩ := hc1
   obtain ⟨v2, hc2⟩ := hc2
   have f0 := hb1.frozen (k * 3)
   have f1 := hb1.frozen (k * 3 + 1)
   have f2 := hb1.frozen (k * 3 + 2)
   have hset := ((hb1.set_ (k * 3) (.string s)).set_ (k * 3 + 1) (.int .i64 a)).set_ (k * 3 + 2) (.int .i64 b)
   have B1 := hbel.trans (hbel1.mono hbel.size)
   have hcs : (((cells3 (fillZ zD l k)).toArray.setIfInBounds (k * 3) (.string s)).setIfInBounds (k * 3 + 1) (.int .i64 a)).setIfInBounds (k * 3 + 2) (.int .i64 b) = (cells3 (fillZ zD l (k + 1))).toArray := by
    rw [← fillZ_set zD l k hlt, ← cells3_set, hsq, ha, hb2]
    simp
   rw [hcs] at hset
   have Hset := Lib.hid hset
   clear hblk hbel1 hb1 hcs hset hsz ha hb2 hsq
   go_wp2
   go_roundw
   case rel => exact ⟨k + 1, by omega, by go_num, Hset.out, ((B1.setCell (Nat.le_refl _) _).setCell (Nat.le_refl _) _).setCell (Nat.le_refl _) _⟩
   case measure => simp [intOf]; omega
  ·obtain rfl : k = l.length := by omega
   rw [fillZ_all] at hblk
   have Hblk := Lib.hid hblk
   clear hblk
   go_wp2
   go_ret
   exact ⟨_, rfl, Nat.le_refl _, Hblk.out, hbel⟩
theorem toSaidS_any (A : Option Addr) (c : Nat) (l : List Dd) (w : World) (h : RD w w.heap.size A l) (hn : l.length ≤ 1048576) :
  Calls Try.prog 12 #[.slice A l.length c] w (NewSaids w l) := calls_of_wp Try.func12 rfl (toSaidS_wp A c l w h hn rfl)
theorem eqSaid_same (s : ByteArray) (x y : Int) (w : World) : Calls Try.prog 36 #[.agg #[.string s, .int .i64 x, .int .i64 y], .agg #[.string s, .int .i64 x, .int .i64 y]] w fun e w' =>
  e = .returned (.bool true) ∧ Below w.heap.size w w' := by
 have hs : (s.toList != s.toList) = false := by simp
 have hs2 : (!(s.toList == s.toList)) = false := by simp
 have hx : (x != x) = false := by simp
 have hy : (y != y) = false := by simp
 go_enter Try.func36, Try.ntmps36
 go_wp2
 go_ret
 exact ⟨rfl, ((Below.refl _ _).alloc (Nat.le_refl _) _).alloc (by simp) _⟩
set_option maxHeartbeats 2000000 in
theorem eqSaidS_same (A A' : Option Addr) (c c' : Nat) (l : List Dd) (w : World) (h : RD w w.heap.size A l) (h' : RD w w.heap.size A' l) (hn : l.length ≤ 1048576) :
  Calls Try.prog 14 #[.slice A l.length c, .slice A' l.length c'] w fun e w' => e = .returned (.bool true) ∧ Below w.heap.size w w' := by
 have hne : ((l.length : Int) != (l.length : Int)) = false := by simp
 go_enter Try.func14, Try.ntmps14
 go_wp2
 go_loopw [5] (fun i wr => ∃ k : Nat, k ≤ l.length ∧ i = .int .i64 k ∧ Below w.heap.size w wr) (fun i _ => l.length - (intOf i).toNat)
 case atStart => exact ⟨0, Nat.zero_le _, rfl, Below.refl _ _⟩
 case round =>
  obtain ⟨k, hk, rfl, hbel⟩ := hrel
  by_cases hlt : k < l.length
  ·obtain ⟨ad, rfl, hb, h1, h2, h3⟩ := (h.below hbel).at_ hlt
   obtain ⟨ad', rfl, hb', h1', h2', h3'⟩ := (h'.below hbel).at_ hlt
   have hs := hbel.size
   obtain ⟨s, hsq⟩ : ∃ s, l[k].1 = s := ⟨_, rfl⟩
   obtain ⟨a, ha⟩ : ∃ a, l[k].2.1 = a := ⟨_, rfl⟩
   obtain ⟨b, hb2⟩ : ∃ b, l[k].2.2 = b := ⟨_, rfl⟩
   rw [hsq] at h1 h1'
   rw [ha] at h2 h2'
   rw [hb2] at h3 h3'
   clear hsq ha hb2 hne
   have hbk : (ad.add (k * 3)).block < wr.heap.size := by rw [block_of_add]; omega
   have hbk' : (ad'.add (k * 3)).block < wr.heap.size := by rw [block_of_add]; omega
   go_wp2
   go_region_held3 (fun w' => w'.cell? (ad.add (k * 3)) = some (.string s) ∧ w'.cell? ⟨(ad.add (k * 3)).block, (ad.add (k * 3)).off + 1, none⟩ = some (.int .i64 a) ∧ w'.cell? ⟨(ad.add (k * 3)).block, (ad.add (k * 3)).off + 2, none⟩ = some (.int .i64 b) ∧ w'.cell? (ad'.add (k * 3)) = some (.string s) ∧ w'.cell? ⟨(ad'.add (k * 3)).block, (ad'.add (k * 3)).off + 1, none⟩ = some (.int .i64 a) ∧ w'.cell? ⟨(ad'.add (k * 3)).block, (ad'.add (k * 3)).off + 2, none⟩ = some (.int .i64 b)) (go_keep) (first | (go_at_call 36; refine (eqSaid_same s a b _).mono ?_; rintro e w2 ⟨rfl, hb2⟩; have k1 := (hb2.cell (p := ad.add (k * 3)) hbk).trans h1; have k2 := (hb2.cell (p := ⟨(ad.add (k * 3)).block, (ad.add (k * 3)).off + 1, none⟩) hbk).trans h2; have k3 := (hb2.cell (p := ⟨(ad.add (k * 3)).block, (ad.add (k * 3)).off + 2, none⟩) hbk).trans h3; have k4 := (hb2.cell (p := ad'.add (k * 3)) hbk').trans h1'; have k5 := (hb2.cell (p := ⟨(ad'.add (k * 3)).block, (ad'.add (k * 3)).off + 1, none⟩) hbk').trans h2'; have k6 := (hb2.cell (p := ⟨(ad'.add (k * 3)).block, (ad'.add (k * 3)).off + 2, none⟩) hbk').trans h3'))
   go_wp2
   go_roundw
   case rel => exact ⟨k + 1, by omega, by go_num, hbel.trans ((below_drewd_ hb2).mono hs)⟩
   case measure => simp [intOf]; omega
  ·obtain rfl : k = l.length := by omega
   go_wp2
   go_ret
   exact ⟨rfl, hbel⟩
theorem own_blk3 {w : World} {base g : Nat} {l : List Dd} (h : Blk w g 41 (cells3 l).toArray) (hb : base ≤ g) (hl : l.length ≤ 1048576) : w.ownsRow base 41 3 (.slice (some ⟨g, 0, none⟩) l.length l.length) l.length (cells3 l) := by
 refine ⟨by simp, .inr ⟨g, l.length, (cells3 l).toArray, rfl, hb, h, Nat.le_refl _, by unfold maxLen; omega, by simp, ?_⟩⟩
 simp [List.take_of_length_le]
theorem RD.of_own {w : World} {base : Nat} {e : TypeId} {A : Option Addr} {c : Nat} {l : List Dd} (h : w.ownsRow base e 3 (.slice A l.length c) l.length (cells3 l)) : RD w w.heap.size A l := Reads.of_own h
/-- n marks of deeds from k on -/
def markD (k : Int) (n : Nat) : List Dd := (List.range n).map fun (i : Nat) => (markS (k + 3 * i), k + 3 * i + 1, k + 3 * i + 1 + 1)
@[simp] theorem markD_length (k : Int) (n : Nat) : (markD k n).length = n := by simp [markD]
/-- the first i of l marked from k on -/
def markDTo (l : List Dd) (k : Int) (i : Nat) : List Dd := l.mapIdx fun j x => if j < i then (markS (k + 3 * (j : Int)), k + 3 * (j : Int) + 1, k + 3 * (j : Int) + 1 + 1) else x
@[simp] theorem markDTo_length (l : List Dd) (k : Int) (i : Nat) : (markDTo l k i).length = l.length := by simp [markDTo]
theorem markDTo_zero (l : List Dd) (k : Int) : markDTo l k 0 = l := by
 apply List.ext_getElem?
 intro j
 simp only [markDTo, List.getElem?_mapIdx]
 by_cases h : j < l.length <;> simp [h]
theorem markDTo_all (l : List Dd) (k : Int) : markDTo l k l.length = markD k l.length := by
 apply List.ext_getElem?
 intro j
 simp only [markDTo, markD, List.getElem?_mapIdx, List.getElem?_map]
 by_cases h : j < l.length
 ·simp [h, List.getElem?_range h]
 ·simp [h, List.getElem?_eq_none (show (List.range l.length).length ≤ j by simp; omega)]
theorem markDTo_set (l : List Dd) (k : Int) (i : Nat) : (markDTo l k i).set i (markS (k + 3 * (i : Int)), k + 3 * (i : Int) + 1, k + 3 * (i : Int) + 1 + 1) = markDTo l k (i + 1) := by
 apply List.ext_getElem?
 intro j
 rw [List.getElem?_set]
 simp only [markDTo, List.getElem?_mapIdx, List.length_mapIdx]
 by_cases hj : i = j
 ·subst hj
  by_cases h : i < l.length <;> simp [h]
 ·rw [if_neg hj]
  by_cases hjl : j < l.length
  ·simp only [List.getElem?_eq_getElem hjl, Option.map_some]
   have : (j < i + 1) = (j < i) := by rw [eq_iff_iff]; omega
   simp only [this]
  ·simp [hjl]
set_option maxHeartbeats 2000000 in
theorem markSaidS_any (A : Option Addr) (c : Nat) (l : List Dd) (k : Int) (w : World) (base : Nat) (h : w.ownsRow base 41 3 (.slice A l.length c) l.length (cells3 l)) (hn : l.length ≤ 1048576) (hk0 : 1 ≤ k) (hk : k ≤ 10000000) :
  Calls Try.prog 23 #[.slice A l.length c, .int .i64 k] w fun e w' => e = .returned (.int .i64 (k + 3 * l.length)) ∧
   w'.ownsRow base 41 3 (.slice A l.length c) l.length (cells3 (markD k l.length)) ∧ w.grownBy w' (.slice A l.length c : Value).ownBlock := by
 by_cases h0 : l.length = 0
 ·obtain rfl : l = [] := List.eq_nil_of_length_eq_zero h0
  go_enter Try.func23, Try.ntmps23
  go_wp2
  go_loopw [5, 1] (fun i m wr => i = .int .i64 0 ∧ m = .int .i64 k ∧ wr = w) (fun i _ _ => 0)
  case atStart => exact ⟨rfl, rfl, rfl⟩
  case round =>
   obtain ⟨rfl, rfl, rfl⟩ := hrel
   go_wp2
   go_ret
   exact ⟨ret_int (by simp), by simpa [markD] using h, World.grownBy.refl _ _⟩
 ·obtain ⟨g, c', hv, hbg, hlt⟩ := own_some h (by omega)
  obtain ⟨rfl, rfl⟩ : A = some ⟨g, 0, none⟩ ∧ c = c' := by injection hv with e1 e2 e3; exact ⟨e1, e3⟩
  go_enter Try.func23, Try.ntmps23
  go_wp2
  go_loopw [5, 1] (fun i m wr => ∃ j : Nat, j ≤ l.length ∧ i = .int .i64 j ∧ m = .int .i64 (k + 3 * j) ∧ wr.ownsRow base 41 3 (.slice (some ⟨g, 0, none⟩) l.length c) l.length (cells3 (markDTo l k j)) ∧ w.grownBy wr (some g)) (fun i _ _ => l.length - (intOf i).toNat)
  case atStart => exact ⟨0, Nat.zero_le _, rfl, by simp, by rw [markDTo_zero]; exact h, World.grownBy.refl _ _⟩
  case round =>
   obtain ⟨j, hj, rfl, rfl, ho, hg⟩ := hrel
   by_cases hlt : j < l.length
   ·have hbs := hg.size
    go_wp2_with fail
    refine (markText_any (k + 3 * j) wr (by omega) (by omega)).mono ?_
    rintro e w1 ⟨rfl, hb1⟩
    have ho1 := own_below ho hb1
    have hg1 : w.grownBy w1 (some g) := World.grownBy.trans hg ⟨hb1.os, hb1.tape, hb1.output, hb1.size, fun i hi _ => hb1.block i hi⟩
    have hlen : (cells3 (markDTo l k j)).length = l.length * 3 := by simp
    have c0 := (ho1.cellAt (j * 3) (by omega)).trans (List.getElem?_eq_getElem (by rw [hlen]; omega))
    have c1 := (ho1.cellAt (j * 3 + 1) (by omega)).trans (List.getElem?_eq_getElem (by rw [hlen]; omega))
    have c2 := (ho1.cellAt (j * 3 + 2) (by omega)).trans (List.getElem?_eq_getElem (by rw [hlen]; omega))
    have f0 := ho1.frozenAt (j * 3)
    have f1 := ho1.frozenAt (j * 3 + 1)
    have f2 := ho1.frozenAt (j * 3 + 2)
    have hst := (((ho1.stored (j * 3) (.string (markS (k + 3 * j)))).1.stored (j * 3 + 1) (.int .i64 (k + 3 * j + 1))).1.stored (j * 3 + 2) (.int .i64 (k + 3 * j + 1 + 1))).1
    rw [cells3_set (markDTo l k j) j (markS (k + 3 * j), k + 3 * j + 1, k + 3 * j + 1 + 1), markDTo_set] at hst
    have Hst := Lib.hid hst
    have Hg := Lib.hid (only_setCell_ (only_setCell_ (only_setCell_ hg1 (j * 3) (.string (markS (k + 3 * j)))) (j * 3 + 1) (.int .i64 (k + 3 * j + 1))) (j * 3 + 2) (.int .i64 (k + 3 * j + 1 + 1)))
    clear hst
    generalize (cells3 (markDTo l k j))[j * 3]'(by rw [hlen]; omega) = o0 at c0
    generalize (cells3 (markDTo l k j))[j * 3 + 1]'(by rw [hlen]; omega) = o1 at c1
    generalize (cells3 (markDTo l k j))[j * 3 + 2]'(by rw [hlen]; omega) = o2 at c2
    clear ho ho1 hg hg1 hb1 h hlen
    go_wp2
    go_roundw
    case rel => exact ⟨j + 1, by omega, by go_num, by congr 1; omega, Hst.out, Hg.out⟩
    case measure => simp [intOf]; omega
   ·obtain rfl : j = l.length := by omega
    rw [markDTo_all] at ho
    go_wp2
    go_ret
    exact ⟨rfl, ho, hg⟩
end Go.Proofs.Ythmgpkcijolljaa
