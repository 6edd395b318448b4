/-
  Lists of plans: how they read, their count, a copy, equality of equals.
-/
import Derived.Test.YtpblpdoalfphpaaPlan
namespace Go.Proofs.Ytpblpdoalfphpaa
open Go.RowKit
set_option linter.unusedSimpArgs false
set_option linter.unusedVariables false

/-- a row of a list of plans -/
abbrev DRow := Option Addr × List Dd × Nat
/-- a slice of plans -/
def RLD (w : World) (B : Nat) (A : Option Addr) (R : List DRow) : Prop := RL encD 3 w B A R
section
variable {w w' : World} {B B' : Nat} {A : Option Addr} {R : List DRow}
theorem RLD.below (h : RLD w B A R) (hb : Below B w w') : RLD w' B A R := RL.below h hb
theorem RLD.more (h : RLD w B A R) (hB : B ≤ B') : RLD w B' A R := RL.more h hB
theorem RLD.at_ (h : RLD w B A R) {k : Nat} (hk : k < R.length) : ∃ ad, A = some ad ∧ ad.block < B ∧ w.cell? (ad.add k) = some (.slice R[k].1 R[k].2.1.length R[k].2.2) ∧
    R[k].2.1.length ≤ R[k].2.2 ∧ R[k].2.2 ≤ maxLen ∧ RD w B R[k].1 R[k].2.1 := RL.at_ h hk
end
/-- what a list of plans counts -/
def szDD (R : List DRow) : Nat := R.length + (R.map fun r => szD r.2.1).sum
def szTT (R : List DRow) (k : Nat) : Nat := ((R.map fun r => szD r.2.1).take k).sum
theorem szTT_zero (R : List DRow) : szTT R 0 = 0 := by simp [szTT]
theorem szTT_all (R : List DRow) : R.length + szTT R R.length = szDD R := by
  unfold szTT szDD
  rw [List.take_of_length_le (by simp)]
theorem szTT_succ {R : List DRow} {k : Nat} (h : k < R.length) : szTT R (k + 1) = szTT R k + szD R[k].2.1 := by
  unfold szTT
  rw [sum_take_succ _ k (by simpa using h)]
  simp
theorem szTT_le (R : List DRow) (k : Nat) : R.length + szTT R k ≤ szDD R := by
  unfold szTT szDD
  have := sum_take_le (R.map fun r => szD r.2.1) k
  omega
theorem szDD_len {R : List DRow} : R.length ≤ szDD R := by unfold szDD; omega
theorem szDD_mem {R : List DRow} {k : Nat} (h : k < R.length) : szD R[k].2.1 ≤ szDD R := by
  have h1 := szTT_succ h
  have h2 := szTT_le R (k + 1)
  omega
def leftDD (R : List DRow) (left : Int) : Int := if (szDD R : Int) ≤ left then left - szDD R else -1
theorem leftDD_ok {R : List DRow} {left : Int} (h : (szDD R : Int) ≤ left) : leftDD R left = left - szDD R := if_pos h
theorem leftDD_no {R : List DRow} {left : Int} (h : left < (szDD R : Int)) : leftDD R left = -1 := if_neg (by omega)
def gdR (R : List DRow) : Prop := ∀ r ∈ R, ∀ d ∈ r.2.1, d.1.size ≤ maxLen
set_option maxHeartbeats 1000000 in
theorem szDeedSS_any (A : Option Addr) (c : Nat) (R : List DRow) (left : Int) (w : World) (h : RLD w w.heap.size A R) (hc : R.length ≤ c) (hm : c ≤ maxLen) (hs : gdR R) (h0 : 0 ≤ left) (h1 : left ≤ 1048576) :
    Calls Try.prog 23 #[.slice A R.length c, .int .i64 left] w fun e w' => e = .returned (.int .i64 (leftDD R left)) ∧ Below w.heap.size w w' := by
  by_cases hn : (R.length : Int) ≤ left
  · go_enter Try.func23, Try.ntmps23
    go_wp2
    go_loopw [5, 1] (fun i m wr => ∃ k : Nat, k ≤ R.length ∧ i = .int .i64 k ∧ m = .int .i64 (left - R.length - szTT R k) ∧ (R.length : Int) + szTT R k ≤ left ∧ Below w.heap.size w wr) (fun i _ _ => R.length - (intOf i).toNat)
    case atStart => exact ⟨0, Nat.zero_le _, rfl, by rw [szTT_zero]; simp, by rw [szTT_zero]; omega, Below.refl _ _⟩
    case round =>
      obtain ⟨k, hk, rfl, rfl, hle, hbel⟩ := hrel
      by_cases hlt : k < R.length
      · obtain ⟨ad, rfl, hb, c1, hc1, hm1, hr1⟩ := (h.below hbel).at_ hlt
        have hsz := hs R[k] (List.getElem_mem _)
        have Hsuc := Lib.hid (szTT_succ hlt)
        have hall := szTT_le R (k + 1)
        obtain ⟨d, hd⟩ : ∃ d, R[k] = d := ⟨_, rfl⟩
        rw [hd] at c1 hc1 hm1 hr1 hsz Hsuc
        obtain ⟨A1, l1, cc1⟩ := d
        have hbs := hbel.size
        clear hd h hs
        simp only at c1 hc1 hm1 hr1 hsz
        obtain ⟨t, ht⟩ : ∃ t, szTT R k = t := ⟨_, rfl⟩
        rw [ht] at hle Hsuc
        obtain ⟨t', ht'⟩ : ∃ t, szTT R (k + 1) = t := ⟨_, rfl⟩
        rw [ht'] at hall Hsuc
        have Ht := Lib.hid ht
        have Ht' := Lib.hid ht'
        rw [ht]
        clear ht ht'
        have hz := szDeedS_any A1 cc1 l1 (left - R.length - t) wr (hr1.more hbs) hc1 hm1 hsz (by omega) (by omega)
        clear hc1 hm1 hr1 hsz
        by_cases hfit : (szD l1 : Int) ≤ left - R.length - t
        · rw [leftD_ok hfit] at hz
          go_wp2_with fail
          refine hz.mono ?_
          rintro e w1 ⟨rfl, hb1⟩
          clear hz
          go_wp2_with fail
          go_roundw
          case rel =>
            have e1 := Hsuc.out
            exact ⟨k + 1, by omega, by go_num, by rw [Ht'.out, e1]; congr 1; omega, by rw [Ht'.out]; omega, hbel.trans (hb1.mono hbs)⟩
          case measure => simp [intOf]; omega
        · rw [leftD_no (by omega)] at hz
          have E : Hid (leftDD R left = -1) := Lib.hid (leftDD_no (by have e1 := Hsuc.out; simp only at e1; omega))
          go_wp2_with fail
          refine hz.mono ?_
          rintro e w1 ⟨rfl, hb1⟩
          clear hz
          go_wp2_with fail
          go_ret
          exact ⟨ret_int E.out.symm, hbel.trans (hb1.mono hbs)⟩
      · obtain rfl : k = R.length := by omega
        have hall := szTT_all R
        have E : Hid (leftDD R left = left - R.length - szTT R R.length) := Lib.hid (by rw [leftDD_ok (by omega)]; omega)
        clear hall h hs
        go_wp2
        go_ret
        exact ⟨ret_int E.out.symm, hbel⟩
  · have E : Hid (leftDD R left = -1) := Lib.hid (leftDD_no (by have := szDD_len (R := R); omega))
    unfold maxLen at hm
    clear h hs
    go_enter Try.func23, Try.ntmps23
    go_wp2
    go_ret
    exact ⟨ret_int E.out.symm, Below.refl _ _⟩
theorem pslice_info : (Try.prog.info? 25).map (fun i => (i.zero, i.size, i.bytes)) = some (some (Value.slice none 0 0), 1, 24) := by kernel_rfl
/-- a copy of a list of plans: the same deeds -/
def NewPlans (w : World) (R : List DRow) (e : Ending) (w' : World) : Prop :=
  ∃ (A : Option Addr) (R' : List DRow), e = .returned (.slice A R'.length R'.length) ∧ R'.map (·.2.1) = R.map (·.2.1) ∧ RLD w' w'.heap.size A R' ∧ Below w.heap.size w w'
def zR : DRow := (none, [], 0)
/-- the first k rows of R, the rest empty -/
def rowsArr (R : List DRow) (k n : Nat) : Array Value := ((R.take k).map rowV ++ List.replicate (n - k) (Value.slice none 0 0)).toArray
theorem rowsArr_zero (R : List DRow) (n : Nat) : rowsArr R 0 n = Array.replicate n (Value.slice none 0 0) := by simp [rowsArr]
theorem rowsArr_size (R : List DRow) (k n : Nat) (h : k ≤ R.length) (hn : k ≤ n) : (rowsArr R k n).size = n := by
  simp [rowsArr, List.length_take]
  omega
theorem rowsArr_set (R : List DRow) (n : Nat) (hk : R.length < n) (x : DRow) : (rowsArr R R.length n).setIfInBounds R.length (rowV x) = rowsArr (R ++ [x]) (R.length + 1) n := by
  apply Array.ext_getElem?
  intro j
  rw [Array.getElem?_setIfInBounds]
  unfold rowsArr
  have e1 : (R ++ [x]).take (R.length + 1) = R ++ [x] := List.take_of_length_le (by simp)
  rw [e1, List.take_length]
  simp only [List.getElem?_toArray, List.size_toArray, List.length_append, List.length_map, List.length_replicate]
  by_cases hj : R.length = j
  · subst hj
    rw [if_pos rfl, if_pos (by omega)]
    simp
  · rw [if_neg hj]
    by_cases hl : j < R.length
    · rw [List.getElem?_append_left (by simpa using hl), List.getElem?_append_left (by simp; omega), List.map_append, List.getElem?_append_left (by simpa using hl)]
    · rw [List.getElem?_append_right (by simp; omega), List.getElem?_append_right (by simp; omega)]
      simp only [List.length_map, List.length_append, List.length_singleton, List.getElem?_replicate]
      by_cases hjn : j < n
      · rw [if_pos (by omega), if_pos (by omega)]
      · rw [if_neg (by omega), if_neg (by omega)]
theorem rowsArr_all (R : List DRow) : rowsArr R R.length R.length = (R.map rowV).toArray := by simp [rowsArr]
set_option maxHeartbeats 2000000 in
theorem toDeedSS_any (A : Option Addr) (c : Nat) (R : List DRow) (w : World) (h : RLD w w.heap.size A R) (hn : R.length ≤ 1048576) (hn2 : ∀ r ∈ R, r.2.1.length ≤ 1048576) :
    Calls Try.prog 26 #[.slice A R.length c] w (NewPlans w R) := by
  obtain ⟨i0, hi, hz0, hz1, hz2⟩ := info_parts pslice_info
  have hmk := fun W => run_makeN (P := Try.prog) 44 25 i0 _ Try.underlying44 hi hz0 hz1 rfl (by omega) R.length R.length (Nat.le_refl _) (by omega) W
  clear hi hz0 hz1 hz2
  go_enter Try.func26, Try.ntmps26
  go_wp2_with fail
  go_loopw [4] (fun i wr => ∃ Q : List DRow, Q.length ≤ R.length ∧ i = .int .i64 Q.length ∧ Q.map (·.2.1) = (R.take Q.length).map (·.2.1) ∧ Blk wr w.heap.size 25 (rowsArr Q Q.length R.length) ∧
    (∀ r ∈ Q, r.2.1.length ≤ r.2.2 ∧ r.2.2 ≤ maxLen ∧ RD wr wr.heap.size r.1 r.2.1 ∧ ∃ g, r.1 = some ⟨g, 0, none⟩ ∧ w.heap.size < g) ∧ Below w.heap.size w wr) (fun i _ => R.length - (intOf i).toNat)
  case atStart => exact ⟨[], Nat.zero_le _, rfl, by simp, by rw [List.length_nil, rowsArr_zero]; exact Blk.new _ _ _, by simp, (Below.refl _ _).alloc (Nat.le_refl _) _⟩
  case round =>
    obtain ⟨Q, hk, rfl, hmap, hblk, hrows, hbel⟩ := hrel
    by_cases hlt : Q.length < R.length
    · obtain ⟨ad, rfl, hb, c1, hc1, hm1, hr1⟩ := (h.below hbel).at_ hlt
      have hl1 := hn2 R[Q.length] (List.getElem_mem _)
      have Hmap : Hid ((R.take (Q.length + 1)).map (·.2.1) = (Q.map (·.2.1)) ++ [R[Q.length].2.1]) := Lib.hid (by rw [take_snoc R _ hlt, List.map_append, hmap]; simp)
      obtain ⟨d, hd⟩ : ∃ d, R[Q.length] = d := ⟨_, rfl⟩
      rw [hd] at c1 hc1 hm1 hr1 hl1 Hmap
      obtain ⟨A1, l1, cc1⟩ := d
      clear hd hmap hn2
      have Hrows := Lib.hid hrows
      clear hrows
      have hbs := hbel.size
      simp only at c1 hc1 hm1 hr1 hl1
      have hR := hr1.more hbs
      clear hr1 hc1 hm1
      have hsz := rowsArr_size Q Q.length R.length (Nat.le_refl _) hk
      go_wp2_with fail
      refine (toDeedS_any A1 cc1 l1 wr hR hl1).mono ?_
      rintro e w1 ⟨g1, rfl, hg1, hb1, hbel1⟩
      have hblk1 := hblk.below hbel1 hblk.lt
      have hlt0 := hblk.lt
      have hc0 : ∃ v, w1.cell? ⟨w.heap.size, Q.length, none⟩ = some v := ⟨_, (hblk1.cell _).trans (Array.getElem?_eq_getElem (by rw [hsz]; omega))⟩
      obtain ⟨v0, hc0⟩ := hc0
      have f0 := hblk1.frozen Q.length
      have hset := hblk1.set_ Q.length (.slice (some ⟨g1, 0, none⟩) l1.length l1.length)
      rw [show (Value.slice (some ⟨g1, 0, none⟩) l1.length l1.length) = rowV (some ⟨g1, 0, none⟩, l1, l1.length) from rfl, rowsArr_set Q R.length hlt] at hset
      have Hset := Lib.hid hset
      have B1 := hbel.trans (hbel1.mono hbs)
      have Hd1 := Lib.hid hb1
      have hs1 := hbel1.size
      have Hbel1 := Lib.hid hbel1
      clear hblk hblk1 hset hsz hR hb1 hbel1
      go_wp2_with fail
      go_roundw
      case rel =>
        refine ⟨Q ++ [(some ⟨g1, 0, none⟩, l1, l1.length)], by simp; omega, by simp, ?_, ?_, fun r hr => ?_, B1.setCell (Nat.le_refl _) _⟩
        · rw [List.length_append, List.length_singleton, Hmap.out]
          simp
        · rw [List.length_append, List.length_singleton]
          exact Hset.out
        · have keep : ∀ (A' : Option Addr) (l' : List Dd), RD w1 w1.heap.size A' l' → (∃ g, A' = some ⟨g, 0, none⟩ ∧ w.heap.size < g) → RD (w1.setCell ⟨w.heap.size, Q.length, none⟩ (.slice (some ⟨g1, 0, none⟩) l1.length l1.length)) (w1.setCell ⟨w.heap.size, Q.length, none⟩ (.slice (some ⟨g1, 0, none⟩) l1.length l1.length)).heap.size A' l' := by
            rintro A' l' hR' ⟨g, rfl, hg⟩
            refine ⟨hR'.1, fun h0 => ?_⟩
            obtain ⟨ad', e', hb', hc'⟩ := hR'.2 h0
            obtain rfl : (⟨g, 0, none⟩ : Addr) = ad' := by injection e'
            refine ⟨_, rfl, by simpa [World.setCell] using hb', fun j u hu => ?_⟩
            rw [World.cell?_setCell_other _ _ _ _ (fun e => by
              have := congrArg Addr.block e
              rw [block_of_add] at this
              simp at this
              omega)]
            exact hc' j u hu
          rcases List.mem_append.1 hr with hr | hr
          · obtain ⟨q1, q2, q3, q4⟩ := Hrows.out r hr
            exact ⟨q1, q2, keep _ _ ((q3.below Hbel1.out).more hs1) q4, q4⟩
          · simp at hr
            subst hr
            exact ⟨Nat.le_refl _, by unfold maxLen; show l1.length ≤ _; omega, keep _ _ Hd1.out.RD_ ⟨g1, rfl, by omega⟩, g1, rfl, by omega⟩
      case measure => simp [intOf]; omega
    · have hl : Q.length = R.length := by omega
      have Hl := Lib.hid hl
      have hm2 : Q.map (·.2.1) = R.map (·.2.1) := by rw [hmap, hl, List.take_length]
      have hb2 : Blk wr w.heap.size 25 (Q.map rowV).toArray := by rw [← hl, rowsArr_all] at hblk; exact hblk
      have Hm2 := Lib.hid hm2
      have Hb2 := Lib.hid hb2
      have Hr := Lib.hid hrows
      rw [← hl]
      clear hmap hblk hrows hm2 hb2 hl
      rw [Hl.out]
      go_wp2
      go_ret
      refine ⟨_, Q, by rw [Hl.out]; rfl, Hm2.out, ⟨?_, fun r hr => ?_⟩, hbel⟩
      · have := Hb2.out.reads rfl
        rwa [List.length_map] at this
      · obtain ⟨q1, q2, q3, q4⟩ := Hr.out r hr
        exact ⟨q1, q2, q3⟩
end Go.Proofs.Ytpblpdoalfphpaa
