/-
  Slices of rules: how they read; the small functions over them.
-/
import Derived.Test.YtelaeepkajbfnaaOwn
import Derived.Deep.RegionHeld3
namespace Go.Proofs.Ytelaeepkajbfnaa
open Go.RowKit
set_option linter.unusedSimpArgs false
set_option linter.unusedVariables false

/-- rules as cells -/
def cells2 (l : List (Int × Int)) : List Value := l.flatMap fun r => [Value.int .i64 r.1, Value.int .i64 r.2]
@[simp] theorem cells2_length (l : List (Int × Int)) : (cells2 l).length = l.length * 2 := by
  induction l with
  | nil => rfl
  | cons x l ih => simp only [cells2, List.flatMap_cons, List.length_append, List.length_cons, List.length_nil] at *; omega
theorem cells2_get (l : List (Int × Int)) (k : Nat) (h : k < l.length) : (cells2 l)[k * 2]? = some (.int .i64 l[k].1) ∧ (cells2 l)[k * 2 + 1]? = some (.int .i64 l[k].2) := by
  induction l generalizing k with
  | nil => simp at h
  | cons x l ih =>
    cases k with
    | zero => simp [cells2]
    | succ k =>
      have := ih k (by simpa using h)
      have e1 : (k + 1) * 2 = (k * 2) + 1 + 1 := by omega
      rw [e1]
      simpa [cells2] using this
/-- a slice of rules that reads as l -/
def RR (w : World) (B : Nat) (A : Option Addr) (l : List (Int × Int)) : Prop := Reads w B 2 A l.length (cells2 l)
section
variable {w w' : World} {B B' : Nat} {A : Option Addr} {l : List (Int × Int)}
theorem RR.at_ (h : RR w B A l) {k : Nat} (hk : k < l.length) : ∃ ad, A = some ad ∧ ad.block < B ∧ w.cell? (ad.add (k * 2)) = some (.int .i64 l[k].1) ∧ w.cell? ⟨(ad.add (k * 2)).block, (ad.add (k * 2)).off + 1, none⟩ = some (.int .i64 l[k].2) := by
  obtain ⟨ad, e, hb, hc⟩ := h.2 (by omega)
  obtain ⟨g1, g2⟩ := cells2_get l k hk
  exact ⟨ad, e, hb, hc _ _ g1, by have h2 := hc _ _ g2; rw [← add_of_add] at h2; exact h2⟩
theorem RR.below (h : RR w B A l) (hb : Below B w w') : RR w' B A l := Reads.below h hb
theorem RR.more (h : RR w B A l) (hB : B ≤ B') : RR w B' A l := Reads.more h hB
theorem RR.drewN (h : RR w B A l) (n : Nat) : RR (w.drewN n) B A l := h
end
theorem Blk.RR_ {w : World} {g : Nat} {t : TypeId} {l : List (Int × Int)} (h : Blk w g t (cells2 l).toArray) : RR w w.heap.size (some ⟨g, 0, none⟩) l := by
  refine ⟨by simp, fun _ => ⟨_, rfl, h.lt, fun j u hu => ?_⟩⟩
  have e : (⟨g, 0, none⟩ : Addr).add j = ⟨g, j, none⟩ := by
    unfold Addr.add
    split
    · rename_i h0; simp_all
    · simp
  rw [e, h.cell j]
  simpa using hu
/-- where a line is forwarded to -/
def lkp (l : List (Int × Int)) (x : Int) : Option Int := (l.find? fun r => r.1 == x).map (·.2)
theorem lkp_none {l : List (Int × Int)} {x : Int} (h : ∀ r ∈ l, ¬ r.1 = x) : lkp l x = none := by
  unfold lkp
  rw [List.find?_eq_none.2 (fun r hr => by simpa using h r hr)]
  rfl
theorem lkp_at {l : List (Int × Int)} {x to : Int} {k : Nat} (hk : k < l.length) (h1 : l[k].1 = x) (h2 : l[k].2 = to) (h : ∀ r ∈ l.take k, ¬ r.1 = x) : lkp l x = some to := by
  unfold lkp
  have e : l = l.take k ++ l[k] :: l.drop (k + 1) := by
    rw [List.getElem_cons_drop, List.take_append_drop]
  rw [e, List.find?_append, List.find?_eq_none.2 (fun r hr => by simpa using h r hr)]
  rw [Option.none_or, List.find?_cons_of_pos (by simpa using h1)]
  simp [h2]
theorem szRuleS_ok (A : Option Addr) (c : Nat) (l : List (Int × Int)) (w : World) (hn : l.length ≤ 1048576) :
    Calls Try.prog 9 #[.slice A l.length c, .int .i64 1048576] w fun e w' => e = .returned (.int .i64 (1048576 - l.length)) ∧ w = w' := by
  go_enter Try.func9, Try.ntmps9
  go_wp2
  go_ret
  exact ⟨rfl, rfl⟩
theorem szRuleS_no (A : Option Addr) (c : Nat) (l : List (Int × Int)) (w : World) (hn : 1048576 < l.length) (hc : l.length ≤ c) (hm : c ≤ maxLen) :
    Calls Try.prog 9 #[.slice A l.length c, .int .i64 1048576] w fun e w' => e = .returned (.int .i64 (-1)) ∧ w = w' := by
  unfold maxLen at hm
  go_enter Try.func9, Try.ntmps9
  go_wp2
  go_ret
  exact ⟨rfl, rfl⟩
theorem toRule_any (x y : Int) (w : World) : Calls Try.prog 31 #[.agg #[.int .i64 x, .int .i64 y]] w fun e w' =>
    e = .returned (.agg #[.int .i64 x, .int .i64 y]) ∧ Below w.heap.size w w' := by
  go_enter Try.func31, Try.ntmps31
  go_wp2
  exact bodyPost_ret (v := .agg #[.int .i64 x, .int .i64 y]) (by simp [results, Try.results31, go_sem]) rfl ⟨rfl, (((Below.refl _ _).alloc (Nat.le_refl _) _).alloc (by simp) _).alloc (by simp; omega) _⟩
theorem eqRule_any (a b c d : Int) (w : World) : Calls Try.prog 34 #[.agg #[.int .i64 a, .int .i64 b], .agg #[.int .i64 c, .int .i64 d]] w fun e w' =>
    e = .returned (.bool (a == c && b == d)) ∧ Below w.heap.size w w' := by
  go_enter Try.func34, Try.ntmps34
  go_wp2
  all_goals
    go_ret
    refine ⟨ret_bool ?_, ((Below.refl _ _).alloc (Nat.le_refl _) _).alloc (by simp) _⟩
    first
      | (simp_all; done)
      | (simp_all; omega)
theorem l2To_any (A : Option Addr) (c : Nat) (l : List (Int × Int)) (x : Int) (w : World) (B : Nat) (h : RR w B A l) (hn : l.length ≤ 1048576) :
    Calls Try.prog 47 #[.slice A l.length c, .int .i64 x] w fun e w' => e = .returned (.tuple #[.int .i64 ((lkp l x).getD x), .bool (lkp l x).isSome]) ∧ w = w' := by
  go_enter Try.func47, Try.ntmps47
  go_wp2
  go_loop [6] (fun i => ∃ k : Nat, k ≤ l.length ∧ i = .int .i64 k ∧ (∀ r ∈ l.take k, ¬ r.1 = x)) (fun i => l.length - (intOf i).toNat)
  case atStart => exact ⟨0, Nat.zero_le _, rfl, by simp⟩
  case round =>
    obtain ⟨k, hk, rfl, hall⟩ := hrel
    have Hall := Lib.hid hall
    clear hall
    by_cases hlt : k < l.length
    · obtain ⟨ad, rfl, hb, h1, h2⟩ := h.at_ hlt
      obtain ⟨fr, hfr⟩ : ∃ a, l[k].1 = a := ⟨_, rfl⟩
      obtain ⟨to, hto⟩ : ∃ a, l[k].2 = a := ⟨_, rfl⟩
      rw [hfr] at h1
      rw [hto] at h2
      by_cases he : fr = x
      · have hb1 : (fr == x) = true := by simp [he]
        have E : Hid (lkp l x = some to) := Lib.hid (lkp_at hlt (hfr.trans he) hto Hall.out)
        clear hfr hto he
        go_wp2
        go_ret2
        rw [E.out]
        exact ⟨rfl, rfl⟩
      · have hb1 : (fr == x) = false := by simp [he]
        have E : Hid (∀ r ∈ l.take (k + 1), ¬ r.1 = x) := Lib.hid (by
          intro r hr
          rw [take_snoc l k hlt, List.mem_append] at hr
          rcases hr with hr | hr
          · exact Hall.out r hr
          · simp at hr
            subst hr
            rw [hfr]
            exact he)
        clear hfr hto he
        go_wp2
        go_round
        case rel => exact ⟨k + 1, by omega, by go_num, E.out⟩
        case measure => simp [intOf]; omega
    · obtain rfl : k = l.length := by omega
      have E : Hid (lkp l x = none) := Lib.hid (lkp_none (by have := Hall.out; rwa [List.take_length] at this))
      go_wp2
      go_ret2
      rw [E.out]
      exact ⟨rfl, rfl⟩

theorem below_drew_ {w w' : World} (h : Below w.drew.heap.size w.drew w') : Below w.heap.size w w' := ((Below.refl _ _).drew).trans h
set_option maxHeartbeats 2000000 in
theorem eqRuleS_any (A A' : Option Addr) (c c' : Nat) (l l' : List (Int × Int)) (w : World) (h : RR w w.heap.size A l) (h' : RR w w.heap.size A' l') (hn : l.length ≤ 1048576) (hn' : l'.length ≤ 1048576) :
    Calls Try.prog 13 #[.slice A l.length c, .slice A' l'.length c'] w fun e w' => e = .returned (.bool (l == l')) ∧ Below w.heap.size w w' := by
  by_cases hl : l.length = l'.length
  · go_enter Try.func13, Try.ntmps13
    go_wp2
    go_loopw [5] (fun i wr => ∃ k : Nat, k ≤ l.length ∧ i = .int .i64 k ∧ l.take k = l'.take k ∧ Below w.heap.size w wr) (fun i _ => l.length - (intOf i).toNat)
    case atStart => exact ⟨0, Nat.zero_le _, rfl, by simp, Below.refl _ _⟩
    case round =>
      obtain ⟨k, hk, rfl, hall, hbel⟩ := hrel
      by_cases hlt : k < l.length
      · have hlt' : k < l'.length := by omega
        obtain ⟨ad, rfl, hb, h1, h2⟩ := (h.below hbel).at_ hlt
        obtain ⟨ad', rfl, hb', h1', h2'⟩ := (h'.below hbel).at_ hlt'
        have Hall := Lib.hid hall
        have Hl := Lib.hid hl
        clear hall hl
        have hs := hbel.size
        have E : Hid ((l[k].1 == l'[k].1 && l[k].2 == l'[k].2) = (l[k] == l'[k])) := Lib.hid rfl
        obtain ⟨a, ha⟩ : ∃ a, l[k].1 = a := ⟨_, rfl⟩
        obtain ⟨b, hb2⟩ : ∃ b, l[k].2 = b := ⟨_, rfl⟩
        obtain ⟨a', ha'⟩ : ∃ a, l'[k].1 = a := ⟨_, rfl⟩
        obtain ⟨b', hb2'⟩ : ∃ b, l'[k].2 = b := ⟨_, rfl⟩
        rw [ha] at h1
        rw [hb2] at h2
        rw [ha'] at h1'
        rw [hb2'] at h2'
        have E2 : Hid ((a == a' && b == b') = (l[k] == l'[k])) := Lib.hid (by rw [← E.out, ha, hb2, ha', hb2'])
        clear E ha hb2 ha' hb2'
        have hbk : (ad.add (k * 2)).block < wr.heap.size := by rw [block_of_add]; omega
        have hbk' : (ad'.add (k * 2)).block < wr.heap.size := by rw [block_of_add]; omega
        cases hq : (a == a' && b == b')
        · go_wp2
          go_region_held3 (fun w' => w'.cell? (ad.add (k * 2)) = some (.int .i64 a) ∧ w'.cell? ⟨(ad.add (k * 2)).block, (ad.add (k * 2)).off + 1, none⟩ = some (.int .i64 b) ∧ w'.cell? (ad'.add (k * 2)) = some (.int .i64 a') ∧ w'.cell? ⟨(ad'.add (k * 2)).block, (ad'.add (k * 2)).off + 1, none⟩ = some (.int .i64 b')) (go_keep) (first | (go_at_call 34; refine (eqRule_any a b a' b' _).mono ?_; rintro e w2 ⟨rfl, hb2⟩; have k1 := (hb2.cell (p := ad.add (k * 2)) hbk).trans h1; have k2 := (hb2.cell (p := ⟨(ad.add (k * 2)).block, (ad.add (k * 2)).off + 1, none⟩) hbk).trans h2; have k3 := (hb2.cell (p := ad'.add (k * 2)) hbk').trans h1'; have k4 := (hb2.cell (p := ⟨(ad'.add (k * 2)).block, (ad'.add (k * 2)).off + 1, none⟩) hbk').trans h2'))
          go_wp2
          go_ret
          refine ⟨ret_bool ?_, hbel.trans ((below_drew_ hb2).mono hs)⟩
          symm
          rw [beq_eq_false_iff_ne]
          intro e
          subst e
          rw [beq_self_eq_true] at E2
          exact absurd (hq.symm.trans E2.out) (by decide)
        · go_wp2
          go_region_held3 (fun w' => w'.cell? (ad.add (k * 2)) = some (.int .i64 a) ∧ w'.cell? ⟨(ad.add (k * 2)).block, (ad.add (k * 2)).off + 1, none⟩ = some (.int .i64 b) ∧ w'.cell? (ad'.add (k * 2)) = some (.int .i64 a') ∧ w'.cell? ⟨(ad'.add (k * 2)).block, (ad'.add (k * 2)).off + 1, none⟩ = some (.int .i64 b')) (go_keep) (first | (go_at_call 34; refine (eqRule_any a b a' b' _).mono ?_; rintro e w2 ⟨rfl, hb2⟩; have k1 := (hb2.cell (p := ad.add (k * 2)) hbk).trans h1; have k2 := (hb2.cell (p := ⟨(ad.add (k * 2)).block, (ad.add (k * 2)).off + 1, none⟩) hbk).trans h2; have k3 := (hb2.cell (p := ad'.add (k * 2)) hbk').trans h1'; have k4 := (hb2.cell (p := ⟨(ad'.add (k * 2)).block, (ad'.add (k * 2)).off + 1, none⟩) hbk').trans h2'))
          go_wp2
          go_roundw
          case rel =>
            refine ⟨k + 1, by omega, by go_num, ?_, hbel.trans ((below_drew_ hb2).mono hs)⟩
            have he : l[k] = l'[k] := by
              have := E2.out
              rw [hq] at this
              simpa using this.symm
            rw [take_snoc l k hlt, take_snoc l' k hlt', Hall.out, he]
          case measure => simp [intOf]; omega
      · have hk' : k = l.length := by omega
        have Hall : Hid (l = l') := by
          rw [hk', List.take_length, hl, List.take_length] at hall
          exact Lib.hid hall
        clear hall hk'
        have Hl := Lib.hid hl
        clear hl
        go_wp2
        go_ret
        exact ⟨ret_bool (by rw [Hall.out]; simp), hbel⟩
  · have hne : ((l.length : Int) != (l'.length : Int)) = true := by simp; omega
    have hne2 : Hid ((l == l') = false) := Lib.hid (by rw [beq_eq_false_iff_ne]; intro e; subst e; exact hl rfl)
    clear hl
    go_enter Try.func13, Try.ntmps13
    go_wp2
    go_ret
    exact ⟨ret_bool hne2.out.symm, Below.refl _ _⟩

theorem rule_info : (Try.prog.info? 45).map (fun i => (i.zero, i.size, i.bytes)) = some (some (Value.agg #[.int .i64 0, .int .i64 0]), 2, 16) := by kernel_rfl
/-- the first k of l, the rest zero rules -/
def fill2 (l : List (Int × Int)) (k : Nat) : List (Int × Int) := l.mapIdx fun i x => if i < k then x else (0, 0)
theorem fill2_length (l : List (Int × Int)) (k : Nat) : (fill2 l k).length = l.length := by simp [fill2]
theorem fill2_all (l : List (Int × Int)) : fill2 l l.length = l := by
  apply List.ext_getElem?
  intro j
  simp only [fill2, List.getElem?_mapIdx]
  by_cases h : j < l.length <;> simp [h]
theorem fill2_set (l : List (Int × Int)) (i : Nat) (h : i < l.length) : (fill2 l i).set i l[i] = fill2 l (i + 1) := by
  apply List.ext_getElem?
  intro j
  rw [List.getElem?_set]
  simp only [fill2, List.getElem?_mapIdx, List.length_mapIdx]
  by_cases hj : i = j
  · subst hj
    simp [h]
  · rw [if_neg hj]
    by_cases hjl : j < l.length
    · simp only [List.getElem?_eq_getElem hjl, Option.map_some]
      have : (j < i + 1) = (j < i) := by rw [eq_iff_iff]; omega
      simp only [this]
    · simp [hjl]
theorem cells2_set (l : List (Int × Int)) (i : Nat) (x : Int × Int) : ((cells2 l).set (i * 2) (.int .i64 x.1)).set (i * 2 + 1) (.int .i64 x.2) = cells2 (l.set i x) := by
  induction l generalizing i with
  | nil => simp [cells2]
  | cons y l ih =>
    cases i with
    | zero => simp [cells2]
    | succ i =>
      have e1 : (i + 1) * 2 = i * 2 + 1 + 1 := by omega
      rw [e1, List.set_cons_succ]
      have := ih i
      simpa [cells2] using this
theorem cells2_zero (l : List (Int × Int)) : (cells2 (fill2 l 0)).toArray = Array.replicate (l.length * 2) (Value.int .i64 0) := by
  have : fill2 l 0 = List.replicate l.length (0, 0) := by
    apply List.ext_getElem?
    intro j
    simp only [fill2, List.getElem?_mapIdx]
    by_cases h : j < l.length <;> simp [h]
  rw [this]
  have h2 : ∀ n : Nat, cells2 (List.replicate n (0, 0)) = List.replicate (n * 2) (Value.int .i64 0) := by
    intro n
    induction n with
    | zero => rfl
    | succ n ih =>
      have e1 : (n + 1) * 2 = n * 2 + 1 + 1 := by omega
      rw [List.replicate_succ, e1, List.replicate_succ, List.replicate_succ, ← ih]
      rfl
  rw [h2]
  simp
/-- a slice of its own that holds the rules l -/
def NewRules (w : World) (l : List (Int × Int)) (e : Ending) (w' : World) : Prop :=
  ∃ g, e = .returned (.slice (some ⟨g, 0, none⟩) l.length l.length) ∧ w.heap.size ≤ g ∧ Blk w' g 45 (cells2 l).toArray ∧ Below w.heap.size w w'
set_option maxHeartbeats 1000000 in
theorem toRuleS_any (A : Option Addr) (c : Nat) (l : List (Int × Int)) (w : World) (h : RR w w.heap.size A l) (hn : l.length ≤ 1048576) :
    Calls Try.prog 11 #[.slice A l.length c] w (NewRules w l) := by
  obtain ⟨i0, hi, hz0, hz1, hz2⟩ := info_parts rule_info
  have hmk : ∀ W : World, (Instr.makeSlice 25 (.int .i64 (l.length : Int)) (.int .i64 (l.length : Int))).run Try.prog W = .ok (.slice (some ⟨W.heap.size, 0, none⟩) l.length l.length) (W.alloc (.cells (cells2 (fill2 l 0)).toArray 45)) := fun W => by
    have hr := run_make (P := Try.prog) W 25 45 i0 _ Try.underlying25 hi hz0 .i64 .i64 l.length l.length (by omega) (by omega) (by rw [hz2]; omega) (by omega)
    simp only [Int.toNat_natCast] at hr
    rw [hr, hz1, cells2_zero]
    congr 3
    apply Array.ext
    · simp [madeCells]
    · intro j h1 h2
      have : j % 2 = 0 ∨ j % 2 = 1 := by omega
      rcases this with e | e <;> simp [madeCells, Value.cells, e]
  clear hi hz0 hz1 hz2
  go_enter Try.func11, Try.ntmps11
  go_wp2_with fail
  go_loopw [4] (fun i wr => ∃ k : Nat, k ≤ l.length ∧ i = .int .i64 k ∧ Blk wr w.heap.size 45 (cells2 (fill2 l k)).toArray ∧ Below w.heap.size w wr) (fun i _ => l.length - (intOf i).toNat)
  case atStart => exact ⟨0, Nat.zero_le _, rfl, Blk.new _ _ _, (Below.refl _ _).alloc (Nat.le_refl _) _⟩
  case round =>
    obtain ⟨k, hk, rfl, hblk, hbel⟩ := hrel
    by_cases hlt : k < l.length
    · obtain ⟨ad, rfl, hb, h1, h2⟩ := (h.below hbel).at_ hlt
      obtain ⟨a, ha⟩ : ∃ a, l[k].1 = a := ⟨_, rfl⟩
      obtain ⟨b, hb2⟩ : ∃ b, l[k].2 = b := ⟨_, rfl⟩
      rw [ha] at h1
      rw [hb2] at h2
      have hsz : (cells2 (fill2 l k)).toArray.size = l.length * 2 := by simp [fill2_length]
      go_wp2_with fail
      refine (toRule_any a b wr).mono ?_
      rintro e w1 ⟨rfl, hbel1⟩
      have hb1 := hblk.below hbel1 hblk.lt
      have hc0 : ∃ v, w1.cell? ⟨w.heap.size, k * 2, none⟩ = some v := ⟨_, (hb1.cell (k * 2)).trans (Array.getElem?_eq_getElem (by rw [hsz]; omega))⟩
      have hc1 : ∃ v, w1.cell? ⟨w.heap.size, k * 2 + 1, none⟩ = some v := ⟨_, (hb1.cell (k * 2 + 1)).trans (Array.getElem?_eq_getElem (by rw [hsz]; omega))⟩
      obtain ⟨v0, hc0⟩ := hc0
      obtain ⟨v1, hc1⟩ := hc1
      have f0 := hb1.frozen (k * 2)
      have f1 := hb1.frozen (k * 2 + 1)
      have hset := (hb1.set_ (k * 2) (.int .i64 a)).set_ (k * 2 + 1) (.int .i64 b)
      have B1 := hbel.trans (hbel1.mono hbel.size)
      have hcs : ((cells2 (fill2 l k)).toArray.setIfInBounds (k * 2) (.int .i64 a)).setIfInBounds (k * 2 + 1) (.int .i64 b) = (cells2 (fill2 l (k + 1))).toArray := by
        rw [← fill2_set l k hlt, ← cells2_set, ha, hb2]
        simp
      rw [hcs] at hset
      have Hset := Lib.hid hset
      clear hblk hbel1 hb1 hcs hset hsz ha hb2
      go_wp2
      go_roundw
      case rel => exact ⟨k + 1, by omega, by go_num, Hset.out, (B1.setCell (Nat.le_refl _) _).setCell (Nat.le_refl _) _⟩
      case measure => simp [intOf]; omega
    · obtain rfl : k = l.length := by omega
      rw [fill2_all] at hblk
      have Hblk := Lib.hid hblk
      clear hblk
      go_wp2
      go_ret
      exact ⟨_, rfl, Nat.le_refl _, Hblk.out, hbel⟩
end Go.Proofs.Ytelaeepkajbfnaa
