/-
  What functions over slices of integers return: validity of rooms and fields, equality, a copy.
-/
import Derived.Test.YthdnhaaojicmbaaDoorSmall
namespace Go.Proofs.YthdnhaaojicmbaaDoor
open Go.RowKit
set_option linter.unusedSimpArgs false
set_option linter.unusedVariables false

def allIn (l : List Int) (lo hi : Int) : Bool := l.all fun x => inB x lo hi
theorem allIn_take_succ {l : List Int} {lo hi : Int} {k : Nat} (h : k < l.length) (h1 : allIn (l.take k) lo hi = true) : allIn (l.take (k + 1)) lo hi = inB l[k] lo hi := by
  unfold allIn at *
  rw [take_snoc l k h, List.all_append, h1]
  simp
theorem allIn_false {l : List Int} {lo hi : Int} {k : Nat} (h : k < l.length) (h1 : inB l[k] lo hi = false) : allIn l lo hi = false := by
  unfold allIn
  rw [List.all_eq_false]
  exact ⟨l[k], List.getElem_mem h, by simp [h1]⟩

def roomsB (l : List Int) : Bool := allIn l 0 8 && inB l.length 1 6
theorem sRoomsValid_any (A : Option Addr) (c : Nat) (l : List Int) (w : World) (B : Nat) (h : RI w B A l) (hn : l.length ≤ 1048576) :
    Calls Tryd.prog 43 #[.slice A l.length c] w fun e w' => e = .returned (.bool (roomsB l)) ∧ w = w' := by
  go_enter Tryd.func43, Tryd.ntmps43
  go_wp2
  go_loop [3] (fun i => ∃ k : Nat, k ≤ l.length ∧ i = .int .i64 k ∧ allIn (l.take k) 0 8 = true) (fun i => l.length - (intOf i).toNat)
  case atStart => exact ⟨0, Nat.zero_le _, rfl, by simp [allIn]⟩
  case round =>
    obtain ⟨k, hk, rfl, hall⟩ := hrel
    by_cases hlt : k < l.length
    · obtain ⟨ad, rfl, hb, hc⟩ := h.at_ hlt
      have Hs := Lib.hid (allIn_take_succ (lo := 0) (hi := 8) hlt hall)
      have Hf := Lib.hid (allIn_false (l := l) (lo := 0) (hi := 8) hlt)
      have Hall := Lib.hid hall
      clear hall
      cases hin : inB l[k] 0 8
      · go_wp2_with (go_at_call 44; refine (l1In_any _ _ _ _).mono ?_; rintro e w' ⟨rfl, rfl⟩)
        go_ret
        exact ⟨ret_bool (by simp [roomsB, Hf.out hin]), rfl⟩
      · go_wp2_with (go_at_call 44; refine (l1In_any _ _ _ _).mono ?_; rintro e w' ⟨rfl, rfl⟩)
        go_round
        case rel => exact ⟨k + 1, by omega, by go_num, by rw [Hs.out, hin]⟩
        case measure => simp [intOf]; omega
    · have hk' : k = l.length := by omega
      have Hall : Hid (allIn l 0 8 = true) := by rw [hk', List.take_length] at hall; exact Lib.hid hall
      clear hall hk'
      go_wp2_with (go_at_call 44; refine (l1In_any _ _ _ _).mono ?_; rintro e w' ⟨rfl, rfl⟩)
      go_ret
      exact ⟨ret_bool (by simp [roomsB, Hall.out]), rfl⟩




theorem eqIntS_any (A A' : Option Addr) (c c' : Nat) (l l' : List Int) (w : World) (B B' : Nat) (h : RI w B A l) (h' : RI w B' A' l') (hn : l.length ≤ 1048576) (hn' : l'.length ≤ 1048576) :
    Calls Tryd.prog 17 #[.slice A l.length c, .slice A' l'.length c'] w fun e w' => e = .returned (.bool (l == l')) ∧ ∃ n, w' = w.drewN n := by
  by_cases hl : l.length = l'.length
  · go_enter Tryd.func17, Tryd.ntmps17
    go_wp2
    go_loopw [5] (fun i wr => ∃ k : Nat, k ≤ l.length ∧ i = .int .i64 k ∧ l.take k = l'.take k ∧ ∃ n, wr = w.drewN n) (fun i _ => l.length - (intOf i).toNat)
    case atStart => exact ⟨0, Nat.zero_le _, rfl, by simp, 0, rfl⟩
    case round =>
      obtain ⟨k, hk, rfl, hall, nq, rfl⟩ := hrel
      by_cases hlt : k < l.length
      · have hlt' : k < l'.length := by omega
        obtain ⟨ad, rfl, hb, hc⟩ := h.at_ hlt
        obtain ⟨ad', rfl, hb', hc'⟩ := h'.at_ hlt'
        have Hall := Lib.hid hall
        have Hl := Lib.hid hl
        clear hall hl
        by_cases he : l[k] = l'[k]
        · have hne : (l[k] != l'[k]) = false := by simp [he]
          have He := Lib.hid he
          clear he
          go_wp2
          go_quiet (fail)
          go_wp2
          go_roundw
          case rel => exact ⟨k + 1, by omega, by go_num, by rw [take_snoc l k hlt, take_snoc l' k hlt', Hall.out, He.out], _, rfl⟩
          case measure => simp [intOf]; omega
        · have hne : (l[k] != l'[k]) = true := by simp [he]
          have He := Lib.hid he
          clear he
          go_wp2
          go_quiet (fail)
          go_wp2
          go_ret
          exact ⟨ret_bool (by symm; rw [beq_eq_false_iff_ne]; intro e; subst e; exact He.out rfl), _, World.drewN_drewN _ _ _⟩
      · have hk' : k = l.length := by omega
        have Hall : Hid (l = l') := by
          rw [hk', List.take_length, hl, List.take_length] at hall
          exact Lib.hid hall
        clear hall hk'
        have Hl := Lib.hid hl
        clear hl
        go_wp2
        go_ret
        exact ⟨ret_bool (by rw [Hall.out]; simp), _, rfl⟩
  · have hne : ((l.length : Int) != (l'.length : Int)) = true := by simp; omega
    have hne2 : Hid ((l == l') = false) := Lib.hid (by rw [beq_eq_false_iff_ne]; intro e; subst e; exact hl rfl)
    clear hl
    go_enter Tryd.func17, Tryd.ntmps17
    go_wp2
    go_ret
    exact ⟨ret_bool hne2.out.symm, 0, rfl⟩

theorem int_info : (Tryd.prog.info? 3).map (fun i => (i.zero, i.size, i.bytes)) = some (some (Value.int .i64 0), 1, 8) := by kernel_rfl

/-- the first k of l, the rest 0 -/
def fillTo (l : List Int) (k : Nat) : Array Value := (l.mapIdx fun i x => if i < k then Value.int .i64 x else Value.int .i64 0).toArray
theorem fillTo_get (l : List Int) (k j : Nat) : (fillTo l k)[j]? = l[j]?.map fun x => if j < k then Value.int .i64 x else Value.int .i64 0 := by simp [fillTo, List.getElem?_mapIdx]
theorem fillTo_size (l : List Int) (k : Nat) : (fillTo l k).size = l.length := by simp [fillTo]
theorem fillTo_zero (l : List Int) : fillTo l 0 = Array.replicate l.length (.int .i64 0) := by
  apply Array.ext_getElem?
  intro j
  rw [fillTo_get]
  by_cases h : j < l.length <;> simp [h]
theorem fillTo_all (l : List Int) : fillTo l l.length = (ints l).toArray := by
  apply Array.ext_getElem?
  intro j
  rw [fillTo_get]
  by_cases h : j < l.length <;> simp [h, ints]
theorem fillTo_set (l : List Int) (k : Nat) (h : k < l.length) : (fillTo l k).setIfInBounds k (.int .i64 l[k]) = fillTo l (k + 1) := by
  apply Array.ext_getElem?
  intro j
  rw [Array.getElem?_setIfInBounds, fillTo_get, fillTo_get, fillTo_size]
  by_cases hj : k = j
  · subst hj
    simp [h]
  · rw [if_neg hj]
    by_cases hjl : j < l.length
    · simp only [List.getElem?_eq_getElem hjl, Option.map_some]
      have : (j < k + 1) ↔ (j < k) := by omega
      simp only [this]
    · simp [hjl]

/-- a slice of its own that holds l -/
def NewInts (w : World) (l : List Int) (e : Ending) (w' : World) : Prop :=
  ∃ g, e = .returned (.slice (some ⟨g, 0, none⟩) l.length l.length) ∧ w.heap.size ≤ g ∧ Blk w' g 3 (ints l).toArray ∧ Below w.heap.size w w'

theorem toIntS_any (A : Option Addr) (c : Nat) (l : List Int) (w : World) (h : RI w w.heap.size A l) (hn : l.length ≤ 1048576) :
    Calls Tryd.prog 13 #[.slice A l.length c] w (NewInts w l) := by
  obtain ⟨i0, hi, hz0, hz1, hz2⟩ := info_parts int_info
  have hmk := fun W => run_makeN (P := Tryd.prog) 22 3 i0 _ Tryd.underlying22 hi hz0 hz1 rfl (by omega) l.length l.length (Nat.le_refl _) (by omega) W
  clear hi hz0 hz1 hz2
  have hrep := Lib.hid (fillTo_zero l)
  go_enter Tryd.func13, Tryd.ntmps13
  go_wp2
  go_loopw [4] (fun i wr => ∃ k : Nat, k ≤ l.length ∧ i = .int .i64 k ∧ Blk wr w.heap.size 3 (fillTo l k) ∧ Below w.heap.size w wr) (fun i _ => l.length - (intOf i).toNat)
  case atStart => exact ⟨0, Nat.zero_le _, rfl, by rw [hrep.out]; exact Blk.new _ _ _, (Below.refl _ _).alloc (Nat.le_refl _) _⟩
  case round =>
    obtain ⟨k, hk, rfl, hblk, hbel⟩ := hrel
    by_cases hlt : k < l.length
    · obtain ⟨ad, rfl, hb, hc⟩ := (h.below hbel).at_ hlt
      have hcell : ∃ v, wr.cell? ⟨w.heap.size, k, none⟩ = some v := ⟨_, (hblk.cell k).trans (Array.getElem?_eq_getElem (by rw [fillTo_size l k]; exact hlt))⟩
      obtain ⟨v0, hcell⟩ := hcell
      have hfz := hblk.frozen k
      have Hblk := Lib.hid hblk
      clear hblk
      go_wp2
      go_roundw
      case rel => exact ⟨k + 1, by omega, by go_num, by rw [← fillTo_set l k hlt]; exact Hblk.out.set_ _ _, hbel.setCell (Nat.le_refl _) _⟩
      case measure => simp [intOf]; omega
    · have hk' : k = l.length := by omega
      subst hk'
      rw [fillTo_all] at hblk
      have Hblk := Lib.hid hblk
      clear hblk
      go_wp2
      go_ret
      exact ⟨_, rfl, Nat.le_refl _, Hblk.out, hbel⟩
end Go.Proofs.YthdnhaaojicmbaaDoor
