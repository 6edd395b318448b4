/-
  slices.Delete of one element, at rows of the call's own.
-/
import Derived.Test.YtoimhdhplebhgaaKOii
import Derived.Shelf.SlicesE.Delete
namespace Go.Proofs.Ytoimhdhplebhgaa
open Go.RowKit Go.Sort
set_option linter.unusedSimpArgs false
set_option linter.unusedVariables false

def dlI_ren : Go.Shelf.Ren := ⟨fun | 45 => 31 | n => n, fun | 0 => 0 | 3 => 3 | 4 => 4 | 22 => 25 | 23 => 3 | n => n, fun n => n⟩
theorem dlI : SlLaysE.n45 Try.prog dlI_ren := {
  mixed := by kernel_rfl
  f45 := ⟨"slices.Delete[[]int,int]", by rfl, by kernel_rfl⟩
  t0 := by kernel_rfl
  a0 := fun _ => by kernel_rfl
  z0 := fun _ => by kernel_rfl
  v0 := fun _ => by kernel_rfl
  t3 := by kernel_rfl
  a3 := fun _ => by kernel_rfl
  z3 := fun _ => by kernel_rfl
  v3 := fun _ => by kernel_rfl
  t4 := by kernel_rfl
  a4 := fun _ => by kernel_rfl
  z4 := fun _ => by kernel_rfl
  v4 := fun _ => by kernel_rfl
  t22 := by kernel_rfl
  a22 := fun _ => by kernel_rfl
  z22 := fun _ => by kernel_rfl
  v22 := fun _ => by kernel_rfl
  a23 := fun _ => by kernel_rfl
  z23 := fun _ => by kernel_rfl }
def dlC_ren : Go.Shelf.Ren := ⟨fun | 45 => 30 | n => n, fun | 0 => 0 | 3 => 3 | 4 => 4 | 22 => 48 | 23 => 51 | n => n, fun n => n⟩
theorem dlC : SlLaysE.n45 Try.prog dlC_ren := {
  mixed := by kernel_rfl
  f45 := ⟨"slices.Delete[[]chan int,chan int]", by rfl, by kernel_rfl⟩
  t0 := by kernel_rfl
  a0 := fun _ => by kernel_rfl
  z0 := fun _ => by kernel_rfl
  v0 := fun _ => by kernel_rfl
  t3 := by kernel_rfl
  a3 := fun _ => by kernel_rfl
  z3 := fun _ => by kernel_rfl
  v3 := fun _ => by kernel_rfl
  t4 := by kernel_rfl
  a4 := fun _ => by kernel_rfl
  z4 := fun _ => by kernel_rfl
  v4 := fun _ => by kernel_rfl
  t22 := by kernel_rfl
  a22 := fun _ => by kernel_rfl
  z22 := fun _ => by kernel_rfl
  v22 := fun _ => by kernel_rfl
  a23 := fun _ => by kernel_rfl
  z23 := fun _ => by kernel_rfl }
section
variable {α : Type} [Inhabited α] {enc : α → Value} {w : World} {base g cap : Nat} {e : TypeId} {L : List α}
theorem holds_own (h : w.ownsRow base e 1 (.slice (some ⟨g, 0, none⟩) L.length cap) L.length (L.map enc)) : Holds enc w g 0 L.toArray := by
  rcases h.2 with ⟨h1, _⟩ | ⟨g', cap', cur, hv, _, hh, hn, _, hcs, ht⟩
  · cases h1
  · injection hv with h1 _ h3
    injection h1 with h1
    injection h1 with h1
    subst h1
    intro j hj
    have hj' : j < L.length := by simpa using hj
    refine ⟨?_, by simp [World.frozen?, hh]⟩
    rw [Nat.mul_one] at ht
    have h4 : (cur.toList.take L.length)[j]? = (L.map enc)[j]? := by rw [ht]
    rw [List.getElem?_take_of_lt hj', List.getElem?_map, List.getElem?_eq_getElem hj', Array.getElem?_toList] at h4
    have h5 : L.toArray[j]! = L[j] := by rw [getElem!_pos L.toArray j hj]; simp
    rw [h5, Nat.zero_add]
    simpa [World.cell?, hh] using h4
theorem take_put (cur : Array Value) (d : List α) (m : Nat) (h : d.length ≤ cur.size) (hm : m ≤ d.length) : (putCells enc 0 d.toArray cur).toList.take m = (d.take m).map enc := by
  apply List.ext_getElem?
  intro j
  by_cases hj : j < m
  · rw [List.getElem?_take_of_lt hj, Array.getElem?_toList, List.getElem?_map, List.getElem?_take_of_lt hj, List.getElem?_eq_getElem (by omega)]
    have h5 : d.toArray[j]! = d[j] := by rw [getElem!_pos d.toArray j (by simp; omega)]; simp
    simp only [putCells, Array.getElem?_mapIdx, Array.getElem?_eq_getElem (show j < cur.size by omega), Option.map_some, Nat.zero_le, true_and, Nat.zero_add, List.size_toArray, Nat.sub_zero]
    rw [if_pos (by omega), h5]
  · rw [List.getElem?_eq_none (by simp; omega), List.getElem?_eq_none (by simp; omega)]
theorem del_post (h : w.ownsRow base e 1 (.slice (some ⟨g, 0, none⟩) L.length cap) L.length (L.map enc)) {i : Nat} (hi : i < L.length) (q : Nat) (zr : α) :
    (putRow enc (Sort.ahead w q) g 0 (L.take i ++ L.drop (i + 1) ++ List.replicate 1 zr).toArray).ownsRow base e 1 (.slice (some ⟨g, 0, none⟩) (L.eraseIdx i).length cap) (L.eraseIdx i).length ((L.eraseIdx i).map enc) ∧
      w.grownBy (putRow enc (Sort.ahead w q) g 0 (L.take i ++ L.drop (i + 1) ++ List.replicate 1 zr).toArray) (some g) := by
  have hlen : (L.eraseIdx i).length = L.length - 1 := by rw [List.length_eraseIdx, if_pos hi]
  have harr : (L.take i ++ L.drop (i + 1) ++ List.replicate 1 zr).length = L.length := by simp; omega
  rcases h.2 with ⟨h1, _⟩ | ⟨g', cap', cur, hv, hb, hh, hn, hm, hcs, ht⟩
  · cases h1
  · injection hv with h1 h2 h3
    injection h1 with h1
    injection h1 with h1
    subst h1
    subst h3
    rw [Nat.mul_one] at hcs
    constructor
    · refine ⟨by simp, .inr ⟨g, cap, putCells enc 0 (L.take i ++ L.drop (i + 1) ++ List.replicate 1 zr).toArray cur, rfl, hb, ?_, by omega, hm, by simp [putCells, hcs], ?_⟩⟩
      · simp [putRow, mapBlock, Sort.ahead, Array.getElem?_modify, hh, onCells]
      · rw [Nat.mul_one, take_put cur _ _ (by omega) (by omega), List.eraseIdx_eq_take_drop_succ]
        congr 1
        exact List.take_left
    · refine ⟨rfl, rfl, rfl, by simp [putRow, mapBlock, Sort.ahead], fun k hk hne => ?_⟩
      have : g ≠ k := fun e => hne (by rw [e])
      simp [putRow, mapBlock, Sort.ahead, Array.getElem?_modify, this]
end
/-- what Delete does to a row of the call's own -/
def Deleted {α : Type} (e : TypeId) (enc : α → Value) (w : World) (base : Nat) (A : Option Addr) (c : Nat) (L : List α) (en : Ending) (w' : World) : Prop :=
  en = .returned (.slice A L.length c) ∧ w'.ownsRow base e 1 (.slice A L.length c) L.length (L.map enc) ∧ w.grownBy w' (Value.slice A L.length c).ownBlock
theorem del_ints (A : Option Addr) (c : Nat) (L : List Int) (i : Nat) (w : World) (base : Nat) (h : w.ownsRow base 3 1 (.slice A L.length c) L.length (ints L)) (hi : i < L.length) :
    Calls Try.prog 31 #[.slice A L.length c, .int .i64 i, .int .i64 (i + 1 : Nat)] w (Deleted 3 (Value.int .i64) w base A c (L.eraseIdx i)) := by
  obtain ⟨i0, hi0, hz0, hz1, hz2⟩ := info_parts int_info
  obtain ⟨g, cap, hv, _, _⟩ := own_some h (by omega)
  injection hv with h1 _ h3
  subst h1
  subst h3
  have h' : w.ownsRow base 3 1 (.slice (some ⟨g, 0, none⟩) L.length c) L.length (L.map (Value.int .i64)) := h
  have hcap : L.length ≤ c ∧ c ≤ maxLen := by
    rcases h.2 with ⟨h1, _⟩ | ⟨_, _, _, hv, _, _, hn, hm, _⟩
    · cases h1
    · injection hv with _ _ h3; subst h3; exact ⟨hn, hm⟩
  have hd := AnyE.slices_Delete dlI (Value.int .i64) (fun _ => rfl) 0 Try.zeroValue3 i0 hi0 hz1 g 0 c i (i + 1) L.toArray w (holds_own h') (by simpa using hcap.1) (by have := hcap.2; unfold maxLen at this; omega) (by omega) (by simp; omega)
  refine hd.mono ?_
  rintro e w' ⟨rfl, q, rfl⟩
  have hlen : (L.eraseIdx i).length = L.length - 1 := by rw [List.length_eraseIdx, if_pos hi]
  have hp := del_post h' hi q 0
  rw [show i + 1 - i = 1 by omega]
  refine ⟨?_, hp.1, hp.2⟩
  rw [hlen]; simp
theorem chan_info' : (Try.prog.info? 51).map (fun i => (i.zero, i.size, i.bytes)) = some (some (Value.chan none), 1, 8) := by kernel_rfl
theorem del_chans (A : Option Addr) (c : Nat) (L : List (Option Nat)) (i : Nat) (w : World) (base : Nat) (h : w.ownsRow base 51 1 (.slice A L.length c) L.length (L.map Value.chan)) (hi : i < L.length) :
    Calls Try.prog 30 #[.slice A L.length c, .int .i64 i, .int .i64 (i + 1 : Nat)] w (Deleted 51 Value.chan w base A c (L.eraseIdx i)) := by
  obtain ⟨i0, hi0, hz0, hz1, hz2⟩ := info_parts chan_info'
  obtain ⟨g, cap, hv, _, _⟩ := own_some h (by omega)
  injection hv with h1 _ h3
  subst h1
  subst h3
  have h' := h
  have hcap : L.length ≤ c ∧ c ≤ maxLen := by
    rcases h.2 with ⟨h1, _⟩ | ⟨_, _, _, hv, _, _, hn, hm, _⟩
    · cases h1
    · injection hv with _ _ h3; subst h3; exact ⟨hn, hm⟩
  have hd := AnyE.slices_Delete dlC Value.chan (fun _ => rfl) none Try.zeroValue51 i0 hi0 hz1 g 0 c i (i + 1) L.toArray w (holds_own h') (by simpa using hcap.1) (by have := hcap.2; unfold maxLen at this; omega) (by omega) (by simp; omega)
  refine hd.mono ?_
  rintro e w' ⟨rfl, q, rfl⟩
  have hlen : (L.eraseIdx i).length = L.length - 1 := by rw [List.length_eraseIdx, if_pos hi]
  have hp := del_post h' hi q none
  rw [show i + 1 - i = 1 by omega]
  refine ⟨?_, hp.1, hp.2⟩
  rw [hlen]; simp
end Go.Proofs.Ytoimhdhplebhgaa
