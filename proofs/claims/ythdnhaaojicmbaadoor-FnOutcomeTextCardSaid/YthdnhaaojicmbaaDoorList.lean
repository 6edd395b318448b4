/-
  Slices of structs whose fields are one cell each: how they read, and the block of a copy, element by element.
-/
import Derived.Test.YthdnhaaojicmbaaDoorOwn
namespace Go.Proofs.YthdnhaaojicmbaaDoor
open Go.RowKit
set_option linter.unusedSimpArgs false
set_option linter.unusedVariables false

section
variable {α : Type} {f : α → List Value} {m : Nat}
theorem flat_length (hf : ∀ x, (f x).length = m) (l : List α) : (l.flatMap f).length = l.length * m := by
  induction l with
  | nil => simp
  | cons x l ih => rw [List.flatMap_cons, List.length_append, hf, ih, List.length_cons, Nat.succ_mul, Nat.add_comm]
theorem flat_get (hf : ∀ x, (f x).length = m) (l : List α) {k j : Nat} (hk : k < l.length) (hj : j < m) : (l.flatMap f)[k * m + j]? = (f l[k])[j]? := by
  induction l generalizing k with
  | nil => simp at hk
  | cons x l ih =>
    rw [List.flatMap_cons]
    cases k with
    | zero =>
      rw [Nat.zero_mul, Nat.zero_add, List.getElem?_append_left (by rw [hf]; exact hj)]
      rfl
    | succ k =>
      have e : (k + 1) * m + j = (k * m + j) + (f x).length := by rw [hf, Nat.succ_mul]; omega
      rw [e, List.getElem?_append_right (by omega), Nat.add_sub_cancel]
      simpa using ih (by simpa using hk)
theorem flat_made {z : Value} {zs : α} (hz : z.cells.toList = f zs) (hf : ∀ x, (f x).length = m) (hm : 0 < m) (n : Nat) : ((List.replicate n zs).flatMap f).toArray = madeCells z.cells (n * m) := by
  have hs : z.cells.size = m := by rw [← hf zs, ← hz, Array.length_toList]
  apply Array.ext_getElem?
  intro j
  by_cases hj : j < n * m
  · have hr : j % m < m := Nat.mod_lt _ hm
    have hq : j / m < n := Nat.div_lt_of_lt_mul (by rw [Nat.mul_comm]; exact hj)
    have e : j = j / m * m + j % m := (Nat.div_add_mod' j m).symm
    have h1 : ((List.replicate n zs).flatMap f).toArray[j]? = (f zs)[j % m]? := by
      rw [List.getElem?_toArray]
      have h2 := flat_get (f := f) hf (List.replicate n zs) (k := j / m) (j := j % m) (by simpa using hq) hr
      rw [← e] at h2
      rw [h2]
      simp
    rw [h1, ← hz]
    have hlt : j % m < z.cells.size := by omega
    simp only [madeCells, Array.getElem?_map, Array.getElem?_range, hj, if_true, Option.map_some, hs, Array.getElem?_toList, Array.getElem?_eq_getElem hlt, getElem!_pos z.cells (j % m) hlt]
  · rw [Array.getElem?_eq_none (by rw [List.size_toArray, flat_length hf]; simp; omega), Array.getElem?_eq_none (by rw [size_madeCells]; omega)]
end

/-- the first k of l, the rest z -/
def fillZ {α : Type} (z : α) (l : List α) (k : Nat) : List α := l.mapIdx fun i x => if i < k then x else z
section
variable {α : Type} (z : α) (l : List α)
@[simp] theorem fillZ_length (k : Nat) : (fillZ z l k).length = l.length := by simp [fillZ]
theorem fillZ_all : fillZ z l l.length = l := by
  apply List.ext_getElem?
  intro j
  simp only [fillZ, List.getElem?_mapIdx]
  by_cases h : j < l.length <;> simp [h]
theorem fillZ_zero : fillZ z l 0 = List.replicate l.length z := by
  apply List.ext_getElem?
  intro j
  simp only [fillZ, List.getElem?_mapIdx]
  by_cases h : j < l.length <;> simp [h]
theorem fillZ_set (i : Nat) (h : i < l.length) : (fillZ z l i).set i l[i] = fillZ z l (i + 1) := by
  apply List.ext_getElem?
  intro j
  rw [List.getElem?_set]
  simp only [fillZ, List.getElem?_mapIdx, List.length_mapIdx]
  by_cases hj : i = j
  · subst hj
    simp [h]
  · rw [if_neg hj]
    by_cases hjl : j < l.length
    · simp only [List.getElem?_eq_getElem hjl, Option.map_some]
      have : (j < i + 1) = (j < i) := by rw [eq_iff_iff]; omega
      simp only [this]
    · simp [hjl]
end

/-- a deed, an event or a said as data: its act and two numbers -/
abbrev Dd := ByteArray × Int × Int
def encD (d : Dd) : List Value := [.string d.1, .int .i64 d.2.1, .int .i64 d.2.2]
theorem encD_length (d : Dd) : (encD d).length = 3 := rfl
def cells3 (l : List Dd) : List Value := l.flatMap encD
@[simp] theorem cells3_length (l : List Dd) : (cells3 l).length = l.length * 3 := flat_length encD_length l
theorem cells3_get (l : List Dd) (k : Nat) (h : k < l.length) : (cells3 l)[k * 3]? = some (.string l[k].1) ∧ (cells3 l)[k * 3 + 1]? = some (.int .i64 l[k].2.1) ∧ (cells3 l)[k * 3 + 2]? = some (.int .i64 l[k].2.2) :=
  ⟨flat_get encD_length l (j := 0) h (by omega), flat_get encD_length l (j := 1) h (by omega), flat_get encD_length l (j := 2) h (by omega)⟩
theorem cells3_set (l : List Dd) (i : Nat) (x : Dd) : (((cells3 l).set (i * 3) (.string x.1)).set (i * 3 + 1) (.int .i64 x.2.1)).set (i * 3 + 2) (.int .i64 x.2.2) = cells3 (l.set i x) := by
  induction l generalizing i with
  | nil => simp [cells3]
  | cons y l ih =>
    cases i with
    | zero => simp [cells3, encD]
    | succ i =>
      have e1 : (i + 1) * 3 = i * 3 + 1 + 1 + 1 := by omega
      rw [e1]
      have := ih i
      simpa [cells3, encD] using this
theorem cells3_snoc (l : List Dd) (x : Dd) : cells3 (l ++ [x]) = cells3 l ++ encD x := by simp [cells3]
/-- a slice of deeds that reads as l -/
def RD (w : World) (B : Nat) (A : Option Addr) (l : List Dd) : Prop := Reads w B 3 A l.length (cells3 l)
section
variable {w w' : World} {B B' : Nat} {A : Option Addr} {l : List Dd}
theorem RD.at_ (h : RD w B A l) {k : Nat} (hk : k < l.length) : ∃ ad, A = some ad ∧ ad.block < B ∧ w.cell? (ad.add (k * 3)) = some (.string l[k].1) ∧
    w.cell? ⟨(ad.add (k * 3)).block, (ad.add (k * 3)).off + 1, none⟩ = some (.int .i64 l[k].2.1) ∧ w.cell? ⟨(ad.add (k * 3)).block, (ad.add (k * 3)).off + 2, none⟩ = some (.int .i64 l[k].2.2) := by
  obtain ⟨ad, e, hb, hc⟩ := h.2 (by omega)
  obtain ⟨g1, g2, g3⟩ := cells3_get l k hk
  exact ⟨ad, e, hb, hc _ _ g1, by have h2 := hc _ _ g2; rw [← add_of_add] at h2; exact h2, by have h3 := hc _ _ g3; rw [← add_of_add] at h3; exact h3⟩
theorem RD.below (h : RD w B A l) (hb : Below B w w') : RD w' B A l := Reads.below h hb
theorem RD.more (h : RD w B A l) (hB : B ≤ B') : RD w B' A l := Reads.more h hB
theorem RD.drewN (h : RD w B A l) (n : Nat) : RD (w.drewN n) B A l := h
end
theorem Blk.RD_ {w : World} {g : Nat} {t : TypeId} {l : List Dd} (h : Blk w g t (cells3 l).toArray) : RD w w.heap.size (some ⟨g, 0, none⟩) l := by
  refine ⟨by simp, fun _ => ⟨_, rfl, h.lt, fun j u hu => ?_⟩⟩
  have e : (⟨g, 0, none⟩ : Addr).add j = ⟨g, j, none⟩ := by
    unfold Addr.add
    split
    · rename_i h0; simp_all
    · simp
  rw [e, h.cell j]
  simpa using hu
/-- what the texts and the deeds together count -/
def szD (l : List Dd) : Nat := l.length + (l.map fun d => d.1.size).sum
theorem sum_take_le (l : List Nat) (k : Nat) : (l.take k).sum ≤ l.sum := by
  induction l generalizing k with
  | nil => simp
  | cons x l ih =>
    cases k with
    | zero => simp
    | succ k => simpa using ih k
theorem sum_take_succ (l : List Nat) (k : Nat) (h : k < l.length) : (l.take (k + 1)).sum = (l.take k).sum + l[k] := by
  rw [take_snoc l k h, List.sum_append]
  simp only [List.sum_cons, List.sum_nil, Nat.add_zero]
theorem szD_len {l : List Dd} : l.length ≤ szD l := by unfold szD; omega
theorem szD_mem {l : List Dd} {k : Nat} (h : k < l.length) : l[k].1.size ≤ szD l := by
  have h1 := sum_take_succ (l.map fun d => d.1.size) k (by simpa using h)
  have h2 := sum_take_le (l.map fun d => d.1.size) (k + 1)
  unfold szD
  simp at h1
  omega
/-- what was served: an entry and an answer -/
abbrev Sv := Int × ByteArray
def encS (d : Sv) : List Value := [.int .i64 d.1, .string d.2]
theorem encS_length (d : Sv) : (encS d).length = 2 := rfl
def RS (w : World) (B : Nat) (A : Option Addr) (l : List Sv) : Prop := Reads w B 2 A l.length (l.flatMap encS)
/-- rows: each a slice -/
def rowV {α : Type} (r : Option Addr × List α × Nat) : Value := .slice r.1 r.2.1.length r.2.2
/-- a slice of slices: its row of headers, and each row -/
structure RL {α : Type} (f : α → List Value) (m : Nat) (w : World) (B : Nat) (A : Option Addr) (R : List (Option Addr × List α × Nat)) : Prop where
  hdr : Reads w B 1 A R.length (R.map rowV)
  row : ∀ r ∈ R, r.2.1.length ≤ r.2.2 ∧ r.2.2 ≤ maxLen ∧ Reads w B m r.1 r.2.1.length (r.2.1.flatMap f)
def encI (x : Int) : List Value := [.int .i64 x]
theorem encI_ints (l : List Int) : l.flatMap encI = ints l := by
  induction l with
  | nil => rfl
  | cons x l ih => rw [List.flatMap_cons, ih]; rfl
section
variable {α : Type} {f : α → List Value} {m : Nat} {w w' : World} {B B' : Nat} {A : Option Addr} {R : List (Option Addr × List α × Nat)}
theorem RL.below (h : RL f m w B A R) (hb : Below B w w') : RL f m w' B A R := ⟨h.hdr.below hb, fun r hr => ⟨(h.row r hr).1, (h.row r hr).2.1, (h.row r hr).2.2.below hb⟩⟩
theorem RL.more (h : RL f m w B A R) (hB : B ≤ B') : RL f m w B' A R := ⟨h.hdr.more hB, fun r hr => ⟨(h.row r hr).1, (h.row r hr).2.1, (h.row r hr).2.2.more hB⟩⟩
theorem RL.at_ (h : RL f m w B A R) {k : Nat} (hk : k < R.length) : ∃ ad, A = some ad ∧ ad.block < B ∧ w.cell? (ad.add k) = some (.slice R[k].1 R[k].2.1.length R[k].2.2) ∧
    R[k].2.1.length ≤ R[k].2.2 ∧ R[k].2.2 ≤ maxLen ∧ Reads w B m R[k].1 R[k].2.1.length (R[k].2.1.flatMap f) := by
  obtain ⟨ad, u, e, hb, hx, hc⟩ := h.hdr.at_ hk
  refine ⟨ad, e, hb, ?_, h.row _ (List.getElem_mem _)⟩
  rw [hc, ← hx]
  simp [rowV, List.getElem?_eq_getElem hk]
end
end Go.Proofs.YthdnhaaojicmbaaDoor
