/-
  What SameLine, PlugIn and MovePlugs of the program and of the reference return.
-/
import Derived.Test.YtelaeepkajbfnaaField2
namespace Go.Proofs.Ytelaeepkajbfnaa
open Go.RowKit
set_option linter.unusedSimpArgs false
set_option linter.unusedVariables false

/-- is it a field, and the number one of its plugs? -/
def fpB (l : List Int) (i : Int) : Bool := fieldB l && inB i 0 (l.length - 1)
def plugB (l : List Int) (i : Int) : Bool := inB i 0 (l.length - 1)
theorem plugB_true {l : List Int} {i : Int} (h : plugB l i = true) : 0 ≤ i ∧ i < l.length := by
  have := inB_true.1 h
  omega
theorem fpB_eq (l : List Int) (i : Int) : fpB l i = (fieldB l && plugB l i) := rfl
theorem quiet_left {P : Program} {f : FuncId} {args : Array Value} {w : World} {n : Nat} {v : Value}
    (h : Calls P f args (w.drewN n) fun e w' => e = .returned v ∧ w.drewN n = w') : Calls P f args (w.drewN n) fun e w'' => e = .returned v ∧ ∃ m, w'' = w.drewN m :=
  h.mono fun _ _ ⟨he, hm⟩ => ⟨he, n, hm.symm⟩
theorem isPlug_any (A : Option Addr) (c : Nat) (l : List Int) (i : Int) (w : World) (hn : l.length ≤ 1048576) :
    Calls Try.prog 46 #[.slice A l.length c, .int .i64 i] w fun e w' => e = .returned (.bool (plugB l i)) ∧ w = w' := by
  go_enter Try.func46, Try.ntmps46
  go_wp2
  all_goals
    go_ret
    refine ⟨ret_bool ?_, rfl⟩
    rw [Bool.eq_iff_iff]
    simp [plugB, inB]
    try omega
/-- two plugs of a field that lead to the same line -/
def sameB (l : List Int) (i k : Int) : Bool := fieldB l && plugB l i && plugB l k && (l.getD i.toNat 0 == l.getD k.toNat 0)
theorem RI.int_at {w : World} {B : Nat} {A : Option Addr} {l : List Int} (h : RI w B A l) {i : Int} (h0 : 0 ≤ i) (h1 : i < l.length) : ∃ ad, A = some ad ∧ ad.block < B ∧ w.cell? (ad.add i.toNat) = some (.int .i64 (l.getD i.toNat 0)) := by
  obtain ⟨ad, e, hb, hc⟩ := h.at_ (k := i.toNat) (by omega)
  refine ⟨ad, e, hb, ?_⟩
  rw [hc, List.getD_eq_getElem?_getD, List.getElem?_eq_getElem (by omega)]
  rfl
theorem iSameLine_any (A : Option Addr) (c : Nat) (l : List Int) (i k : Int) (w : World) (h : RI w w.heap.size A l) (hn : l.length ≤ 1048576) :
    Calls Try.prog 28 #[.slice A l.length c, .int .i64 i, .int .i64 k] w fun e w' => e = .returned (.bool (sameB l i k)) ∧ Below w.heap.size w w' := by
  cases hf : fieldB l
  · have E0 : Hid (sameB l i k = false) := Lib.hid (by simp [sameB, hf])
    go_enter Try.func28, Try.ntmps28
    go_wp2_with (go_at_call 40; refine (iFieldValid_any _ _ l _ _ h hn).mono ?_; rintro e w' ⟨rfl, rfl⟩)
    go_ret
    exact ⟨ret_bool E0.out.symm, Below.refl _ _⟩
  · cases hi : plugB l i
    · have E0 : Hid (sameB l i k = false) := Lib.hid (by simp [sameB, hi])
      go_enter Try.func28, Try.ntmps28
      go_wp2_with (first | (go_at_call 40; refine (iFieldValid_any _ _ l _ _ h hn).mono ?_; rintro e w' ⟨rfl, rfl⟩) | (go_at_call 46; refine (isPlug_any _ _ l _ _ hn).mono ?_; rintro e w' ⟨rfl, rfl⟩))
      go_ret
      exact ⟨ret_bool E0.out.symm, Below.refl _ _⟩
    · cases hk : plugB l k
      · have E0 : Hid (sameB l i k = false) := Lib.hid (by simp [sameB, hk])
        go_enter Try.func28, Try.ntmps28
        go_wp2_with (first | (go_at_call 40; refine (iFieldValid_any _ _ l _ _ h hn).mono ?_; rintro e w' ⟨rfl, rfl⟩) | (go_at_call 46; refine (isPlug_any _ _ l _ _ hn).mono ?_; rintro e w' ⟨rfl, rfl⟩))
        go_ret
        exact ⟨ret_bool E0.out.symm, Below.refl _ _⟩
      · obtain ⟨hn20, hval⟩ := fieldB_true hf
        obtain ⟨i0, i1⟩ := plugB_true hi
        obtain ⟨k0, k1⟩ := plugB_true hk
        obtain ⟨a, ha⟩ : ∃ a, l.getD i.toNat 0 = a := ⟨_, rfl⟩
        obtain ⟨b, hb⟩ : ∃ b, l.getD k.toNat 0 = b := ⟨_, rfl⟩
        have E0 : Hid (sameB l i k = (a == b)) := Lib.hid (by rw [← ha, ← hb]; simp [sameB, hf, hi, hk])
        have Ha := Lib.hid ha
        have Hb := Lib.hid hb
        clear ha hb
        go_enter Try.func28, Try.ntmps28
        go_wp2_with (first | (go_at_call 40; refine (iFieldValid_any _ _ l _ _ h hn).mono ?_; rintro e w' ⟨rfl, rfl⟩) | (go_at_call 46; refine (isPlug_any _ _ l _ _ hn).mono ?_; rintro e w' ⟨rfl, rfl⟩) | (go_at_call 32; refine (newPatchboard_any A c l w h hn20 hval).mono ?_; rintro e w1 ⟨S, L, M, G, ch, rfl, hbd, g1, g2, g3, g4, hbel⟩; have c2 := hbd.s2; have ci := hbd.int_cell i0 i1; have ck := hbd.int_cell k0 k1; rw [Ha.out] at ci; rw [Hb.out] at ck))
        go_quiet (fail)
        go_wp2
        go_ret
        refine ⟨ret_bool ?_, below_drewN hbel _⟩
        rw [E0.out]
        have hs := hbd.same i0 i1 k0 k1
        rwa [Ha.out, Hb.out] at hs

def plugInB (l : List Int) (i x : Int) : Bool := fieldB l && plugB l i && inB x 0 6
def plugInL (l : List Int) (i x : Int) : List Int := if plugInB l i x = true then l.set i.toNat x else []
theorem plugInL_len {l : List Int} {i x : Int} (h : l.length ≤ 1048576) : (plugInL l i x).length ≤ 1048576 := by
  unfold plugInL
  split
  · simpa using h
  · simp

def moveB (l : List Int) (a b : Int) : Bool := fieldB l && inB a 0 6 && inB b 0 6
def mv (a b y : Int) : Int := if y = a then b else y
def moveL (l : List Int) (a b : Int) : List Int := if moveB l a b = true then l.map (mv a b) else []
theorem moveL_len {l : List Int} {i x : Int} (h : l.length ≤ 1048576) : (moveL l i x).length ≤ 1048576 := by
  unfold moveL
  split
  · simpa using h
  · simp
/-- the first k of l moved -/
def moveTo (l : List Int) (a b : Int) (k : Nat) : List Int := l.mapIdx fun j y => if j < k then mv a b y else y
theorem moveTo_length (l : List Int) (a b : Int) (k : Nat) : (moveTo l a b k).length = l.length := by simp [moveTo]
theorem moveTo_zero (l : List Int) (a b : Int) : moveTo l a b 0 = l := by
  apply List.ext_getElem?
  intro j
  simp only [moveTo, List.getElem?_mapIdx]
  by_cases h : j < l.length <;> simp [h]
theorem moveTo_all (l : List Int) (a b : Int) : moveTo l a b l.length = l.map (mv a b) := by
  apply List.ext_getElem?
  intro j
  simp only [moveTo, List.getElem?_mapIdx, List.getElem?_map]
  by_cases h : j < l.length <;> simp [h]
theorem moveTo_get (l : List Int) (a b : Int) (k : Nat) (h : k < l.length) : (moveTo l a b k)[k]? = some l[k] := by simp [moveTo, List.getElem?_mapIdx, h]
theorem moveTo_yes (l : List Int) (a b : Int) (k : Nat) (h : k < l.length) (e : l[k] = a) : (moveTo l a b k).set k b = moveTo l a b (k + 1) := by
  apply List.ext_getElem?
  intro j
  rw [List.getElem?_set]
  simp only [moveTo, List.getElem?_mapIdx, List.length_mapIdx]
  by_cases hj : k = j
  · subst hj
    simp [h, mv, e]
  · rw [if_neg hj]
    by_cases hjl : j < l.length
    · simp only [List.getElem?_eq_getElem hjl, Option.map_some]
      have : (j < k + 1) = (j < k) := by rw [eq_iff_iff]; omega
      simp only [this]
    · simp [hjl]
theorem moveTo_no (l : List Int) (a b : Int) (k : Nat) (h : k < l.length) (e : ¬ l[k] = a) : moveTo l a b k = moveTo l a b (k + 1) := by
  apply List.ext_getElem?
  intro j
  simp only [moveTo, List.getElem?_mapIdx]
  by_cases hj : k = j
  · subst hj
    simp [h, mv, e]
  · by_cases hjl : j < l.length
    · simp only [List.getElem?_eq_getElem hjl, Option.map_some]
      have : (j < k + 1) = (j < k) := by rw [eq_iff_iff]; omega
      simp only [this]
    · simp [hjl]
end Go.Proofs.Ytelaeepkajbfnaa
