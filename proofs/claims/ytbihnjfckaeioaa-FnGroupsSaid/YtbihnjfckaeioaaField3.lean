/-
  What SameLine, PlugIn and MovePlugs of the program and of the reference return.
-/
import Derived.Test.YtbihnjfckaeioaaField2
namespace Go.Proofs.Ytbihnjfckaeioaa
open Go.RowKit
set_option linter.unusedSimpArgs false
set_option linter.unusedVariables false

/-- is it a field, and the number one of its plugs? -/
def fpB (l : List Int) (i : Int) : Bool := fieldB l && inB i 0 (l.length - 1)
def plugB (l : List Int) (i : Int) : Bool := inB i 0 (l.length - 1)
theorem plugB_true {l : List Int} {i : Int} (h : plugB l i = true) : 0 ≤ i ∧ i < l.length := by
  have := inB_true.1 h
  omega
theorem fpB_eq (l : List Int) (i : Int) : fpB l i = (fieldB l && plugB l i) := rfl
theorem quiet_left {P : Program} {f : FuncId} {args : Array Value} {w : World} {n : Nat} {v : Value}
    (h : Calls P f args (w.drewN n) fun e w' => e = .returned v ∧ w.drewN n = w') : Calls P f args (w.drewN n) fun e w'' => e = .returned v ∧ ∃ m, w'' = w.drewN m :=
  h.mono fun _ _ ⟨he, hm⟩ => ⟨he, n, hm.symm⟩
theorem isPlug_any (A : Option Addr) (c : Nat) (l : List Int) (i : Int) (w : World) (hn : l.length ≤ 1048576) :
    Calls Try.prog 36 #[.slice A l.length c, .int .i64 i] w fun e w' => e = .returned (.bool (plugB l i)) ∧ w = w' := by
  go_enter Try.func36, Try.ntmps36
  go_wp2
  all_goals
    go_ret
    refine ⟨ret_bool ?_, rfl⟩
    rw [Bool.eq_iff_iff]
    simp [plugB, inB]
    try omega
theorem l2Plug_any (A : Option Addr) (c : Nat) (l : List Int) (i : Int) (w : World) (B : Nat) (h : RI w B A l) (hn : l.length ≤ 1048576) :
    Calls Try.prog 42 #[.slice A l.length c, .int .i64 i] w fun e w' => e = .returned (.bool (fpB l i)) ∧ w = w' := by
  rw [fpB_eq]
  cases hf : fieldB l
  · go_enter Try.func42, Try.ntmps42
    go_wp2_with (go_at_call 34; refine (sFieldValid_any _ _ l _ _ h hn).mono ?_; rintro e w' ⟨rfl, rfl⟩)
    go_ret
    exact ⟨rfl, rfl⟩
  · go_enter Try.func42, Try.ntmps42
    go_wp2_with (first | (go_at_call 34; refine (sFieldValid_any _ _ l _ _ h hn).mono ?_; rintro e w' ⟨rfl, rfl⟩) | (go_at_call 43; refine (l1In_any _ _ _ _).mono ?_; rintro e w' ⟨rfl, rfl⟩))
    go_ret
    exact ⟨rfl, rfl⟩
theorem l2Plug_val (A : Option Addr) (c : Nat) (l : List Int) (i : Int) (b : Bool) (w : World) (B : Nat) (hb : fpB l i = b) (h : RI w B A l) (hn : l.length ≤ 1048576) :
    Calls Try.prog 42 #[.slice A l.length c, .int .i64 i] w fun e w' => e = .returned (.bool b) ∧ w = w' := hb ▸ l2Plug_any A c l i w B h hn
/-- two plugs of a field that lead to the same line -/
def sameB (l : List Int) (i k : Int) : Bool := fieldB l && plugB l i && plugB l k && (l.getD i.toNat 0 == l.getD k.toNat 0)
theorem RI.int_at {w : World} {B : Nat} {A : Option Addr} {l : List Int} (h : RI w B A l) {i : Int} (h0 : 0 ≤ i) (h1 : i < l.length) : ∃ ad, A = some ad ∧ ad.block < B ∧ w.cell? (ad.add i.toNat) = some (.int .i64 (l.getD i.toNat 0)) := by
  obtain ⟨ad, e, hb, hc⟩ := h.at_ (k := i.toNat) (by omega)
  refine ⟨ad, e, hb, ?_⟩
  rw [hc, List.getD_eq_getElem?_getD, List.getElem?_eq_getElem (by omega)]
  rfl
theorem iSameLine_any (A : Option Addr) (c : Nat) (l : List Int) (i k : Int) (w : World) (h : RI w w.heap.size A l) (hn : l.length ≤ 1048576) :
    Calls Try.prog 11 #[.slice A l.length c, .int .i64 i, .int .i64 k] w fun e w' => e = .returned (.bool (sameB l i k)) ∧ Below w.heap.size w w' := by
  cases hf : fieldB l
  · have E0 : Hid (sameB l i k = false) := Lib.hid (by simp [sameB, hf])
    go_enter Try.func11, Try.ntmps11
    go_wp2_with (go_at_call 22; refine (iFieldValid_any _ _ l _ _ h hn).mono ?_; rintro e w' ⟨rfl, rfl⟩)
    go_ret
    exact ⟨ret_bool E0.out.symm, Below.refl _ _⟩
  · cases hi : plugB l i
    · have E0 : Hid (sameB l i k = false) := Lib.hid (by simp [sameB, hi])
      go_enter Try.func11, Try.ntmps11
      go_wp2_with (first | (go_at_call 22; refine (iFieldValid_any _ _ l _ _ h hn).mono ?_; rintro e w' ⟨rfl, rfl⟩) | (go_at_call 36; refine (isPlug_any _ _ l _ _ hn).mono ?_; rintro e w' ⟨rfl, rfl⟩))
      go_ret
      exact ⟨ret_bool E0.out.symm, Below.refl _ _⟩
    · cases hk : plugB l k
      · have E0 : Hid (sameB l i k = false) := Lib.hid (by simp [sameB, hk])
        go_enter Try.func11, Try.ntmps11
        go_wp2_with (first | (go_at_call 22; refine (iFieldValid_any _ _ l _ _ h hn).mono ?_; rintro e w' ⟨rfl, rfl⟩) | (go_at_call 36; refine (isPlug_any _ _ l _ _ hn).mono ?_; rintro e w' ⟨rfl, rfl⟩))
        go_ret
        exact ⟨ret_bool E0.out.symm, Below.refl _ _⟩
      · obtain ⟨hn20, hval⟩ := fieldB_true hf
        obtain ⟨i0, i1⟩ := plugB_true hi
        obtain ⟨k0, k1⟩ := plugB_true hk
        obtain ⟨a, ha⟩ : ∃ a, l.getD i.toNat 0 = a := ⟨_, rfl⟩
        obtain ⟨b, hb⟩ : ∃ b, l.getD k.toNat 0 = b := ⟨_, rfl⟩
        have E0 : Hid (sameB l i k = (a == b)) := Lib.hid (by rw [← ha, ← hb]; simp [sameB, hf, hi, hk])
        have Ha := Lib.hid ha
        have Hb := Lib.hid hb
        clear ha hb
        go_enter Try.func11, Try.ntmps11
        go_wp2_with (first | (go_at_call 22; refine (iFieldValid_any _ _ l _ _ h hn).mono ?_; rintro e w' ⟨rfl, rfl⟩) | (go_at_call 36; refine (isPlug_any _ _ l _ _ hn).mono ?_; rintro e w' ⟨rfl, rfl⟩) | (go_at_call 32; refine (newPatchboard_any A c l w h hn20 hval).mono ?_; rintro e w1 ⟨S, L, M, G, ch, rfl, hbd, g1, g2, g3, g4, hbel⟩; have c2 := hbd.s2; have ci := hbd.int_cell i0 i1; have ck := hbd.int_cell k0 k1; rw [Ha.out] at ci; rw [Hb.out] at ck))
        go_quiet (fail)
        go_wp2
        go_ret
        refine ⟨ret_bool ?_, below_drewN hbel _⟩
        rw [E0.out]
        have hs := hbd.same i0 i1 k0 k1
        rwa [Ha.out, Hb.out] at hs

def plugInB (l : List Int) (i x : Int) : Bool := fieldB l && plugB l i && inB x 0 6
def plugInL (l : List Int) (i x : Int) : List Int := if plugInB l i x = true then l.set i.toNat x else []
theorem sPlugIn_any (A : Option Addr) (c : Nat) (l : List Int) (i x : Int) (w : World) (h : RI w w.heap.size A l) (hn : l.length ≤ 1048576) :
    Calls Try.prog 26 #[.slice A l.length c, .int .i64 i, .int .i64 x] w (OwnInts2 w (plugInL l i x) (plugInB l i x)) := by
  cases hi : fpB l i
  · have hb : plugInB l i x = false := by rw [fpB_eq] at hi; simp [plugInB, hi]
    have hl : plugInL l i x = [] := by simp [plugInL, hb]
    rw [hb, hl]
    go_enter Try.func26, Try.ntmps26
    go_wp2_with (go_at_call 42; refine (l2Plug_any _ _ l _ _ _ h hn).mono ?_; rintro e w' ⟨rfl, rfl⟩)
    go_ret2
    exact OwnInts2.mk_ (l := []) (ownsRow_empty' w) ((Below.refl _ _).alloc (Nat.le_refl _) _)
  · cases hx : inB x 0 6
    · have hb : plugInB l i x = false := by simp [plugInB, hx]
      have hl : plugInL l i x = [] := by simp [plugInL, hb]
      rw [hb, hl]
      go_enter Try.func26, Try.ntmps26
      go_wp2_with (first | (go_at_call 42; refine (l2Plug_any _ _ l _ _ _ h hn).mono ?_; rintro e w' ⟨rfl, rfl⟩) | (go_at_call 35; refine (l2Line_any _ _).mono ?_; rintro e w' ⟨rfl, rfl⟩))
      go_ret2
      exact OwnInts2.mk_ (l := []) (ownsRow_empty' w) ((Below.refl _ _).alloc (Nat.le_refl _) _)
    · have hb : plugInB l i x = true := by have hi' := hi; rw [fpB_eq] at hi'; simp [plugInB, hx, hi']
      have hl : plugInL l i x = l.set i.toNat x := by simp [plugInL, hb]
      rw [hb, hl]
      have hf : fieldB l = true := by rw [fpB_eq] at hi; simp at hi; exact hi.1
      obtain ⟨hn20, _⟩ := fieldB_true hf
      obtain ⟨i0, i1⟩ := plugB_true (show plugB l i = true by rw [fpB_eq] at hi; simp at hi; exact hi.2)
      clear hb hl hf
      obtain ⟨ii0, hii, hz0, hz1, hz2⟩ := info_parts int_info
      go_enter Try.func26, Try.ntmps26
      go_wp2_with (first | (go_at_call 42; refine (l2Plug_any _ _ l _ _ _ h hn).mono ?_; rintro e w' ⟨rfl, rfl⟩) | (go_at_call 35; refine (l2Line_any _ _).mono ?_; rintro e w' ⟨rfl, rfl⟩) | (at_builtin; refine wpList_append_any _ rfl _ _ 23 rfl w.heap.size 3 ii0 (.int .i64 0) 1 8 Try.underlying23 hii hz0 hz1 hz2 rfl (by decide) (.slice (some ⟨w.heap.size, 0, none⟩) 0 0) 0 [] rfl (ownsRow_empty w) w.heap.size A l.length c (ints l) rfl (h.alloc_ _) (ints_oneCell' l) ?_ ?_ ?_ ?_; (unfold maxLen; omega); omega; (simp); intro v' w1 hown' hgrow hloc; obtain ⟨g, c', hv, hbg, hlt⟩ := own_some hown' (by omega); rw [hv] at hown'; rw [hv]; simp only [Nat.zero_add, List.nil_append] at hown'; have hcell := (hown'.cellAt i.toNat (by omega)).trans (List.getElem?_eq_getElem (by simp; omega)); have hfz := hown'.frozenAt i.toNat; have hst := (hown'.stored i.toNat (.int .i64 x)).1; generalize (ints l)[i.toNat]'(by simp; omega) = old at hcell))
      go_ret2
      have hlen : (l.set i.toNat x).length = l.length := List.length_set
      rw [ints_set] at hst
      have hbel1 : Below w.heap.size w w1 := ((Below.refl _ _).alloc (Nat.le_refl _) _).grown hgrow (by simp) (fun k hk => by simp [Value.ownBlock] at hk; omega)
      exact ⟨some ⟨g, 0, none⟩, c', by rw [hlen]; rfl, by rw [hlen]; exact hst, hbel1.setCell hbg _⟩
theorem plugInL_len {l : List Int} {i x : Int} (h : l.length ≤ 1048576) : (plugInL l i x).length ≤ 1048576 := by
  unfold plugInL
  split
  · simpa using h
  · simp
theorem iPlugIn_any (A : Option Addr) (c : Nat) (l : List Int) (i x : Int) (w : World) (h : RI w w.heap.size A l) (hn : l.length ≤ 1048576) :
    Calls Try.prog 25 #[.slice A l.length c, .int .i64 i, .int .i64 x] w (OwnInts2 w (plugInL l i x) (plugInB l i x)) := by
  cases hf : fieldB l
  · have hb : plugInB l i x = false := by simp [plugInB, hf]
    have hl : plugInL l i x = [] := by simp [plugInL, hb]
    rw [hb, hl]
    clear hb hl
    go_enter Try.func25, Try.ntmps25
    go_wp2_with (go_at_call 22; refine (iFieldValid_any _ _ l _ _ h hn).mono ?_; rintro e w' ⟨rfl, rfl⟩)
    go_ret2
    exact OwnInts2.mk_ (l := []) (World.ownsRow_nil _ _ _ _) (Below.refl _ _)
  cases hi : plugB l i
  · have hb : plugInB l i x = false := by simp [plugInB, hi]
    have hl : plugInL l i x = [] := by simp [plugInL, hb]
    rw [hb, hl]
    clear hb hl
    go_enter Try.func25, Try.ntmps25
    go_wp2_with (first | (go_at_call 22; refine (iFieldValid_any _ _ l _ _ h hn).mono ?_; rintro e w' ⟨rfl, rfl⟩) | (go_at_call 36; refine (isPlug_any _ _ l _ _ hn).mono ?_; rintro e w' ⟨rfl, rfl⟩))
    go_ret2
    exact OwnInts2.mk_ (l := []) (World.ownsRow_nil _ _ _ _) (Below.refl _ _)
  cases hx : inB x 0 6
  · have hb : plugInB l i x = false := by simp [plugInB, hx]
    have hl : plugInL l i x = [] := by simp [plugInL, hb]
    rw [hb, hl]
    clear hb hl
    go_enter Try.func25, Try.ntmps25
    go_wp2_with (first | (go_at_call 22; refine (iFieldValid_any _ _ l _ _ h hn).mono ?_; rintro e w' ⟨rfl, rfl⟩) | (go_at_call 36; refine (isPlug_any _ _ l _ _ hn).mono ?_; rintro e w' ⟨rfl, rfl⟩) | (go_at_call 31; refine (isLine_any _ _).mono ?_; rintro e w' ⟨rfl, rfl⟩))
    go_ret2
    exact OwnInts2.mk_ (l := []) (World.ownsRow_nil _ _ _ _) (Below.refl _ _)
  have hb : plugInB l i x = true := by simp [plugInB, hx, hi, hf]
  have hl : plugInL l i x = l.set i.toNat x := by simp [plugInL, hb]
  rw [hb, hl]
  obtain ⟨hn20, hval⟩ := fieldB_true hf
  obtain ⟨i0, i1⟩ := plugB_true hi
  obtain ⟨x0, x6⟩ := inB_true.1 hx
  have x7 : x < 7 := by omega
  clear hb hl
  go_enter Try.func25, Try.ntmps25
  go_wp2_with fail
  refine (iFieldValid_any _ _ l _ _ h hn).mono ?_
  rintro e w' ⟨rfl, rfl⟩
  go_wp2_with fail
  refine (isPlug_any _ _ l _ _ hn).mono ?_
  rintro e w' ⟨rfl, rfl⟩
  go_wp2_with fail
  refine (isLine_any _ _).mono ?_
  rintro e w' ⟨rfl, rfl⟩
  go_wp2_with fail
  refine (newPatchboard_any A c l w h hn20 hval).mono ?_
  rintro e w1 ⟨S, L, M, G, ch, rfl, hbd, g1, g2, g3, g4, hbel⟩
  have c0 := hbd.s0
  have c2 := hbd.s2
  have cl := hbd.line x0 x6
  have ci := hbd.int_cell i0 i1
  have fi := hbd.hG.frozen i.toNat
  go_wp2_with fail
  go_region
  go_wp2_with fail
  have hlen : (l.set i.toNat x).length = l.length := List.length_set
  refine (field_any S L M G ch (l.set i.toNat x) _ (hbd.plug ⟨x0, x6⟩).drew (by omega)).mono ?_
  rintro e w2 hnew
  obtain ⟨g, rfl, hg, hb2, hbel2⟩ := hnew
  go_wp2_with fail
  go_ret2
  have hbd2 : Below w.heap.size w (w1.setCell ⟨G, i.toNat, none⟩ (.chan (ch x))).drew := (hbel.setCell g4 _).drew
  exact ⟨some ⟨g, 0, none⟩, (l.set i.toNat x).length, by rw [hlen]; rfl, ownsRow_blk hb2 (Nat.le_trans hbd2.size hg) (by omega), hbd2.trans (hbel2.mono hbd2.size)⟩

def moveB (l : List Int) (a b : Int) : Bool := fieldB l && inB a 0 6 && inB b 0 6
def mv (a b y : Int) : Int := if y = a then b else y
def moveL (l : List Int) (a b : Int) : List Int := if moveB l a b = true then l.map (mv a b) else []
theorem moveL_len {l : List Int} {i x : Int} (h : l.length ≤ 1048576) : (moveL l i x).length ≤ 1048576 := by
  unfold moveL
  split
  · simpa using h
  · simp
/-- the first k of l moved -/
def moveTo (l : List Int) (a b : Int) (k : Nat) : List Int := l.mapIdx fun j y => if j < k then mv a b y else y
theorem moveTo_length (l : List Int) (a b : Int) (k : Nat) : (moveTo l a b k).length = l.length := by simp [moveTo]
theorem moveTo_zero (l : List Int) (a b : Int) : moveTo l a b 0 = l := by
  apply List.ext_getElem?
  intro j
  simp only [moveTo, List.getElem?_mapIdx]
  by_cases h : j < l.length <;> simp [h]
theorem moveTo_all (l : List Int) (a b : Int) : moveTo l a b l.length = l.map (mv a b) := by
  apply List.ext_getElem?
  intro j
  simp only [moveTo, List.getElem?_mapIdx, List.getElem?_map]
  by_cases h : j < l.length <;> simp [h]
theorem moveTo_get (l : List Int) (a b : Int) (k : Nat) (h : k < l.length) : (moveTo l a b k)[k]? = some l[k] := by simp [moveTo, List.getElem?_mapIdx, h]
theorem moveTo_yes (l : List Int) (a b : Int) (k : Nat) (h : k < l.length) (e : l[k] = a) : (moveTo l a b k).set k b = moveTo l a b (k + 1) := by
  apply List.ext_getElem?
  intro j
  rw [List.getElem?_set]
  simp only [moveTo, List.getElem?_mapIdx, List.length_mapIdx]
  by_cases hj : k = j
  · subst hj
    simp [h, mv, e]
  · rw [if_neg hj]
    by_cases hjl : j < l.length
    · simp only [List.getElem?_eq_getElem hjl, Option.map_some]
      have : (j < k + 1) = (j < k) := by rw [eq_iff_iff]; omega
      simp only [this]
    · simp [hjl]
theorem moveTo_no (l : List Int) (a b : Int) (k : Nat) (h : k < l.length) (e : ¬ l[k] = a) : moveTo l a b k = moveTo l a b (k + 1) := by
  apply List.ext_getElem?
  intro j
  simp only [moveTo, List.getElem?_mapIdx]
  by_cases hj : k = j
  · subst hj
    simp [h, mv, e]
  · by_cases hjl : j < l.length
    · simp only [List.getElem?_eq_getElem hjl, Option.map_some]
      have : (j < k + 1) = (j < k) := by rw [eq_iff_iff]; omega
      simp only [this]
    · simp [hjl]
end Go.Proofs.Ytbihnjfckaeioaa
