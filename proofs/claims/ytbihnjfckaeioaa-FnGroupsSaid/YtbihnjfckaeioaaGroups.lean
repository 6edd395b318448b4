/-
  Slices of slices of ints of the call's own: a row of headers and the rows, each in a block of its own. Their small functions; the groups of a field.
-/
import Derived.Test.YtbihnjfckaeioaaField5
namespace Go.Proofs.Ytbihnjfckaeioaa
open Go.RowKit
set_option linter.unusedSimpArgs false
set_option linter.unusedVariables false

theorem ints_info : (Try.prog.info? 23).map (fun i => (i.zero, i.size, i.bytes)) = some (some (Value.slice none 0 0), 1, 24) := by kernel_rfl
/-- rows of two types lie in two blocks -/
theorem own_types {w : World} {v1 v2 : Value} {n1 n2 b1 b2 s1 s2 : Nat} {e1 e2 : TypeId} {xs1 xs2 : List Value} (h1 : w.ownsRow b1 e1 s1 v1 n1 xs1) (h2 : w.ownsRow b2 e2 s2 v2 n2 xs2) (hne : e1 ≠ e2) :
    ∀ k, v1.ownBlock = some k → v2.ownBlock ≠ some k := by
  intro k hk1 hk2
  rcases h1.2 with ⟨rfl, _⟩ | ⟨g, cap, cur, rfl, _, hh, _⟩
  · simp [Value.ownBlock] at hk1
  · rcases h2.2 with ⟨rfl, _⟩ | ⟨g', cap', cur', rfl, _, hh', _⟩
    · simp [Value.ownBlock] at hk2
    · have e1' : g = k := by simpa [Value.ownBlock] using hk1
      have e2' : g' = k := by simpa [Value.ownBlock] using hk2
      subst e1'
      subst e2'
      have h3 : some (Obj.cells cur e1 (0, 0)) = some (Obj.cells cur' e2 (0, 0)) := hh.symm.trans hh'
      injection h3 with h3
      injection h3 with _ h4 _
      exact hne h4
structure OII (w : World) (base : Nat) (v : Value) (V : List Value) (G : List (List Int)) : Prop where
  len : G.length = V.length
  hdr : w.ownsRow base 23 1 v V.length V
  row : ∀ (i : Nat) (u : Value) (l : List Int), V[i]? = some u → G[i]? = some l → w.ownsRow base 3 1 u l.length (ints l)
  apart : ∀ (i j : Nat) (u u' : Value), i ≠ j → V[i]? = some u → V[j]? = some u' → ∀ k, u.ownBlock = some k → u'.ownBlock ≠ some k
section
variable {w w' : World} {base : Nat} {v : Value} {V : List Value} {G : List (List Int)}
theorem OII.below (h : OII w base v V G) (hb : Below w.heap.size w w') : OII w' base v V G :=
  ⟨h.len, own_below h.hdr hb, fun i u l h1 h2 => own_below (h.row i u l h1 h2) hb, h.apart⟩
theorem OII.drewN (h : OII w base v V G) (n : Nat) : OII (w.drewN n) base v V G :=
  ⟨h.len, own_drewN h.hdr n, fun i u l h1 h2 => own_drewN (h.row i u l h1 h2) n, h.apart⟩
theorem OII.mono {base' : Nat} (h : OII w base v V G) (hb : base' ≤ base) : OII w base' v V G :=
  ⟨h.len, own_mono h.hdr hb, fun i u l h1 h2 => own_mono (h.row i u l h1 h2) hb, h.apart⟩
theorem OII.form (h : OII w base v V G) : ∃ A c, v = .slice A G.length c := by
  obtain ⟨A, c, e⟩ := own_form h.hdr
  exact ⟨A, c, by rw [h.len]; exact e⟩
/-- the row k: where its header lies, and what it holds -/
theorem OII.at_ {A : Option Addr} {c : Nat} (h : OII w base (.slice A G.length c) V G) {k : Nat} (hk : k < G.length) :
    ∃ ad A1 c1, A = some ad ∧ ad.block < w.heap.size ∧ w.cell? (ad.add k) = some (.slice A1 G[k].length c1) ∧ V[k]? = some (.slice A1 G[k].length c1) ∧ w.ownsRow base 3 1 (.slice A1 G[k].length c1) G[k].length (ints G[k]) := by
  have hk' : k < V.length := by rw [← h.len]; exact hk
  obtain ⟨A1, c1, e⟩ := own_form (h.row k V[k] G[k] (List.getElem?_eq_getElem hk') (List.getElem?_eq_getElem hk))
  have hd := h.hdr
  rw [← h.len] at hd
  obtain ⟨ad, e1, hb, hc⟩ := (Reads.of_own hd).2 (by omega)
  have e2 := List.getElem?_eq_getElem hk'
  refine ⟨ad, A1, c1, e1, hb, ?_, by rw [e2, e], by rw [← e]; exact h.row k V[k] G[k] (List.getElem?_eq_getElem hk') (List.getElem?_eq_getElem hk)⟩
  have := hc k V[k] e2
  rw [e] at this
  exact this
theorem OII.empty (w : World) : OII (w.alloc (.cells #[] 23)) w.heap.size (.slice (some ⟨w.heap.size, 0, none⟩) 0 0) [] [] :=
  ⟨rfl, ⟨rfl, .inr ⟨_, 0, #[], rfl, Nat.le_refl _, heap_alloc_new w _, Nat.le_refl _, by unfold maxLen; omega, rfl, rfl⟩⟩, fun i u l h => by simp at h, fun i j u u' _ h => by simp at h⟩
theorem OII.nil_ (w : World) (base : Nat) : OII w base (.slice none 0 0) [] [] :=
  ⟨rfl, World.ownsRow_nil _ _ _ _, fun i u l h => by simp at h, fun i j u u' _ h => by simp at h⟩
theorem snoc_get {α : Type} {l : List α} {x u : α} {i : Nat} (h : (l ++ [x])[i]? = some u) : (i < l.length ∧ l[i]? = some u) ∨ (i = l.length ∧ u = x) := by
  by_cases hi : i < l.length
  · rw [List.getElem?_append_left hi] at h
    exact .inl ⟨hi, h⟩
  · rw [List.getElem?_append_right (by omega)] at h
    by_cases he : i - l.length = 0
    · rw [he] at h
      exact .inr ⟨by omega, (Option.some.inj h).symm⟩
    · rw [List.getElem?_eq_none (by simp; omega)] at h
      cases h
/-- one row more -/
theorem OII.snoc (h : OII w base v V G) {w2 w3 : World} (hb : Below w.heap.size w w2) {r v' : Value} {l : List Int} (hr : w2.ownsRow w.heap.size 3 1 r l.length (ints l)) (o : Obj)
    (hown : w3.ownsRow base 23 1 v' (V.length + 1) (V ++ [r])) (hg : (w2.alloc o).grownBy w3 v.ownBlock) (hB : base ≤ w.heap.size) : OII w3 base v' (V ++ [r]) (G ++ [l]) := by
  have hvl : ∀ k, v.ownBlock = some k → k < w.heap.size := fun k hk => (h.hdr.lt k hk).2
  refine ⟨by simp [h.len], by simpa using hown, fun i u l' h1 h2 => ?_, fun i j u u' hij h1 h2 k hk hk' => ?_⟩
  · rcases snoc_get h1 with ⟨hi, h3⟩ | ⟨hi, e3⟩
    · rcases snoc_get h2 with ⟨_, h4⟩ | ⟨hi2, _⟩
      · have h5 := h.row i u l' h3 h4
        exact own_mark (World.ownsRow.alloc (own_below h5 hb) o) hg (own_types h5 h.hdr (by decide))
      · have := h.len
        omega
    · rcases snoc_get h2 with ⟨hi2, _⟩ | ⟨_, e4⟩
      · have := h.len
        omega
      · rw [e3, e4]
        refine own_mono (own_mark (World.ownsRow.alloc hr o) hg fun k hk e => ?_) hB
        have := (hr.lt k hk).1
        have := hvl k e
        omega
  · rcases snoc_get h1 with ⟨hi, h3⟩ | ⟨hi, e3⟩
    · rcases snoc_get h2 with ⟨hj, h4⟩ | ⟨hj, e4⟩
      · exact h.apart i j u u' hij h3 h4 k hk hk'
      · have hi' : i < G.length := by rw [h.len]; exact hi
        rw [e4] at hk'
        have := ((h.row i u G[i] h3 (List.getElem?_eq_getElem hi')).lt k hk).2
        have := (hr.lt k hk').1
        omega
    · rcases snoc_get h2 with ⟨hj, h4⟩ | ⟨hj, e4⟩
      · have hj' : j < G.length := by rw [h.len]; exact hj
        rw [e3] at hk
        have := ((h.row j u' G[j] h4 (List.getElem?_eq_getElem hj')).lt k hk').2
        have := (hr.lt k hk).1
        omega
      · omega
/-- a row written anew -/
theorem OII.set_ (h : OII w base v V G) {j : Nat} {u0 : Value} {l0 l' : List Int} (h1 : V[j]? = some u0) (h2 : G[j]? = some l0) (hown : w'.ownsRow base 3 1 u0 l'.length (ints l')) (hg : w.grownBy w' u0.ownBlock) : OII w' base v V (G.set j l') := by
  have h0 := h.row j u0 l0 h1 h2
  refine ⟨by simp [h.len], own_mark h.hdr hg fun k hk hk' => own_types h0 h.hdr (by decide) k hk' hk, fun i u l h3 h4 => ?_, h.apart⟩
  by_cases hij : j = i
  · subst hij
    rw [h3] at h1
    obtain rfl := Option.some.inj h1
    rw [List.getElem?_set_self (by rw [h.len]; exact (List.getElem?_eq_some_iff.1 h3).1)] at h4
    obtain rfl := Option.some.inj h4
    exact hown
  · rw [List.getElem?_set_ne hij] at h4
    exact own_mark (h.row i u l h3 h4) hg fun k hk hk' => h.apart j i u0 u hij h1 h3 k hk' hk
end

/-- is the plug i the first of its line, which is none of air? -/
def headI (l : List Int) (i : Nat) : Bool := decide (0 < l.getD i 0) && ((posOf l (l.getD i 0)).getD 0 (-1) == (i : Int))
def headTo (l : List Int) (k : Nat) : List Nat := (List.range k).filter (headI l)
def gTo (l : List Int) (k : Nat) : List (List Int) := (headTo l k).map fun i => posOf l (l.getD i 0)
def groupsL (l : List Int) : List (List Int) := if fieldB l = true then gTo l l.length else []
theorem headTo_succ (l : List Int) (k : Nat) : headTo l (k + 1) = headTo l k ++ (if headI l k = true then [k] else []) := by
  unfold headTo
  rw [List.range_succ, List.filter_append]
  simp [List.filter_cons]
theorem gTo_succ (l : List Int) (k : Nat) : gTo l (k + 1) = gTo l k ++ (if headI l k = true then [posOf l (l.getD k 0)] else []) := by
  unfold gTo
  rw [headTo_succ, List.map_append]
  split <;> rfl
theorem gTo_len (l : List Int) (k : Nat) : (gTo l k).length ≤ k := by
  unfold gTo headTo
  rw [List.length_map]
  refine Nat.le_trans (List.length_filter_le _ _) ?_
  simp
theorem getD_at {l : List Int} {k : Nat} (h : k < l.length) : l.getD k 0 = l[k] := by
  rw [List.getD_eq_getElem?_getD, List.getElem?_eq_getElem h]
  rfl
theorem headI_at {l : List Int} {k : Nat} (h : k < l.length) : headI l k = (decide (0 < l[k]) && ((posOf l l[k]).getD 0 (-1) == (k : Int))) := by
  unfold headI
  rw [getD_at h]
theorem getD_first {l : List Int} (h : 0 < l.length) : l[0] = l.getD 0 (-1) := by
  rw [List.getD_eq_getElem?_getD, List.getElem?_eq_getElem h]
  rfl
theorem posOf_pos {l : List Int} {k : Nat} (h : k < l.length) : 0 < (posOf l l[k]).length := List.length_pos_iff.2 (posOf_ne_nil h)
/-- two heads of one line are one -/
theorem head_one {l : List Int} {i j : Nat} (hi : headI l i = true) (hj : headI l j = true) (e : l.getD i 0 = l.getD j 0) : i = j := by
  unfold headI at hi hj
  simp only [Bool.and_eq_true, beq_iff_eq] at hi hj
  rw [e] at hi
  have := hi.2.symm.trans hj.2
  omega
theorem add_none (a : Addr) : a.add 0 = a := by
  unfold Addr.add
  simp
/-- the answer -/
def NewII (w : World) (G : List (List Int)) (e : Ending) (w' : World) : Prop :=
  ∃ A c V, e = .returned (.slice A G.length c) ∧ OII w' w.heap.size (.slice A G.length c) V G ∧ Below w.heap.size w w'
theorem NewII.mk_ {w w' : World} {G : List (List Int)} {v : Value} {V : List Value} (h : OII w' w.heap.size v V G) (hb : Below w.heap.size w w') : NewII w G (.returned v) w' := by
  obtain ⟨A, c, rfl⟩ := h.form
  exact ⟨A, c, V, rfl, h, hb⟩
set_option maxHeartbeats 4000000 in
theorem l2RawGroupsOf_any (A : Option Addr) (c : Nat) (l : List Int) (w : World) (h : RI w w.heap.size A l) (hn : l.length ≤ 1048576) :
    Calls Try.prog 39 #[.slice A l.length c] w (NewII w (groupsL l)) := by
  cases hf : fieldB l
  · have hl : groupsL l = [] := by simp [groupsL, hf]
    rw [hl]
    clear hl
    go_enter Try.func39, Try.ntmps39
    go_wp2
    go_loopw [3, 4] (fun v i wr => v = .slice (some ⟨w.heap.size, 0, none⟩) 0 0 ∧ wr = w.alloc (.cells #[] 23)) (fun _ _ _ => 0)
    case atStart => exact ⟨rfl, rfl⟩
    case round =>
      obtain ⟨rfl, rfl⟩ := hrel
      go_wp2_with fail
      refine (sFieldValid_any A c l _ w.heap.size (Reads.alloc h (Nat.le_refl _) _) hn).mono ?_
      rintro e w' ⟨rfl, rfl⟩
      rw [hf]
      go_wp2_with fail
      go_ret
      exact NewII.mk_ (OII.empty w) ((Below.refl _ _).alloc (Nat.le_refl _) _)
  have hl : groupsL l = gTo l l.length := by simp [groupsL, hf]
  obtain ⟨hn20, hval⟩ := fieldB_true hf
  rw [hl]
  clear hl
  obtain ⟨i0, hi, hz0, hz1, hz2⟩ := info_parts ints_info
  go_enter Try.func39, Try.ntmps39
  go_wp2
  go_loopw [3, 4] (fun v i wr => ∃ (k : Nat) (V : List Value), k ≤ l.length ∧ i = .int .i64 k ∧ OII wr w.heap.size v V (gTo l k) ∧ Below w.heap.size w wr) (fun _ i _ => l.length - (intOf i).toNat)
  case atStart => exact ⟨0, [], Nat.zero_le _, rfl, OII.empty w, (Below.refl _ _).alloc (Nat.le_refl _) _⟩
  case round =>
    obtain ⟨k, V, hk, rfl, ho, hbel⟩ := hrel
    have hs := hbel.size
    have hR := (h.below hbel).more hs
    by_cases hlt : k < l.length
    · go_wp2_with fail
      refine (sFieldValid_any A c l _ _ hR hn).mono ?_
      rintro e w' ⟨rfl, rfl⟩
      rw [hf]
      obtain ⟨ad, hA, hba, hc⟩ := hR.at_ hlt
      subst hA
      have Hs := Lib.hid (gTo_succ l k)
      have Hp := posOf_pos hlt
      have Hh := headI_at hlt
      have Hg := Lib.hid (getD_at hlt)
      have hle : (posOf l l[k]).length ≤ 20 := Nat.le_trans (posOf_length_le _ _) hn20
      obtain ⟨x, hx⟩ : ∃ x, l[k] = x := ⟨_, rfl⟩
      simp only [hx] at hc Hp Hh Hg hle
      have Hhh := Lib.hid Hh
      clear hx Hh
      go_wp2_with fail
      refine (l2Plugs_any (some ad) c l x wr hR hn).mono ?_
      rintro e w2 ⟨A2, c2, rfl, ho2, hb2⟩
      have hc2 := (hb2.cell (p := ad.add k) (by rw [block_of_add]; exact hba)).trans hc
      obtain ⟨ar, rfl, hbr, hcr⟩ := (RI.of_own ho2).at_ Hp
      have hs2 := hb2.size
      have hbb := hbel.trans (hb2.mono hs)
      have ho1 := ho.below hb2
      have hVl : V.length ≤ 20 := by have := gTo_len l k; have := ho.len; omega
      rw [getD_first Hp, add_none] at hcr
      obtain ⟨z, hz⟩ : ∃ z, (posOf l x).getD 0 (-1) = z := ⟨_, rfl⟩
      rw [hz] at hcr Hhh
      clear hz hc
      by_cases h0 : 0 < x
      · cases h1 : z == (k : Int)
        · have E : Hid (headI l k = false) := Lib.hid (by rw [Hhh.out, h1]; simp)
          go_wp2_with fail
          go_roundw
          case rel => exact ⟨k + 1, V, by omega, by go_num, by rw [Hs.out, E.out]; simpa using ho1, hbb⟩
          case measure => simp [intOf]; omega
        · have E : Hid (headI l k = true) := Lib.hid (by rw [Hhh.out, h1]; simp [h0])
          have hv : ∀ q, u3.ownBlock = some q → w.heap.size ≤ q := fun q hq => (ho.hdr.lt q hq).1
          go_wp2_with (at_builtin; refine wpList_append_own_at _ rfl _ _ 32 rfl w.heap.size 23 i0 (.slice none 0 0) 1 24 Try.underlying32 hi hz0 hz1 hz2 rfl (by decide) u3 _ _ rfl (ho1.hdr.alloc _) ⟨w2.heap.size, 0, none⟩ 1 1 [.slice (some ar) (posOf l x).length c2] rfl rfl (cell_one_new _ _ _) (by intro u hu; obtain rfl := List.mem_singleton.1 hu; rfl) ?_ ?_ ?_ ?_; (unfold maxLen; omega); omega; (simp; omega); intro v' w3 hown' hgrow hnil hloc)
          have hsn := ho.snoc hb2 ho2 _ hown' hgrow hs
          go_roundw
          case rel => exact ⟨k + 1, _, by omega, by go_num, by rw [Hs.out, E.out, Hg.out]; exact hsn, below_of_grown hbb hgrow (by omega) hv⟩
          case measure => simp [intOf]; omega
      · have E : Hid (headI l k = false) := Lib.hid (by rw [Hhh.out]; simp [h0])
        go_wp2_with fail
        go_roundw
        case rel => exact ⟨k + 1, V, by omega, by go_num, by rw [Hs.out, E.out]; simpa using ho1, hbb⟩
        case measure => simp [intOf]; omega
    · obtain rfl : k = l.length := by omega
      go_wp2_with fail
      refine (sFieldValid_any A c l _ _ hR hn).mono ?_
      rintro e w' ⟨rfl, rfl⟩
      rw [hf]
      go_wp2_with fail
      go_ret
      exact NewII.mk_ ho hbel
end Go.Proofs.Ytbihnjfckaeioaa
