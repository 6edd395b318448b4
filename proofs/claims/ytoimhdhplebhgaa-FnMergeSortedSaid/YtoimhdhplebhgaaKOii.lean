/-
  Slices of slices of ints of the call's own: a row of headers and the rows, each in a block of its own; what compares and marks them, at any size.
-/
import Derived.Test.YtoimhdhplebhgaaKOwn
import Derived.Deep.RegionHeld3
import Derived.Deep.DeepCutAuto
import Derived.Deep.RegionLaw
import Derived.RegionTactic
import Derived.BigRegion
namespace Go.Proofs.Ytoimhdhplebhgaa
open Go.RowKit
set_option linter.unusedSimpArgs false
set_option linter.unusedVariables false

theorem ints_info : (Try.prog.info? 25).map (fun i => (i.zero, i.size, i.bytes)) = some (some (Value.slice none 0 0), 1, 24) := by kernel_rfl
/-- rows of two types lie in two blocks -/
theorem own_types {w : World} {v1 v2 : Value} {n1 n2 b1 b2 s1 s2 : Nat} {e1 e2 : TypeId} {xs1 xs2 : List Value} (h1 : w.ownsRow b1 e1 s1 v1 n1 xs1) (h2 : w.ownsRow b2 e2 s2 v2 n2 xs2) (hne : e1 ≠ e2) :
    ∀ k, v1.ownBlock = some k → v2.ownBlock ≠ some k := by
  intro k hk1 hk2
  rcases h1.2 with ⟨rfl, _⟩ | ⟨g, cap, cur, rfl, _, hh, _⟩
  · simp [Value.ownBlock] at hk1
  · rcases h2.2 with ⟨rfl, _⟩ | ⟨g', cap', cur', rfl, _, hh', _⟩
    · simp [Value.ownBlock] at hk2
    · have e1' : g = k := by simpa [Value.ownBlock] using hk1
      have e2' : g' = k := by simpa [Value.ownBlock] using hk2
      subst e1'
      subst e2'
      have h3 : some (Obj.cells cur e1 (0, 0)) = some (Obj.cells cur' e2 (0, 0)) := hh.symm.trans hh'
      injection h3 with h3
      injection h3 with _ h4 _
      exact hne h4
structure OII (w : World) (base : Nat) (v : Value) (V : List Value) (G : List (List Int)) : Prop where
  len : G.length = V.length
  hdr : w.ownsRow base 25 1 v V.length V
  row : ∀ (i : Nat) (u : Value) (l : List Int), V[i]? = some u → G[i]? = some l → w.ownsRow base 3 1 u l.length (ints l)
  apart : ∀ (i j : Nat) (u u' : Value), i ≠ j → V[i]? = some u → V[j]? = some u' → ∀ k, u.ownBlock = some k → u'.ownBlock ≠ some k
section
variable {w w' : World} {base : Nat} {v : Value} {V : List Value} {G : List (List Int)}
theorem OII.below (h : OII w base v V G) (hb : Below w.heap.size w w') : OII w' base v V G :=
  ⟨h.len, own_below h.hdr hb, fun i u l h1 h2 => own_below (h.row i u l h1 h2) hb, h.apart⟩
theorem OII.drewN (h : OII w base v V G) (n : Nat) : OII (w.drewN n) base v V G :=
  ⟨h.len, own_drewN h.hdr n, fun i u l h1 h2 => own_drewN (h.row i u l h1 h2) n, h.apart⟩
theorem OII.mono {base' : Nat} (h : OII w base v V G) (hb : base' ≤ base) : OII w base' v V G :=
  ⟨h.len, own_mono h.hdr hb, fun i u l h1 h2 => own_mono (h.row i u l h1 h2) hb, h.apart⟩
theorem OII.form (h : OII w base v V G) : ∃ A c, v = .slice A G.length c := by
  obtain ⟨A, c, e⟩ := own_form h.hdr
  exact ⟨A, c, by rw [h.len]; exact e⟩
/-- the row k: where its header lies, and what it holds -/
theorem OII.at_ {A : Option Addr} {c : Nat} (h : OII w base (.slice A G.length c) V G) {k : Nat} (hk : k < G.length) :
    ∃ ad A1 c1, A = some ad ∧ ad.block < w.heap.size ∧ w.cell? (ad.add k) = some (.slice A1 G[k].length c1) ∧ V[k]? = some (.slice A1 G[k].length c1) ∧ w.ownsRow base 3 1 (.slice A1 G[k].length c1) G[k].length (ints G[k]) := by
  have hk' : k < V.length := by rw [← h.len]; exact hk
  obtain ⟨A1, c1, e⟩ := own_form (h.row k V[k] G[k] (List.getElem?_eq_getElem hk') (List.getElem?_eq_getElem hk))
  have hd := h.hdr
  rw [← h.len] at hd
  obtain ⟨ad, e1, hb, hc⟩ := (Reads.of_own hd).2 (by omega)
  have e2 := List.getElem?_eq_getElem hk'
  refine ⟨ad, A1, c1, e1, hb, ?_, by rw [e2, e], by rw [← e]; exact h.row k V[k] G[k] (List.getElem?_eq_getElem hk') (List.getElem?_eq_getElem hk)⟩
  have := hc k V[k] e2
  rw [e] at this
  exact this
theorem OII.empty (w : World) : OII (w.alloc (.cells #[] 25)) w.heap.size (.slice (some ⟨w.heap.size, 0, none⟩) 0 0) [] [] :=
  ⟨rfl, ⟨rfl, .inr ⟨_, 0, #[], rfl, Nat.le_refl _, heap_alloc_new w _, Nat.le_refl _, by unfold maxLen; omega, rfl, rfl⟩⟩, fun i u l h => by simp at h, fun i j u u' _ h => by simp at h⟩
theorem OII.nil_ (w : World) (base : Nat) : OII w base (.slice none 0 0) [] [] :=
  ⟨rfl, World.ownsRow_nil _ _ _ _, fun i u l h => by simp at h, fun i j u u' _ h => by simp at h⟩
theorem snoc_get {α : Type} {l : List α} {x u : α} {i : Nat} (h : (l ++ [x])[i]? = some u) : (i < l.length ∧ l[i]? = some u) ∨ (i = l.length ∧ u = x) := by
  by_cases hi : i < l.length
  · rw [List.getElem?_append_left hi] at h
    exact .inl ⟨hi, h⟩
  · rw [List.getElem?_append_right (by omega)] at h
    by_cases he : i - l.length = 0
    · rw [he] at h
      exact .inr ⟨by omega, (Option.some.inj h).symm⟩
    · rw [List.getElem?_eq_none (by simp; omega)] at h
      cases h
/-- one row more -/
theorem OII.snoc (h : OII w base v V G) {w2 w3 : World} (hb : Below w.heap.size w w2) {r v' : Value} {l : List Int} (hr : w2.ownsRow w.heap.size 3 1 r l.length (ints l)) (o : Obj)
    (hown : w3.ownsRow base 25 1 v' (V.length + 1) (V ++ [r])) (hg : (w2.alloc o).grownBy w3 v.ownBlock) (hB : base ≤ w.heap.size) : OII w3 base v' (V ++ [r]) (G ++ [l]) := by
  have hvl : ∀ k, v.ownBlock = some k → k < w.heap.size := fun k hk => (h.hdr.lt k hk).2
  refine ⟨by simp [h.len], by simpa using hown, fun i u l' h1 h2 => ?_, fun i j u u' hij h1 h2 k hk hk' => ?_⟩
  · rcases snoc_get h1 with ⟨hi, h3⟩ | ⟨hi, e3⟩
    · rcases snoc_get h2 with ⟨_, h4⟩ | ⟨hi2, _⟩
      · have h5 := h.row i u l' h3 h4
        exact own_mark (World.ownsRow.alloc (own_below h5 hb) o) hg (own_types h5 h.hdr (by decide))
      · have := h.len
        omega
    · rcases snoc_get h2 with ⟨hi2, _⟩ | ⟨_, e4⟩
      · have := h.len
        omega
      · rw [e3, e4]
        refine own_mono (own_mark (World.ownsRow.alloc hr o) hg fun k hk e => ?_) hB
        have := (hr.lt k hk).1
        have := hvl k e
        omega
  · rcases snoc_get h1 with ⟨hi, h3⟩ | ⟨hi, e3⟩
    · rcases snoc_get h2 with ⟨hj, h4⟩ | ⟨hj, e4⟩
      · exact h.apart i j u u' hij h3 h4 k hk hk'
      · have hi' : i < G.length := by rw [h.len]; exact hi
        rw [e4] at hk'
        have := ((h.row i u G[i] h3 (List.getElem?_eq_getElem hi')).lt k hk).2
        have := (hr.lt k hk').1
        omega
    · rcases snoc_get h2 with ⟨hj, h4⟩ | ⟨hj, e4⟩
      · have hj' : j < G.length := by rw [h.len]; exact hj
        rw [e3] at hk
        have := ((h.row j u' G[j] h4 (List.getElem?_eq_getElem hj')).lt k hk').2
        have := (hr.lt k hk).1
        omega
      · omega
/-- a row written anew -/
theorem OII.set_ (h : OII w base v V G) {j : Nat} {u0 : Value} {l0 l' : List Int} (h1 : V[j]? = some u0) (h2 : G[j]? = some l0) (hown : w'.ownsRow base 3 1 u0 l'.length (ints l')) (hg : w.grownBy w' u0.ownBlock) : OII w' base v V (G.set j l') := by
  have h0 := h.row j u0 l0 h1 h2
  refine ⟨by simp [h.len], own_mark h.hdr hg fun k hk hk' => own_types h0 h.hdr (by decide) k hk' hk, fun i u l h3 h4 => ?_, h.apart⟩
  by_cases hij : j = i
  · subst hij
    rw [h3] at h1
    obtain rfl := Option.some.inj h1
    rw [List.getElem?_set_self (by rw [h.len]; exact (List.getElem?_eq_some_iff.1 h3).1)] at h4
    obtain rfl := Option.some.inj h4
    exact hown
  · rw [List.getElem?_set_ne hij] at h4
    exact own_mark (h.row i u l h3 h4) hg fun k hk hk' => h.apart j i u0 u hij h1 h3 k hk' hk
end

theorem add_none (a : Addr) : a.add 0 = a := by
  unfold Addr.add
  simp
/-- the answer -/
def NewII (w : World) (G : List (List Int)) (e : Ending) (w' : World) : Prop :=
  ∃ A c V, e = .returned (.slice A G.length c) ∧ OII w' w.heap.size (.slice A G.length c) V G ∧ Below w.heap.size w w'
theorem NewII.mk_ {w w' : World} {G : List (List Int)} {v : Value} {V : List Value} (h : OII w' w.heap.size v V G) (hb : Below w.heap.size w w') : NewII w G (.returned v) w' := by
  obtain ⟨A, c, rfl⟩ := h.form
  exact ⟨A, c, V, rfl, h, hb⟩
theorem below_drew_ {w w' : World} (h : Below w.drew.heap.size w.drew w') : Below w.heap.size w w' := ((Below.refl _ _).drew).trans h
set_option maxHeartbeats 2000000 in
theorem eqIntSS_same (A A' : Option Addr) (c c' : Nat) (G : List (List Int)) (V V' : List Value) (b b' : Nat) (w : World) (h : OII w b (.slice A G.length c) V G) (h' : OII w b' (.slice A' G.length c') V' G) (hn : G.length ≤ 1048576) (hn2 : ∀ l ∈ G, l.length ≤ 1048576) :
    Calls Try.prog 14 #[.slice A G.length c, .slice A' G.length c'] w fun e w' => e = .returned (.bool true) ∧ Below w.heap.size w w' := by
  have hne : ((G.length : Int) != (G.length : Int)) = false := by simp
  go_enter Try.func14, Try.ntmps14
  go_wp2
  go_loopw [5] (fun i wr => ∃ k : Nat, k ≤ G.length ∧ i = .int .i64 k ∧ Below w.heap.size w wr) (fun i _ => G.length - (intOf i).toNat)
  case atStart => exact ⟨0, Nat.zero_le _, rfl, Below.refl _ _⟩
  case round =>
    obtain ⟨k, hk, rfl, hbel⟩ := hrel
    by_cases hlt : k < G.length
    · obtain ⟨ad, A1, c1, rfl, hb, hc1, _, hr1⟩ := (h.below hbel).at_ hlt
      obtain ⟨ad', A2, c2, rfl, hb', hc2, _, hr2⟩ := (h'.below hbel).at_ hlt
      have hs := hbel.size
      have hn1 := hn2 G[k] (List.getElem_mem _)
      obtain ⟨l, hl⟩ : ∃ l, G[k] = l := ⟨_, rfl⟩
      rw [hl] at hc1 hc2 hr1 hr2 hn1
      have R1 := RI.of_own hr1
      have R2 := RI.of_own hr2
      have hl6 : l.length ≤ 1048576 := by omega
      clear hl hne hn2 h h' hr1 hr2
      have hbk : (ad.add k).block < wr.heap.size := by rw [block_of_add]; omega
      have hbk' : (ad'.add k).block < wr.heap.size := by rw [block_of_add]; omega
      have hll : (l == l) = true := by simp
      go_wp2
      go_region_held3 (fun w' => w'.cell? (ad.add k) = some (.slice A1 l.length c1) ∧ w'.cell? (ad'.add k) = some (.slice A2 l.length c2)) (go_keep) (first | (go_at_call 13; refine (eqIntS_any A1 A2 c1 c2 l l wr.drew _ _ R1 R2 hl6 hl6).mono ?_; rintro e w2 ⟨rfl, n2, rfl⟩; have hb2 := below_drewN (Below.refl wr.drew.heap.size wr.drew) n2; have k1 := (hb2.cell (p := ad.add k) hbk).trans hc1; have k2 := (hb2.cell (p := ad'.add k) hbk').trans hc2))
      go_wp2
      go_roundw
      case rel => exact ⟨k + 1, by omega, by go_num, below_drewN hbel _⟩
      case measure => simp [intOf]; omega
    · obtain rfl : k = G.length := by omega
      clear h h' hn2
      go_wp2
      go_ret
      exact ⟨rfl, hbel⟩
/-- the marks before row i -/
def kTo (k : Int) (G : List (List Int)) (i : Nat) : Int := k + (((G.map List.length).take i).sum : Nat)
theorem kTo_succ (k : Int) (G : List (List Int)) {i : Nat} (h : i < G.length) : kTo k G (i + 1) = kTo k G i + G[i].length := by
  unfold kTo
  rw [take_snoc (G.map List.length) i (by simpa using h), List.sum_append]
  simp only [List.sum_cons, List.sum_nil, List.getElem_map, Nat.add_zero]
  omega
theorem kTo_bound {G : List (List Int)} (k : Int) (i : Nat) : k ≤ kTo k G i ∧ kTo k G i ≤ k + ((G.map List.length).sum : Nat) := by
  have h : ((G.map List.length).take i).sum ≤ (G.map List.length).sum := by
    have h2 := List.take_append_drop i (G.map List.length)
    have h3 : ((G.map List.length).take i ++ (G.map List.length).drop i).sum = (G.map List.length).sum := by rw [h2]
    rw [List.sum_append] at h3
    omega
  unfold kTo
  omega
theorem sum_mem_le {G : List (List Int)} {l : List Int} (h : l ∈ G) : l.length ≤ (G.map List.length).sum := by
  induction G with
  | nil => cases h
  | cons x G ih =>
    rw [List.map_cons, List.sum_cons]
    rcases List.mem_cons.1 h with rfl | h
    · omega
    · have := ih h; omega
def mTo (k : Int) (G : List (List Int)) (i : Nat) : List (List Int) := G.mapIdx fun j l => if j < i then markL (kTo k G j) l.length else l
@[simp] theorem mTo_length (k : Int) (G : List (List Int)) (i : Nat) : (mTo k G i).length = G.length := by simp [mTo]
theorem mTo_zero (k : Int) (G : List (List Int)) : mTo k G 0 = G := by
  apply List.ext_getElem?
  intro j
  simp only [mTo, List.getElem?_mapIdx]
  by_cases h : j < G.length <;> simp [h]
theorem mTo_at (k : Int) (G : List (List Int)) {i : Nat} (h : i < G.length) : (mTo k G i)[i]? = some G[i] := by simp [mTo, List.getElem?_mapIdx, h]
theorem mTo_all (k : Int) (G : List (List Int)) {i : Nat} (h : i < G.length) : (mTo k G G.length)[i]? = some (markL (kTo k G i) G[i].length) := by simp [mTo, List.getElem?_mapIdx, h]
theorem mTo_set (k : Int) (G : List (List Int)) {i : Nat} (h : i < G.length) : (mTo k G i).set i (markL (kTo k G i) G[i].length) = mTo k G (i + 1) := by
  apply List.ext_getElem?
  intro j
  rw [List.getElem?_set]
  simp only [mTo, List.getElem?_mapIdx, List.length_mapIdx]
  by_cases hj : i = j
  · subst hj
    simp [h]
  · rw [if_neg hj]
    by_cases hjl : j < G.length
    · simp only [List.getElem?_eq_getElem hjl, Option.map_some]
      have : (j < i + 1) = (j < i) := by rw [eq_iff_iff]; omega
      simp only [this]
    · simp [hjl]
theorem own_blocks {w w' : World} {base n sz : Nat} {e : TypeId} {v : Value} {xs : List Value} (h : w.ownsRow base e sz v n xs) (he : ∀ k, v.ownBlock = some k → w'.heap[k]? = w.heap[k]?) : w'.ownsRow base e sz v n xs := by
  refine ⟨h.1, ?_⟩
  rcases h.2 with h2 | ⟨g, cap, cur, h1, h2, h3, h4⟩
  · exact .inl h2
  · exact .inr ⟨g, cap, cur, h1, h2, (he g (by rw [h1]; rfl)).trans h3, h4⟩
theorem OII.keep {w0 w w' : World} {base : Nat} {v : Value} {V : List Value} {G G0 : List (List Int)} (h0 : OII w0 base v V G0) (h : OII w base v V G) (he : ∀ k, base ≤ k → k < w0.heap.size → w'.heap[k]? = w.heap[k]?) : OII w' base v V G := by
  refine ⟨h.len, own_blocks h.hdr fun k hk => he k (h.hdr.lt k hk).1 (h0.hdr.lt k hk).2, fun i u l h1 h2 => own_blocks (h.row i u l h1 h2) fun k hk => ?_, h.apart⟩
  have hi : i < G0.length := by rw [h0.len]; exact (List.getElem?_eq_some_iff.1 h1).1
  have h3 := (h0.row i u G0[i] h1 (List.getElem?_eq_getElem hi)).lt k hk
  exact he k h3.1 h3.2
theorem OII.base_row {w : World} {base : Nat} {v : Value} {V : List Value} {G : List (List Int)} (h : OII w base v V G) {i : Nat} {u : Value} (hu : V[i]? = some u) : ∀ k, u.ownBlock = some k → base ≤ k := by
  intro k hk
  have hi : i < G.length := by rw [h.len]; exact (List.getElem?_eq_some_iff.1 hu).1
  exact ((h.row i u G[i] hu (List.getElem?_eq_getElem hi)).lt k hk).1
/-- Only the rows may have turned. -/
def KeptRows (V : List Value) (w w' : World) : Prop := w.heap.size ≤ w'.heap.size ∧ ∀ b, b < w.heap.size → (∀ u ∈ V, u.ownBlock ≠ some b) → w'.heap[b]? = w.heap[b]?
theorem KeptRows.refl (V : List Value) (w : World) : KeptRows V w w := ⟨Nat.le_refl _, fun _ _ _ => rfl⟩
theorem KeptRows.grown {V : List Value} {w w1 w2 : World} (h : KeptRows V w w1) {i : Nat} {u : Value} (hu : V[i]? = some u) (hg : w1.grownBy w2 u.ownBlock) : KeptRows V w w2 :=
  ⟨Nat.le_trans h.1 hg.size, fun b hb hn => (hg.block b (Nat.lt_of_lt_of_le hb h.1) (fun e => hn u (List.mem_of_getElem? hu) e.symm)).trans (h.2 b hb hn)⟩
set_option maxHeartbeats 2000000 in
theorem markIntSS_any (A : Option Addr) (c : Nat) (G : List (List Int)) (V : List Value) (base : Nat) (w : World) (h : OII w base (.slice A G.length c) V G) (hn : G.length ≤ 1048576) (hn2 : (G.map List.length).sum ≤ 1048576) (hB : base ≤ w.heap.size) :
    Calls Try.prog 15 #[.slice A G.length c, .int .i64 1] w fun e w' => e = .returned (.int .i64 (kTo 1 G G.length)) ∧ OII w' base (.slice A G.length c) V (mTo 1 G G.length) ∧ Below base w w' ∧ KeptRows V w w' := by
  go_enter Try.func15, Try.ntmps15
  go_wp2
  go_loopw [1, 5] (fun m i wr => ∃ k : Nat, k ≤ G.length ∧ i = .int .i64 k ∧ m = .int .i64 (kTo 1 G k) ∧ OII wr base (.slice A G.length c) V (mTo 1 G k) ∧ Below base w wr ∧ KeptRows V w wr) (fun _ i _ => G.length - (intOf i).toNat)
  case atStart => exact ⟨0, Nat.zero_le _, rfl, rfl, by rw [mTo_zero]; exact h, Below.refl _ _, KeptRows.refl _ _⟩
  case round =>
    clear h
    obtain ⟨k, hk, rfl, rfl, ho, hbel, hkr⟩ := hrel
    by_cases hlt : k < G.length
    · have hlt' : k < (mTo 1 G k).length := by simpa using hlt
      have ho2 := ho
      rw [← mTo_length 1 G k] at ho2
      obtain ⟨ad, A1, c1, rfl, hb, hc, hV, hrow⟩ := ho2.at_ hlt'
      have hg : (mTo 1 G k)[k] = G[k] := by
        have h1 := mTo_at 1 G hlt
        rw [List.getElem?_eq_getElem hlt'] at h1
        exact Option.some.inj h1
      rw [hg] at hc hV hrow
      have Hat := Lib.hid (mTo_at 1 G hlt)
      have Hst := Lib.hid (mTo_set 1 G hlt)
      have Hk := Lib.hid (kTo_succ 1 G hlt)
      have hle : G[k].length ≤ 1048576 := Nat.le_trans (sum_mem_le (List.getElem_mem hlt)) hn2
      have hkb0 := kTo_bound (G := G) 1 k
      have hkb : 1 ≤ kTo 1 G k ∧ kTo 1 G k ≤ 1048577 := by omega
      have hbl := ho.base_row hV
      obtain ⟨l, hl⟩ : ∃ l, G[k] = l := ⟨_, rfl⟩
      rw [hl] at hc hV hrow Hat Hst Hk hle hbl
      have HV := Lib.hid hV
      clear hl hg hV ho2 hn2 hkb0
      have hB2 : base ≤ wr.heap.size := by have := hbel.size; omega
      go_wp2_with fail
      refine (markIntS_any A1 c1 l (kTo 1 G k) wr base hrow (by omega) (by omega) (by omega)).mono ?_
      rintro e w2 ⟨rfl, hm, hg2⟩
      have hset := ho.set_ HV.out Hat.out (l' := markL (kTo 1 G k) l.length) (by rw [markL_length]; exact hm) hg2
      rw [Hst.out] at hset
      have HS := Lib.hid hset
      clear hset hm
      go_wp2_with fail
      go_roundw
      case rel => exact ⟨k + 1, by omega, by go_num, by rw [Hk.out], HS.out, hbel.grown hg2 hB2 hbl, hkr.grown HV.out hg2⟩
      case measure => simp [intOf]; omega
    · obtain rfl : k = G.length := by omega
      clear hn2
      go_wp2
      go_ret
      exact ⟨rfl, ho, hbel, hkr⟩
end Go.Proofs.Ytoimhdhplebhgaa
