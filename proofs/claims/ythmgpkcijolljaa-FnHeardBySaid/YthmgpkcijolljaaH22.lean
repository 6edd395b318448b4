/-
  Slices of slices of ints of the call's own: a row of headers and the rows, each in a block of its own; what compares and marks them, at any size.
-/
import Derived.Test.YthmgpkcijolljaaH1
import Derived.Deep.RegionHeld3
import Derived.Deep.DeepCutAuto
import Derived.Deep.RegionLaw
import Derived.RegionTactic
import Derived.BigRegion
import Derived.Test.YthmgpkcijolljaaH10
namespace Go.Proofs.Ythmgpkcijolljaa
open Go.RowKit
set_option linter.unusedSimpArgs false
set_option linter.unusedVariables false
theorem ints_info : (Try.prog.info? 32).map (fun i => (i.zero, i.size, i.bytes)) = some (some (Value.slice none 0 0), 1, 24) := by kernel_rfl
/-- rows of two types lie in two blocks -/
theorem own_types {w : World} {v1 v2 : Value} {n1 n2 b1 b2 s1 s2 : Nat} {e1 e2 : TypeId} {xs1 xs2 : List Value} (h1 : w.ownsRow b1 e1 s1 v1 n1 xs1) (h2 : w.ownsRow b2 e2 s2 v2 n2 xs2) (hne : e1 ≠ e2) :
  ∀ k, v1.ownBlock = some k → v2.ownBlock ≠ some k := by
 intro k hk1 hk2
 rcases h1.2 with ⟨rfl, _⟩ | ⟨g, cap, cur, rfl, _, hh, _⟩
 ·simp [Value.ownBlock] at hk1
 ·rcases h2.2 with ⟨rfl, _⟩ | ⟨g', cap', cur', rfl, _, hh', _⟩
  ·simp [Value.ownBlock] at hk2
  ·have e1' : g = k := by simpa [Value.ownBlock] using hk1
   have e2' : g' = k := by simpa [Value.ownBlock] using hk2
   subst e1'
   subst e2'
   have h3 : some (Obj.cells cur e1 (0, 0)) = some (Obj.cells cur' e2 (0, 0)) := hh.symm.trans hh'
   injection h3 with h3
   injection h3 with _ h4 _
   exact hne h4
structure OII (w : World) (base : Nat) (v : Value) (V : List Value) (G : List (List Int)) : Prop where
 len : G.length = V.length
 hdr : w.ownsRow base 32 1 v V.length V
 row : ∀ (i : Nat) (u : Value) (l : List Int), V[i]? = some u → G[i]? = some l → w.ownsRow base 3 1 u l.length (ints l)
 apart : ∀ (i j : Nat) (u u' : Value), i ≠ j → V[i]? = some u → V[j]? = some u' → ∀ k, u.ownBlock = some k → u'.ownBlock ≠ some k
section
variable {w w' : World} {base : Nat} {v : Value} {V : List Value} {G : List (List Int)}
theorem OII.below (h : OII w base v V G) (hb : Below w.heap.size w w') : OII w' base v V G :=
 ⟨h.len, own_below h.hdr hb, fun i u l h1 h2 => own_below (h.row i u l h1 h2) hb, h.apart⟩
theorem OII.drewN (h : OII w base v V G) (n : Nat) : OII (w.drewN n) base v V G :=
 ⟨h.len, own_drewN h.hdr n, fun i u l h1 h2 => own_drewN (h.row i u l h1 h2) n, h.apart⟩
theorem OII.mono {base' : Nat} (h : OII w base v V G) (hb : base' ≤ base) : OII w base' v V G :=
 ⟨h.len, own_mono h.hdr hb, fun i u l h1 h2 => own_mono (h.row i u l h1 h2) hb, h.apart⟩
theorem OII.form (h : OII w base v V G) : ∃ A c, v = .slice A G.length c := by
 obtain ⟨A, c, e⟩ := own_form h.hdr
 exact ⟨A, c, by rw [h.len]; exact e⟩
/-- the row k: where its header lies, and what it holds -/
theorem OII.at_ {A : Option Addr} {c : Nat} (h : OII w base (.slice A G.length c) V G) {k : Nat} (hk : k < G.length) :
  ∃ ad A1 c1, A = some ad ∧ ad.block < w.heap.size ∧ w.cell? (ad.add k) = some (.slice A1 G[k].length c1) ∧ V[k]? = some (.slice A1 G[k].length c1) ∧ w.ownsRow base 3 1 (.slice A1 G[k].length c1) G[k].length (ints G[k]) := by
 have hk' : k < V.length := by rw [← h.len]; exact hk
 obtain ⟨A1, c1, e⟩ := own_form (h.row k V[k] G[k] (List.getElem?_eq_getElem hk') (List.getElem?_eq_getElem hk))
 have hd := h.hdr
 rw [← h.len] at hd
 obtain ⟨ad, e1, hb, hc⟩ := (Reads.of_own hd).2 (by omega)
 have e2 := List.getElem?_eq_getElem hk'
 refine ⟨ad, A1, c1, e1, hb, ?_, by rw [e2, e], by rw [← e]; exact h.row k V[k] G[k] (List.getElem?_eq_getElem hk') (List.getElem?_eq_getElem hk)⟩
 have := hc k V[k] e2
 rw [e] at this
 exact this
theorem OII.empty (w : World) : OII (w.alloc (.cells #[] 32)) w.heap.size (.slice (some ⟨w.heap.size, 0, none⟩) 0 0) [] [] :=
 ⟨rfl, ⟨rfl, .inr ⟨_, 0, #[], rfl, Nat.le_refl _, heap_alloc_new w _, Nat.le_refl _, by unfold maxLen; omega, rfl, rfl⟩⟩, fun i u l h => by simp at h, fun i j u u' _ h => by simp at h⟩
theorem OII.nil_ (w : World) (base : Nat) : OII w base (.slice none 0 0) [] [] :=
 ⟨rfl, World.ownsRow_nil _ _ _ _, fun i u l h => by simp at h, fun i j u u' _ h => by simp at h⟩
theorem snoc_get {α : Type} {l : List α} {x u : α} {i : Nat} (h : (l ++ [x])[i]? = some u) : (i < l.length ∧ l[i]? = some u) ∨ (i = l.length ∧ u = x) := by
 by_cases hi : i < l.length
 ·rw [List.getElem?_append_left hi] at h
  exact .inl ⟨hi, h⟩
 ·rw [List.getElem?_append_right (by omega)] at h
  by_cases he : i - l.length = 0
  ·rw [he] at h
   exact .inr ⟨by omega, (Option.some.inj h).symm⟩
  ·rw [List.getElem?_eq_none (by simp; omega)] at h
   cases h
/-- one row more -/
theorem OII.snoc (h : OII w base v V G) {w2 w3 : World} (hb : Below w.heap.size w w2) {r v' : Value} {l : List Int} (hr : w2.ownsRow w.heap.size 3 1 r l.length (ints l)) (o : Obj)
  (hown : w3.ownsRow base 32 1 v' (V.length + 1) (V ++ [r])) (hg : (w2.alloc o).grownBy w3 v.ownBlock) (hB : base ≤ w.heap.size) : OII w3 base v' (V ++ [r]) (G ++ [l]) := by
 have hvl : ∀ k, v.ownBlock = some k → k < w.heap.size := fun k hk => (h.hdr.lt k hk).2
 refine ⟨by simp [h.len], by simpa using hown, fun i u l' h1 h2 => ?_, fun i j u u' hij h1 h2 k hk hk' => ?_⟩
 ·rcases snoc_get h1 with ⟨hi, h3⟩ | ⟨hi, e3⟩
  ·rcases snoc_get h2 with ⟨_, h4⟩ | ⟨hi2, _⟩
   ·have h5 := h.row i u l' h3 h4
    exact own_mark (World.ownsRow.alloc (own_below h5 hb) o) hg (own_types h5 h.hdr (by decide))
   ·have := h.len
    omega
  ·rcases snoc_get h2 with ⟨hi2, _⟩ | ⟨_, e4⟩
   ·have := h.len
    omega
   ·rw [e3, e4]
    refine own_mono (own_mark (World.ownsRow.alloc hr o) hg fun k hk e => ?_) hB
    have := (hr.lt k hk).1
    have := hvl k e
    omega
 ·rcases snoc_get h1 with ⟨hi, h3⟩ | ⟨hi, e3⟩
  ·rcases snoc_get h2 with ⟨hj, h4⟩ | ⟨hj, e4⟩
   ·exact h.apart i j u u' hij h3 h4 k hk hk'
   ·have hi' : i < G.length := by rw [h.len]; exact hi
    rw [e4] at hk'
    have := ((h.row i u G[i] h3 (List.getElem?_eq_getElem hi')).lt k hk).2
    have := (hr.lt k hk').1
    omega
  ·rcases snoc_get h2 with ⟨hj, h4⟩ | ⟨hj, e4⟩
   ·have hj' : j < G.length := by rw [h.len]; exact hj
    rw [e3] at hk
    have := ((h.row j u' G[j] h4 (List.getElem?_eq_getElem hj')).lt k hk').2
    have := (hr.lt k hk).1
    omega
   ·omega
/-- a row written anew -/
theorem OII.set_ (h : OII w base v V G) {j : Nat} {u0 : Value} {l0 l' : List Int} (h1 : V[j]? = some u0) (h2 : G[j]? = some l0) (hown : w'.ownsRow base 3 1 u0 l'.length (ints l')) (hg : w.grownBy w' u0.ownBlock) : OII w' base v V (G.set j l') := by
 have h0 := h.row j u0 l0 h1 h2
 refine ⟨by simp [h.len], own_mark h.hdr hg fun k hk hk' => own_types h0 h.hdr (by decide) k hk' hk, fun i u l h3 h4 => ?_, h.apart⟩
 by_cases hij : j = i
 ·subst hij
  rw [h3] at h1
  obtain rfl := Option.some.inj h1
  rw [List.getElem?_set_self (by rw [h.len]; exact (List.getElem?_eq_some_iff.1 h3).1)] at h4
  obtain rfl := Option.some.inj h4
  exact hown
 ·rw [List.getElem?_set_ne hij] at h4
  exact own_mark (h.row i u l h3 h4) hg fun k hk hk' => h.apart j i u0 u hij h1 h3 k hk' hk
end
/-- the answer -/
def NewII (w : World) (G : List (List Int)) (e : Ending) (w' : World) : Prop :=
 ∃ A c V, e = .returned (.slice A G.length c) ∧ OII w' w.heap.size (.slice A G.length c) V G ∧ Below w.heap.size w w'
theorem NewII.mk_ {w w' : World} {G : List (List Int)} {v : Value} {V : List Value} (h : OII w' w.heap.size v V G) (hb : Below w.heap.size w w') : NewII w G (.returned v) w' := by
 obtain ⟨A, c, rfl⟩ := h.form
 exact ⟨A, c, V, rfl, h, hb⟩
/-- the marks before row i -/
def kTo (k : Int) (G : List (List Int)) (i : Nat) : Int := k + (((G.map List.length).take i).sum : Nat)
def mTo (k : Int) (G : List (List Int)) (i : Nat) : List (List Int) := G.mapIdx fun j l => if j < i then markL (kTo k G j) l.length else l
@[simp] theorem mTo_length (k : Int) (G : List (List Int)) (i : Nat) : (mTo k G i).length = G.length := by simp [mTo]
theorem own_blocks {w w' : World} {base n sz : Nat} {e : TypeId} {v : Value} {xs : List Value} (h : w.ownsRow base e sz v n xs) (he : ∀ k, v.ownBlock = some k → w'.heap[k]? = w.heap[k]?) : w'.ownsRow base e sz v n xs := by
 refine ⟨h.1, ?_⟩
 rcases h.2 with h2 | ⟨g, cap, cur, h1, h2, h3, h4⟩
 ·exact .inl h2
 ·exact .inr ⟨g, cap, cur, h1, h2, (he g (by rw [h1]; rfl)).trans h3, h4⟩
theorem OII.keep {w0 w w' : World} {base : Nat} {v : Value} {V : List Value} {G G0 : List (List Int)} (h0 : OII w0 base v V G0) (h : OII w base v V G) (he : ∀ k, base ≤ k → k < w0.heap.size → w'.heap[k]? = w.heap[k]?) : OII w' base v V G := by
 refine ⟨h.len, own_blocks h.hdr fun k hk => he k (h.hdr.lt k hk).1 (h0.hdr.lt k hk).2, fun i u l h1 h2 => own_blocks (h.row i u l h1 h2) fun k hk => ?_, h.apart⟩
 have hi : i < G0.length := by rw [h0.len]; exact (List.getElem?_eq_some_iff.1 h1).1
 have h3 := (h0.row i u G0[i] h1 (List.getElem?_eq_getElem hi)).lt k hk
 exact he k h3.1 h3.2
/-- Only the rows may have turned. -/
def KeptRows (V : List Value) (w w' : World) : Prop := w.heap.size ≤ w'.heap.size ∧ ∀ b, b < w.heap.size → (∀ u ∈ V, u.ownBlock ≠ some b) → w'.heap[b]? = w.heap[b]?
theorem KeptRows.refl (V : List Value) (w : World) : KeptRows V w w := ⟨Nat.le_refl _, fun _ _ _ => rfl⟩
theorem KeptRows.grown {V : List Value} {w w1 w2 : World} (h : KeptRows V w w1) {i : Nat} {u : Value} (hu : V[i]? = some u) (hg : w1.grownBy w2 u.ownBlock) : KeptRows V w w2 :=
 ⟨Nat.le_trans h.1 hg.size, fun b hb hn => (hg.block b (Nat.lt_of_lt_of_le hb h.1) (fun e => hn u (List.mem_of_getElem? hu) e.symm)).trans (h.2 b hb hn)⟩
end Go.Proofs.Ythmgpkcijolljaa
/-
  The reference's room: who is where, what each has heard, what was said alone; rows of the call's own.
-/
namespace Go.Proofs.Ythmgpkcijolljaa
open Go.RowKit
open Go.ConcN (upd upd_same upd_ne)
set_option linter.unusedSimpArgs false
set_option linter.unusedVariables false
def onI (n : Nat) (on : Nat → Nat) : List Int := (List.range (n + 1)).map fun q => ((on q : Nat) : Int)
def hdL (n : Nat) (H : Nat → List Int) : List (List Int) := (List.range (n + 1)).map H
theorem hdL_len (n : Nat) (H : Nat → List Int) : (hdL n H).length = n + 1 := by simp [hdL]
theorem onI_get {n : Nat} (on : Nat → Nat) {q : Nat} (h : q ≤ n) : (onI n on)[q]? = some ((on q : Nat) : Int) := by
 simp [onI, List.getElem?_map, List.getElem?_range (show q < n + 1 by omega)]
theorem hdL_get {n : Nat} (H : Nat → List Int) {q : Nat} (h : q ≤ n) : (hdL n H)[q]? = some (H q) := by
 simp [hdL, List.getElem?_map, List.getElem?_range (show q < n + 1 by omega)]
theorem range_set {α : Type} (f : Nat → α) (m g : Nat) (x : α) : ((List.range m).map f).set g x = (List.range m).map (upd f g x) := by
 apply List.ext_getElem?
 intro j
 by_cases hj : j < m
 ·by_cases e : g = j
  ·subst e
   rw [List.getElem?_set_self (by simp; omega), List.getElem?_map, List.getElem?_range hj]
   simp [upd_same]
  ·rw [List.getElem?_set_ne e, List.getElem?_map, List.getElem?_map, List.getElem?_range hj]
   simp [upd_ne _ _ (fun h => e h.symm)]
 ·rw [List.getElem?_eq_none (by simp; omega), List.getElem?_eq_none (by simp; omega)]
theorem onI_set (n : Nat) (on : Nat → Nat) (g b : Nat) : (onI n on).set g ((b : Nat) : Int) = onI n (upd on g b) := by
 unfold onI
 rw [range_set]
 refine List.map_congr_left fun q _ => ?_
 by_cases e : q = g
 ·subst e; rw [upd_same, upd_same]
 ·rw [upd_ne _ _ e, upd_ne _ _ e]
theorem hdL_set (n : Nat) (H : Nat → List Int) (g : Nat) (l : List Int) : (hdL n H).set g l = hdL n (upd H g l) := range_set _ _ _ _
theorem onI_congr {n : Nat} {on on' : Nat → Nat} (h : ∀ q, q ≤ n → on q = on' q) : onI n on = onI n on' := List.map_congr_left fun q hq => by rw [h q (by have := List.mem_range.1 hq; omega)]
theorem hdL_congr {n : Nat} {H H' : Nat → List Int} (h : ∀ q, q ≤ n → H q = H' q) : hdL n H = hdL n H' := List.map_congr_left fun q hq => h q (by have := List.mem_range.1 hq; omega)
section
variable {w w2 : World} {base : Nat} {V : List Value} {G : List (List Int)}
/-- a row that has grown, its header stored -/
theorem OII.put {g n cap j : Nat} {u u' : Value} {l l' : List Int} (h : OII w base (.slice (some ⟨g, 0, none⟩) n cap) V G) (hu : V[j]? = some u) (hl : G[j]? = some l) (hs : w.heap.size ≤ w2.heap.size) (hown : w2.ownsRow base 3 1 u' l'.length (ints l'))
  (hg : ∀ b, b < w.heap.size → u.ownBlock ≠ some b → w2.heap[b]? = w.heap[b]?) (hloc : u'.ownBlock = u.ownBlock ∨ ∃ q, w.heap.size ≤ q ∧ u'.ownBlock = some q) :
  OII (w2.setCell ⟨g, j, none⟩ u') base (.slice (some ⟨g, 0, none⟩) n cap) (V.set j u') (G.set j l') := by
 have hj : j < V.length := (List.getElem?_eq_some_iff.1 hu).1
 have h0 := h.row j u l hu hl
 have hn : n = V.length := by
  rcases h.hdr.2 with ⟨e, _⟩ | ⟨_, _, _, e, _⟩
  ·cases e
  ·injection e
 subst hn
 have hd2 : w2.ownsRow base 32 1 (.slice (some ⟨g, 0, none⟩) V.length cap) V.length V := own_blocks h.hdr fun k hk => hg k (h.hdr.lt k hk).2 (fun e => own_types h0 h.hdr (by decide) k e hk)
 have hgb : (Value.slice (some ⟨g, 0, none⟩) V.length cap).ownBlock = some g := rfl
 have hne : ∀ (x : Value) (l : List Int) (b : Nat), w2.ownsRow b 3 1 x l.length (ints l) → x.ownBlock ≠ some g := fun x l b hx e => own_types hx hd2 (by decide) g e hgb
 have hr : ∀ i x y, i ≠ j → V[i]? = some x → G[i]? = some y → w2.ownsRow base 3 1 x y.length (ints y) := fun i x y hij h1 h2 => own_blocks (h.row i x y h1 h2) fun k hk => hg k ((h.row i x y h1 h2).lt k hk).2 (fun e => h.apart i j x u hij h1 hu k hk e)
 have hnew : ∀ i x, i ≠ j → V[i]? = some x → ∀ k, x.ownBlock = some k → u'.ownBlock ≠ some k := fun i x hij h1 k hk e => by
  have hi : i < G.length := by rw [h.len]; exact (List.getElem?_eq_some_iff.1 h1).1
  rcases hloc with e' | ⟨q, hq, e'⟩
  ·exact h.apart i j x u hij h1 hu k hk (e' ▸ e)
  ·rw [e'] at e
   have := Option.some.inj e
   have := ((h.row i x _ h1 (List.getElem?_eq_getElem hi)).lt k hk).2
   omega
 refine ⟨by simp [h.len], ?_, fun i x y h1 h2 => ?_, fun i i' x x' hii h1 h2 k hk => ?_⟩
 ·have := (hd2.stored j u').1
  simpa using this
 ·by_cases e : j = i
  ·subst e
   rw [List.getElem?_set_self hj] at h1
   rw [List.getElem?_set_self (by rw [h.len]; exact hj)] at h2
   obtain rfl := Option.some.inj h1
   obtain rfl := Option.some.inj h2
   exact ownsRow_setCell_other hown (hne _ _ _ hown) _
  ·rw [List.getElem?_set_ne e] at h1 h2
   have h3 := hr i x y (fun h => e h.symm) h1 h2
   exact ownsRow_setCell_other h3 (hne _ _ _ h3) _
 ·by_cases e : j = i
  ·subst e
   rw [List.getElem?_set_self hj] at h1
   rw [List.getElem?_set_ne hii] at h2
   obtain rfl := Option.some.inj h1
   exact fun h3 => hnew i' x' (fun h => hii h.symm) h2 k h3 hk
  ·rw [List.getElem?_set_ne e] at h1
   by_cases e' : j = i'
   ·subst e'
    rw [List.getElem?_set_self hj] at h2
    obtain rfl := Option.some.inj h2
    exact hnew i x (fun h => e h.symm) h1 k hk
   ·rw [List.getElem?_set_ne e'] at h2
    exact h.apart i i' x x' hii h1 h2 k hk
/-- The room. -/
structure Rm (w : World) (base n : Nat) (on : Nat → Nat) (H : Nat → List Int) (al : List Int) (vO vH vA : Value) (V : List Value) : Prop where
 hO : w.ownsRow base 3 1 vO (n + 1) (ints (onI n on))
 hH : OII w base vH V (hdL n H)
 hA : w.ownsRow base 3 1 vA al.length (ints al)
 aO : ∀ b, vO.ownBlock = some b → vA.ownBlock ≠ some b ∧ ∀ u ∈ V, u.ownBlock ≠ some b
 aA : ∀ b, vA.ownBlock = some b → ∀ u ∈ V, u.ownBlock ≠ some b
variable {n : Nat} {on : Nat → Nat} {H : Nat → List Int} {al : List Int} {vO vH vA : Value}
theorem Rm.blocks (h : Rm w base n on H al vO vH vA V) (he : ∀ b, base ≤ b → b < w.heap.size → w2.heap[b]? = w.heap[b]?) : Rm w2 base n on H al vO vH vA V := by
 have hb : ∀ {e : TypeId} {x : Value} {m : Nat} {xs : List Value}, w.ownsRow base e 1 x m xs → w2.ownsRow base e 1 x m xs := fun hx => own_blocks hx fun k hk => he k (hx.lt k hk).1 (hx.lt k hk).2
 exact ⟨hb h.hO, ⟨h.hH.len, hb h.hH.hdr, fun i u l h1 h2 => hb (h.hH.row i u l h1 h2), h.hH.apart⟩, hb h.hA, h.aO, h.aA⟩
theorem Rm.below (h : Rm w base n on H al vO vH vA V) (hb : Below w.heap.size w w2) : Rm w2 base n on H al vO vH vA V := h.blocks fun b _ hb' => hb.block b hb'
theorem Rm.congr {on' : Nat → Nat} {H' : Nat → List Int} (h : Rm w base n on H al vO vH vA V) (h1 : ∀ q, q ≤ n → on q = on' q) (h2 : ∀ q, q ≤ n → H q = H' q) : Rm w base n on' H' al vO vH vA V := by
 refine ⟨?_, ?_, h.hA, h.aO, h.aA⟩
 ·rw [← onI_congr h1]; exact h.hO
 ·rw [← hdL_congr h2]; exact h.hH
theorem Rm.formO (h : Rm w base n on H al vO vH vA V) : ∃ g c, vO = .slice (some ⟨g, 0, none⟩) (n + 1) c ∧ base ≤ g ∧ g < w.heap.size := own_some h.hO (by omega)
theorem Rm.formH (h : Rm w base n on H al vO vH vA V) : ∃ g c, vH = .slice (some ⟨g, 0, none⟩) (n + 1) c ∧ base ≤ g ∧ g < w.heap.size := by
 have h1 := h.hH.hdr
 have h2 := h.hH.len
 rw [hdL_len] at h2
 rw [← h2] at h1
 exact own_some h1 (by omega)
theorem Rm.atO {g c : Nat} (h : Rm w base n on H al (.slice (some ⟨g, 0, none⟩) (n + 1) c) vH vA V) {q : Nat} (hq : q ≤ n) : w.cell? ⟨g, q, none⟩ = some (.int .i64 ((on q : Nat) : Int)) := by
 rw [h.hO.cellAt q (by omega)]
 simp [ints, List.getElem?_map, onI_get on hq]
/-- a guest is on another bridge -/
theorem Rm.setO {g c : Nat} (h : Rm w base n on H al (.slice (some ⟨g, 0, none⟩) (n + 1) c) vH vA V) (q b : Nat) : Rm (w.setCell ⟨g, q, none⟩ (.int .i64 ((b : Nat) : Int))) base n (upd on q b) H al (.slice (some ⟨g, 0, none⟩) (n + 1) c) vH vA V := by
 have hg : (Value.slice (some ⟨g, 0, none⟩) (n + 1) c).ownBlock = some g := rfl
 obtain ⟨h1, h2⟩ := h.aO g hg
 have ho : ∀ {e : TypeId} {x : Value} {m : Nat} {xs : List Value}, w.ownsRow base e 1 x m xs → x.ownBlock ≠ some g → (w.setCell ⟨g, q, none⟩ (.int .i64 ((b : Nat) : Int))).ownsRow base e 1 x m xs := fun hx hne => ownsRow_setCell_other hx hne _
 refine ⟨?_, ⟨h.hH.len, ho h.hH.hdr (fun e => own_types h.hH.hdr h.hO (by decide) g e hg), fun i u l h3 h4 => ho (h.hH.row i u l h3 h4) (h2 u (List.mem_of_getElem? h3)), h.hH.apart⟩, ho h.hA h1, h.aO, h.aA⟩
 have := (h.hO.stored q (.int .i64 ((b : Nat) : Int))).1
 rw [ints_set, onI_set] at this
 exact this
/-- one hears a word -/
theorem Rm.hear {g c q : Nat} {u' : Value} {l' : List Int} {u : Value} (h : Rm w base n on H al vO (.slice (some ⟨g, 0, none⟩) (n + 1) c) vA V) (hq : q ≤ n) (hu : V[q]? = some u) (hs : w.heap.size ≤ w2.heap.size) (hown : w2.ownsRow base 3 1 u' l'.length (ints l'))
  (hg : ∀ b, b < w.heap.size → u.ownBlock ≠ some b → w2.heap[b]? = w.heap[b]?) (hloc : u'.ownBlock = u.ownBlock ∨ ∃ q, w.heap.size ≤ q ∧ u'.ownBlock = some q) :
  Rm (w2.setCell ⟨g, q, none⟩ u') base n on (upd H q l') al vO (.slice (some ⟨g, 0, none⟩) (n + 1) c) vA (V.set q u') := by
 have hgb : (Value.slice (some ⟨g, 0, none⟩) (n + 1) c).ownBlock = some g := rfl
 have hum : u ∈ V := List.mem_of_getElem? hu
 have hlt : ∀ x ∈ V, ∀ k, x.ownBlock = some k → k < w.heap.size := fun x hx k hk => by
  obtain ⟨i, hi⟩ := List.getElem?_of_mem hx
  have hi' : i < (hdL n H).length := by rw [h.hH.len]; exact (List.getElem?_eq_some_iff.1 hi).1
  exact ((h.hH.row i x _ hi (List.getElem?_eq_getElem hi')).lt k hk).2
 have hnew : ∀ (x : Value) (k : Nat), (∀ y ∈ V, y.ownBlock ≠ some k) → k < w.heap.size → ∀ y ∈ V.set q u', y.ownBlock ≠ some k := fun x k h1 hk y hy e => by
  rcases List.mem_or_eq_of_mem_set hy with h2 | rfl
  ·exact h1 y h2 e
  ·rcases hloc with e' | ⟨p, hp, e'⟩
   ·exact h1 u hum (e' ▸ e)
   ·rw [e'] at e
    have := Option.some.inj e
    omega
 refine ⟨?_, ?_, ?_, fun b hb => ⟨(h.aO b hb).1, hnew vO b (h.aO b hb).2 (h.hO.lt b hb).2⟩, fun b hb => hnew vA b (h.aA b hb) (h.hA.lt b hb).2⟩
 ·have h1 : w2.ownsRow base 3 1 vO (n + 1) (ints (onI n on)) := own_blocks h.hO fun k hk => hg k (h.hO.lt k hk).2 ((h.aO k hk).2 u hum)
  exact ownsRow_setCell_other h1 (fun e => own_types h.hO h.hH.hdr (by decide) g e hgb) _
 ·have h1 := h.hH.put hu (hdL_get H hq) hs hown hg hloc
  rw [hdL_set] at h1
  exact h1
 ·have h1 : w2.ownsRow base 3 1 vA al.length (ints al) := own_blocks h.hA fun k hk => hg k (h.hA.lt k hk).2 (h.aA k hk u hum)
  exact ownsRow_setCell_other h1 (fun e => own_types h.hA h.hH.hdr (by decide) g e hgb) _
/-- one word more was said alone -/
theorem Rm.alone {vA' : Value} {al' : List Int} (h : Rm w base n on H al vO vH vA V) (hown : w2.ownsRow base 3 1 vA' al'.length (ints al'))
  (hg : ∀ b, b < w.heap.size → vA.ownBlock ≠ some b → w2.heap[b]? = w.heap[b]?) (hloc : vA'.ownBlock = vA.ownBlock ∨ ∃ q, w.heap.size ≤ q ∧ vA'.ownBlock = some q) : Rm w2 base n on H al' vO vH vA' V := by
 have hlt : ∀ x ∈ V, ∀ k, x.ownBlock = some k → k < w.heap.size := fun x hx k hk => by
  obtain ⟨i, hi⟩ := List.getElem?_of_mem hx
  have hi' : i < (hdL n H).length := by rw [h.hH.len]; exact (List.getElem?_eq_some_iff.1 hi).1
  exact ((h.hH.row i x _ hi (List.getElem?_eq_getElem hi')).lt k hk).2
 refine ⟨own_blocks h.hO fun k hk => hg k (h.hO.lt k hk).2 (h.aO k hk).1, ⟨h.hH.len, own_blocks h.hH.hdr fun k hk => hg k (h.hH.hdr.lt k hk).2 (fun e => own_types h.hA h.hH.hdr (by decide) k e hk), fun i u l h3 h4 => own_blocks (h.hH.row i u l h3 h4) fun k hk => hg k ((h.hH.row i u l h3 h4).lt k hk).2 (fun e => h.aA k e u (List.mem_of_getElem? h3) hk), h.hH.apart⟩, hown, fun b hb => ⟨fun e => ?_, (h.aO b hb).2⟩, fun b hb u hu e => ?_⟩
 ·rcases hloc with e' | ⟨p, hp, e'⟩
  ·exact (h.aO b hb).1 (e' ▸ e)
  ·rw [e'] at e
   have := Option.some.inj e
   have := (h.hO.lt b hb).2
   omega
 ·rcases hloc with e' | ⟨p, hp, e'⟩
  ·exact h.aA b (e' ▸ hb) u hu e
  ·rw [e'] at hb
   have := Option.some.inj hb
   have := hlt u hu b e
   omega
end
end Go.Proofs.Ythmgpkcijolljaa
/-
  The reference's step.
-/
namespace Go.Proofs.Ythmgpkcijolljaa
open Go.RowKit
open Go.ConcN (upd upd_same upd_ne)
set_option linter.unusedSimpArgs false
set_option linter.unusedVariables false
section
variable {w : World} {base n : Nat} {on : Nat → Nat} {H : Nat → List Int} {al : List Int} {vO vH vA : Value} {V : List Value}
theorem set_congr {w1 w2 : World} {a : Addr} {x : Value} {b : Nat} (h : w1.heap[b]? = w2.heap[b]?) : (w1.setCell a x).heap[b]? = (w2.setCell a x).heap[b]? := by
 simp [World.setCell, Array.getElem?_modify, h]
theorem own_blk_of {w : World} {base g o n m c sz : Nat} {e : TypeId} {xs : List Value} (h : w.ownsRow base e sz (.slice (some ⟨g, o, none⟩) m c) n xs) : ∃ cur, Blk w g e cur := by
 rcases h.2 with ⟨h1, _⟩ | ⟨g', cap, cur, h1, _, h2, _⟩
 ·cases h1
 ·injection h1 with h1 _ _
  injection h1 with h1
  injection h1 with h1 _ _
  subst h1
  exact ⟨cur, h2⟩
/-- The room in its boxes. -/
theorem Rm.boxes (h : Rm w base n on H al vO vH vA V) (o1 o2 o3 : Obj) : Rm (((w.alloc o1).alloc o2).alloc o3) base n on H al vO vH vA V := h.blocks fun b' _ hb' => by
  rw [Below.heap_alloc _ _ _ (by simp; omega), Below.heap_alloc _ _ _ (by simp; omega), Below.heap_alloc _ _ _ hb']
set_option maxHeartbeats 4000000 in
theorem l7Step_join (s : ByteArray) (hs : s.toList = joinL) (g b : Nat) (h : Rm w base n on H al vO vH vA V) (hg : g ≤ n) (hn : n ≤ 5) (hb : base ≤ w.heap.size) :
  Calls Try.prog 46 #[.agg #[vO, vH, vA], .agg #[.string s, .int .i64 (g : Int), .int .i64 (b : Int)]] w fun e w' => e = .returned (.agg #[vO, vH, vA]) ∧ Rm w' base n (upd on g b) H al vO vH vA V ∧ Below base w w' ∧ (∀ b' cs, Blk w b' 52 cs → Blk w' b' 52 cs) := by
 obtain ⟨go, c, rfl, hgo, hgo2⟩ := h.formO
 obtain ⟨gh, c2, rfl, hgh, hgh2⟩ := h.formH
 obtain ⟨A, c3, rfl⟩ := own_form h.hA
 obtain ⟨curO, hcurO⟩ := own_blk_of h.hO
 have HO := Lib.hid hcurO
 clear hcurO
 have c0 := h.boxes (.cells #[.slice (some ⟨go, 0, none⟩) (n + 1) c, .slice (some ⟨gh, 0, none⟩) (n + 1) c2, .slice A al.length c3] 52) (.cells #[.string s, .int .i64 (g : Int), .int .i64 (b : Int)] 41) (.cells #[.slice none 0 0, .slice none 0 0, .slice none 0 0] 52)
 have f0 := c0.hO.frozenAt g
 have c1 := c0.atO hg
 have hgn : (g : Int) < (n : Int) + 1 := by omega
 have HK := Lib.hid (h.setO g b)
 have hR3 : Blk (((w.alloc (.cells #[.slice (some ⟨go, 0, none⟩) (n + 1) c, .slice (some ⟨gh, 0, none⟩) (n + 1) c2, .slice A al.length c3] 52)).alloc (.cells #[.string s, .int .i64 (g : Int), .int .i64 (b : Int)] 41)).alloc (.cells #[.slice none 0 0, .slice none 0 0, .slice none 0 0] 52)) (w.heap.size + 1 + 1) 52 #[.slice none 0 0, .slice none 0 0, .slice none 0 0] := Blk.new_at _ _ _ (by simp)
 have hR5 := (((hR3.far (p := ⟨go, g, none⟩) (by show w.heap.size + 1 + 1 ≠ go; omega) (.int .i64 (b : Int))).set_ 0 (.slice (some ⟨go, 0, none⟩) (n + 1) c)).set_ 1 (.slice (some ⟨gh, 0, none⟩) (n + 1) c2)).set_ 2 (.slice A al.length c3)
 have r0 := hR5.cell 0
 have r1 := hR5.cell 1
 have r2 := hR5.cell 2
 simp at r0 r1 r2
 clear hR3 hR5
 unfold joinL at hs
 clear h c0
 go_enter Try.func46, Try.ntmps46
 go_wp2
 refine bodyPost_ret (v := .agg #[.slice (some ⟨go, 0, none⟩) (n + 1) c, .slice (some ⟨gh, 0, none⟩) (n + 1) c2, .slice A al.length c3]) (by simp [results, Try.results46, go_sem, r0, r1, r2]) rfl ⟨rfl, HK.out.blocks fun b' hb1 hb2 => ?_, ?_, fun b' cs hX => ?_⟩
 ·have hb3 : b' < w.heap.size := by simpa [World.setCell] using hb2
  rw [Below.heap_setCell _ _ _ _ (by show b' ≠ w.heap.size + 1 + 1; omega), Below.heap_setCell _ _ _ _ (by show b' ≠ w.heap.size + 1 + 1; omega), Below.heap_setCell _ _ _ _ (by show b' ≠ w.heap.size + 1 + 1; omega)]
  refine set_congr ?_
  rw [Below.heap_alloc _ _ _ (by simp; omega), Below.heap_alloc _ _ _ (by simp; omega), Below.heap_alloc _ _ _ hb3]
 ·have h1 : Below base w (((w.alloc (.cells #[.slice (some ⟨go, 0, none⟩) (n + 1) c, .slice (some ⟨gh, 0, none⟩) (n + 1) c2, .slice A al.length c3] 52)).alloc (.cells #[.string s, .int .i64 (g : Int), .int .i64 (b : Int)] 41)).alloc (.cells #[.slice none 0 0, .slice none 0 0, .slice none 0 0] 52)) := (((Below.refl base w).alloc hb _).alloc (by simp; omega) _).alloc (by simp; omega) _
  exact (((h1.setCell (show base ≤ (⟨go, g, none⟩ : Addr).block from hgo) _).setCell (show base ≤ (⟨w.heap.size + 1 + 1, 0, none⟩ : Addr).block by show base ≤ w.heap.size + 1 + 1; omega) _).setCell (show base ≤ (⟨w.heap.size + 1 + 1, 1, none⟩ : Addr).block by show base ≤ w.heap.size + 1 + 1; omega) _).setCell (show base ≤ (⟨w.heap.size + 1 + 1, 2, none⟩ : Addr).block by show base ≤ w.heap.size + 1 + 1; omega) _
 ·have hlt := hX.lt
  have hgo3 : b' ≠ go := Blk.ne_ hX HO.out (by decide)
  exact ((((((hX.alloc _).alloc _).alloc _).far (p := ⟨go, g, none⟩) hgo3 _).far (p := ⟨w.heap.size + 1 + 1, 0, none⟩) (by show b' ≠ w.heap.size + 1 + 1; omega) _).far (p := ⟨w.heap.size + 1 + 1, 1, none⟩) (by show b' ≠ w.heap.size + 1 + 1; omega) _).far (p := ⟨w.heap.size + 1 + 1, 2, none⟩) (by show b' ≠ w.heap.size + 1 + 1; omega) _
set_option maxHeartbeats 4000000 in
theorem l7Step_leave (s : ByteArray) (hs : s.toList = leaveL) (g  : Nat) (h : Rm w base n on H al vO vH vA V) (hg : g ≤ n) (hn : n ≤ 5) (hb : base ≤ w.heap.size) :
  Calls Try.prog 46 #[.agg #[vO, vH, vA], .agg #[.string s, .int .i64 (g : Int), .int .i64 0]] w fun e w' => e = .returned (.agg #[vO, vH, vA]) ∧ Rm w' base n (upd on g 0) H al vO vH vA V ∧ Below base w w' ∧ (∀ b' cs, Blk w b' 52 cs → Blk w' b' 52 cs) := by
 obtain ⟨go, c, rfl, hgo, hgo2⟩ := h.formO
 obtain ⟨gh, c2, rfl, hgh, hgh2⟩ := h.formH
 obtain ⟨A, c3, rfl⟩ := own_form h.hA
 obtain ⟨curO, hcurO⟩ := own_blk_of h.hO
 have HO := Lib.hid hcurO
 clear hcurO
 have c0 := h.boxes (.cells #[.slice (some ⟨go, 0, none⟩) (n + 1) c, .slice (some ⟨gh, 0, none⟩) (n + 1) c2, .slice A al.length c3] 52) (.cells #[.string s, .int .i64 (g : Int), .int .i64 0] 41) (.cells #[.slice none 0 0, .slice none 0 0, .slice none 0 0] 52)
 have f0 := c0.hO.frozenAt g
 have c1 := c0.atO hg
 have hgn : (g : Int) < (n : Int) + 1 := by omega
 have HK := Lib.hid (h.setO g 0)
 have hR3 : Blk (((w.alloc (.cells #[.slice (some ⟨go, 0, none⟩) (n + 1) c, .slice (some ⟨gh, 0, none⟩) (n + 1) c2, .slice A al.length c3] 52)).alloc (.cells #[.string s, .int .i64 (g : Int), .int .i64 0] 41)).alloc (.cells #[.slice none 0 0, .slice none 0 0, .slice none 0 0] 52)) (w.heap.size + 1 + 1) 52 #[.slice none 0 0, .slice none 0 0, .slice none 0 0] := Blk.new_at _ _ _ (by simp)
 have hR5 := (((hR3.far (p := ⟨go, g, none⟩) (by show w.heap.size + 1 + 1 ≠ go; omega) (.int .i64 0)).set_ 0 (.slice (some ⟨go, 0, none⟩) (n + 1) c)).set_ 1 (.slice (some ⟨gh, 0, none⟩) (n + 1) c2)).set_ 2 (.slice A al.length c3)
 have r0 := hR5.cell 0
 have r1 := hR5.cell 1
 have r2 := hR5.cell 2
 simp at r0 r1 r2
 clear hR3 hR5
 unfold leaveL at hs
 clear h c0
 go_enter Try.func46, Try.ntmps46
 go_wp2
 refine bodyPost_ret (v := .agg #[.slice (some ⟨go, 0, none⟩) (n + 1) c, .slice (some ⟨gh, 0, none⟩) (n + 1) c2, .slice A al.length c3]) (by simp [results, Try.results46, go_sem, r0, r1, r2]) rfl ⟨rfl, HK.out.blocks fun b' hb1 hb2 => ?_, ?_, fun b' cs hX => ?_⟩
 ·have hb3 : b' < w.heap.size := by simpa [World.setCell] using hb2
  rw [Below.heap_setCell _ _ _ _ (by show b' ≠ w.heap.size + 1 + 1; omega), Below.heap_setCell _ _ _ _ (by show b' ≠ w.heap.size + 1 + 1; omega), Below.heap_setCell _ _ _ _ (by show b' ≠ w.heap.size + 1 + 1; omega)]
  refine set_congr ?_
  rw [Below.heap_alloc _ _ _ (by simp; omega), Below.heap_alloc _ _ _ (by simp; omega), Below.heap_alloc _ _ _ hb3]
 ·have h1 : Below base w (((w.alloc (.cells #[.slice (some ⟨go, 0, none⟩) (n + 1) c, .slice (some ⟨gh, 0, none⟩) (n + 1) c2, .slice A al.length c3] 52)).alloc (.cells #[.string s, .int .i64 (g : Int), .int .i64 0] 41)).alloc (.cells #[.slice none 0 0, .slice none 0 0, .slice none 0 0] 52)) := (((Below.refl base w).alloc hb _).alloc (by simp; omega) _).alloc (by simp; omega) _
  exact (((h1.setCell (show base ≤ (⟨go, g, none⟩ : Addr).block from hgo) _).setCell (show base ≤ (⟨w.heap.size + 1 + 1, 0, none⟩ : Addr).block by show base ≤ w.heap.size + 1 + 1; omega) _).setCell (show base ≤ (⟨w.heap.size + 1 + 1, 1, none⟩ : Addr).block by show base ≤ w.heap.size + 1 + 1; omega) _).setCell (show base ≤ (⟨w.heap.size + 1 + 1, 2, none⟩ : Addr).block by show base ≤ w.heap.size + 1 + 1; omega) _
 ·have hlt := hX.lt
  have hgo3 : b' ≠ go := Blk.ne_ hX HO.out (by decide)
  exact ((((((hX.alloc _).alloc _).alloc _).far (p := ⟨go, g, none⟩) hgo3 _).far (p := ⟨w.heap.size + 1 + 1, 0, none⟩) (by show b' ≠ w.heap.size + 1 + 1; omega) _).far (p := ⟨w.heap.size + 1 + 1, 1, none⟩) (by show b' ≠ w.heap.size + 1 + 1; omega) _).far (p := ⟨w.heap.size + 1 + 1, 2, none⟩) (by show b' ≠ w.heap.size + 1 + 1; omega) _
end
end Go.Proofs.Ythmgpkcijolljaa
