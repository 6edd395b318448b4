/-
  What goroutine 0 of meetGuests sees while its workers are at work.
-/
import Derived.Test.YthmgpkcijolljaaH13
import Derived.Test.YthmgpkcijolljaaH10
import Derived.Test.YthmgpkcijolljaaH14
namespace Go.Proofs.Ythmgpkcijolljaa
open Go.Conc Go.RowKit Go.Conc.Lib
open Go.ConcN (upd upd_same upd_ne)
open Go.ChangeMaps
set_option linter.unusedSimpArgs false
set_option linter.unusedVariables false
theorem noGlobals : Try.prog.globals.size = 0 := by kernel_rfl
/-- where all lies -/
structure Ad where
 (GA B N On Gm Ow H Wg bg n B0 R : Nat)
 (ch : Nat → Option Nat)
structure AdOk (A : Ad) : Prop where
 n1 : 1 ≤ A.n
 n5 : A.n ≤ 5
 h0 : A.ch 0 = none
 inj : ∀ i j, i < 10 → j < 10 → A.ch i = A.ch j → i = j
 lo : A.B0 ≤ A.GA ∧ A.B0 ≤ A.B ∧ A.B0 ≤ A.N ∧ A.B0 ≤ A.On ∧ A.B0 ≤ A.Gm ∧ A.B0 ≤ A.Ow ∧ A.B0 ≤ A.H ∧ A.B0 ≤ A.Wg ∧ A.B0 ≤ A.bg
 nod : [A.GA, A.B, A.N, A.On, A.Gm, A.Ow, A.H, A.Wg, A.bg].Nodup
def Ad.all (A : Ad) : List Nat := [A.GA, A.B, A.N, A.On, A.Gm, A.Ow, A.H, A.Wg, A.bg]
def onArr (A : Ad) (on : Nat → Nat) : Array Value := ((List.range (A.n + 1)).map fun q => Value.chan (A.ch (on q))).toArray
theorem onArr_get (A : Ad) (on : Nat → Nat) (q : Nat) (h : q ≤ A.n) : (onArr A on)[q]? = some (.chan (A.ch (on q))) := by
 simp [onArr, List.getElem?_map, List.getElem?_range (show q < A.n + 1 by omega)]
theorem onArr_set (A : Ad) (on : Nat → Nat) (g b : Nat) : (onArr A on).setIfInBounds g (.chan (A.ch b)) = onArr A (upd on g b) := by
 apply Array.ext_getElem?
 intro j
 rw [Array.getElem?_setIfInBounds]
 by_cases hj : j ≤ A.n
 ·rw [onArr_get _ _ j hj, onArr_get _ _ j hj]
  by_cases hjk : g = j
  ·subst hjk
   rw [if_pos rfl, if_pos (by simp [onArr]; omega), upd_same]
  ·rw [if_neg hjk, upd_ne _ _ (fun e => hjk e.symm)]
 ·rw [Array.getElem?_eq_none (by simp [onArr]; omega), Array.getElem?_eq_none (by simp [onArr]; omega)]
  split
  ·rename_i h; subst h; rw [if_neg (by simp [onArr]; omega)]
  ·rfl
theorem onArr_none (A : Ad) (h : A.ch 0 = none) : onArr A (fun _ => 0) = Array.replicate (A.n + 1) (.chan none) := by
 apply Array.ext_getElem?
 intro j
 by_cases hj : j ≤ A.n
 ·rw [onArr_get _ _ j hj, Array.getElem?_replicate, if_pos (by omega), h]
 ·rw [Array.getElem?_eq_none (by simp [onArr]; omega), Array.getElem?_eq_none (by simp; omega)]
def owArr (A : Ad) (C : Nat → Nat) (k : Nat) : Array Value := ((List.range (A.n + 1)).map fun q => if 1 ≤ q ∧ q ≤ k then Value.chan (some (C (q - 1))) else .chan none).toArray
theorem owArr_get (A : Ad) (C : Nat → Nat) (k q : Nat) (h : q ≤ A.n) : (owArr A C k)[q]? = some (if 1 ≤ q ∧ q ≤ k then Value.chan (some (C (q - 1))) else .chan none) := by
 simp [owArr, List.getElem?_map, List.getElem?_range (show q < A.n + 1 by omega)]
theorem owArr_none (A : Ad) (C : Nat → Nat) : owArr A C 0 = Array.replicate (A.n + 1) (.chan none) := by
 apply Array.ext_getElem?
 intro j
 by_cases hj : j ≤ A.n
 ·rw [owArr_get _ _ _ j hj, if_neg (by omega), Array.getElem?_replicate, if_pos (by omega)]
 ·rw [Array.getElem?_eq_none (by simp [owArr]; omega), Array.getElem?_eq_none (by simp; omega)]
theorem owArr_set (A : Ad) (C : Nat → Nat) (k c : Nat) (h : k < A.n) : (owArr A C k).setIfInBounds (k + 1) (.chan (some c)) = owArr A (upd C k c) (k + 1) := by
 apply Array.ext_getElem?
 intro j
 rw [Array.getElem?_setIfInBounds]
 by_cases hj : j ≤ A.n
 ·rw [owArr_get _ _ _ j hj, owArr_get _ _ _ j hj]
  by_cases hjk : k + 1 = j
  ·subst hjk
   rw [if_pos rfl, if_pos (by simp [owArr]; omega), if_pos (by omega)]
   simp [upd_same]
  ·rw [if_neg hjk]
   by_cases h1 : 1 ≤ j ∧ j ≤ k
   ·rw [if_pos h1, if_pos (by omega), upd_ne _ _ (by omega)]
   ·rw [if_neg h1, if_neg (by omega)]
 ·rw [if_neg (by omega), Array.getElem?_eq_none (by simp [owArr]; omega), Array.getElem?_eq_none (by simp [owArr]; omega)]
/-- What is seen: k workers' channels C, who is on which bridge, the row of each bridge and what was said alone (row 0). -/
structure Mt (v0 : World) (A : Ad) (k : Nat) (C : Nat → Nat) (on : Nat → Nat) (L : Nat → List Int) (X : Nat → Value) (u : World) : Prop where
 flat : Flat Try.prog u
 rb : A.B0 ≤ A.R ∧ A.R ≤ u.heap.size
 b0 : A.B0 = v0.heap.size
 old : Ups v0 u
 gat : u.heap[A.GA]? = some (.cells (gatC (A.n + 1) A.B A.N A.On A.Gm A.Ow A.H (X 0)) 62 (0, 6))
 bg : ∃ f, u.heap[A.bg]? = some (.cells #[.pointer (some ⟨A.GA, 0, none⟩)] 56 f) ∧ (f = (0, 0) ∨ f = (0, 1))
 br : Blk u A.B 68 (brArr A.ch 10)
 onb : Blk u A.On 68 (onArr A on)
 owb : Blk u A.Ow 68 (owArr A C k)
 num : mcm u A.N = true
 numg : ∀ j, j < 10 → mget u A.N (A.ch j) = some (.int .i64 j)
 gm : mcm u A.Gm = true
 gmg : ∀ b, 1 ≤ b → b ≤ 9 → (mget u A.Gm (A.ch b)).getD (.slice none 0 0) = X b
 row : ∀ b, b ≤ 9 → u.ownsRow A.R 3 1 (X b) (L b).length (ints (L b))
 apart : ∀ b b', b ≤ 9 → b' ≤ 9 → b ≠ b' → ∀ q, (X b).ownBlock = some q → (X b').ownBlock ≠ some q
 hH : u.heap[A.H]? = some hid
 hWg : u.heap[A.Wg]? = some hid
section
variable {v0 u u' : World} {A : Ad} {k : Nat} {C : Nat → Nat} {on : Nat → Nat} {L : Nat → List Int} {X : Nat → Value}
/-- A row's block is none of the others. -/
theorem own_cells {w : World} {base n sz : Nat} {e : TypeId} {x : Value} {xs : List Value} (h : w.ownsRow base e sz x n xs) {q : Nat} (hq : x.ownBlock = some q) : ∃ cs, w.heap[q]? = some (.cells cs e (0, 0)) := by
 rcases h.2 with ⟨rfl, _⟩ | ⟨g, cap, cur, rfl, _, h2, _⟩
 ·cases hq
 ·obtain rfl : g = q := by simpa [Value.ownBlock] using hq
  exact ⟨_, h2⟩
theorem Mt.row_ne (h : Mt v0 A k C on L X u) {b q : Nat} (hb : b ≤ 9) (hq : (X b).ownBlock = some q) : q ∉ A.all := by
 obtain ⟨cs, hc⟩ := own_cells (h.row b hb) hq
 intro hm
 obtain ⟨f, hf, _⟩ := h.bg
 have hn := h.num
 have hg := h.gm
 unfold mcm at hn hg
 unfold Ad.all at hm
 simp only [List.mem_cons, List.not_mem_nil, or_false] at hm
 rcases hm with e | e | e | e | e | e | e | e | e
 ·rw [e, h.gat] at hc; simp at hc
 ·have := h.br; unfold Blk at this; rw [e, this] at hc; simp at hc
 ·rw [e] at hc; rw [hc] at hn; cases hn
 ·have := h.onb; unfold Blk at this; rw [e, this] at hc; simp at hc
 ·rw [e] at hc; rw [hc] at hg; cases hg
 ·have := h.owb; unfold Blk at this; rw [e, this] at hc; simp at hc
 ·rw [e, h.hH] at hc; simp [hid] at hc
 ·rw [e, h.hWg] at hc; simp [hid] at hc
 ·rw [e, hf] at hc; simp at hc
/-- All that is spoken of stands. -/
theorem Mt.frame (h : Mt v0 A k C on L X u) (hF : Flat Try.prog u') (hs : u.heap.size ≤ u'.heap.size) (hq : ∀ q, q < u.heap.size → (q < A.B0 ∨ q ∈ A.all ∨ ∃ b, b ≤ 9 ∧ (X b).ownBlock = some q) → u'.heap[q]? = u.heap[q]?) : Mt v0 A k C on L X u' := by
 have lt : ∀ {q : Nat} {o : Obj}, u.heap[q]? = some o → q < u.heap.size := fun e => (Array.getElem?_eq_some_iff.1 e).1
 have kp : ∀ {q : Nat} {o : Obj}, q ∈ A.all → u.heap[q]? = some o → u'.heap[q]? = some o := fun hm e => (hq _ (lt e) (.inr (.inl hm))).trans e
 have al : ∀ q, q = A.GA ∨ q = A.B ∨ q = A.N ∨ q = A.On ∨ q = A.Gm ∨ q = A.Ow ∨ q = A.H ∨ q = A.Wg ∨ q = A.bg → q ∈ A.all := fun q h => by
  unfold Ad.all; simpa using h
 refine ⟨hF, ⟨h.rb.1, Nat.le_trans h.rb.2 hs⟩, h.b0, ⟨Nat.le_trans h.old.size hs, fun b hb => (hq b (by have := h.old.size; omega) (.inl (by rw [h.b0]; exact hb))).trans (h.old.get b hb)⟩, kp (al _ (by simp)) h.gat, ?_, kp (al _ (by simp)) h.br, kp (al _ (by simp)) h.onb, kp (al _ (by simp)) h.owb, ?_, fun j hj => ?_, ?_, fun b h1 h9 => ?_, fun b hb => ?_, h.apart, kp (al _ (by simp)) h.hH, kp (al _ (by simp)) h.hWg⟩
 ·obtain ⟨f, hf, hf'⟩ := h.bg
  exact ⟨f, kp (al _ (by simp)) hf, hf'⟩
 ·rw [mcm_of_block (hq _ (mcm_lt h.num) (.inr (.inl (al _ (by simp)))))]; exact h.num
 ·rw [mget_of_block (hq _ (mcm_lt h.num) (.inr (.inl (al _ (by simp)))))]; exact h.numg j hj
 ·rw [mcm_of_block (hq _ (mcm_lt h.gm) (.inr (.inl (al _ (by simp)))))]; exact h.gm
 ·rw [mget_of_block (hq _ (mcm_lt h.gm) (.inr (.inl (al _ (by simp)))))]; exact h.gmg b h1 h9
 ·exact own_to (h.row b hb) fun q hqq => hq q ((h.row b hb).lt q hqq).2 (.inr (.inr ⟨b, hb, hqq⟩))
theorem Mt.ups (h : Mt v0 A k C on L X u) (hF : Flat Try.prog u') (hU : Ups u u') : Mt v0 A k C on L X u' := h.frame hF hU.size fun q hq _ => hU.get q hq
theorem Mt.re (h : Mt v0 A k C on L X u) (t : Nat → Question → Nat) (d : Nat) : Mt v0 A k C on L X (u.re t d) := h.ups ⟨h.flat.room, h.flat.obj, h.flat.low⟩ ((Ups.refl u).re t d)
theorem AdOk.ne (h : AdOk A) : (A.GA ≠ A.On ∧ A.GA ≠ A.Ow ∧ A.GA ≠ A.Gm ∧ A.GA ≠ A.H ∧ A.GA ≠ A.Wg ∧ A.GA ≠ A.bg ∧ A.GA ≠ A.B ∧ A.GA ≠ A.N) ∧ (A.On ≠ A.Ow ∧ A.On ≠ A.Gm ∧ A.On ≠ A.H ∧ A.On ≠ A.Wg ∧ A.On ≠ A.bg ∧ A.On ≠ A.B ∧ A.On ≠ A.N) ∧ (A.Gm ≠ A.Ow ∧ A.Gm ≠ A.H ∧ A.Gm ≠ A.Wg ∧ A.Gm ≠ A.bg ∧ A.Gm ≠ A.B ∧ A.Gm ≠ A.N) ∧
  (A.Ow ≠ A.H ∧ A.Ow ≠ A.Wg ∧ A.Ow ≠ A.bg ∧ A.Ow ≠ A.B ∧ A.Ow ≠ A.N) ∧ (A.H ≠ A.Wg ∧ A.H ≠ A.bg ∧ A.Wg ≠ A.bg) := by
 have := h.nod
 simp only [List.nodup_cons, List.mem_cons, List.not_mem_nil, or_false, not_or] at this
 obtain ⟨⟨a1, a2, a3, a4, a5, a6, a7, a8⟩, ⟨b1, b2, b3, b4, b5, b6, b7⟩, ⟨c1, c2, c3, c4, c5, c6⟩, ⟨d1, d2, d3, d4, d5⟩, ⟨e1, e2, e3, e4⟩, ⟨f1, f2, f3⟩, ⟨g1, g2⟩, g3, _⟩ := this
 exact ⟨⟨a3, a5, a4, a6, a7, a8, a1, a2⟩, ⟨d2, d1, d3, d4, d5, Ne.symm b2, Ne.symm c1⟩, ⟨e1, e2, e3, e4, Ne.symm b3, Ne.symm c2⟩, ⟨f1, f2, f3, Ne.symm b4, Ne.symm c3⟩, ⟨g1, g2, g3⟩⟩
theorem AdOk.far (h : AdOk A) {q : Nat} (hc : q < A.B0 ∨ q = A.bg ∨ q = A.B ∨ q = A.N ∨ q = A.H ∨ q = A.Wg) : q ≠ A.On ∧ q ≠ A.Ow ∧ q ≠ A.GA ∧ q ≠ A.Gm := by
 obtain ⟨⟨a1, a2, a3, a4, a5, a6, a7, a8⟩, ⟨b1, b2, b3, b4, b5, b6, b7⟩, ⟨c1, c2, c3, c4, c5, c6⟩, ⟨d1, d2, d3, d4, d5⟩, _⟩ := h.ne
 obtain ⟨l1, l2, l3, l4, l5, l6, l7, l8, l9⟩ := h.lo
 rcases hc with hc | rfl | rfl | rfl | rfl | rfl
 ·refine ⟨?_, ?_, ?_, ?_⟩ <;> (intro e; rw [e] at hc; exact absurd hc (Nat.not_lt.2 (by assumption)))
 ·exact ⟨Ne.symm b5, Ne.symm d3, Ne.symm a6, Ne.symm c4⟩
 ·exact ⟨Ne.symm b6, Ne.symm d4, Ne.symm a7, Ne.symm c5⟩
 ·exact ⟨Ne.symm b7, Ne.symm d5, Ne.symm a8, Ne.symm c6⟩
 ·exact ⟨Ne.symm b3, Ne.symm d1, Ne.symm a4, Ne.symm c2⟩
 ·exact ⟨Ne.symm b4, Ne.symm d2, Ne.symm a5, Ne.symm c3⟩
theorem mem_far {q : Nat} (h : q = A.bg ∨ q = A.B ∨ q = A.N ∨ q = A.H ∨ q = A.Wg) : q ∈ A.all := by
 unfold Ad.all
 rcases h with h | h | h | h | h <;> simp [h]
theorem Mt.chg {k' : Nat} {C' : Nat → Nat} {on' : Nat → Nat} {L' : Nat → List Int} {X' : Nat → Value} (h : Mt v0 A k C on L X u) (hF : Flat Try.prog u') (hs : u.heap.size ≤ u'.heap.size)
  (he : ∀ q, q < u.heap.size → (q < A.B0 ∨ q = A.bg ∨ q = A.B ∨ q = A.N ∨ q = A.H ∨ q = A.Wg) → u'.heap[q]? = u.heap[q]?)
  (gat : u'.heap[A.GA]? = some (.cells (gatC (A.n + 1) A.B A.N A.On A.Gm A.Ow A.H (X' 0)) 62 (0, 6)))
  (onb : Blk u' A.On 68 (onArr A on')) (owb : Blk u' A.Ow 68 (owArr A C' k')) (gm : mcm u' A.Gm = true) (gmg : ∀ b, 1 ≤ b → b ≤ 9 → (mget u' A.Gm (A.ch b)).getD (.slice none 0 0) = X' b)
  (row : ∀ b, b ≤ 9 → u'.ownsRow A.R 3 1 (X' b) (L' b).length (ints (L' b))) (apart : ∀ b b', b ≤ 9 → b' ≤ 9 → b ≠ b' → ∀ q, (X' b).ownBlock = some q → (X' b').ownBlock ≠ some q) : Mt v0 A k' C' on' L' X' u' := by
 have lt : ∀ {q : Nat} {o : Obj}, u.heap[q]? = some o → q < u.heap.size := fun e => (Array.getElem?_eq_some_iff.1 e).1
 refine ⟨hF, ⟨h.rb.1, Nat.le_trans h.rb.2 hs⟩, h.b0, ⟨Nat.le_trans h.old.size hs, fun b hb => (he b (by have := h.old.size; omega) (.inl (by rw [h.b0]; exact hb))).trans (h.old.get b hb)⟩, gat, ?_, (he _ (lt h.br) (by simp)).trans h.br, onb, owb, ?_, fun j hj => ?_, gm, gmg, row, apart, (he _ (lt h.hH) (by simp)).trans h.hH, (he _ (lt h.hWg) (by simp)).trans h.hWg⟩
 ·obtain ⟨f, hf, hf'⟩ := h.bg
  exact ⟨f, (he _ (lt hf) (by simp)).trans hf, hf'⟩
 ·rw [mcm_of_block (he _ (mcm_lt h.num) (by simp))]; exact h.num
 ·rw [mget_of_block (he _ (mcm_lt h.num) (by simp))]; exact h.numg j hj
theorem mem_all {q : Nat} (h : q = A.GA ∨ q = A.B ∨ q = A.N ∨ q = A.On ∨ q = A.Gm ∨ q = A.Ow ∨ q = A.H ∨ q = A.Wg ∨ q = A.bg) : q ∈ A.all := by unfold Ad.all; simpa using h
theorem heap_set_ne {w : World} {a : Addr} {x : Value} {q : Nat} (h : q ≠ a.block) : (w.setCell a x).heap[q]? = w.heap[q]? := Below.heap_setCell w a x q h
theorem set_size (w : World) (a : Addr) (x : Value) : (w.setCell a x).heap.size = w.heap.size := by simp [World.setCell]
/-- A guest on a bridge. -/
theorem Mt.onSet (h : Mt v0 A k C on L X u) (hA : AdOk A) (g b : Nat) (hF : Flat Try.prog (u.setCell ⟨A.On, g, none⟩ (.chan (A.ch b)))) : Mt v0 A k C (upd on g b) L X (u.setCell ⟨A.On, g, none⟩ (.chan (A.ch b))) := by
 obtain ⟨⟨a1, a2, a3, a4, a5, a6, a7, a8⟩, ⟨b1, b2, b3, b4, b5, b6, b7⟩, _, _, _⟩ := hA.ne
 refine h.chg hF (Nat.le_of_eq (set_size _ _ _).symm) (fun q hq hc => heap_set_ne (hA.far hc).1) ((heap_set_ne (by exact a1)).trans h.gat) ?_ (h.owb.far (p := ⟨A.On, g, none⟩) (Ne.symm b1) _) ?_ (fun c c1 c9 => ?_) (fun c hc => own_to (h.row c hc) fun q hq => heap_set_ne ?_) h.apart
 ·rw [← onArr_set]; exact h.onb.set_ g _
 ·rw [mcm_of_block (heap_set_ne (by exact Ne.symm b2))]; exact h.gm
 ·rw [mget_of_block (heap_set_ne (by exact Ne.symm b2))]; exact h.gmg c c1 c9
 ·intro e
  exact h.row_ne hc hq (mem_all (by simp [e]))
/-- A worker's channel. -/
theorem Mt.owSet (h : Mt v0 A k C on L X u) (hA : AdOk A) (hk : k < A.n) (c : Nat) (hF : Flat Try.prog (u.setCell ⟨A.Ow, k + 1, none⟩ (.chan (some c)))) : Mt v0 A (k + 1) (upd C k c) on L X (u.setCell ⟨A.Ow, k + 1, none⟩ (.chan (some c))) := by
 obtain ⟨⟨a1, a2, a3, a4, a5, a6, a7, a8⟩, ⟨b1, b2, b3, b4, b5, b6, b7⟩, ⟨c1, c2, c3, c4, c5, c6⟩, ⟨d1, d2, d3, d4, d5⟩, _⟩ := hA.ne
 refine h.chg hF (Nat.le_of_eq (set_size _ _ _).symm) (fun q hq hc => heap_set_ne (hA.far hc).2.1) ((heap_set_ne (by exact a2)).trans h.gat) (h.onb.far (p := ⟨A.Ow, k + 1, none⟩) b1 _) ?_ ?_ (fun c c1' c9 => ?_) (fun c hc => own_to (h.row c hc) fun q hq => heap_set_ne ?_) h.apart
 ·rw [← owArr_set A C k c hk]; exact h.owb.set_ (k + 1) _
 ·rw [mcm_of_block (heap_set_ne (by exact c1))]; exact h.gm
 ·rw [mget_of_block (heap_set_ne (by exact c1))]; exact h.gmg c c1' c9
 ·intro e
  exact h.row_ne hc hq (mem_all (by simp [e]))
/-- A row that has changed, its header not yet stored. -/
structure RowCh (u u2 : World) (A : Ad) (X : Nat → Value) (b : Nat) (x' : Value) (l' : List Int) : Prop where
 flat : Flat Try.prog u2
 size : u.heap.size ≤ u2.heap.size
 get : ∀ q, q < u.heap.size → (X b).ownBlock ≠ some q → u2.heap[q]? = u.heap[q]?
 row : u2.ownsRow A.R 3 1 x' l'.length (ints l')
 loc : x'.ownBlock = (X b).ownBlock ∨ ∃ q, u.heap.size ≤ q ∧ x'.ownBlock = some q
theorem RowCh.rows {u2 : World} {b : Nat} {x' : Value} {l' : List Int} (hR : RowCh u u2 A X b x' l') (h : Mt v0 A k C on L X u) (hb : b ≤ 9) : (∀ c, c ≤ 9 → u2.ownsRow A.R 3 1 (upd X b x' c) (upd L b l' c).length (ints (upd L b l' c))) ∧
  (∀ c c', c ≤ 9 → c' ≤ 9 → c ≠ c' → ∀ q, (upd X b x' c).ownBlock = some q → (upd X b x' c').ownBlock ≠ some q) ∧ (∀ q, q < u.heap.size → (q < A.B0 ∨ q ∈ A.all) → u2.heap[q]? = u.heap[q]?) := by
 have apx : ∀ c, c ≤ 9 → c ≠ b → ∀ q, x'.ownBlock = some q → (X c).ownBlock ≠ some q := fun c hc hne q hq hq' => by
  rcases hR.loc with e | ⟨r, hr, e⟩
  ·exact h.apart c b hc hb hne q hq' (e ▸ hq)
  ·rw [e] at hq
   have := Option.some.inj hq
   have := ((h.row c hc).lt q hq').2
   omega
 refine ⟨fun c hc => ?_, fun c c' hc hc' hne q hq => ?_, fun q hq hm => hR.get q hq fun e => ?_⟩
 ·by_cases e : c = b
  ·subst e; rw [upd_same, upd_same]; exact hR.row
  ·rw [upd_ne _ _ e, upd_ne _ _ e]
   exact own_to (h.row c hc) fun q hq => hR.get q ((h.row c hc).lt q hq).2 (fun e' => h.apart c b hc hb e q hq e')
 ·by_cases e : c = b <;> by_cases e' : c' = b
  ·omega
  ·rw [e, upd_same] at hq
   rw [upd_ne _ _ e']
   exact apx c' hc' e' q hq
  ·rw [upd_ne _ _ e] at hq
   rw [e', upd_same]
   exact fun h2 => apx c hc e q h2 hq
  ·rw [upd_ne _ _ e] at hq
   rw [upd_ne _ _ e']
   exact h.apart c c' hc hc' hne q hq
 ·rcases hm with h1 | h1
  ·have := ((h.row b hb).lt q e).1; have := h.rb.1; omega
  ·exact h.row_ne hb e h1
/-- The row of a bridge. -/
theorem Mt.rowSet {u2 : World} {b : Nat} {x' : Value} {l' : List Int} (h : Mt v0 A k C on L X u) (hA : AdOk A) (hR : RowCh u u2 A X b x' l') (h1 : 1 ≤ b) (h9 : b ≤ 9) (hF : Flat Try.prog (mput u2 A.Gm (A.ch b) x')) : Mt v0 A k C on (upd L b l') (upd X b x') (mput u2 A.Gm (A.ch b) x') := by
 obtain ⟨⟨a1, a2, a3, a4, a5, a6, a7, a8⟩, ⟨b1, b2, b3, b4, b5, b6, b7⟩, ⟨c1, c2, c3, c4, c5, c6⟩, ⟨d1, d2, d3, d4, d5⟩, _⟩ := hA.ne
 obtain ⟨hr, hap, hk⟩ := hR.rows h h9
 have lt : ∀ {q : Nat} {o : Obj}, u.heap[q]? = some o → q < u.heap.size := fun e => (Array.getElem?_eq_some_iff.1 e).1
 have e2 : ∀ q, q < u.heap.size → (q < A.B0 ∨ q ∈ A.all) → q ≠ A.Gm → (mput u2 A.Gm (A.ch b) x').heap[q]? = u.heap[q]? := fun q hq hm hne => (mput_other hne).trans (hk q hq hm)
 have hcm : mcm u2 A.Gm = true := (mcm_of_block (hk _ (mcm_lt h.gm) (.inr (mem_all (by simp))))).trans h.gm
 have b0 : (0 : Nat) ≠ b := by omega
 refine h.chg hF (by rw [mput_size]; exact hR.size) (fun q hq hc => e2 q hq (hc.imp id mem_far) (hA.far hc).2.2.2) ?_ ?_ ?_ (by rw [mcm_mput hcm]) (fun c c1' c9 => ?_) (fun c hc => own_to (hr c hc) fun q hq => mput_other ?_) hap
 ·rw [upd_ne _ _ b0]
  exact (e2 _ (lt h.gat) (.inr (mem_all (by simp))) a3).trans h.gat
 ·exact (e2 _ (lt h.onb) (.inr (mem_all (by simp))) b2).trans h.onb
 ·exact (e2 _ (lt h.owb) (.inr (mem_all (by simp))) (Ne.symm c1)).trans h.owb
 ·rw [mget_mput hcm]
  by_cases e : c = b
  ·subst e; rw [if_pos rfl, upd_same]; rfl
  ·rw [if_neg (fun e' => e (hA.inj c b (by omega) (by omega) e')), upd_ne _ _ e, mget_of_block (hk _ (mcm_lt h.gm) (.inr (mem_all (by simp))))]
   exact h.gmg c c1' c9
 ·rintro rfl
  obtain ⟨cs, hcs⟩ := own_cells (hr c hc) hq
  unfold mcm at hcm
  rw [hcs] at hcm
  cases hcm
/-- What is said alone. -/
theorem Mt.alSet {u2 : World} {x' : Value} {l' : List Int} (h : Mt v0 A k C on L X u) (hA : AdOk A) (hR : RowCh u u2 A X 0 x' l') (hF : Flat Try.prog (u2.setCell ⟨A.GA, 6, none⟩ x')) : Mt v0 A k C on (upd L 0 l') (upd X 0 x') (u2.setCell ⟨A.GA, 6, none⟩ x') := by
 obtain ⟨⟨a1, a2, a3, a4, a5, a6, a7, a8⟩, ⟨b1, b2, b3, b4, b5, b6, b7⟩, ⟨c1, c2, c3, c4, c5, c6⟩, ⟨d1, d2, d3, d4, d5⟩, _⟩ := hA.ne
 obtain ⟨hr, hap, hk⟩ := hR.rows h (by omega)
 have lt : ∀ {q : Nat} {o : Obj}, u.heap[q]? = some o → q < u.heap.size := fun e => (Array.getElem?_eq_some_iff.1 e).1
 have e2 : ∀ q, q < u.heap.size → (q < A.B0 ∨ q ∈ A.all) → q ≠ A.GA → (u2.setCell ⟨A.GA, 6, none⟩ x').heap[q]? = u.heap[q]? := fun q hq hm hne => (heap_set_ne hne).trans (hk q hq hm)
 have hcm : mcm u2 A.Gm = true := (mcm_of_block (hk _ (mcm_lt h.gm) (.inr (mem_all (by simp))))).trans h.gm
 have hga : u2.heap[A.GA]? = _ := (hk _ (lt h.gat) (.inr (mem_all (by simp)))).trans h.gat
 refine h.chg hF (by rw [set_size]; exact hR.size) (fun q hq hc => e2 q hq (hc.imp id mem_far) (hA.far hc).2.2.1) ?_ ?_ ?_ ?_ (fun c c1' c9 => ?_) (fun c hc => own_to (hr c hc) fun q hq => heap_set_ne ?_) hap
 ·rw [upd_same]
  simp [World.setCell, Array.getElem?_modify, hga, gatC]
 ·exact (e2 _ (lt h.onb) (.inr (mem_all (by simp))) (Ne.symm a1)).trans h.onb
 ·exact (e2 _ (lt h.owb) (.inr (mem_all (by simp))) (Ne.symm a2)).trans h.owb
 ·rw [mcm_setCell]; exact hcm
 ·rw [mget_setCell, upd_ne _ _ (by omega), mget_of_block (hk _ (mcm_lt h.gm) (.inr (mem_all (by simp))))]
  exact h.gmg c c1' c9
 ·rintro rfl
  obtain ⟨cs, hcs⟩ := own_cells (hr c hc) hq
  rw [hga] at hcs
  simp at hcs
end
end Go.Proofs.Ythmgpkcijolljaa
