/-
  The patchboard: what newPatchboard lays.
-/
import Derived.Test.YtbihnjfckaeioaaChans
import Derived.Test.YtbihnjfckaeioaaSlices
import Derived.RegionTactic
import Derived.BigRegion
import Derived.Deep.RegionLaw
import Derived.Deep.DeepCutAuto
import Derived.Deep.RegionHeld3
namespace Go.Proofs.Ytbihnjfckaeioaa
open Go.RowKit
set_option linter.unusedSimpArgs false
set_option linter.unusedVariables false

theorem chan_info : (Try.prog.info? 51).map (fun i => (i.zero, i.size, i.bytes)) = some (some (Value.chan none), 1, 8) := by kernel_rfl
@[go_sem] theorem upd_num {w : World} {b : Nat} (h : mcm w b = true) (r : Option Nat) (v : Value) : (Instr.mapUpdate 48 (.map (some b)) (.chan r) v).run Try.prog w = .ok () (mput w b r v) :=
  run_mapUpdate_ch Try.underlying48 Try.underlying51 h r v

def noLines : Array Value := Array.replicate 7 (.chan none)
/-- the four blocks that newPatchboard lays first -/
def Laid (w : World) (n : Nat) (s3 : Value) (wx : World) : Prop :=
  ∃ S L M G, s3 = .pointer (some ⟨S, 0, none⟩) ∧ Blk wx S 50 #[.slice (some ⟨L, 0, none⟩) 7 7, .map (some M), .slice (some ⟨G, 0, none⟩) n n] ∧ Blk wx L 51 noLines ∧
    Blk wx G 51 (Array.replicate n (.chan none)) ∧ mcm wx M = true ∧ mget wx M none = some (.int .i64 0) ∧ L ≠ G ∧ w.heap.size ≤ S ∧ w.heap.size ≤ L ∧ w.heap.size ≤ M ∧ w.heap.size ≤ G ∧ Below w.heap.size w wx

/-- the lines' block when k of the channels are there (the line 0 among them) -/
def lineArr (ch : Int → Option Nat) (k : Nat) : Array Value := ((List.range 7).map fun j => if j < k then Value.chan (ch j) else .chan none).toArray
theorem lineArr_get (ch : Int → Option Nat) (k j : Nat) (h : j < 7) : (lineArr ch k)[j]? = some (if j < k then Value.chan (ch j) else .chan none) := by
  simp [lineArr, List.getElem?_map, List.getElem?_range h]
theorem lineArr_one (ch : Int → Option Nat) (h : ch 0 = none) : lineArr ch 1 = noLines := by
  apply Array.ext_getElem?
  intro j
  by_cases hj : j < 7
  · rw [lineArr_get ch 1 j hj, noLines, Array.getElem?_replicate, if_pos hj]
    by_cases h0 : j < 1
    · obtain rfl : j = 0 := by omega
      simp [h]
    · rw [if_neg h0]
  · rw [Array.getElem?_eq_none (by simp [lineArr]; omega), Array.getElem?_eq_none (by simp [noLines]; omega)]
/-- one more channel -/
def chPut (ch : Int → Option Nat) (k : Nat) (c : Nat) : Int → Option Nat := fun j => if j = k then some c else ch j
theorem lineArr_set (ch : Int → Option Nat) (k c : Nat) (h : k < 7) : (lineArr ch k).setIfInBounds k (.chan (some c)) = lineArr (chPut ch k c) (k + 1) := by
  apply Array.ext_getElem?
  intro j
  rw [Array.getElem?_setIfInBounds]
  by_cases hj : j < 7
  · rw [lineArr_get _ _ j hj, lineArr_get _ _ j hj]
    by_cases hjk : k = j
    · subst hjk
      rw [if_pos rfl, if_pos (by simp [lineArr]; omega), if_pos (by omega)]
      simp [chPut]
    · have e : chPut ch k c (j : Int) = ch j := by
        unfold chPut
        rw [if_neg (by omega)]
      rw [if_neg hjk, e]
      have : (j < k + 1) = (j < k) := by rw [eq_iff_iff]; omega
      simp only [this]
  · rw [if_neg (by omega), Array.getElem?_eq_none (by simp [lineArr]; omega), Array.getElem?_eq_none (by simp [lineArr]; omega)]

/-- k of the lines are there -/
structure Part (w wr : World) (S L M G n k : Nat) (ch : Int → Option Nat) : Prop where
  hS : Blk wr S 50 #[.slice (some ⟨L, 0, none⟩) 7 7, .map (some M), .slice (some ⟨G, 0, none⟩) n n]
  hL : Blk wr L 51 (lineArr ch k)
  hG : Blk wr G 51 (Array.replicate n (.chan none))
  hcm : mcm wr M = true
  h0 : ch 0 = none
  hget : ∀ j : Int, 0 ≤ j → j < k → mget wr M (ch j) = some (.int .i64 j)
  inj : ∀ i j : Int, 0 ≤ i → i < k → 0 ≤ j → j < k → ch i = ch j → i = j
  lt : ∀ (j : Int) (c : Nat), 0 ≤ j → j < k → ch j = some c → c < wr.heap.size
  bel : Below w.heap.size w wr

theorem Part.next {w wr : World} {S L M G n k : Nat} {ch : Int → Option Nat} (h : Part w wr S L M G n k ch) (hk : 1 ≤ k) (hk7 : k < 7) (hL' : w.heap.size ≤ L) (hM : w.heap.size ≤ M) (hne : L ≠ G) (o : Obj) :
    Part w (mput ((wr.setCell ⟨L, k, none⟩ (.chan (some wr.heap.size))).alloc o).drew.drew M (some wr.heap.size) (.int .i64 k)) S L M G n (k + 1) (chPut ch k wr.heap.size) := by
  have hSL : S ≠ L := h.hS.ne_ h.hL (by decide)
  have hz : (wr.setCell ⟨L, k, none⟩ (.chan (some wr.heap.size))).heap.size = wr.heap.size := by simp [World.setCell]
  have hcm0 : mcm (wr.setCell ⟨L, k, none⟩ (.chan (some wr.heap.size))) M = true := (mcm_setCell _ _).trans h.hcm
  have hcm1 : mcm ((wr.setCell ⟨L, k, none⟩ (.chan (some wr.heap.size))).alloc o).drew.drew M = true := mcm_alloc hcm0 o
  refine ⟨(((h.hS.far (p := ⟨L, k, none⟩) hSL _).alloc o).drew.drew.mput), ?_, (((h.hG.far (p := ⟨L, k, none⟩) (Ne.symm hne) _).alloc o).drew.drew.mput), by rw [mcm_mput hcm1], by unfold chPut; rw [if_neg (by omega)]; exact h.h0, ?_, ?_, ?_, ?_⟩
  · rw [← lineArr_set ch k _ hk7]
    exact (((h.hL.set_ k _).alloc o).drew.drew.mput)
  · intro j hj0 hjk
    rw [mget_mput hcm1]
    unfold chPut
    by_cases hj : j = k
    · rw [if_pos hj, if_pos rfl, hj]
    · have hjk' : j < k := by omega
      rw [if_neg hj]
      have hne' : ch j ≠ some wr.heap.size := fun e => by
        have := h.lt j _ hj0 hjk' e
        omega
      rw [if_neg hne', mget_drew, mget_drew, mget_alloc (mcm_lt hcm0), mget_setCell]
      exact h.hget j hj0 hjk'
  · intro i j hi hik hj hjk he
    unfold chPut at he
    by_cases h1 : i = k <;> by_cases h2 : j = k
    · omega
    · rw [if_pos h1, if_neg h2] at he
      have := h.lt j _ hj (by omega) he.symm
      omega
    · rw [if_neg h1, if_pos h2] at he
      have := h.lt i _ hi (by omega) he
      omega
    · rw [if_neg h1, if_neg h2] at he
      exact h.inj i j hi (by omega) hj (by omega) he
  · intro j c hj hjk he
    rw [mput_size]
    have hs : ((wr.setCell ⟨L, k, none⟩ (.chan (some wr.heap.size))).alloc o).drew.drew.heap.size = wr.heap.size + 1 := by
      show ((wr.setCell ⟨L, k, none⟩ (.chan (some wr.heap.size))).alloc o).heap.size = _
      simp [World.setCell]
    rw [hs]
    unfold chPut at he
    by_cases h1 : j = k
    · rw [if_pos h1] at he
      injection he with he
      omega
    · rw [if_neg h1] at he
      have := h.lt j c hj (by omega) he
      omega
  · exact mput_below ((h.bel.setCell hL' _).alloc (by rw [hz]; exact h.bel.size) o).drew.drew hM

/-- the plugs' block -/
def plugArr (ch : Int → Option Nat) (p : List Int) : Array Value := (p.map fun x => Value.chan (ch x)).toArray
theorem plugArr_get (ch : Int → Option Nat) (p : List Int) (i : Nat) (h : i < p.length) : (plugArr ch p)[i]? = some (.chan (ch p[i])) := by simp [plugArr, h]
theorem plugArr_set (ch : Int → Option Nat) (p : List Int) (i : Nat) (x : Int) : (plugArr ch p).setIfInBounds i (.chan (ch x)) = plugArr ch (p.set i x) := by
  apply Array.ext_getElem?
  intro j
  rw [Array.getElem?_setIfInBounds]
  simp only [plugArr, List.getElem?_toArray, List.getElem?_map, List.getElem?_set, List.size_toArray, List.length_map]
  by_cases h : i = j
  · subst h
    by_cases hi : i < p.length <;> simp [hi]
  · simp [h]
/-- a patchboard: its struct at S, its lines at L, the numbers in the map M, its plugs at G -/
structure Board (w : World) (S L M G : Nat) (ch : Int → Option Nat) (p : List Int) : Prop where
  hS : Blk w S 50 #[.slice (some ⟨L, 0, none⟩) 7 7, .map (some M), .slice (some ⟨G, 0, none⟩) p.length p.length]
  hL : Blk w L 51 (lineArr ch 7)
  hG : Blk w G 51 (plugArr ch p)
  hcm : mcm w M = true
  h0 : ch 0 = none
  hget : ∀ j : Int, 0 ≤ j → j ≤ 6 → mget w M (ch j) = some (.int .i64 j)
  inj : ∀ i j : Int, 0 ≤ i → i ≤ 6 → 0 ≤ j → j ≤ 6 → ch i = ch j → i = j
  hne : L ≠ G
  valid : ∀ x ∈ p, 0 ≤ x ∧ x ≤ 6

section
variable {w w' : World} {S L M G : Nat} {ch : Int → Option Nat} {p : List Int}
theorem Board.neS (h : Board w S L M G ch p) : S ≠ L ∧ S ≠ G := ⟨h.hS.ne_ h.hL (by decide), h.hS.ne_ h.hG (by decide)⟩
theorem Board.drew (h : Board w S L M G ch p) : Board w.drew S L M G ch p := ⟨h.hS, h.hL, h.hG, h.hcm, h.h0, h.hget, h.inj, h.hne, h.valid⟩
theorem Board.drewN (h : Board w S L M G ch p) (n : Nat) : Board (w.drewN n) S L M G ch p := ⟨h.hS, h.hL, h.hG, h.hcm, h.h0, h.hget, h.inj, h.hne, h.valid⟩
theorem Board.below {B : Nat} (h : Board w S L M G ch p) (hb : Below B w w') (b1 : S < B) (b2 : L < B) (b3 : M < B) (b4 : G < B) : Board w' S L M G ch p :=
  ⟨h.hS.below hb b1, h.hL.below hb b2, h.hG.below hb b4, (mcm_below hb b3).trans h.hcm, h.h0, fun j h1 h2 => (mget_below hb b3).trans (h.hget j h1 h2), h.inj, h.hne, h.valid⟩
theorem Board.lts (h : Board w S L M G ch p) : S < w.heap.size ∧ L < w.heap.size ∧ M < w.heap.size ∧ G < w.heap.size := ⟨h.hS.lt, h.hL.lt, mcm_lt h.hcm, h.hG.lt⟩
theorem Board.keep (h : Board w S L M G ch p) (hb : Below w.heap.size w w') : Board w' S L M G ch p := h.below hb h.lts.1 h.lts.2.1 h.lts.2.2.1 h.lts.2.2.2
theorem Board.plug (h : Board w S L M G ch p) {i : Nat} {x : Int} (hx : 0 ≤ x ∧ x ≤ 6) : Board (w.setCell ⟨G, i, none⟩ (.chan (ch x))) S L M G ch (p.set i x) := by
  refine ⟨?_, h.hL.far (p := ⟨G, i, none⟩) h.hne _, ?_, (mcm_setCell _ _).trans h.hcm, h.h0, fun j h1 h2 => (mget_setCell _ _).trans (h.hget j h1 h2), h.inj, h.hne, fun y hy => ?_⟩
  · rw [List.length_set]
    exact h.hS.far (p := ⟨G, i, none⟩) h.neS.2 _
  · rw [← plugArr_set]
    exact h.hG.set_ i _
  · rcases List.mem_or_eq_of_mem_set hy with hy | rfl
    · exact h.valid y hy
    · exact hx
/-- the cell of a line -/
theorem Board.line (h : Board w S L M G ch p) {x : Int} (h0 : 0 ≤ x) (h1 : x ≤ 6) : w.cell? ⟨L, x.toNat, none⟩ = some (.chan (ch x)) := by
  refine (h.hL.cell _).trans ?_
  rw [lineArr_get _ _ _ (by omega), if_pos (by omega), Int.toNat_of_nonneg h0]
theorem Board.cell (h : Board w S L M G ch p) {i : Nat} (hi : i < p.length) : w.cell? ⟨G, i, none⟩ = some (.chan (ch p[i])) := (h.hG.cell _).trans (plugArr_get ch p i hi)
theorem getD_mem {l : List Int} {i : Int} (h0 : 0 ≤ i) (h1 : i < l.length) : l.getD i.toNat 0 ∈ l := by
  rw [List.getD_eq_getElem?_getD, List.getElem?_eq_getElem (by omega)]
  exact List.getElem_mem _
theorem Board.int_cell (h : Board w S L M G ch p) {i : Int} (h0 : 0 ≤ i) (h1 : i < p.length) : w.cell? ⟨G, i.toNat, none⟩ = some (.chan (ch (p.getD i.toNat 0))) := by
  rw [h.cell (i := i.toNat) (by omega), List.getD_eq_getElem?_getD, List.getElem?_eq_getElem (by omega)]
  rfl
theorem Board.s0 (h : Board w S L M G ch p) : w.cell? ⟨S, 0, none⟩ = some (.slice (some ⟨L, 0, none⟩) 7 7) := (h.hS.cell 0).trans rfl
theorem Board.s1 (h : Board w S L M G ch p) : w.cell? ⟨S, 1, none⟩ = some (.map (some M)) := (h.hS.cell 1).trans rfl
theorem Board.s2 (h : Board w S L M G ch p) : w.cell? ⟨S, 2, none⟩ = some (.slice (some ⟨G, 0, none⟩) p.length p.length) := (h.hS.cell 2).trans rfl
theorem Board.eq_iff (h : Board w S L M G ch p) {x y : Int} (hx : 0 ≤ x ∧ x ≤ 6) (hy : 0 ≤ y ∧ y ≤ 6) : ch x = ch y ↔ x = y := ⟨h.inj x y hx.1 hx.2 hy.1 hy.2, fun e => by rw [e]⟩
end
theorem Board.same {w : World} {S L M G : Nat} {ch : Int → Option Nat} {p : List Int} (h : Board w S L M G ch p) {i k : Int} (i0 : 0 ≤ i) (i1 : i < p.length) (k0 : 0 ≤ k) (k1 : k < p.length) :
    (ch (p.getD i.toNat 0) == ch (p.getD k.toNat 0)) = (p.getD i.toNat 0 == p.getD k.toNat 0) := by
  rw [Bool.eq_iff_iff]
  simp only [beq_iff_eq]
  exact h.eq_iff (h.valid _ (getD_mem i0 i1)) (h.valid _ (getD_mem k0 k1))
/-- the first i of l, the rest 0 -/
def fillL (l : List Int) (i : Nat) : List Int := l.mapIdx fun j x => if j < i then x else 0
theorem fillL_length (l : List Int) (i : Nat) : (fillL l i).length = l.length := by simp [fillL]
theorem fillL_all (l : List Int) : fillL l l.length = l := by
  apply List.ext_getElem?
  intro j
  simp only [fillL, List.getElem?_mapIdx]
  by_cases h : j < l.length <;> simp [h]
theorem fillL_set (l : List Int) (i : Nat) (h : i < l.length) : (fillL l i).set i l[i] = fillL l (i + 1) := by
  apply List.ext_getElem?
  intro j
  rw [List.getElem?_set]
  simp only [fillL, List.getElem?_mapIdx, List.length_mapIdx]
  by_cases hj : i = j
  · subst hj
    simp [h]
  · rw [if_neg hj]
    by_cases hjl : j < l.length
    · simp only [List.getElem?_eq_getElem hjl, Option.map_some]
      have : (j < i + 1) = (j < i) := by rw [eq_iff_iff]; omega
      simp only [this]
    · simp [hjl]
theorem fillL_valid (l : List Int) (i : Nat) (h : ∀ x ∈ l, 0 ≤ x ∧ x ≤ 6) : ∀ x ∈ fillL l i, 0 ≤ x ∧ x ≤ 6 := by
  intro x hx
  obtain ⟨j, hj, rfl⟩ := List.mem_iff_getElem.1 hx
  simp only [fillL, List.getElem_mapIdx]
  split
  · exact h _ (List.getElem_mem _)
  · omega
theorem Part.board {w wr : World} {S L M G : Nat} {ch : Int → Option Nat} {l : List Int} (h : Part w wr S L M G l.length 7 ch) (hne : L ≠ G) : Board wr S L M G ch (fillL l 0) := by
  refine ⟨by rw [fillL_length]; exact h.hS, h.hL, ?_, h.hcm, h.h0, fun j h1 h2 => h.hget j h1 (by omega), fun i j a b c d => h.inj i j a (by omega) c (by omega), hne, fun x hx => ?_⟩
  · have : plugArr ch (fillL l 0) = Array.replicate l.length (.chan none) := by
      apply Array.ext_getElem?
      intro j
      by_cases hj : j < l.length
      · rw [plugArr_get _ _ _ (by rw [fillL_length]; exact hj), Array.getElem?_replicate, if_pos hj]
        simp [fillL, h.h0]
      · rw [Array.getElem?_eq_none (by simp [plugArr, fillL_length]; omega), Array.getElem?_eq_none (by simp; omega)]
    rw [this]
    exact h.hG
  · obtain ⟨j, hj, rfl⟩ := List.mem_iff_getElem.1 hx
    simp [fillL]

/-- what newPatchboard leaves -/
def NewBoard (w : World) (l : List Int) (e : Ending) (w' : World) : Prop :=
  ∃ S L M G ch, e = .returned (.pointer (some ⟨S, 0, none⟩)) ∧ Board w' S L M G ch l ∧ w.heap.size ≤ S ∧ w.heap.size ≤ L ∧ w.heap.size ≤ M ∧ w.heap.size ≤ G ∧ Below w.heap.size w w'

set_option maxHeartbeats 2000000 in
theorem newPatchboard_any (A : Option Addr) (c : Nat) (l : List Int) (w : World) (h : RI w w.heap.size A l) (hn : l.length ≤ 20) (hv : ∀ x ∈ l, 0 ≤ x ∧ x ≤ 6) :
    Calls Try.prog 32 #[.slice A l.length c] w (NewBoard w l) := by
  obtain ⟨i0, hi, hz0, hz1, hz2⟩ := info_parts chan_info
  have hmk := fun W => run_makeN (P := Try.prog) 47 51 i0 _ Try.underlying47 hi hz0 hz1 rfl (by omega) l.length l.length (Nat.le_refl _) (by omega) W
  have hmk7 : ∀ W : World, (Instr.makeSlice 47 (.int .i64 7) (.int .i64 7)).run Try.prog W = .ok (.slice (some ⟨W.heap.size, 0, none⟩) 7 7) (W.alloc (.cells noLines 51)) := fun W => run_makeN (P := Try.prog) 47 51 i0 _ Try.underlying47 hi hz0 hz1 rfl (by omega) 7 7 (Nat.le_refl _) (by omega) W
  have hmm := @run_makeMap Try.prog
  obtain ⟨i3, hi3, _, _, hi3b⟩ := info_parts int_info
  clear hi hz0 hz1 hz2
  go_enter Try.func32, Try.ntmps32
  go_upto_region 1 with fail
  go_cut [3] (fun s3 wx => Laid w l.length s3 wx)
  case first =>
    go_region
    all_goals
      go_wp2_with fail
      go_meet
      refine ⟨_, _, _, _, rfl, Blk.drew (Blk.new_at _ _ _ (by simp [go_sem])), ?_, ?_, ?_, ?_, by omega, by omega, by omega, by omega, by omega, ?_⟩
      · repeat first | ((with_reducible refine Blk.new_at _ _ _ ?_); simp [go_sem]; done) | with_reducible apply Blk.drew | with_reducible apply Blk.alloc | with_reducible apply Blk.mput
      · repeat first | ((with_reducible refine Blk.new_at _ _ _ ?_); simp [go_sem]; done) | with_reducible apply Blk.drew | with_reducible apply Blk.alloc | with_reducible apply Blk.mput
      · first | (go_simp; done) | (go_simp; omega)
      · first | (simp [mget_mput, go_sem]; done) | (simp [mget_mput, go_sem]; omega)
      · repeat first | with_reducible exact Below.refl _ _ | with_reducible apply Below.drew | ((with_reducible refine mput_below ?_ ?_); rotate_left; · first | omega | (simp [go_sem]; done) | (simp [go_sem]; omega)) | ((with_reducible refine Below.alloc ?_ ?_ _); rotate_left; · first | omega | (simp [go_sem]; done) | (simp [go_sem]; omega))
  case rest =>
    obtain ⟨S, L, M, G, rfl, hS, hL, hG, hcm, hget, hne, g1, g2, g3, g4, hbel⟩ := hcut
    have hmc : ∀ W : World, (Instr.makeChan 51 (.int .i64 0)).run Try.prog W = .ok (.chan (some W.heap.size)) (W.alloc (.chan 0 #[] false 0 0 false)) := fun W => Conc.run_makeChan (P := Try.prog) (w := W) Try.underlying51 hi3 .i64 0 (by omega) (by omega)
    clear hi3 hi3b
    go_wp2
    go_loopw [4] (fun i wr => ∃ (k : Nat) (ch : Int → Option Nat), 1 ≤ k ∧ k ≤ 7 ∧ i = .int .i64 k ∧ Part w wr S L M G l.length k ch) (fun i _ => 7 - (intOf i).toNat)
    case atStart =>
      refine ⟨1, fun _ => none, by omega, by omega, rfl, ⟨hS, by rw [lineArr_one _ rfl]; exact hL, hG, hcm, rfl, fun j h1 h2 => ?_, (fun i j _ _ _ _ _ => by omega), (fun j c _ _ e => by cases e), hbel⟩⟩
      obtain rfl : j = 0 := by omega
      exact hget
    case round =>
      obtain ⟨k, ch, hk1, hk7, rfl, hp⟩ := hrel
      by_cases hlt : k < 7
      · have c0 := hp.hS.cell 0
        have c1 := hp.hS.cell 1
        have cl := (hp.hL.cell k).trans (lineArr_get ch k k hlt)
        rw [if_neg (by omega)] at cl
        have f0 := hp.hL.frozen k
        have sl := hp.hS.lt
        have ll := hp.hL.lt
        have cm := hp.hcm
        have ml := mcm_lt cm
        have hSL : S ≠ L := hp.hS.ne_ hp.hL (by decide)
        simp at c0 c1
        have c0' : (wr.setCell ⟨L, k, none⟩ (.chan (some wr.heap.size))).cell? ⟨S, 0, none⟩ = _ := (World.cell?_setCell_other wr ⟨L, k, none⟩ ⟨S, 0, none⟩ _ (fun e => hSL (by injection e with e1; exact e1.symm))).trans c0
        have c1' : (wr.setCell ⟨L, k, none⟩ (.chan (some wr.heap.size))).cell? ⟨S, 1, none⟩ = _ := (World.cell?_setCell_other wr ⟨L, k, none⟩ ⟨S, 1, none⟩ _ (fun e => hSL (by injection e with e1; exact e1.symm))).trans c1
        have cl' : (wr.setCell ⟨L, k, none⟩ (.chan (some wr.heap.size))).cell? ⟨L, k, none⟩ = some (.chan (some wr.heap.size)) := ((hp.hL.set_ k _).cell k).trans (by rw [lineArr_set ch k _ hlt, lineArr_get _ _ k hlt, if_pos (by omega)]; simp [chPut])
        have Hp := Lib.hid hp
        clear hp
        go_wp2
        go_region
        go_wp2
        go_region
        go_wp2
        go_roundw
        case rel => exact ⟨k + 1, _, by omega, by omega, by go_num, Hp.out.next hk1 hlt g2 g3 hne _⟩
        case measure => simp [intOf]; omega
      · obtain rfl : k = 7 := by omega
        have Hp := Lib.hid hp
        clear hp
        have hb0 : Below w.heap.size w wr := Hp.out.bel
        have Hb := Lib.hid (Hp.out.board hne)
        clear Hp
        go_wp2
        go_loopw [40, 5, 6] (fun i _ _ wx => ∃ k : Nat, k ≤ l.length ∧ i = .int .i64 k ∧ Board wx S L M G ch (fillL l k) ∧ Below w.heap.size w wx) (fun i _ _ _ => l.length - (intOf i).toNat)
        case atStart => exact ⟨0, Nat.zero_le _, rfl, Hb.out, hb0⟩
        case round =>
          obtain ⟨k, hk, rfl, hbd, hbl⟩ := hrel
          by_cases hlt : k < l.length
          · obtain ⟨ad, rfl, hba, hc⟩ := (h.below hbl).at_ hlt
            obtain ⟨v0, v6⟩ := hv l[k] (List.getElem_mem _)
            have cl := hbd.line v0 v6
            have c0 := hbd.s0
            have c2 := hbd.s2
            rw [fillL_length] at c2
            have cg := hbd.cell (i := k) (by rw [fillL_length]; exact hlt)
            have fg := hbd.hG.frozen k
            have Hbd := Lib.hid hbd
            clear hbd hv
            generalize (fillL l k)[k]'(by rw [fillL_length]; exact hlt) = old at cg
            go_wp2
            go_region
            go_wp2
            go_roundw
            case rel => exact ⟨k + 1, by omega, by go_num, by rw [← fillL_set l k hlt]; exact (Hbd.out.plug ⟨v0, v6⟩).drew, (hbl.setCell g4 _).drew⟩
            case measure => simp [intOf]; omega
          · obtain rfl : k = l.length := by omega
            rw [fillL_all] at hbd
            have Hbd := Lib.hid hbd
            clear hbd hv
            go_wp2
            go_ret
            exact ⟨S, L, M, G, ch, rfl, Hbd.out, g1, g2, g3, g4, hbl⟩
end Go.Proofs.Ytbihnjfckaeioaa
