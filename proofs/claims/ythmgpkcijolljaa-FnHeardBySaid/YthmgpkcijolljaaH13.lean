/-
  An array of a known size, written out.
-/
import Derived.Test.YthmgpkcijolljaaH10
import Derived.Test.YthmgpkcijolljaaH12
import Derived.RegionTactic
import Derived.BigRegion
import Derived.Deep.RegionLaw
import Derived.Deep.DeepCutAuto
import Derived.Deep.RegionHeld3
namespace Go.Proofs.Ythmgpkcijolljaa
open Go.Conc
/-- The slots get a name. -/
theorem kT {K : Goroutine → World → Prop} {b : Frame} {df : List Deferred} {k : List Item} {cs : List Frame} {v : World} {T : Array Value} (h : ∀ T', T' = T → KA K (G (b.at ⟨T', df⟩ k) cs) v) : KA K (G (b.at ⟨T, df⟩ k) cs) v := h T rfl
theorem arr_of (T : Array Value) (n : Nat) (h : T.size = n) : T = ((List.range n).map fun i => T.getD i undef).toArray := by
 apply Array.ext (by simp [h])
 intro i h1 h2
 simp [Array.getD, h1]
theorem arr44 {T : Array Value} (h : T.size = 44) : ∃ x0 x1 x2 x3 x4 x5 x6 x7 x8 x9 x10 x11 x12 x13 x14 x15 x16 x17 x18 x19 x20 x21 x22 x23 x24 x25 x26 x27 x28 x29 x30 x31 x32 x33 x34 x35 x36 x37 x38 x39 x40 x41 x42 x43, T = #[x0, x1, x2, x3, x4, x5, x6, x7, x8, x9, x10, x11, x12, x13, x14, x15, x16, x17, x18, x19, x20, x21, x22, x23, x24, x25, x26, x27, x28, x29, x30, x31, x32, x33, x34, x35, x36, x37, x38, x39, x40, x41, x42, x43] :=
 ⟨T.getD 0 undef, T.getD 1 undef, T.getD 2 undef, T.getD 3 undef, T.getD 4 undef, T.getD 5 undef, T.getD 6 undef, T.getD 7 undef, T.getD 8 undef, T.getD 9 undef, T.getD 10 undef, T.getD 11 undef, T.getD 12 undef, T.getD 13 undef, T.getD 14 undef, T.getD 15 undef, T.getD 16 undef, T.getD 17 undef, T.getD 18 undef, T.getD 19 undef, T.getD 20 undef, T.getD 21 undef, T.getD 22 undef, T.getD 23 undef, T.getD 24 undef, T.getD 25 undef, T.getD 26 undef, T.getD 27 undef, T.getD 28 undef, T.getD 29 undef, T.getD 30 undef, T.getD 31 undef, T.getD 32 undef, T.getD 33 undef, T.getD 34 undef, T.getD 35 undef, T.getD 36 undef, T.getD 37 undef, T.getD 38 undef, T.getD 39 undef, T.getD 40 undef, T.getD 41 undef, T.getD 42 undef, T.getD 43 undef, arr_of T 44 h⟩
theorem arr52 {T : Array Value} (h : T.size = 52) : ∃ x0 x1 x2 x3 x4 x5 x6 x7 x8 x9 x10 x11 x12 x13 x14 x15 x16 x17 x18 x19 x20 x21 x22 x23 x24 x25 x26 x27 x28 x29 x30 x31 x32 x33 x34 x35 x36 x37 x38 x39 x40 x41 x42 x43 x44 x45 x46 x47 x48 x49 x50 x51, T = #[x0, x1, x2, x3, x4, x5, x6, x7, x8, x9, x10, x11, x12, x13, x14, x15, x16, x17, x18, x19, x20, x21, x22, x23, x24, x25, x26, x27, x28, x29, x30, x31, x32, x33, x34, x35, x36, x37, x38, x39, x40, x41, x42, x43, x44, x45, x46, x47, x48, x49, x50, x51] :=
 ⟨T.getD 0 undef, T.getD 1 undef, T.getD 2 undef, T.getD 3 undef, T.getD 4 undef, T.getD 5 undef, T.getD 6 undef, T.getD 7 undef, T.getD 8 undef, T.getD 9 undef, T.getD 10 undef, T.getD 11 undef, T.getD 12 undef, T.getD 13 undef, T.getD 14 undef, T.getD 15 undef, T.getD 16 undef, T.getD 17 undef, T.getD 18 undef, T.getD 19 undef, T.getD 20 undef, T.getD 21 undef, T.getD 22 undef, T.getD 23 undef, T.getD 24 undef, T.getD 25 undef, T.getD 26 undef, T.getD 27 undef, T.getD 28 undef, T.getD 29 undef, T.getD 30 undef, T.getD 31 undef, T.getD 32 undef, T.getD 33 undef, T.getD 34 undef, T.getD 35 undef, T.getD 36 undef, T.getD 37 undef, T.getD 38 undef, T.getD 39 undef, T.getD 40 undef, T.getD 41 undef, T.getD 42 undef, T.getD 43 undef, T.getD 44 undef, T.getD 45 undef, T.getD 46 undef, T.getD 47 undef, T.getD 48 undef, T.getD 49 undef, T.getD 50 undef, T.getD 51 undef, arr_of T 52 h⟩
theorem arr97 {T : Array Value} (h : T.size = 97) : ∃ x0 x1 x2 x3 x4 x5 x6 x7 x8 x9 x10 x11 x12 x13 x14 x15 x16 x17 x18 x19 x20 x21 x22 x23 x24 x25 x26 x27 x28 x29 x30 x31 x32 x33 x34 x35 x36 x37 x38 x39 x40 x41 x42 x43 x44 x45 x46 x47 x48 x49 x50 x51 x52 x53 x54 x55 x56 x57 x58 x59 x60 x61 x62 x63 x64 x65 x66 x67 x68 x69 x70 x71 x72 x73 x74 x75 x76 x77 x78 x79 x80 x81 x82 x83 x84 x85 x86 x87 x88 x89 x90 x91 x92 x93 x94 x95 x96, T = #[x0, x1, x2, x3, x4, x5, x6, x7, x8, x9, x10, x11, x12, x13, x14, x15, x16, x17, x18, x19, x20, x21, x22, x23, x24, x25, x26, x27, x28, x29, x30, x31, x32, x33, x34, x35, x36, x37, x38, x39, x40, x41, x42, x43, x44, x45, x46, x47, x48, x49, x50, x51, x52, x53, x54, x55, x56, x57, x58, x59, x60, x61, x62, x63, x64, x65, x66, x67, x68, x69, x70, x71, x72, x73, x74, x75, x76, x77, x78, x79, x80, x81, x82, x83, x84, x85, x86, x87, x88, x89, x90, x91, x92, x93, x94, x95, x96] :=
 ⟨T.getD 0 undef, T.getD 1 undef, T.getD 2 undef, T.getD 3 undef, T.getD 4 undef, T.getD 5 undef, T.getD 6 undef, T.getD 7 undef, T.getD 8 undef, T.getD 9 undef, T.getD 10 undef, T.getD 11 undef, T.getD 12 undef, T.getD 13 undef, T.getD 14 undef, T.getD 15 undef, T.getD 16 undef, T.getD 17 undef, T.getD 18 undef, T.getD 19 undef, T.getD 20 undef, T.getD 21 undef, T.getD 22 undef, T.getD 23 undef, T.getD 24 undef, T.getD 25 undef, T.getD 26 undef, T.getD 27 undef, T.getD 28 undef, T.getD 29 undef, T.getD 30 undef, T.getD 31 undef, T.getD 32 undef, T.getD 33 undef, T.getD 34 undef, T.getD 35 undef, T.getD 36 undef, T.getD 37 undef, T.getD 38 undef, T.getD 39 undef, T.getD 40 undef, T.getD 41 undef, T.getD 42 undef, T.getD 43 undef, T.getD 44 undef, T.getD 45 undef, T.getD 46 undef, T.getD 47 undef, T.getD 48 undef, T.getD 49 undef, T.getD 50 undef, T.getD 51 undef, T.getD 52 undef, T.getD 53 undef, T.getD 54 undef, T.getD 55 undef, T.getD 56 undef, T.getD 57 undef, T.getD 58 undef, T.getD 59 undef, T.getD 60 undef, T.getD 61 undef, T.getD 62 undef, T.getD 63 undef, T.getD 64 undef, T.getD 65 undef, T.getD 66 undef, T.getD 67 undef, T.getD 68 undef, T.getD 69 undef, T.getD 70 undef, T.getD 71 undef, T.getD 72 undef, T.getD 73 undef, T.getD 74 undef, T.getD 75 undef, T.getD 76 undef, T.getD 77 undef, T.getD 78 undef, T.getD 79 undef, T.getD 80 undef, T.getD 81 undef, T.getD 82 undef, T.getD 83 undef, T.getD 84 undef, T.getD 85 undef, T.getD 86 undef, T.getD 87 undef, T.getD 88 undef, T.getD 89 undef, T.getD 90 undef, T.getD 91 undef, T.getD 92 undef, T.getD 93 undef, T.getD 94 undef, T.getD 95 undef, T.getD 96 undef, arr_of T 97 h⟩
end Go.Proofs.Ythmgpkcijolljaa
/-
  newGathering: its call.
-/
namespace Go.Proofs.Ythmgpkcijolljaa
open Go.Conc Go.RowKit Go.Conc.Lib
open Go.ConcN (upd upd_same upd_ne)
open Go.ChangeMaps
set_option linter.unusedSimpArgs false
set_option linter.unusedVariables false
@[go_sem] theorem upd_num {w : World} {b : Nat} (h : mcm w b = true) (r : Option Nat) (v : Value) : (Instr.mapUpdate 59 (.map (some b)) (.chan r) v).run Try.prog w = .ok () (mput w b r v) :=
 run_mapUpdate_ch Try.underlying59 Try.underlying68 h r v
/-- the bridges' block when k of the channels are there (the line 0 among them) -/
def brArr (ch : Nat → Option Nat) (k : Nat) : Array Value := ((List.range 10).map fun j => if j < k then Value.chan (ch j) else .chan none).toArray
theorem brArr_get (ch : Nat → Option Nat) (k j : Nat) (h : j < 10) : (brArr ch k)[j]? = some (if j < k then Value.chan (ch j) else .chan none) := by
 simp [brArr, List.getElem?_map, List.getElem?_range h]
theorem brArr_one (ch : Nat → Option Nat) (h : ch 0 = none) : brArr ch 1 = Array.replicate 10 (.chan none) := by
 apply Array.ext_getElem?
 intro j
 by_cases hj : j < 10
 ·rw [brArr_get ch 1 j hj, Array.getElem?_replicate, if_pos hj]
  by_cases h0 : j < 1
  ·obtain rfl : j = 0 := by omega
   simp [h]
  ·rw [if_neg h0]
 ·rw [Array.getElem?_eq_none (by simp [brArr]; omega), Array.getElem?_eq_none (by simp; omega)]
theorem brArr_set (ch : Nat → Option Nat) (k c : Nat) (h : k < 10) : (brArr ch k).setIfInBounds k (.chan (some c)) = brArr (upd ch k (some c)) (k + 1) := by
 apply Array.ext_getElem?
 intro j
 rw [Array.getElem?_setIfInBounds]
 by_cases hj : j < 10
 ·rw [brArr_get _ _ j hj, brArr_get _ _ j hj]
  by_cases hjk : k = j
  ·subst hjk
   rw [if_pos rfl, if_pos (by simp [brArr]; omega), if_pos (by omega), upd_same]
  ·rw [if_neg hjk, upd_ne _ _ (by omega)]
   have : (j < k + 1) = (j < k) := by rw [eq_iff_iff]; omega
   simp only [this]
 ·rw [if_neg (by omega), Array.getElem?_eq_none (by simp [brArr]; omega), Array.getElem?_eq_none (by simp [brArr]; omega)]
/-- a gathering's cells -/
def gatC (n B N On Gm Ow H : Nat) (al : Value) : Array Value := #[.slice (some ⟨B, 0, none⟩) 10 10, .map (some N), .slice (some ⟨On, 0, none⟩) n n, .map (some Gm), .slice (some ⟨Ow, 0, none⟩) n n, .slice (some ⟨H, 0, none⟩) n n, al]
/-- k of the bridges are there -/
structure PartG (w0 w : World) (n G B N On Gm Ow H k : Nat) (ch : Nat → Option Nat) : Prop where
 hS : Blk w G 62 (gatC n B N On Gm Ow H (.slice none 0 0))
 hB : Blk w B 68 (brArr ch k)
 hOn : Blk w On 68 (Array.replicate n (.chan none))
 hOw : Blk w Ow 68 (Array.replicate n (.chan none))
 hH : Blk w H 32 (Array.replicate n (.slice none 0 0))
 hGm : w.heap[Gm]? = some (.map #[] 0)
 hcm : mcm w N = true
 h0 : ch 0 = none
 hget : ∀ j, j < k → mget w N (ch j) = some (.int .i64 j)
 inj : ∀ i j, i < k → j < k → ch i = ch j → i = j
 lt : ∀ j c, j < k → ch j = some c → c < w.heap.size
 ne : B ≠ On ∧ B ≠ Ow ∧ On ≠ Ow ∧ Gm ≠ N
 lo : w0.heap.size ≤ G ∧ w0.heap.size ≤ B ∧ w0.heap.size ≤ N ∧ w0.heap.size ≤ On ∧ w0.heap.size ≤ Gm ∧ w0.heap.size ≤ Ow ∧ w0.heap.size ≤ H
 old : Ups w0 w
theorem Ups.drew {v w : World} (h : Ups v w) : Ups v w.drew := ⟨h.size, h.get⟩
theorem mput_ups {v w : World} (h : Ups v w) {b : Nat} (hb : v.heap.size ≤ b) (r : Option Nat) (x : Value) : Ups v (mput w b r x) := ⟨by rw [mput_size]; exact h.size, fun q hq => (mput_other (by omega)).trans (h.get q hq)⟩
theorem set_ups {v w : World} (h : Ups v w) {a : Addr} (hb : v.heap.size ≤ a.block) (x : Value) : Ups v (w.setCell a x) := ⟨by simp [World.setCell]; exact h.size, fun q hq => (Below.heap_setCell w a x q (by omega)).trans (h.get q hq)⟩
theorem PartG.next {w0 wr : World} {n G B N On Gm Ow H k : Nat} {ch : Nat → Option Nat} (h : PartG w0 wr n G B N On Gm Ow H k ch) (hk : 1 ≤ k) (hk10 : k < 10) (o : Obj) :
  PartG w0 (mput ((wr.setCell ⟨B, k, none⟩ (.chan (some wr.heap.size))).alloc o).drew.drew N (some wr.heap.size) (.int .i64 k)) n G B N On Gm Ow H (k + 1) (upd ch k (some wr.heap.size)) := by
 have hGB : G ≠ B := h.hS.ne_ h.hB (by decide)
 have hHB : H ≠ B := h.hH.ne_ h.hB (by decide)
 have hz : (wr.setCell ⟨B, k, none⟩ (.chan (some wr.heap.size))).heap.size = wr.heap.size := by simp [World.setCell]
 have hcm0 : mcm (wr.setCell ⟨B, k, none⟩ (.chan (some wr.heap.size))) N = true := (mcm_setCell _ _).trans h.hcm
 have hcm1 : mcm ((wr.setCell ⟨B, k, none⟩ (.chan (some wr.heap.size))).alloc o).drew.drew N = true := mcm_alloc hcm0 o
 have hs : ((wr.setCell ⟨B, k, none⟩ (.chan (some wr.heap.size))).alloc o).drew.drew.heap.size = wr.heap.size + 1 := by
  show ((wr.setCell ⟨B, k, none⟩ (.chan (some wr.heap.size))).alloc o).heap.size = _
  simp [World.setCell]
 obtain ⟨ne1, ne2, ne3, ne4⟩ := h.ne
 obtain ⟨l1, l2, l3, l4, l5, l6, l7⟩ := h.lo
 have hGmlt := (Array.getElem?_eq_some_iff.1 h.hGm).1
 have hGmB : Gm ≠ B := fun e => by have h1 := h.hGm; have h2 : wr.heap[B]? = _ := h.hB; rw [e, h2] at h1; cases h1
 refine ⟨(((h.hS.far (p := ⟨B, k, none⟩) hGB _).alloc o).drew.drew.mput), ?_, (((h.hOn.far (p := ⟨B, k, none⟩) (Ne.symm ne1) _).alloc o).drew.drew.mput), (((h.hOw.far (p := ⟨B, k, none⟩) (Ne.symm ne2) _).alloc o).drew.drew.mput), (((h.hH.far (p := ⟨B, k, none⟩) hHB _).alloc o).drew.drew.mput), ?_, by rw [mcm_mput hcm1], by rw [upd_ne _ _ (by omega)]; exact h.h0, ?_, ?_, ?_, h.ne, h.lo, mput_ups (((set_ups h.old (a := ⟨B, k, none⟩) l2 _).trans (Ups.alloc _ o)).drew.drew) l3 _ _⟩
 ·rw [← brArr_set ch k _ hk10]
  exact (((h.hB.set_ k _).alloc o).drew.drew.mput)
 ·rw [mput_other ne4]
  show ((wr.setCell ⟨B, k, none⟩ (.chan (some wr.heap.size))).alloc o).heap[Gm]? = _
  rw [Below.heap_alloc _ _ _ (by rw [hz]; exact hGmlt), Below.heap_setCell _ _ _ _ hGmB]
  exact h.hGm
 ·intro j hjk
  rw [mget_mput hcm1]
  by_cases hj : j = k
  ·subst hj; rw [upd_same, if_pos rfl]
  ·have hjk' : j < k := by omega
   rw [upd_ne _ _ hj]
   have hne' : ch j ≠ some wr.heap.size := fun e => by
    have := h.lt j _ hjk' e
    omega
   rw [if_neg hne', mget_drew, mget_drew, mget_alloc (mcm_lt hcm0), mget_setCell]
   exact h.hget j hjk'
 ·intro i j hik hjk he
  by_cases h1 : i = k <;> by_cases h2 : j = k
  ·omega
  ·rw [h1, upd_same, upd_ne _ _ h2] at he
   have := h.lt j _ (by omega) he.symm
   omega
  ·rw [h2, upd_same, upd_ne _ _ h1] at he
   have := h.lt i _ (by omega) he
   omega
  ·rw [upd_ne _ _ h1, upd_ne _ _ h2] at he
   exact h.inj i j (by omega) (by omega) he
 ·intro j c hjk he
  rw [mput_size, hs]
  by_cases h1 : j = k
  ·rw [h1, upd_same] at he
   have := Option.some.inj he
   omega
  ·rw [upd_ne _ _ h1] at he
   have := h.lt j c (by omega) he
   omega
/-- The region's blocks make a gathering of no bridge. -/
theorem Lay48.part {w0 v : World} {g : Nat} {d : List Nat} {F : Nat → Value} (h : Lay48 w0 g d F v) (hd : ∀ i, i < 17 → i ∈ d) : ∃ G B N On Gm Ow H, F 16 = .pointer (some ⟨G, 0, none⟩) ∧ PartG w0 v (g + 1) G B N On Gm Ow H 1 (fun _ => none) := by
 obtain ⟨a0, b0, c0⟩ := h.al 0 (hd 0 (by omega)) rfl
 obtain ⟨a1, b1, c1⟩ := h.al 1 (hd 1 (by omega)) rfl
 obtain ⟨a6, b6, c6⟩ := h.al 6 (hd 6 (by omega)) rfl
 obtain ⟨a7, b7, c7⟩ := h.al 7 (hd 7 (by omega)) rfl
 obtain ⟨a10, b10, c10⟩ := h.al 10 (hd 10 (by omega)) rfl
 obtain ⟨a13, b13, c13⟩ := h.al 13 (hd 13 (by omega)) rfl
 obtain ⟨a15, b15, c15⟩ := h.al 15 (hd 15 (by omega)) rfl
 have f3 : F 3 = F 1 := h.pl 3 (hd 3 (by omega)) rfl (by decide)
 have f16 : F 16 = F 15 := h.pl 16 (hd 16 (by omega)) rfl (by decide)
 have ne : ∀ i j, i < 17 → j < 17 → isAl i = true → isAl j = true → i ≠ j → adr (F i) ≠ adr (F j) := fun i j hi hj ha hb hn e => hn (h.inj i (hd i hi) j (hd j hj) ha hb e)
 have h2 : decide (2 ∈ d) = true := decide_eq_true (hd 2 (by omega))
 rw [h2] at c0 c1 c6 c7 c10 c13 c15
 refine ⟨adr (F 15), adr (F 0), adr (F 1), adr (F 6), adr (F 7), adr (F 10), adr (F 13), f16.trans b15, ?_, ?_, c6, c10, c13, c7, ?_, rfl, ?_, fun i j hi hj _ => by omega, fun j c _ e => (by cases e), ⟨ne 0 6 (by omega) (by omega) rfl rfl (by omega), ne 0 10 (by omega) (by omega) rfl rfl (by omega), ne 6 10 (by omega) (by omega) rfl rfl (by omega), ne 7 1 (by omega) (by omega) rfl rfl (by omega)⟩, ⟨a15, a0, a1, a6, a7, a10, a13⟩, h.old⟩
 ·have e : gat48 F = gatC (g + 1) (adr (F 0)) (adr (F 1)) (adr (F 6)) (adr (F 7)) (adr (F 10)) (adr (F 13)) (.slice none 0 0) := by
   unfold gat48 gatC
   rw [f3]
   have e0 : F 0 = .slice (some ⟨adr (F 0), 0, none⟩) 10 10 := b0
   have e1 : F 1 = .map (some (adr (F 1))) := b1
   have e6 : F 6 = .slice (some ⟨adr (F 6), 0, none⟩) (g + 1) (g + 1) := b6
   have e7 : F 7 = .map (some (adr (F 7))) := b7
   have e10 : F 10 = .slice (some ⟨adr (F 10), 0, none⟩) (g + 1) (g + 1) := b10
   have e13 : F 13 = .slice (some ⟨adr (F 13), 0, none⟩) (g + 1) (g + 1) := b13
   rw [← e0, ← e1, ← e6, ← e7, ← e10, ← e13]
  rw [← e]
  exact c15
 ·rw [brArr_one _ rfl]; exact c0
 ·unfold mcm; rw [c1]; rfl
 ·intro j hj
  obtain rfl : j = 0 := by omega
  unfold mget; rw [c1]; rfl
noncomputable def ops48b : Array Oper := match body48 with
 | .seq _ (.seq _ (.seq (.seq _ (.block _ (.loop (.seq (.seq _ (.seq (.block _ (.seq _ (.region _ ops _))) _)) _)))) _)) => ops
 | .seq _ (.seq _ (.seq (.seq _ (.block _ (.loop (.seq _ (.seq (.block _ (.seq _ (.region _ ops _))) _))))) _)) => ops
 | _ => #[]
theorem o48b_12 : ops48b[12]? = some { dst := none, op := Op.mapUpdate 59 (Operand.tmp 34) (Operand.tmp 41) (Operand.tmp 42), type := 0, pos := "l7_bridges.go:49", after := #[{ on := 3, ground := Ground.data }, { on := 10, ground := Ground.data }, { on := 11, ground := Ground.data }, { on := 0, ground := Ground.phase }, { on := 1, ground := Ground.phase }, { on := 2, ground := Ground.phase }, { on := 3, ground := Ground.phase }, { on := 4, ground := Ground.phase }, { on := 5, ground := Ground.phase }, { on := 6, ground := Ground.phase }, { on := 7, ground := Ground.phase }, { on := 8, ground := Ground.phase }, { on := 9, ground := Ground.phase }, { on := 10, ground := Ground.phase }, { on := 11, ground := Ground.phase }], guard := none } := by kernel_rfl
theorem size48b : ops48b.size = 13 := by kernel_rfl
theorem apart48b : ApartB ops48b = true := by kernel_rfl
def F48b (GA B N k c : Nat) (j : Nat) : Value := #[.pointer (some ⟨GA, 0, none⟩), .pointer (some ⟨GA, 0, none⟩), .pointer (some ⟨GA, 1, none⟩), .map (some N), .pointer (some ⟨GA, 0, none⟩), .pointer (some ⟨GA, 0, none⟩), .pointer (some ⟨GA, 0, none⟩), .slice (some ⟨B, 0, none⟩) 10 10, .int .i64 k, .pointer (some ⟨B, k, none⟩), .chan (some c), .int .i64 k, undef].getD j undef
set_option maxRecDepth 100000 in
set_option maxHeartbeats 4000000 in
theorem quiet48b {v : World} {T0 : Array Value} {GA B N k c : Nat} (c0 : v.cell? ⟨GA, 0, none⟩ = some (.slice (some ⟨B, 0, none⟩) 10 10)) (c1 : v.cell? ⟨GA, 1, none⟩ = some (.map (some N))) (cl : v.cell? ⟨B, k, none⟩ = some (.chan (some c))) (hk : k < 10) (hsz : T0.size = 44) (h3 : T0.getD 3 undef = .pointer (some ⟨GA, 0, none⟩)) (h4 : T0.getD 4 undef = .int .i64 k) (j : Nat) (hj : j = 0 ∨ j = 1 ∨ j = 2 ∨ j = 3 ∨ j = 4 ∨ j = 5 ∨ j = 6 ∨ j = 7 ∨ j = 8 ∨ j = 9 ∨ j = 10 ∨ j = 11) : QuietAt Try.prog Sf v ops48b (F48b GA B N k c) T0 j := by
 have hA := apart48b
 rcases hj with rfl | rfl | rfl | rfl | rfl | rfl | rfl | rfl | rfl | rfl | rfl | rfl
 ·refine quiet_of (o := { dst := some 31, op := Op.move (Operand.tmp 3), type := 56, pos := "l7_bridges.go:49", after := #[], guard := none }) (by kernel_rfl) (by kernel_rfl) rfl [] (by kernel_rfl) fun d hd v₁ hx => ?_
  have e3 := (fill_old (ops := ops48b) (F := (F48b GA B N k c)) (T0 := T0) (s := 3) (by kernel_rfl) d []).trans h3
  unfold execOp
  simp only [e3]
  first | (simp only [F48b]; go_simp <;> rfl) | (simp only [F48b]; rfl)
 ·refine quiet_of (o := { dst := some 32, op := Op.nilCheck (Operand.tmp 31), type := 0, pos := "l7_bridges.go:49", after := #[{ on := 0, ground := Ground.data }], guard := none }) (by kernel_rfl) (by kernel_rfl) rfl [0] (by kernel_rfl) fun d hd v₁ hx => ?_
  have e31 := fill_ev (F := (F48b GA B N k c)) (T0 := T0) hA (i := 0) (s := 31) (by kernel_rfl) (by rw [hsz]; decide) (hd 0 (by simp)) []
  unfold execOp
  simp only [e31]
  first | (simp only [F48b]; go_simp <;> rfl) | (simp only [F48b]; rfl)
 ·refine quiet_of (o := { dst := some 33, op := Op.fieldAddr 62 (Operand.tmp 32) 1, type := 0, pos := "l7_bridges.go:49", after := #[{ on := 1, ground := Ground.data }], guard := none }) (by kernel_rfl) (by kernel_rfl) rfl [1] (by kernel_rfl) fun d hd v₁ hx => ?_
  have e32 := fill_ev (F := (F48b GA B N k c)) (T0 := T0) hA (i := 1) (s := 32) (by kernel_rfl) (by rw [hsz]; decide) (hd 1 (by simp)) []
  unfold execOp
  simp only [e32]
  first | (simp only [F48b]; go_simp <;> rfl) | (simp only [F48b]; rfl)
 ·refine quiet_of (o := { dst := some 34, op := Op.load 59 (Operand.tmp 33), type := 59, pos := "l7_bridges.go:49", after := #[{ on := 2, ground := Ground.data }], guard := none }) (by kernel_rfl) (by kernel_rfl) rfl [2] (by kernel_rfl) fun d hd v₁ hx => ?_
  have e33 := fill_ev (F := (F48b GA B N k c)) (T0 := T0) hA (i := 2) (s := 33) (by kernel_rfl) (by rw [hsz]; decide) (hd 2 (by simp)) []
  have hc0 := cell_up hx c1
  unfold execOp
  simp only [e33]
  first | (simp only [F48b]; go_simp <;> rfl) | (simp only [F48b]; rfl)
 ·refine quiet_of (o := { dst := some 35, op := Op.move (Operand.tmp 3), type := 56, pos := "l7_bridges.go:49", after := #[], guard := none }) (by kernel_rfl) (by kernel_rfl) rfl [] (by kernel_rfl) fun d hd v₁ hx => ?_
  have e3 := (fill_old (ops := ops48b) (F := (F48b GA B N k c)) (T0 := T0) (s := 3) (by kernel_rfl) d []).trans h3
  unfold execOp
  simp only [e3]
  first | (simp only [F48b]; go_simp <;> rfl) | (simp only [F48b]; rfl)
 ·refine quiet_of (o := { dst := some 36, op := Op.nilCheck (Operand.tmp 35), type := 0, pos := "l7_bridges.go:49", after := #[{ on := 4, ground := Ground.data }], guard := none }) (by kernel_rfl) (by kernel_rfl) rfl [4] (by kernel_rfl) fun d hd v₁ hx => ?_
  have e35 := fill_ev (F := (F48b GA B N k c)) (T0 := T0) hA (i := 4) (s := 35) (by kernel_rfl) (by rw [hsz]; decide) (hd 4 (by simp)) []
  unfold execOp
  simp only [e35]
  first | (simp only [F48b]; go_simp <;> rfl) | (simp only [F48b]; rfl)
 ·refine quiet_of (o := { dst := some 37, op := Op.fieldAddr 62 (Operand.tmp 36) 0, type := 0, pos := "l7_bridges.go:49", after := #[{ on := 5, ground := Ground.data }], guard := none }) (by kernel_rfl) (by kernel_rfl) rfl [5] (by kernel_rfl) fun d hd v₁ hx => ?_
  have e36 := fill_ev (F := (F48b GA B N k c)) (T0 := T0) hA (i := 5) (s := 36) (by kernel_rfl) (by rw [hsz]; decide) (hd 5 (by simp)) []
  unfold execOp
  simp only [e36]
  first | (simp only [F48b]; go_simp <;> rfl) | (simp only [F48b]; rfl)
 ·refine quiet_of (o := { dst := some 38, op := Op.load 58 (Operand.tmp 37), type := 58, pos := "l7_bridges.go:49", after := #[{ on := 6, ground := Ground.data }], guard := none }) (by kernel_rfl) (by kernel_rfl) rfl [6] (by kernel_rfl) fun d hd v₁ hx => ?_
  have e37 := fill_ev (F := (F48b GA B N k c)) (T0 := T0) hA (i := 6) (s := 37) (by kernel_rfl) (by rw [hsz]; decide) (hd 6 (by simp)) []
  have hc0 := cell_up hx c0
  unfold execOp
  simp only [e37]
  first | (simp only [F48b]; go_simp <;> rfl) | (simp only [F48b]; rfl)
 ·refine quiet_of (o := { dst := some 39, op := Op.move (Operand.tmp 4), type := 3, pos := "l7_bridges.go:49", after := #[], guard := none }) (by kernel_rfl) (by kernel_rfl) rfl [] (by kernel_rfl) fun d hd v₁ hx => ?_
  have e4 := (fill_old (ops := ops48b) (F := (F48b GA B N k c)) (T0 := T0) (s := 4) (by kernel_rfl) d []).trans h4
  unfold execOp
  simp only [e4]
  first | (simp only [F48b]; go_simp <;> rfl) | (simp only [F48b]; rfl)
 ·refine quiet_of (o := { dst := some 40, op := Op.indexAddr 58 (Operand.tmp 38) (Operand.tmp 39), type := 0, pos := "l7_bridges.go:49", after := #[{ on := 7, ground := Ground.data }, { on := 8, ground := Ground.data }], guard := none }) (by kernel_rfl) (by kernel_rfl) rfl [7, 8] (by kernel_rfl) fun d hd v₁ hx => ?_
  have e38 := fill_ev (F := (F48b GA B N k c)) (T0 := T0) hA (i := 7) (s := 38) (by kernel_rfl) (by rw [hsz]; decide) (hd 7 (by simp)) []
  have e39 := fill_ev (F := (F48b GA B N k c)) (T0 := T0) hA (i := 8) (s := 39) (by kernel_rfl) (by rw [hsz]; decide) (hd 8 (by simp)) []
  have hk' : (k : Int) < 10 := by omega
  unfold execOp
  simp only [e38, e39]
  first | (simp only [F48b]; go_simp <;> rfl) | (simp only [F48b]; rfl)
 ·refine quiet_of (o := { dst := some 41, op := Op.load 68 (Operand.tmp 40), type := 68, pos := "l7_bridges.go:49", after := #[{ on := 9, ground := Ground.data }], guard := none }) (by kernel_rfl) (by kernel_rfl) rfl [9] (by kernel_rfl) fun d hd v₁ hx => ?_
  have e40 := fill_ev (F := (F48b GA B N k c)) (T0 := T0) hA (i := 9) (s := 40) (by kernel_rfl) (by rw [hsz]; decide) (hd 9 (by simp)) []
  have hc0 := cell_up hx cl
  unfold execOp
  simp only [e40]
  first | (simp only [F48b]; go_simp <;> rfl) | (simp only [F48b]; rfl)
 ·refine quiet_of (o := { dst := some 42, op := Op.move (Operand.tmp 4), type := 3, pos := "l7_bridges.go:49", after := #[], guard := none }) (by kernel_rfl) (by kernel_rfl) rfl [] (by kernel_rfl) fun d hd v₁ hx => ?_
  have e4 := (fill_old (ops := ops48b) (F := (F48b GA B N k c)) (T0 := T0) (s := 4) (by kernel_rfl) d []).trans h4
  unfold execOp
  simp only [e4]
  first | (simp only [F48b]; go_simp <;> rfl) | (simp only [F48b]; rfl)
theorem PartG.heap {w0 w w' : World} {n GA B N On Gm Ow H k : Nat} {ch : Nat → Option Nat} (h : PartG w0 w n GA B N On Gm Ow H k ch) (e : w'.heap = w.heap) : PartG w0 w' n GA B N On Gm Ow H k ch := by
 have eb : ∀ q : Nat, w'.heap[q]? = w.heap[q]? := fun q => by rw [e]
 exact ⟨(eb _).trans h.hS, (eb _).trans h.hB, (eb _).trans h.hOn, (eb _).trans h.hOw, (eb _).trans h.hH, (eb _).trans h.hGm, (mcm_of_block (eb _)).trans h.hcm, h.h0, fun j hj => (mget_of_block (eb _)).trans (h.hget j hj), h.inj, fun j c hj hc => by rw [e]; exact h.lt j c hj hc, h.ne, h.lo, ⟨by rw [e]; exact h.old.size, fun q hq => (eb q).trans (h.old.get q hq)⟩⟩
theorem mput_heap_eq {w w' : World} (e : w'.heap = w.heap) (b : Nat) (r : Option Nat) (x : Value) : (mput w' b r x).heap = (mput w b r x).heap := by
 unfold mput
 rw [e]
 split
 ·simp [setBlock, e]
 ·exact e
noncomputable def L48 : Code := match R48 with | .seq (.seq _ (.block _ (.loop c))) _ => c | _ => .skip
noncomputable def E48 : Code := match R48 with | .seq _ c => c | _ => .skip
section
variable {main st : Bool} {Live : World → Prop} {K : Goroutine → World → Prop} {w0 : World} {n GA B N On Gm Ow H : Nat}
set_option maxRecDepth 100000 in
set_option maxHeartbeats 1000000 in
theorem new_loop (hK : KOk Try.prog main false false Live K) {cs : List Frame}
  (h : ∀ v ch T, Flat Try.prog v → PartG w0 v n GA B N On Gm Ow H 10 ch → T.size = 44 → T.getD 3 undef = .pointer (some ⟨GA, 0, none⟩) → KA K (G ((Conc.base 48).at ⟨T, []⟩ [.code E48]) cs) v) :
  ∀ (m k : Nat), k + m = 10 → 1 ≤ k → ∀ v ch T, Flat Try.prog v → PartG w0 v n GA B N On Gm Ow H k ch → T.size = 44 → T.getD 3 undef = .pointer (some ⟨GA, 0, none⟩) → T.getD 4 undef = .int .i64 k →
   KA K (G ((Conc.base 48).at ⟨T, []⟩ [.code L48, .inLoop L48, .inBlock 0, .code E48]) cs) v := by
 intro m
 induction m with
 | zero =>
  intro k hk _ v ch T hF hP hz h3 h4
  obtain rfl : k = 10 := by omega
  obtain ⟨x0, x1, x2, x3, x4, x5, x6, x7, x8, x9, x10, x11, x12, x13, x14, x15, x16, x17, x18, x19, x20, x21, x22, x23, x24, x25, x26, x27, x28, x29, x30, x31, x32, x33, x34, x35, x36, x37, x38, x39, x40, x41, x42, x43, rfl⟩ := arr44 hz
  obtain rfl : x3 = .pointer (some ⟨GA, 0, none⟩) := h3
  obtain rfl : x4 = .int .i64 (10 : Nat) := h4
  have hfin := h v ch
  simp only [L48, E48, R48, body48, Try.f48, Option.getD_some] at hfin ⊢
  refine kSeq hK hF (kSeq hK hF (kRegion hK hF ?_))
  refine kOp closedS.bodies hK hF (val := .int .i64 (10 : Nat)) (by k_ne) rfl rfl (by kernel_rfl) (fun v₁ hv => by go_simp <;> rfl) ?_
  walk_nrm
  refine kOp closedS.bodies hK hF (val := .bool false) (by k_ne) rfl rfl (by kernel_rfl) (fun v₁ hv => by go_simp <;> rfl) ?_
  walk_nrm
  refine kRegEnd hK hF (kCond hK hF (t := false) (by rfl) ?_)
  simp only [Bool.false_eq_true, if_false]
  refine kExit hK hF (k' := _) (by rfl) ?_
  exact hfin _ hF hP rfl rfl
 | succ m ih =>
  intro k hk hk1 v ch T hF hP hz h3 h4
  have hk10 : k < 10 := by omega
  have ih' := fun ch' v' T' => ih (k + 1) (by omega) (by omega) v' ch' T'
  obtain ⟨x0, x1, x2, x3, x4, x5, x6, x7, x8, x9, x10, x11, x12, x13, x14, x15, x16, x17, x18, x19, x20, x21, x22, x23, x24, x25, x26, x27, x28, x29, x30, x31, x32, x33, x34, x35, x36, x37, x38, x39, x40, x41, x42, x43, rfl⟩ := arr44 hz
  obtain rfl : x3 = .pointer (some ⟨GA, 0, none⟩) := h3
  obtain rfl : x4 = .int .i64 k := h4
  clear h hz
  have hle : (k : Int) ≤ 9 := by omega
  simp only [L48, E48, R48, body48, Try.f48, Option.getD_some] at ih' ⊢
  refine kSeq hK hF (kSeq hK hF (kRegion hK hF ?_))
  refine kOp closedS.bodies hK hF (val := .int .i64 k) (by k_ne) rfl rfl (by kernel_rfl) (fun v₁ hv => by go_simp <;> rfl) ?_
  walk_nrm
  refine kOp closedS.bodies hK hF (val := .bool true) (by k_ne) rfl rfl (by kernel_rfl) (fun v₁ hv => by go_simp; try simp [hle]) ?_
  walk_nrm
  refine kRegEnd hK hF (kCond hK hF (t := true) (by rfl) ?_)
  simp only [if_true]
  refine kSkip hK hF (kSeq hK hF (kBlock hK hF (kSeq hK hF ?_)))
  refine kLift closedS hK hF (by kernel_rfl) (by k_ne) fun t1 => ?_
  obtain ⟨i3, hi3, _, _, hi3b⟩ := info_parts int_info'
  have hmc : ∀ W : World, (Instr.makeChan 68 (.int .i64 0)).run Try.prog W = .ok (.chan (some W.heap.size)) (W.alloc (.chan 0 #[] false 0 0 false)) := fun W => Conc.run_makeChan (P := Try.prog) (w := W) Try.underlying68 hi3 .i64 0 (by omega) (by omega)
  clear hi3 hi3b
  have c0 : (v.re t1 0).cell? ⟨GA, 0, none⟩ = some (.slice (some ⟨B, 0, none⟩) 10 10) := hP.hS.cell 0
  have f0 : (v.re t1 0).frozen? ⟨B, k, none⟩ = false := hP.hB.frozen k
  have cl0 := (hP.hB.cell k).trans (brArr_get ch k k hk10)
  rw [if_neg (by omega)] at cl0
  have cl : (v.re t1 0).cell? ⟨B, k, none⟩ = some (.chan none) := cl0
  have ll : B < (v.re t1 0).heap.size := hP.hB.lt
  have sl : GA < (v.re t1 0).heap.size := hP.hS.lt
  have hnext := hP.next hk1 hk10 (.chan 0 #[] false 0 0 false)
  have hBs := hP.hB.set_ k (.chan (some v.heap.size))
  have hSL : GA ≠ B := hP.hS.ne_ hP.hB (by decide)
  have hSs := hP.hS.far (p := ⟨B, k, none⟩) hSL (.chan (some v.heap.size))
  have hcm0 : mcm (v.setCell ⟨B, k, none⟩ (.chan (some v.heap.size))) N = true := (mcm_setCell _ _).trans hP.hcm
  have Hn := Lib.hid hnext
  have Hs := Lib.hid (And.intro hBs (And.intro hSs hcm0))
  have HF := Lib.hid hF
  clear hP hnext hF hcm0 cl0 hBs hSs ih
  generalize hQ : Behind _ _ _ _ _ = Q
  go_region
  go_wp2
  subst hQ
  refine fun hF1 _ => ?_
  have hF := HF.out
  obtain ⟨hBs, hSs, hcm0⟩ := Hs.out
  obtain ⟨w1, hw1⟩ : ∃ w1, w1 = (((v.re t1 0).setCell ⟨B, k, none⟩ (.chan (some (v.re t1 0).heap.size))).alloc (Obj.chan 0 #[] false 0 0 false)).drew := ⟨_, rfl⟩
  rw [← hw1] at hF1 ⊢
  have hh : w1.heap = ((v.setCell ⟨B, k, none⟩ (.chan (some v.heap.size))).alloc (Obj.chan 0 #[] false 0 0 false)).drew.drew.heap := by rw [hw1]; rfl
  have e1 : ∀ q : Nat, w1.heap[q]? = ((v.setCell ⟨B, k, none⟩ (.chan (some v.heap.size))).alloc (Obj.chan 0 #[] false 0 0 false)).heap[q]? := fun q => by rw [hh]; rfl
  have hB1 : Blk w1 B 68 ((brArr ch k).setIfInBounds k (.chan (some v.heap.size))) := (e1 B).trans (hBs.alloc _)
  have hS1 : Blk w1 GA 62 (gatC n B N On Gm Ow H (.slice none 0 0)) := (e1 GA).trans (hSs.alloc _)
  have hcm1 : mcm w1 N = true := (mcm_of_block (w := (v.setCell ⟨B, k, none⟩ (.chan (some v.heap.size))).alloc (Obj.chan 0 #[] false 0 0 false)) (e1 N)).trans (mcm_alloc hcm0 _)
  have hPn : PartG w0 (mput w1 N (some v.heap.size) (.int .i64 k)) n GA B N On Gm Ow H (k + 1) (upd ch k (some v.heap.size)) := Hn.out.heap (mput_heap_eq hh N _ _)
  have d0 : w1.cell? ⟨GA, 0, none⟩ = some (.slice (some ⟨B, 0, none⟩) 10 10) := hS1.cell 0
  have d1 : w1.cell? ⟨GA, 1, none⟩ = some (.map (some N)) := hS1.cell 1
  have dl : w1.cell? ⟨B, k, none⟩ = some (.chan (some v.heap.size)) := (hB1.cell k).trans (by rw [brArr_set ch k _ hk10, brArr_get _ _ k hk10, if_pos (by omega), upd_same])
  clear hw1 hh e1 hB1 hS1 Hn hBs hSs hcm0 Hs HF c0 f0 cl ll sl
  simp only [re_heap']
  generalize hcc : v.heap.size = c at hPn dl ⊢
  refine kT fun T5 hT5 => ?_
  have z5 : T5.size = 44 := by rw [hT5]; rfl
  have g3 : T5.getD 3 undef = .pointer (some ⟨GA, 0, none⟩) := by rw [hT5]; rfl
  have g4 : T5.getD 4 undef = .int .i64 k := by rw [hT5]; rfl
  clear hT5
  refine kLast (F := F48b GA B N k c) (ops := ops48b) closedS.bodies (by kernel_rfl) hK hF1 (by k_ne) (by kernel_rfl) size48b (by kernel_rfl) (fun j hj => quiet48b d0 d1 dl hk10 z5 g3 g4 j (by omega)) fun d hd hnd => ?_
  have e34 := fill_ev (F := F48b GA B N k c) (T0 := T5) apart48b (i := 3) (s := 34) (by kernel_rfl) (by omega) (hd 3 (by omega)) []
  have e41 := fill_ev (F := F48b GA B N k c) (T0 := T5) apart48b (i := 10) (s := 41) (by kernel_rfl) (by omega) (hd 10 (by omega)) []
  have e42 := fill_ev (F := F48b GA B N k c) (T0 := T5) apart48b (i := 11) (s := 42) (by kernel_rfl) (by omega) (hd 11 (by omega)) []
  have e3 := fill_old (ops := ops48b) (F := F48b GA B N k c) (T0 := T5) (s := 3) (by kernel_rfl) d []
  have e4 := fill_old (ops := ops48b) (F := F48b GA B N k c) (T0 := T5) (s := 4) (by kernel_rfl) d []
  have ez := fillT_size (ops := ops48b) (F := F48b GA B N k c) (T0 := T5) d
  generalize fillT ops48b (F48b GA B N k c) T5 d = T at e34 e41 e42 e3 e4 ez ⊢
  refine kOpX closedS.bodies hK hF1 (by k_ne) o48b_12 rfl (by kernel_rfl) fun nn hn hz t e => ⟨.skip, undef, (mput w1 N (some c) (.int .i64 k)).re t e, .inr ⟨rfl, rfl⟩, ?_, (fun h => by cases h), fun hF' _ => ?_⟩
  ·have hn' := hz rfl
   subst hn'
   rw [upto_le (v := w1) (Nat.le_refl _)]
   have hm : mcm (w1.re t e) N = true := hcm1
   have hu := upd_num hm (some c) (.int .i64 k)
   have hw' : mput (w1.re t e) N (some c) (.int .i64 k) = (mput w1 N (some c) (.int .i64 k)).re t e := by
    unfold mput
    rw [re_heap']
    split <;> rfl
   rw [hw'] at hu
   unfold execOp
   simp only [e34, e41, e42]
   simp only [F48b]
   go_simp <;> rfl
  ·have hF2 : Flat Try.prog (mput w1 N (some c) (.int .i64 k)) := ⟨hF'.room, hF'.obj, hF'.low⟩
   refine KA.re ?_
   have ez' : T.size = 44 := ez.trans z5
   obtain ⟨y0, y1, y2, y3, y4, y5, y6, y7, y8, y9, y10, y11, y12, y13, y14, y15, y16, y17, y18, y19, y20, y21, y22, y23, y24, y25, y26, y27, y28, y29, y30, y31, y32, y33, y34, y35, y36, y37, y38, y39, y40, y41, y42, y43, rfl⟩ := arr44 ez'
   obtain rfl : y3 = .pointer (some ⟨GA, 0, none⟩) := e3.trans g3
   obtain rfl : y4 = .int .i64 k := e4.trans g4
   clear e34 e41 e42 e3 e4 ez ez'
   have hi64 : IntKind.i64.wrap ((k : Int) + 1) = ((k + 1 : Nat) : Int) := by rw [IntKind.wrap_i64]; omega
   show KA K (G ((Conc.base 48).at ⟨_, []⟩ (.inRegion ops48b [] :: _)) cs) _
   refine kRegEnd hK hF2 (kInBlock hK hF2 (kRegion hK hF2 ?_))
   refine kOp closedS.bodies hK hF2 (val := .int .i64 k) (by k_ne) rfl rfl (by kernel_rfl) (fun v₁ hv => by go_simp <;> rfl) ?_
   walk_nrm
   refine kOp closedS.bodies hK hF2 (val := .int .i64 ((k + 1 : Nat) : Int)) (by k_ne) rfl rfl (by kernel_rfl) (fun v₁ hv => by go_simp; try simp [hi64]) ?_
   walk_nrm
   refine kOp closedS.bodies hK hF2 (val := .int .i64 ((k + 1 : Nat) : Int)) (by k_ne) rfl rfl (by kernel_rfl) (fun v₁ hv => by go_simp <;> rfl) ?_
   walk_nrm
   refine kRegEnd hK hF2 (kInLoop hK hF2 ?_)
   exact ih' _ _ _ hF2 hPn rfl rfl rfl
set_option maxRecDepth 100000 in
set_option maxHeartbeats 1000000 in
/-- ████ newGathering ████ -/
theorem new_call (hK : KOk Try.prog main false false Live K) {g : Nat} {b : Frame} {a : Act} {ks : List Item} {cs : List Frame} {ops : Array Oper} {i : Nat} {rest : List Nat} {o : Oper} {x : Operand} {ats : Array TypeId}
  (ho : ops[i]? = some o) (hw : Region.wanted o (yielded ops a.tmps) = true) (hk : b.kind ≠ .early) (hop : o.op = .call { callee := .value (.func 48), args := #[x], argTypes := ats })
  (hx : a.eval x = .int .i64 g) (hg : g ≤ 900) (hF : Flat Try.prog w0)
  (h : ∀ v GA B N On Gm Ow H ch, Flat Try.prog v → PartG w0 v (g + 1) GA B N On Gm Ow H 10 ch → KA K (G (b.at (a.put o.dst (.pointer (some ⟨GA, 0, none⟩))) (.inRegion ops rest :: ks)) cs) v) :
  KA K (G (b.at a (.inRegion ops (i :: rest) :: ks)) cs) w0 := by
 have hdst : (ops[i]?).bind (·.dst) = o.dst := by rw [ho]; rfl
 refine kCall hK hF ho hw hk hop Try.func48 (by kernel_rfl) rfl ?_
 simp only [List.map_toArray, List.map_cons, List.map_nil, hx]
 walk_nrmf Try.f48
 have hreg := fun k => reg48 (main := main) (b := Conc.base 48) (k := k) (cs := b.at a (.inRegion ops (i :: rest) :: ks) :: cs) (T0 := #[.int .i64 g, undef, .pointer none, undef, undef, undef, undef, undef, undef, undef, undef, undef, undef, undef, undef, undef, undef, undef, undef, undef, undef, undef, undef, undef, undef, undef, undef, undef, undef, undef, undef, undef, undef, undef, undef, undef, undef, undef, undef, undef, undef, undef, undef, undef]) hK (by k_ne) (by rfl) (by rfl) hg hF
 refine kSeq hK hF (kRegion hK hF ?_)
 refine kOp closedS.bodies hK hF (val := .pointer none) (by k_ne) rfl rfl (by kernel_rfl) (fun v₁ hv => by go_simp) ?_
 walk_nrm
 refine kRegEnd hK hF (kSeq hK hF (hreg _ ?_))
 intro d F v hLay hd hF1
 obtain ⟨GA, B, N, On, Gm, Ow, H, h16, hP⟩ := hLay.part hd
 have hA : ApartB ops48 = true := by kernel_rfl
 have t3 := fill_ev (F := F) (T0 := #[.int .i64 g, undef, .pointer none, undef, undef, undef, undef, undef, undef, undef, undef, undef, undef, undef, undef, undef, undef, undef, undef, undef, undef, undef, undef, undef, undef, undef, undef, undef, undef, undef, undef, undef, undef, undef, undef, undef, undef, undef, undef, undef, undef, undef, undef, undef]) hA (i := 16) (s := 3) (by kernel_rfl) (by decide : 3 < 44) (hd 16 (by omega)) []
 have tz : (fillT ops48 F #[.int .i64 g, undef, .pointer none, undef, undef, undef, undef, undef, undef, undef, undef, undef, undef, undef, undef, undef, undef, undef, undef, undef, undef, undef, undef, undef, undef, undef, undef, undef, undef, undef, undef, undef, undef, undef, undef, undef, undef, undef, undef, undef, undef, undef, undef, undef] d).size = 44 := fillT_size (ops := ops48) (F := F) (T0 := #[.int .i64 g, undef, .pointer none, undef, undef, undef, undef, undef, undef, undef, undef, undef, undef, undef, undef, undef, undef, undef, undef, undef, undef, undef, undef, undef, undef, undef, undef, undef, undef, undef, undef, undef, undef, undef, undef, undef, undef, undef, undef, undef, undef, undef, undef, undef]) d
 refine kT fun T hT => ?_
 rw [← hT] at t3 tz
 clear hT hreg
 obtain ⟨x0, x1, x2, x3, x4, x5, x6, x7, x8, x9, x10, x11, x12, x13, x14, x15, x16, x17, x18, x19, x20, x21, x22, x23, x24, x25, x26, x27, x28, x29, x30, x31, x32, x33, x34, x35, x36, x37, x38, x39, x40, x41, x42, x43, rfl⟩ := arr44 tz
 obtain rfl : x3 = .pointer (some ⟨GA, 0, none⟩) := t3.trans h16
 clear t3 tz
 have hlp := new_loop (H := H) (GA := GA) (n := g + 1) (w0 := w0) (B := B) (N := N) (On := On) (Gm := Gm) (Ow := Ow) hK (cs := b.at a (.inRegion ops (i :: rest) :: ks) :: cs) (fun v ch T hF hP hz h3 => ?_) 9 1 (by omega) (by omega) v (fun _ => none)
 ·have hlp' := fun T => hlp T hF1 hP
  simp only [L48, E48, R48, body48, Try.f48, Option.getD_some] at hlp'
  refine kRegEnd hK hF1 (kSeq hK hF1 (kSeq hK hF1 (kRegion hK hF1 ?_)))
  refine kOp closedS.bodies hK hF1 (val := .int .i64 (1 : Nat)) (by k_ne) rfl rfl (by kernel_rfl) (fun v₁ hv => by go_simp <;> rfl) ?_
  walk_nrm
  refine kRegEnd hK hF1 (kBlock hK hF1 (kLoop hK hF1 ?_))
  exact hlp' _ rfl rfl rfl
 ·obtain ⟨y0, y1, y2, y3, y4, y5, y6, y7, y8, y9, y10, y11, y12, y13, y14, y15, y16, y17, y18, y19, y20, y21, y22, y23, y24, y25, y26, y27, y28, y29, y30, y31, y32, y33, y34, y35, y36, y37, y38, y39, y40, y41, y42, y43, rfl⟩ := arr44 hz
  obtain rfl : y3 = .pointer (some ⟨GA, 0, none⟩) := h3
  simp only [E48, R48, body48, Try.f48, Option.getD_some]
  refine kSeq hK hF (kRegion hK hF ?_)
  refine kOp closedS.bodies hK hF (val := .pointer (some ⟨GA, 0, none⟩)) (by k_ne) rfl rfl (by kernel_rfl) (fun v₁ hv => by go_simp <;> rfl) ?_
  walk_nrm
  refine kOp closedS.bodies hK hF (val := .pointer (some ⟨GA, 0, none⟩)) (by k_ne) rfl rfl (by kernel_rfl) (fun v₁ hv => by go_simp <;> rfl) ?_
  walk_nrm
  refine kRegEnd hK hF (kRet hK hF ?_)
  refine kLeave1 hK hF rfl rfl Try.func48 rfl ?_
  rw [hdst]
  exact h _ _ _ _ _ _ _ _ _ hF hP
end
end Go.Proofs.Ythmgpkcijolljaa
