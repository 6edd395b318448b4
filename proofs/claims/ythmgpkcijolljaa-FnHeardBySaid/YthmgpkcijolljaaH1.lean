/-
  Words on memory and small lemmas that all texts of this seat use.
-/
import Derived.Test.YthmgpkcijolljaaProg
import Derived.WalkKit
import Derived.ProofKit
import Derived.WalkSpells
import Derived.WalkLawsBesides
import Derived.Below
import Derived.Laws.OwnMore
import Derived.Deep.AppendLies
import Derived.Deep.Draws
import Derived.Deep.QuietTactic
import Derived.BigQuiet
import Derived.Deep.LoopGhost
import Derived.Lib.Hide
import Derived.Handy
import Derived.Maps.AppendAt
import Derived.RegionTactic
import Derived.OwnWalk
namespace Go.Proofs.Ythmgpkcijolljaa
open Go.RowKit
theorem block_of_add (a : Addr) (n : Nat) : (a.add n).block = a.block := by unfold Addr.add; split <;> rfl
theorem add_of_add (a : Addr) (i j : Nat) : (a.add i).add j = a.add (i + j) := by
 unfold Addr.add
 by_cases hi : i = 0 <;> by_cases hj : j = 0 <;> simp [hi, hj, Nat.add_assoc]
/-- The slice value '.slice A n c' holds the cells xs and lies below block B. -/
def Reads (w : World) (B size : Nat) (A : Option Addr) (n : Nat) (xs : List Value) : Prop :=
 xs.length = n * size ∧ (0 < n → ∃ ad, A = some ad ∧ ad.block < B ∧ ∀ j u, xs[j]? = some u → w.cell? (ad.add j) = some u)
section
variable {w w' : World} {B B' size n : Nat} {A : Option Addr} {xs : List Value}
theorem Reads.none_ : Reads w B size A 0 [] := ⟨by simp, fun h => absurd h (by omega)⟩
theorem Reads.at_ {k : Nat} (h : Reads w B 1 A n xs) (hk : k < n) : ∃ ad u, A = some ad ∧ ad.block < B ∧ xs[k]? = some u ∧ w.cell? (ad.add k) = some u := by
 obtain ⟨ad, e, hb, hc⟩ := h.2 (by omega)
 have hl : k < xs.length := by have := h.1; omega
 exact ⟨ad, xs[k], e, hb, List.getElem?_eq_getElem hl, hc k _ (List.getElem?_eq_getElem hl)⟩
theorem Reads.keep (h : Reads w B size A n xs) (hk : ∀ p : Addr, p.block < B → w'.cell? p = w.cell? p) : Reads w' B size A n xs :=
 ⟨h.1, fun hn => by
  obtain ⟨ad, e, hb, hc⟩ := h.2 hn
  exact ⟨ad, e, hb, fun j u hu => (hk _ (by rw [block_of_add]; exact hb)).trans (hc j u hu)⟩⟩
theorem Reads.more (h : Reads w B size A n xs) (hB : B ≤ B') : Reads w B' size A n xs :=
 ⟨h.1, fun hn => by
  obtain ⟨ad, e, hb, hc⟩ := h.2 hn
  exact ⟨ad, e, by omega, hc⟩⟩
theorem Reads.below (h : Reads w B size A n xs) (hb : Below B w w') : Reads w' B size A n xs := h.keep fun _ hp => hb.cell hp
theorem Reads.drew (h : Reads w B size A n xs) : Reads w.drew B size A n xs := h
theorem Reads.drewN (h : Reads w B size A n xs) (k : Nat) : Reads (w.drewN k) B size A n xs := h
theorem Reads.alloc (h : Reads w B size A n xs) (hB : B ≤ w.heap.size) (o : Obj) : Reads (w.alloc o) B size A n xs := h.keep fun p hp => World.cell?_alloc_lt w o p (by omega)
theorem Reads.setCell (h : Reads w B size A n xs) {p : Addr} (hB : B ≤ p.block) (u : Value) : Reads (w.setCell p u) B size A n xs :=
 h.keep fun q hq => World.cell?_setCell_other w p q u (fun e => by subst e; omega)
theorem Reads.grown (h : Reads w B size A n xs) {row : Option Nat} (hg : w.grownBy w' row) (hB : B ≤ w.heap.size) (hr : ∀ g, row = some g → B ≤ g) : Reads w' B size A n xs :=
 h.keep fun p hp => World.cell?_of_block (hg.block p.block (by omega) (fun e => by have := hr _ e.symm; omega))
theorem Reads.cut (h : Reads w B size A n xs) {k cap : Nat} (hk : k ≤ n) (hc : n ≤ cap) :
  Reads w B size (if cap = k then A else A.map (·.add (k * size))) (n - k) (xs.drop (k * size)) := by
 refine ⟨by rw [List.length_drop, h.1, Nat.sub_mul], fun hn => ?_⟩
 obtain ⟨ad, rfl, hb, hcell⟩ := h.2 (by omega)
 rw [if_neg (by omega)]
 refine ⟨ad.add (k * size), rfl, by rw [block_of_add]; exact hb, fun j u hu => ?_⟩
 rw [add_of_add]
 exact hcell _ u (by rw [← hu, List.getElem?_drop])
theorem Reads.of_own {base : Nat} {e : TypeId} {c : Nat} (h : w.ownsRow base e size (.slice A n c) n xs) : Reads w w.heap.size size A n xs := by
 refine ⟨h.1, fun hn => ?_⟩
 obtain ⟨g, cap, hv, _, hlt⟩ := h.form hn
 have hA : A = some ⟨g, 0, none⟩ := by injection hv
 subst hA
 exact ⟨_, rfl, hlt, h.cells (g := g) rfl⟩
end
/-- Block g is just the cells cs of element type t, none frozen. -/
def Blk (w : World) (g : Nat) (t : TypeId) (cs : Array Value) : Prop := w.heap[g]? = some (.cells cs t (0, 0))
section
variable {w w' : World} {g : Nat} {t : TypeId} {cs : Array Value}
theorem Blk.lt (h : Blk w g t cs) : g < w.heap.size := by
 rcases Nat.lt_or_ge g w.heap.size with hlt | hge
 ·exact hlt
 ·unfold Blk at h; rw [Array.getElem?_eq_none hge] at h; cases h
theorem Blk.cell (h : Blk w g t cs) (i : Nat) : w.cell? ⟨g, i, none⟩ = cs[i]? := cell_of_row w g i cs t (0, 0) h
theorem Blk.frozen (h : Blk w g t cs) (i : Nat) : w.frozen? ⟨g, i, none⟩ = false := by
 unfold Blk at h
 simp [World.frozen?, h]
theorem Blk.new (w : World) (t : TypeId) (cs : Array Value) : Blk (w.alloc (.cells cs t)) w.heap.size t cs := heap_alloc_new w _
theorem Blk.new_at {g : Nat} (w : World) (t : TypeId) (cs : Array Value) (h : g = w.heap.size) : Blk (w.alloc (.cells cs t)) g t cs := by
 subst h
 exact heap_alloc_new w _
theorem Blk.drew (h : Blk w g t cs) : Blk w.drew g t cs := h
theorem Blk.drewN (h : Blk w g t cs) (n : Nat) : Blk (w.drewN n) g t cs := h
theorem Blk.alloc (h : Blk w g t cs) (o : Obj) : Blk (w.alloc o) g t cs := (Below.heap_alloc w o g h.lt).trans h
theorem Blk.set_ (h : Blk w g t cs) (i : Nat) (u : Value) : Blk (w.setCell ⟨g, i, none⟩ u) g t (cs.setIfInBounds i u) := by
 unfold Blk at h ⊢
 simp [World.setCell, Array.getElem?_modify, h]
theorem Blk.far (h : Blk w g t cs) {p : Addr} (hp : g ≠ p.block) (u : Value) : Blk (w.setCell p u) g t cs := (Below.heap_setCell w p u g hp).trans h
theorem Blk.below {B : Nat} (h : Blk w g t cs) (hb : Below B w w') (hg : g < B) : Blk w' g t cs := (hb.block g hg).trans h
theorem Blk.grown {row : Option Nat} (h : Blk w g t cs) (hb : w.grownBy w' row) (hg : some g ≠ row) : Blk w' g t cs := (hb.block g h.lt hg).trans h
theorem Blk.ne_ {g' : Nat} {t' : TypeId} {cs' : Array Value} (h : Blk w g t cs) (h' : Blk w g' t' cs') (hne : t ≠ t') : g ≠ g' := by
 rintro rfl
 unfold Blk at h h'
 rw [h] at h'
 injection h' with h'
 injection h' with _ ht
 exact hne ht
theorem own_blk_ne {base : Nat} {e : TypeId} {size n : Nat} {v : Value} {xs : List Value} (h : w.ownsRow base e size v n xs) (hg : Blk w g t cs) (hne : e ≠ t) : v.ownBlock ≠ some g := by
 rcases h.2 with ⟨rfl, _⟩ | ⟨g', cap, cur, rfl, _, hh, _⟩
 ·simp [Value.ownBlock]
 ·intro he
  have : g' = g := by simpa [Value.ownBlock] using he
  subst this
  exact Blk.ne_ (t := e) hh hg hne rfl
theorem Blk.reads (h : Blk w g t cs) {l : List Value} (hl : cs = l.toArray) : Reads w w.heap.size 1 (some ⟨g, 0, none⟩) l.length l := by
 subst hl
 refine ⟨by simp, fun _ => ⟨_, rfl, h.lt, fun j u hu => ?_⟩⟩
 have e : ((⟨g, 0, none⟩ : Addr).add j) = ⟨g, j, none⟩ := by unfold Addr.add; split <;> simp_all
 rw [e, h.cell, ← hu]
 simp
end
theorem below_drewN {B : Nat} {a w : World} (h : Below B a w) (n : Nat) : Below B a (w.drewN n) := ⟨h.os, h.tape, h.output, h.size, h.block⟩
theorem only_setCell_ {a w : World} {g : Nat} (h : a.grownBy w (some g)) (j : Nat) (u : Value) : a.grownBy (w.setCell ⟨g, j, none⟩ u) (some g) :=
 ⟨h.os, h.tape, h.output, by simpa [World.setCell] using h.size, fun i hi hne => (Below.heap_setCell w ⟨g, j, none⟩ u i (by rintro rfl; exact hne rfl)).trans (h.block i hi hne)⟩
/-- make([]T, n), T of one cell -/
theorem run_makeN {P : Program} (t e : TypeId) (i : TypeInfo) (z : Value) (ht : P.underlying t = some (.slice e)) (hi : P.info? e = some i) (hz : i.zero = some z) (hs : i.size = 1) (hzs : z.cells = #[z])
  (hby : i.bytes ≤ 64) (n c : Nat) (hnc : n ≤ c) (hn : c ≤ 4194304) (w : World) :
  (Instr.makeSlice t (.int .i64 (n : Int)) (.int .i64 (c : Int))).run P w = .ok (.slice (some ⟨w.heap.size, 0, none⟩) n c) (w.alloc (.cells (Array.replicate c z) e)) := by
 have hb : (i.bytes : Int) * (c : Int) ≤ 281474976710656 := by
  have h : i.bytes * c ≤ 64 * 4194304 := Nat.mul_le_mul hby hn
  have h2 : ((i.bytes * c : Nat) : Int) ≤ 281474976710656 := by omega
  rwa [Int.natCast_mul] at h2
 have hr := run_make (P := P) w t e i z ht hi hz .i64 .i64 n c (by omega) (by omega) hb (by omega)
 simp only [Int.toNat_natCast] at hr
 rw [hr, hs, hzs]
 congr 3
 apply Array.ext
 ·simp [madeCells]
 ·intro j h1 h2
  simp [madeCells, Nat.mod_one]
/-- A list of ints as cells. -/
def ints (l : List Int) : List Value := l.map (Value.int .i64)
@[simp] theorem ints_length (l : List Int) : (ints l).length = l.length := by simp [ints]
/-- A slice of ints that reads as l. -/
def RI (w : World) (B : Nat) (A : Option Addr) (l : List Int) : Prop := Reads w B 1 A l.length (ints l)
section
variable {w w' : World} {B B' : Nat} {A : Option Addr} {l : List Int}
theorem RI.at_ (h : RI w B A l) {k : Nat} (hk : k < l.length) : ∃ ad, A = some ad ∧ ad.block < B ∧ w.cell? (ad.add k) = some (.int .i64 l[k]) := by
 obtain ⟨ad, u, e, hb, hx, hc⟩ := Reads.at_ h hk
 refine ⟨ad, e, hb, ?_⟩
 rw [hc, ← hx]
 simp [ints, List.getElem?_eq_getElem hk]
theorem RI.below (h : RI w B A l) (hb : Below B w w') : RI w' B A l := Reads.below h hb
theorem RI.more (h : RI w B A l) (hB : B ≤ B') : RI w B' A l := Reads.more h hB
theorem RI.drewN (h : RI w B A l) (n : Nat) : RI (w.drewN n) B A l := h
theorem Blk.RI {g : Nat} {t : TypeId} (h : Blk w g t (ints l).toArray) : RI w w.heap.size (some ⟨g, 0, none⟩) l := by
 have := h.reads rfl
 rwa [ints_length] at this
theorem RI.nil_ : RI w B A [] := ⟨by simp [ints], fun h => absurd h (by simp)⟩
end
theorem take_snoc {α : Type} (l : List α) (k : Nat) (h : k < l.length) : l.take (k + 1) = l.take k ++ [l[k]] := by
 rw [List.take_succ_eq_append_getElem h]
theorem ret_bool {a b : Bool} (h : a = b) : Ending.returned (.bool a) = .returned (.bool b) := by rw [h]
theorem ret_int {k : IntKind} {a b : Int} (h : a = b) : Ending.returned (.int k a) = .returned (.int k b) := by rw [h]
/-- lo ≤ x ≤ hi -/
def inB (x lo hi : Int) : Bool := decide (lo ≤ x) && decide (x ≤ hi)
theorem inB_true {x lo hi : Int} : inB x lo hi = true ↔ lo ≤ x ∧ x ≤ hi := by simp [inB]
theorem inB_false {x lo hi : Int} : inB x lo hi = false ↔ ¬ (lo ≤ x ∧ x ≤ hi) := by simp [inB]
end Go.Proofs.Ythmgpkcijolljaa
/-
  What small functions over integers return, for all arguments.
-/
namespace Go.Proofs.Ythmgpkcijolljaa
open Go.RowKit
set_option linter.unusedSimpArgs false
set_option linter.unusedVariables false
theorem l1In_any (x lo hi : Int) (w : World) : Calls Try.prog 40 #[.int .i64 x, .int .i64 lo, .int .i64 hi] w fun e w' => e = .returned (.bool (inB x lo hi)) ∧ w = w' := by
 go_enter Try.func40, Try.ntmps40
 go_wp2
 all_goals
  go_ret
  refine ⟨ret_bool ?_, rfl⟩
  simp [inB]
  try omega
end Go.Proofs.Ythmgpkcijolljaa
/-
  What functions over slices of integers return: validity of rooms and fields, equality, a copy.
-/
namespace Go.Proofs.Ythmgpkcijolljaa
open Go.RowKit
set_option linter.unusedSimpArgs false
set_option linter.unusedVariables false
theorem eqIntS_any (A A' : Option Addr) (c c' : Nat) (l l' : List Int) (w : World) (B B' : Nat) (h : RI w B A l) (h' : RI w B' A' l') (hn : l.length ≤ 1048576) (hn' : l'.length ≤ 1048576) :
  Calls Try.prog 22 #[.slice A l.length c, .slice A' l'.length c'] w fun e w' => e = .returned (.bool (l == l')) ∧ ∃ n, w' = w.drewN n := by
 by_cases hl : l.length = l'.length
 ·go_enter Try.func22, Try.ntmps22
  go_wp2
  go_loopw [5] (fun i wr => ∃ k : Nat, k ≤ l.length ∧ i = .int .i64 k ∧ l.take k = l'.take k ∧ ∃ n, wr = w.drewN n) (fun i _ => l.length - (intOf i).toNat)
  case atStart => exact ⟨0, Nat.zero_le _, rfl, by simp, 0, rfl⟩
  case round =>
   obtain ⟨k, hk, rfl, hall, nq, rfl⟩ := hrel
   by_cases hlt : k < l.length
   ·have hlt' : k < l'.length := by omega
    obtain ⟨ad, rfl, hb, hc⟩ := h.at_ hlt
    obtain ⟨ad', rfl, hb', hc'⟩ := h'.at_ hlt'
    have Hall := Lib.hid hall
    have Hl := Lib.hid hl
    clear hall hl
    by_cases he : l[k] = l'[k]
    ·have hne : (l[k] != l'[k]) = false := by simp [he]
     have He := Lib.hid he
     clear he
     go_wp2
     go_quiet (fail)
     go_wp2
     go_roundw
     case rel => exact ⟨k + 1, by omega, by go_num, by rw [take_snoc l k hlt, take_snoc l' k hlt', Hall.out, He.out], _, rfl⟩
     case measure => simp [intOf]; omega
    ·have hne : (l[k] != l'[k]) = true := by simp [he]
     have He := Lib.hid he
     clear he
     go_wp2
     go_quiet (fail)
     go_wp2
     go_ret
     exact ⟨ret_bool (by symm; rw [beq_eq_false_iff_ne]; intro e; subst e; exact He.out rfl), _, World.drewN_drewN _ _ _⟩
   ·have hk' : k = l.length := by omega
    have Hall : Hid (l = l') := by
     rw [hk', List.take_length, hl, List.take_length] at hall
     exact Lib.hid hall
    clear hall hk'
    have Hl := Lib.hid hl
    clear hl
    go_wp2
    go_ret
    exact ⟨ret_bool (by rw [Hall.out]; simp), _, rfl⟩
 ·have hne : ((l.length : Int) != (l'.length : Int)) = true := by simp; omega
  have hne2 : Hid ((l == l') = false) := Lib.hid (by rw [beq_eq_false_iff_ne]; intro e; subst e; exact hl rfl)
  clear hl
  go_enter Try.func22, Try.ntmps22
  go_wp2
  go_ret
  exact ⟨ret_bool hne2.out.symm, 0, rfl⟩
end Go.Proofs.Ythmgpkcijolljaa
/-
  Slices of ints that the call itself has made: how they are kept, marked and looked at.
-/
namespace Go.Proofs.Ythmgpkcijolljaa
open Go.RowKit
set_option linter.unusedSimpArgs false
set_option linter.unusedVariables false
/-- a slice of the call's own that holds l -/
def OwnInts (w : World) (l : List Int) (e : Ending) (w' : World) : Prop :=
 ∃ A c, e = .returned (.slice A l.length c) ∧ w'.ownsRow w.heap.size 3 1 (.slice A l.length c) l.length (ints l) ∧ Below w.heap.size w w'
theorem own_form {w : World} {base n sz : Nat} {e : TypeId} {v : Value} {xs : List Value} (h : w.ownsRow base e sz v n xs) : ∃ A c, v = .slice A n c := by
 rcases h.2 with ⟨rfl, rfl⟩ | ⟨g, cap, cur, rfl, _⟩
 ·exact ⟨_, _, rfl⟩
 ·exact ⟨_, _, rfl⟩
theorem own_mono {w : World} {base base' n sz : Nat} {e : TypeId} {v : Value} {xs : List Value} (h : w.ownsRow base e sz v n xs) (hb : base' ≤ base) : w.ownsRow base' e sz v n xs := by
 refine ⟨h.1, ?_⟩
 rcases h.2 with h2 | ⟨g, cap, cur, h1, h2, h3⟩
 ·exact .inl h2
 ·exact .inr ⟨g, cap, cur, h1, Nat.le_trans hb h2, h3⟩
theorem OwnInts.mk_ {w w' : World} {l : List Int} {v : Value} (h : w'.ownsRow w.heap.size 3 1 v l.length (ints l)) (hb : Below w.heap.size w w') : OwnInts w l (.returned v) w' := by
 obtain ⟨A, c, rfl⟩ := own_form h
 exact ⟨A, c, rfl, h, hb⟩
section
variable {w w' : World} {base b : Nat}
theorem own_some {v : Value} {n sz : Nat} {xs : List Value} {e : TypeId} (h : w.ownsRow base e sz v n xs) (hn : 0 < n) : ∃ g c, v = .slice (some ⟨g, 0, none⟩) n c ∧ base ≤ g ∧ g < w.heap.size := by
 obtain ⟨g, c, hv, hb, hlt⟩ := h.form hn
 exact ⟨g, c, hv, hb, hlt⟩
end
theorem below_of_grown {B : Nat} {a w w2 : World} {o : Obj} {v : Value} (h : Below B a w) (hg : (w.alloc o).grownBy w2 v.ownBlock) (hB : B ≤ w.heap.size) (hv : ∀ k, v.ownBlock = some k → B ≤ k) : Below B a w2 :=
 (h.alloc hB o).grown hg (by simp; omega) hv
/-- n numbers from k on -/
def markL (k : Int) (n : Nat) : List Int := (List.range n).map fun (i : Nat) => k + (i : Int)
@[simp] theorem markL_length (k : Int) (n : Nat) : (markL k n).length = n := by simp [markL]
theorem markL_get (k : Int) (n i : Nat) (h : i < (markL k n).length) : (markL k n)[i] = k + i := by simp [markL]
/-- the first i of l marked from k on -/
def markTo (l : List Int) (k : Int) (i : Nat) : List Int := l.mapIdx fun j x => if j < i then k + (j : Int) else x
@[simp] theorem markTo_length (l : List Int) (k : Int) (i : Nat) : (markTo l k i).length = l.length := by simp [markTo]
theorem markTo_zero (l : List Int) (k : Int) : markTo l k 0 = l := by
 apply List.ext_getElem?
 intro j
 simp only [markTo, List.getElem?_mapIdx]
 by_cases h : j < l.length <;> simp [h]
theorem markTo_all (l : List Int) (k : Int) : markTo l k l.length = markL k l.length := by
 apply List.ext_getElem?
 intro j
 simp only [markTo, markL, List.getElem?_mapIdx, List.getElem?_map]
 by_cases h : j < l.length
 ·simp [h, List.getElem?_range h]
 ·simp [h, List.getElem?_eq_none (show (List.range l.length).length ≤ j by simp; omega)]
theorem markTo_set (l : List Int) (k : Int) (i : Nat) : (ints (markTo l k i)).set i (Value.int .i64 (k + i)) = ints (markTo l k (i + 1)) := by
 apply List.ext_getElem?
 intro j
 rw [List.getElem?_set]
 simp only [ints, markTo, List.getElem?_mapIdx, List.getElem?_map, List.length_map, List.length_mapIdx]
 by_cases hj : i = j
 ·subst hj
  by_cases h : i < l.length <;> simp [h]
 ·rw [if_neg hj]
  by_cases hjl : j < l.length
  ·simp only [List.getElem?_eq_getElem hjl, Option.map_some]
   have : (j < i + 1) = (j < i) := by rw [eq_iff_iff]; omega
   simp only [this]
  ·simp [hjl]
theorem markIntS_any (A : Option Addr) (c : Nat) (l : List Int) (k : Int) (w : World) (base : Nat) (h : w.ownsRow base 3 1 (.slice A l.length c) l.length (ints l)) (hn : l.length ≤ 1048576) (hk0 : 0 ≤ k) (hk : k ≤ 1099511627776) :
  Calls Try.prog 24 #[.slice A l.length c, .int .i64 k] w fun e w' => e = .returned (.int .i64 (k + l.length)) ∧
   w'.ownsRow base 3 1 (.slice A l.length c) l.length (ints (markL k l.length)) ∧ w.grownBy w' (.slice A l.length c : Value).ownBlock := by
 by_cases h0 : l.length = 0
 ·obtain rfl : l = [] := List.eq_nil_of_length_eq_zero h0
  go_enter Try.func24, Try.ntmps24
  go_wp2
  go_loopw [5, 1] (fun i m wr => i = .int .i64 0 ∧ m = .int .i64 k ∧ wr = w) (fun i _ _ => 0)
  case atStart => exact ⟨rfl, rfl, rfl⟩
  case round =>
   obtain ⟨rfl, rfl, rfl⟩ := hrel
   go_wp2
   go_ret
   exact ⟨ret_int (by simp), by simpa [markL] using h, World.grownBy.refl _ _⟩
 ·obtain ⟨g, c', hv, hbg, hlt⟩ := own_some h (by omega)
  obtain ⟨rfl, rfl⟩ : A = some ⟨g, 0, none⟩ ∧ c = c' := by injection hv with e1 e2 e3; exact ⟨e1, e3⟩
  go_enter Try.func24, Try.ntmps24
  go_wp2
  go_loopw [5, 1] (fun i m wr => ∃ j : Nat, j ≤ l.length ∧ i = .int .i64 j ∧ m = .int .i64 (k + j) ∧ wr.ownsRow base 3 1 (.slice (some ⟨g, 0, none⟩) l.length c) l.length (ints (markTo l k j)) ∧ w.grownBy wr (some g)) (fun i _ _ => l.length - (intOf i).toNat)
  case atStart => exact ⟨0, Nat.zero_le _, rfl, by simp, by rw [markTo_zero]; exact h, World.grownBy.refl _ _⟩
  case round =>
   obtain ⟨j, hj, rfl, rfl, ho, hg⟩ := hrel
   by_cases hlt : j < l.length
   ·have hc := (ho.cellAt j (by omega)).trans (List.getElem?_eq_getElem (by simp; exact hlt))
    have hf := ho.frozenAt j
    have hst := (ho.stored j (.int .i64 (k + j))).1
    rw [markTo_set] at hst
    have Hst := Lib.hid hst
    clear hst
    generalize (ints (markTo l k j))[j]'(by simp; exact hlt) = old at hc
    go_wp2
    go_roundw
    case rel => exact ⟨j + 1, by omega, by go_num, by congr 1; omega, Hst.out, only_setCell_ hg _ _⟩
    case measure => simp [intOf]; omega
   ·obtain rfl : j = l.length := by omega
    rw [markTo_all] at ho
    go_wp2
    go_ret
    exact ⟨rfl, ho, hg⟩
theorem heldIntS_ok (A : Option Addr) (c n : Nat) (k : Int) (w : World) (B : Nat) (h : RI w B A (markL k n)) (hn : n ≤ 1048576) (hk0 : 0 ≤ k) (hk : k ≤ 1099511627776) :
  Calls Try.prog 25 #[.slice A n c, .int .i64 k] w fun e w' => e = .returned (.int .i64 (k + n)) ∧ w = w' := by
 go_enter Try.func25, Try.ntmps25
 go_wp2
 go_loop [5, 1] (fun i m => ∃ j : Nat, j ≤ n ∧ i = .int .i64 j ∧ m = .int .i64 (k + j)) (fun i _ => n - (intOf i).toNat)
 case atStart => exact ⟨0, Nat.zero_le _, rfl, by simp⟩
 case round =>
  obtain ⟨j, hj, rfl, rfl⟩ := hrel
  by_cases hlt : j < n
  ·obtain ⟨ad, rfl, hb, hc⟩ := h.at_ (k := j) (by simp; exact hlt)
   rw [markL_get] at hc
   have hb1 : (k + (j : Int) != k + j) = false := by simp
   go_wp2
   go_round
   case rel => exact ⟨j + 1, by omega, by go_num, by congr 1; omega⟩
   case measure => simp [intOf]; omega
  ·obtain rfl : j = n := by omega
   go_wp2
   go_ret
   exact ⟨rfl, rfl⟩
section
variable {w w' : World} {base n sz : Nat} {e : TypeId} {v : Value} {xs : List Value}
theorem own_below (h : w.ownsRow base e sz v n xs) (hb : Below w.heap.size w w') : w'.ownsRow base e sz v n xs := by
 refine ⟨h.1, ?_⟩
 rcases h.2 with h2 | ⟨g, cap, cur, h1, h2, h3, h4⟩
 ·exact .inl h2
 ·refine .inr ⟨g, cap, cur, h1, h2, (hb.block g ?_).trans h3, h4⟩
  exact (Array.getElem?_eq_some_iff.1 h3).1
theorem own_drewN (h : w.ownsRow base e sz v n xs) (k : Nat) : (w.drewN k).ownsRow base e sz v n xs := h
theorem own_mark {row : Option Nat} (h : w.ownsRow base e sz v n xs) (hg : w.grownBy w' row) (hne : ∀ k, v.ownBlock = some k → row ≠ some k) : w'.ownsRow base e sz v n xs := by
 refine h.kept hg ?_
 cases hv : v.ownBlock with
 | none => exact .inl rfl
 | some k => exact .inr (fun e => hne k hv e.symm)
theorem RI.of_own {A : Option Addr} {c : Nat} {l : List Int} (h : w.ownsRow base e 1 (.slice A l.length c) l.length (ints l)) : RI w w.heap.size A l := Reads.of_own h
theorem RI.of_marks {A : Option Addr} {c n : Nat} {k : Int} (h : w.ownsRow base e 1 (.slice A n c) n (ints (markL k n))) : RI w w.heap.size A (markL k n) := by
 have := Reads.of_own h
 unfold RI
 rwa [markL_length]
end
/-! ### append onto a row of the call's own, the source nil, empty or not -/
section
variable {P : Program} (w : World)
theorem run_append_of_nil (base : Nat) (t ty e : TypeId) (i : TypeInfo) (size : Nat) (ht : P.underlying t = some (.slice e)) (hi : P.info? e = some i)
  (v : Value) (n : Nat) (xs : List Value) (hown : w.ownsRow base e size v n xs) (c : Nat) : (Builtin.append_ #[t, t] ty #[v, .slice none 0 c]).run P w = .ok v w := by
 rcases hown.2 with ⟨rfl, rfl⟩ | ⟨g, cap, cur, rfl, _, _, hnc, _⟩
 ·simp [Builtin.append_, run_underlying ht, sizeOf, typeInfo, hi, Builtin.lenOf, Builtin.firstCells]
 ·simp [Builtin.append_, run_underlying ht, sizeOf, typeInfo, hi, Builtin.lenOf, Builtin.firstCells, hnc, storeCells]
theorem run_append_any (base : Nat) (t ty e : TypeId) (i : TypeInfo) (z : Value) (size bytes : Nat) (ht : P.underlying t = some (.slice e)) (hi : P.info? e = some i) (hz : i.zero = some z)
  (hsize : i.size = size) (hby : i.bytes = bytes) (hzs : z.cells.size = size) (hsz : 0 < size)
  (v : Value) (n : Nat) (xs : List Value) (hown : w.ownsRow base e size v n xs)
  (B : Nat) (A : Option Addr) (m c : Nat) (news : List Value) (hr : Reads w B size A m news) (h1 : ∀ u ∈ news, u.oneCell' = true)
  (h63 : n + m ≤ maxLen) (hbytes : (n + m) * bytes ≤ 140737488355328) (hbase : base ≤ w.heap.size) :
  ∃ v' w', (Builtin.append_ #[t, t] ty #[v, .slice A m c]).run P w = .ok v' w' ∧ w'.ownsRow base e size v' (n + m) (xs ++ news) ∧ w.grownBy w' v.ownBlock ∧
   (v'.ownBlock = v.ownBlock ∨ v'.ownBlock = some w.heap.size) := by
 rcases A with _ | ad
 ·have hm : m = 0 := by
   rcases Nat.eq_zero_or_pos m with h0 | h0
   ·exact h0
   ·obtain ⟨ad, h, _⟩ := hr.2 h0
    cases h
  subst hm
  have hn : news = [] := List.eq_nil_of_length_eq_zero (by simpa using hr.1)
  subst hn
  exact ⟨v, w, run_append_of_nil w base t ty e i size ht hi v n xs hown c, by simpa using hown, World.grownBy.refl w _, .inl rfl⟩
 ·have hcells : ∀ j u, news[j]? = some u → w.cell? (ad.add j) = some u := by
   intro j u hu
   rcases Nat.eq_zero_or_pos m with h0 | h0
   ·subst h0
    have hn : news = [] := List.eq_nil_of_length_eq_zero (by simpa using hr.1)
    subst hn
    simp at hu
   ·obtain ⟨ad', h, _, hc⟩ := hr.2 h0
    injection h with h
    subst h
    exact hc j u hu
  obtain ⟨v', w', hrun, h2, h3, _, h5⟩ := run_append_own_at (P := P) w base t ty e i z size bytes ht hi hz hsize hby hzs hsz v n xs hown ad m c news hr.1 hcells h1 h63 hbytes hbase
  exact ⟨v', w', hrun, h2, h3, h5⟩
theorem wp_append_any {o : Oper} {a : Act} {K : Act → World → Prop} {Q : Exit → Act → World → Prop} (s x : Operand) (t : TypeId)
  (ho : o.op = .call { callee := .builtin .append, args := #[s, x], argTypes := #[t, t] })
  (base : Nat) (e : TypeId) (i : TypeInfo) (z : Value) (size bytes : Nat) (ht : P.underlying t = some (.slice e)) (hi : P.info? e = some i) (hz : i.zero = some z)
  (hsize : i.size = size) (hby : i.bytes = bytes) (hzs : z.cells.size = size) (hsz : 0 < size)
  (v : Value) (n : Nat) (xs : List Value) (hs : a.eval s = v) (hown : w.ownsRow base e size v n xs)
  (B : Nat) (A : Option Addr) (m c : Nat) (news : List Value) (hx : a.eval x = .slice A m c) (hr : Reads w B size A m news) (h1 : ∀ u ∈ news, u.oneCell' = true)
  (h63 : n + m ≤ maxLen) (hbytes : (n + m) * bytes ≤ 140737488355328) (hbase : base ≤ w.heap.size)
  (h : ∀ v' w', w'.ownsRow base e size v' (n + m) (xs ++ news) → w.grownBy w' v.ownBlock → (v'.ownBlock = v.ownBlock ∨ v'.ownBlock = some w.heap.size) → K (a.put o.dst v') w') : o.wp P a w K Q := by
 obtain ⟨v', w', hrun, h2, h3, h4⟩ := run_append_any (P := P) w base t o.type e i z size bytes ht hi hz hsize hby hzs hsz v n xs hown B A m c news hr h1 h63 hbytes hbase
 unfold Oper.wp execOp
 simp only [ho, resolve, invoke, builtin, Sem.run_bind, Sem.run_pure, Result.andThen_ok, List.map_toArray, List.map_cons, List.map_nil, hs, hx, hrun]
 exact h v' w' h2 h3 h4
theorem wpList_append_any {ops : Array Oper} {rest : List Oper} {o : Oper} {a : Act} {Q : Exit → Act → World → Prop} (hgd : o.guard = none) (s x : Operand) (t : TypeId)
  (ho : o.op = .call { callee := .builtin .append, args := #[s, x], argTypes := #[t, t] })
  (base : Nat) (e : TypeId) (i : TypeInfo) (z : Value) (size bytes : Nat) (ht : P.underlying t = some (.slice e)) (hi : P.info? e = some i) (hz : i.zero = some z)
  (hsize : i.size = size) (hby : i.bytes = bytes) (hzs : z.cells.size = size) (hsz : 0 < size)
  (v : Value) (n : Nat) (xs : List Value) (hs : a.eval s = v) (hown : w.ownsRow base e size v n xs)
  (B : Nat) (A : Option Addr) (m c : Nat) (news : List Value) (hx : a.eval x = .slice A m c) (hr : Reads w B size A m news) (h1 : ∀ u ∈ news, u.oneCell' = true)
  (h63 : n + m ≤ maxLen) (hbytes : (n + m) * bytes ≤ 140737488355328) (hbase : base ≤ w.heap.size)
  (h : ∀ v' w', w'.ownsRow base e size v' (n + m) (xs ++ news) → w.grownBy w' v.ownBlock → (v'.ownBlock = v.ownBlock ∨ v'.ownBlock = some w.heap.size) → wpList P ops Q rest (a.put o.dst v') w') : wpList P ops Q (o :: rest) a w :=
 wpList_plain hgd fun _ hK => wp_append_any w s x t ho base e i z size bytes ht hi hz hsize hby hzs hsz v n xs hs hown B A m c news hx hr h1 h63 hbytes hbase fun v' w' h2 h3 h4 => hK _ _ (h v' w' h2 h3 h4)
end
/-- a slice of the call's own that holds l, and a bool -/
def OwnInts2 (w : World) (l : List Int) (b : Bool) (e : Ending) (w' : World) : Prop :=
 ∃ A c, e = .returned (.tuple #[.slice A l.length c, .bool b]) ∧ w'.ownsRow w.heap.size 3 1 (.slice A l.length c) l.length (ints l) ∧ Below w.heap.size w w'
theorem OwnInts2.mk_ {w w' : World} {l : List Int} {b : Bool} {v : Value} (h : w'.ownsRow w.heap.size 3 1 v l.length (ints l)) (hb : Below w.heap.size w w') : OwnInts2 w l b (.returned (.tuple #[v, .bool b])) w' := by
 obtain ⟨A, c, rfl⟩ := own_form h
 exact ⟨A, c, rfl, h, hb⟩
theorem ints_set (l : List Int) (i : Nat) (x : Int) : (ints l).set i (.int .i64 x) = ints (l.set i x) := by simp [ints, List.map_set]
theorem ownsRow_empty (w : World) : (w.alloc (.cells #[] 3)).ownsRow w.heap.size 3 1 (.slice (some ⟨w.heap.size, 0, none⟩) 0 0) 0 [] := ⟨rfl, .inr ⟨_, 0, #[], rfl, Nat.le_refl _, heap_alloc_new w _, Nat.le_refl _, by unfold maxLen; omega, rfl, rfl⟩⟩
theorem ownsRow_empty' (w : World) : (w.alloc (.cells #[] 3)).ownsRow w.heap.size 3 1 (.slice (some ⟨w.heap.size, 0, none⟩) 0 0) ([] : List Int).length (ints []) := ownsRow_empty w
end Go.Proofs.Ythmgpkcijolljaa
/-
  Slices of structs whose fields are one cell each: how they read, and the block of a copy, element by element.
-/
namespace Go.Proofs.Ythmgpkcijolljaa
open Go.RowKit
set_option linter.unusedSimpArgs false
set_option linter.unusedVariables false
section
variable {α : Type} {f : α → List Value} {m : Nat}
theorem flat_length (hf : ∀ x, (f x).length = m) (l : List α) : (l.flatMap f).length = l.length * m := by
 induction l with
 | nil => simp
 | cons x l ih => rw [List.flatMap_cons, List.length_append, hf, ih, List.length_cons, Nat.succ_mul, Nat.add_comm]
theorem flat_get (hf : ∀ x, (f x).length = m) (l : List α) {k j : Nat} (hk : k < l.length) (hj : j < m) : (l.flatMap f)[k * m + j]? = (f l[k])[j]? := by
 induction l generalizing k with
 | nil => simp at hk
 | cons x l ih =>
  rw [List.flatMap_cons]
  cases k with
  | zero =>
   rw [Nat.zero_mul, Nat.zero_add, List.getElem?_append_left (by rw [hf]; exact hj)]
   rfl
  | succ k =>
   have e : (k + 1) * m + j = (k * m + j) + (f x).length := by rw [hf, Nat.succ_mul]; omega
   rw [e, List.getElem?_append_right (by omega), Nat.add_sub_cancel]
   simpa using ih (by simpa using hk)
theorem flat_made {z : Value} {zs : α} (hz : z.cells.toList = f zs) (hf : ∀ x, (f x).length = m) (hm : 0 < m) (n : Nat) : ((List.replicate n zs).flatMap f).toArray = madeCells z.cells (n * m) := by
 have hs : z.cells.size = m := by rw [← hf zs, ← hz, Array.length_toList]
 apply Array.ext_getElem?
 intro j
 by_cases hj : j < n * m
 ·have hr : j % m < m := Nat.mod_lt _ hm
  have hq : j / m < n := Nat.div_lt_of_lt_mul (by rw [Nat.mul_comm]; exact hj)
  have e : j = j / m * m + j % m := (Nat.div_add_mod' j m).symm
  have h1 : ((List.replicate n zs).flatMap f).toArray[j]? = (f zs)[j % m]? := by
   rw [List.getElem?_toArray]
   have h2 := flat_get (f := f) hf (List.replicate n zs) (k := j / m) (j := j % m) (by simpa using hq) hr
   rw [← e] at h2
   rw [h2]
   simp
  rw [h1, ← hz]
  have hlt : j % m < z.cells.size := by omega
  simp only [madeCells, Array.getElem?_map, Array.getElem?_range, hj, if_true, Option.map_some, hs, Array.getElem?_toList, Array.getElem?_eq_getElem hlt, getElem!_pos z.cells (j % m) hlt]
 ·rw [Array.getElem?_eq_none (by rw [List.size_toArray, flat_length hf]; simp; omega), Array.getElem?_eq_none (by rw [size_madeCells]; omega)]
end
/-- the first k of l, the rest z -/
def fillZ {α : Type} (z : α) (l : List α) (k : Nat) : List α := l.mapIdx fun i x => if i < k then x else z
section
variable {α : Type} (z : α) (l : List α)
@[simp] theorem fillZ_length (k : Nat) : (fillZ z l k).length = l.length := by simp [fillZ]
theorem fillZ_all : fillZ z l l.length = l := by
 apply List.ext_getElem?
 intro j
 simp only [fillZ, List.getElem?_mapIdx]
 by_cases h : j < l.length <;> simp [h]
theorem fillZ_zero : fillZ z l 0 = List.replicate l.length z := by
 apply List.ext_getElem?
 intro j
 simp only [fillZ, List.getElem?_mapIdx]
 by_cases h : j < l.length <;> simp [h]
theorem fillZ_set (i : Nat) (h : i < l.length) : (fillZ z l i).set i l[i] = fillZ z l (i + 1) := by
 apply List.ext_getElem?
 intro j
 rw [List.getElem?_set]
 simp only [fillZ, List.getElem?_mapIdx, List.length_mapIdx]
 by_cases hj : i = j
 ·subst hj
  simp [h]
 ·rw [if_neg hj]
  by_cases hjl : j < l.length
  ·simp only [List.getElem?_eq_getElem hjl, Option.map_some]
   have : (j < i + 1) = (j < i) := by rw [eq_iff_iff]; omega
   simp only [this]
  ·simp [hjl]
end
/-- a deed, an event or a said as data: its act and two numbers -/
abbrev Dd := ByteArray × Int × Int
def encD (d : Dd) : List Value := [.string d.1, .int .i64 d.2.1, .int .i64 d.2.2]
theorem encD_length (d : Dd) : (encD d).length = 3 := rfl
def cells3 (l : List Dd) : List Value := l.flatMap encD
@[simp] theorem cells3_length (l : List Dd) : (cells3 l).length = l.length * 3 := flat_length encD_length l
theorem cells3_get (l : List Dd) (k : Nat) (h : k < l.length) : (cells3 l)[k * 3]? = some (.string l[k].1) ∧ (cells3 l)[k * 3 + 1]? = some (.int .i64 l[k].2.1) ∧ (cells3 l)[k * 3 + 2]? = some (.int .i64 l[k].2.2) :=
 ⟨flat_get encD_length l (j := 0) h (by omega), flat_get encD_length l (j := 1) h (by omega), flat_get encD_length l (j := 2) h (by omega)⟩
theorem cells3_set (l : List Dd) (i : Nat) (x : Dd) : (((cells3 l).set (i * 3) (.string x.1)).set (i * 3 + 1) (.int .i64 x.2.1)).set (i * 3 + 2) (.int .i64 x.2.2) = cells3 (l.set i x) := by
 induction l generalizing i with
 | nil => simp [cells3]
 | cons y l ih =>
  cases i with
  | zero => simp [cells3, encD]
  | succ i =>
   have e1 : (i + 1) * 3 = i * 3 + 1 + 1 + 1 := by omega
   rw [e1]
   have := ih i
   simpa [cells3, encD] using this
/-- a slice of deeds that reads as l -/
def RD (w : World) (B : Nat) (A : Option Addr) (l : List Dd) : Prop := Reads w B 3 A l.length (cells3 l)
section
variable {w w' : World} {B B' : Nat} {A : Option Addr} {l : List Dd}
theorem RD.at_ (h : RD w B A l) {k : Nat} (hk : k < l.length) : ∃ ad, A = some ad ∧ ad.block < B ∧ w.cell? (ad.add (k * 3)) = some (.string l[k].1) ∧
  w.cell? ⟨(ad.add (k * 3)).block, (ad.add (k * 3)).off + 1, none⟩ = some (.int .i64 l[k].2.1) ∧ w.cell? ⟨(ad.add (k * 3)).block, (ad.add (k * 3)).off + 2, none⟩ = some (.int .i64 l[k].2.2) := by
 obtain ⟨ad, e, hb, hc⟩ := h.2 (by omega)
 obtain ⟨g1, g2, g3⟩ := cells3_get l k hk
 exact ⟨ad, e, hb, hc _ _ g1, by have h2 := hc _ _ g2; rw [← add_of_add] at h2; exact h2, by have h3 := hc _ _ g3; rw [← add_of_add] at h3; exact h3⟩
theorem RD.below (h : RD w B A l) (hb : Below B w w') : RD w' B A l := Reads.below h hb
theorem RD.more (h : RD w B A l) (hB : B ≤ B') : RD w B' A l := Reads.more h hB
theorem RD.drewN (h : RD w B A l) (n : Nat) : RD (w.drewN n) B A l := h
end
theorem Blk.RD_ {w : World} {g : Nat} {t : TypeId} {l : List Dd} (h : Blk w g t (cells3 l).toArray) : RD w w.heap.size (some ⟨g, 0, none⟩) l := by
 refine ⟨by simp, fun _ => ⟨_, rfl, h.lt, fun j u hu => ?_⟩⟩
 have e : (⟨g, 0, none⟩ : Addr).add j = ⟨g, j, none⟩ := by
  unfold Addr.add
  split
  ·rename_i h0; simp_all
  ·simp
 rw [e, h.cell j]
 simpa using hu
/-- what the texts and the deeds together count -/
def szD (l : List Dd) : Nat := l.length + (l.map fun d => d.1.size).sum
theorem sum_take_le (l : List Nat) (k : Nat) : (l.take k).sum ≤ l.sum := by
 induction l generalizing k with
 | nil => simp
 | cons x l ih =>
  cases k with
  | zero => simp
  | succ k => simpa using ih k
theorem sum_take_succ (l : List Nat) (k : Nat) (h : k < l.length) : (l.take (k + 1)).sum = (l.take k).sum + l[k] := by
 rw [take_snoc l k h, List.sum_append]
 simp only [List.sum_cons, List.sum_nil, Nat.add_zero]
theorem szD_len {l : List Dd} : l.length ≤ szD l := by unfold szD; omega
/-- rows: each a slice -/
def rowV {α : Type} (r : Option Addr × List α × Nat) : Value := .slice r.1 r.2.1.length r.2.2
/-- a slice of slices: its row of headers, and each row -/
structure RL {α : Type} (f : α → List Value) (m : Nat) (w : World) (B : Nat) (A : Option Addr) (R : List (Option Addr × List α × Nat)) : Prop where
 hdr : Reads w B 1 A R.length (R.map rowV)
 row : ∀ r ∈ R, r.2.1.length ≤ r.2.2 ∧ r.2.2 ≤ maxLen ∧ Reads w B m r.1 r.2.1.length (r.2.1.flatMap f)
section
variable {α : Type} {f : α → List Value} {m : Nat} {w w' : World} {B B' : Nat} {A : Option Addr} {R : List (Option Addr × List α × Nat)}
theorem RL.below (h : RL f m w B A R) (hb : Below B w w') : RL f m w' B A R := ⟨h.hdr.below hb, fun r hr => ⟨(h.row r hr).1, (h.row r hr).2.1, (h.row r hr).2.2.below hb⟩⟩
theorem RL.more (h : RL f m w B A R) (hB : B ≤ B') : RL f m w B' A R := ⟨h.hdr.more hB, fun r hr => ⟨(h.row r hr).1, (h.row r hr).2.1, (h.row r hr).2.2.more hB⟩⟩
theorem RL.at_ (h : RL f m w B A R) {k : Nat} (hk : k < R.length) : ∃ ad, A = some ad ∧ ad.block < B ∧ w.cell? (ad.add k) = some (.slice R[k].1 R[k].2.1.length R[k].2.2) ∧
  R[k].2.1.length ≤ R[k].2.2 ∧ R[k].2.2 ≤ maxLen ∧ Reads w B m R[k].1 R[k].2.1.length (R[k].2.1.flatMap f) := by
 obtain ⟨ad, u, e, hb, hx, hc⟩ := h.hdr.at_ hk
 refine ⟨ad, e, hb, ?_, h.row _ (List.getElem_mem _)⟩
 rw [hc, ← hx]
 simp [rowV, List.getElem?_eq_getElem hk]
end
end Go.Proofs.Ythmgpkcijolljaa
/-
  What functions over deeds, events, saids and offices by value return, for all arguments.
-/
namespace Go.Proofs.Ythmgpkcijolljaa
open Go.RowKit
set_option linter.unusedSimpArgs false
set_option linter.unusedVariables false
theorem toSaid_any (s : ByteArray) (line word : Int) (w : World) : Calls Try.prog 34 #[.agg #[.string s, .int .i64 line, .int .i64 word]] w fun e w' =>
  e = .returned (.agg #[.string s, .int .i64 line, .int .i64 word]) ∧ Below w.heap.size w w' := by
 go_enter Try.func34, Try.ntmps34
 go_wp2
 exact bodyPost_ret (v := .agg #[.string s, .int .i64 line, .int .i64 word]) (by simp [results, Try.results34, go_sem]) rfl ⟨rfl, (((Below.refl _ _).alloc (Nat.le_refl _) _).alloc (by simp) _).alloc (by simp; omega) _⟩
theorem szSaid_no (s : ByteArray) (line word left : Int) (w : World) (hs : s.size ≤ maxLen) (h0 : 0 ≤ left) (h1 : left ≤ 1048576) (h : left < s.size) : Calls Try.prog 32 #[.agg #[.string s, .int .i64 line, .int .i64 word], .int .i64 left] w fun e w' =>
  e = .returned (.int .i64 (-1)) ∧ Below w.heap.size w w' := by
 unfold maxLen at hs
 go_enter Try.func32, Try.ntmps32
 go_wp2
 go_ret
 exact ⟨rfl, (Below.refl _ _).alloc (Nat.le_refl _) _⟩
theorem szSaid_ok (s : ByteArray) (line word left : Int) (w : World) (h1 : left ≤ 1048576) (h : s.size ≤ left) : Calls Try.prog 32 #[.agg #[.string s, .int .i64 line, .int .i64 word], .int .i64 left] w fun e w' =>
  e = .returned (.int .i64 (left - s.size)) ∧ Below w.heap.size w w' := by
 go_enter Try.func32, Try.ntmps32
 go_wp2
 go_ret
 exact ⟨rfl, (Below.refl _ _).alloc (Nat.le_refl _) _⟩
def joinL : List UInt8 := [106, 111, 105, 110]
def leaveL : List UInt8 := [108, 101, 97, 118, 101]
def sayL : List UInt8 := [115, 97, 121]
def saidIn (L : List UInt8) (guest word guests : Int) : Bool := (L == joinL && inB guest 1 guests && inB word 1 9) || (L == leaveL && inB guest 1 guests && word == 0) || (L == sayL && inB guest 1 guests && inB word 0 1000)
def saidB (L : List UInt8) (guest word guests : Int) : Bool := inB guests 1 5 && saidIn L guest word guests
theorem saidB_guests {L : List UInt8} {who word ops : Int} (h : ¬ (1 ≤ ops ∧ ops ≤ 5)) : saidB L who word ops = false := by simp [saidB, inB_false.2 h]
theorem saidB_guest {L : List UInt8} {who word ops : Int} (h : ¬ (1 ≤ who ∧ who ≤ ops)) : saidB L who word ops = false := by simp [saidB, saidIn, inB_false.2 h]
theorem saidB_rest {L : List UInt8} {who word ops : Int} (h : 1 ≤ ops ∧ ops ≤ 5) : saidB L who word ops = saidIn L who word ops := by simp [saidB, inB_true.2 h]
theorem l7Said_any (s : ByteArray) (who word ops : Int) (w : World) : Calls Try.prog 45 #[.agg #[.string s, .int .i64 who, .int .i64 word], .int .i64 ops] w fun e w' =>
  e = .returned (.bool (saidIn s.toList who word ops)) ∧ Below w.heap.size w w' := by
 go_enter Try.func45, Try.ntmps45
 go_wp2_with (go_at_call 40; refine (l1In_any _ _ _ _).mono ?_; rintro e w' ⟨rfl, rfl⟩)
 all_goals
  go_ret
  refine ⟨ret_bool ?_, (Below.refl _ _).alloc (Nat.le_refl _) _⟩
  first
   | (simp_all [saidIn, joinL, leaveL, sayL]; done)
   | (simp_all [saidIn, joinL, leaveL, sayL, inB]; done)
   | (simp_all [saidIn, joinL, leaveL, sayL, inB]; omega)
theorem iSaidValid_any (s : ByteArray) (who word ops : Int) (w : World) : Calls Try.prog 47 #[.agg #[.string s, .int .i64 who, .int .i64 word], .int .i64 ops] w fun e w' =>
  e = .returned (.bool (saidB s.toList who word ops)) ∧ Below w.heap.size w w' := by
 by_cases h1 : ops < 1
 ·have H := Lib.hid (saidB_guests (L := s.toList) (who := who) (word := word) (ops := ops) (by omega))
  go_enter Try.func47, Try.ntmps47
  go_wp2
  go_ret
  exact ⟨ret_bool H.out.symm, (Below.refl _ _).alloc (Nat.le_refl _) _⟩
 by_cases h2 : 5 < ops
 ·have H := Lib.hid (saidB_guests (L := s.toList) (who := who) (word := word) (ops := ops) (by omega))
  go_enter Try.func47, Try.ntmps47
  go_wp2
  go_ret
  exact ⟨ret_bool H.out.symm, (Below.refl _ _).alloc (Nat.le_refl _) _⟩
 by_cases h3 : who < 1
 ·have H := Lib.hid (saidB_guest (L := s.toList) (who := who) (word := word) (ops := ops) (by omega))
  go_enter Try.func47, Try.ntmps47
  go_wp2
  go_ret
  exact ⟨ret_bool H.out.symm, (Below.refl _ _).alloc (Nat.le_refl _) _⟩
 by_cases h4 : ops < who
 ·have H := Lib.hid (saidB_guest (L := s.toList) (who := who) (word := word) (ops := ops) (by omega))
  go_enter Try.func47, Try.ntmps47
  go_wp2
  go_ret
  exact ⟨ret_bool H.out.symm, (Below.refl _ _).alloc (Nat.le_refl _) _⟩
 have H := Lib.hid (saidB_rest (L := s.toList) (who := who) (word := word) (ops := ops) (by omega))
 go_enter Try.func47, Try.ntmps47
 go_wp2
 all_goals
  go_ret
  refine ⟨ret_bool ?_, (Below.refl _ _).alloc (Nat.le_refl _) _⟩
  rw [H.out]
  first
   | (simp_all [saidIn, joinL, leaveL, sayL]; done)
   | (simp_all [saidIn, joinL, leaveL, sayL, inB]; done)
   | (simp_all [saidIn, joinL, leaveL, sayL, inB]; omega)
end Go.Proofs.Ythmgpkcijolljaa
