/-
  How the arguments of a law are opened.
-/
import Derived.Test.YthmgpkcijolljaaH24
import Derived.Test.YthmgpkcijolljaaH1
import Derived.OpenShut
import Derived.ShutString
import Derived.ChangeOld
import Derived.Carry
import Derived.Lib.SmallJoins
import Derived.Deep.SlicePairs
import Derived.Maps.AppendAt
import Derived.Deep.AppendLies
import Derived.RegionTactic
import Derived.OwnWalk
import Derived.Test.YthmgpkcijolljaaH9
import Derived.Test.YthmgpkcijolljaaH10
namespace Go.Proofs.Ythmgpkcijolljaa
open Go.ChangeShapes Go.WideShapes Go.ChangeAt Go.RowKit Go.Deep
open Go.ChangeMaps (open_string shut_string)
section
variable {H : Type} {enc : TypeId × Value → H} {P : Program} {W : World}
theorem open_num {k : IntKind} {T : TypeId} {e : TypeId} {b : Nat} {r : Reach} {v : Value} {d : DataW H} {p : List MemPlace} (hT : P.underlying T = some (.slice e)) (hE : P.underlying e = some (.int k)) (hC : P.cellsOf e = 1)
  (hok : Value.okWide P W r b T v) (h : DataW.Trod enc P W 0 (fun _ => true) true T v d p) :
  ∃ (A : Option Addr) (l : List Int) (c : Nat), v = .slice A l.length c ∧ l.length ≤ c ∧ c ≤ maxLen ∧ Reads W W.heap.size 1 A l.length (l.map (Value.int k)) ∧ ∀ x ∈ l, (Lit.int k x).wf = true := by
 obtain ⟨A, len, cap, rfl⟩ := okWide_slice hT hok
 obtain ⟨fuel, hf⟩ := h
 rcases open_ints hT hE hC hf with ⟨hcs, _⟩ | ⟨x, l, c, zs, hcs, _, hl, hm, hz, _, hcell, hwz⟩
 ·simp [Value.cells] at hcs
  obtain ⟨rfl, rfl, rfl⟩ := hcs
  exact ⟨none, [], 0, rfl, Nat.le_refl _, Nat.zero_le _, by simpa using Reads.none_, by simp⟩
 ·simp [Value.cells] at hcs
  obtain ⟨rfl, rfl, rfl⟩ := hcs
  have hz' : zs.length = cap := by simpa using hz
  have hlen : (zs.take len).length = len := by rw [List.length_take]; omega
  refine ⟨some x, zs.take len, cap, by rw [hlen], by omega, hm, ⟨by simp, fun hn => ⟨x, rfl, ?_, fun j u hu => ?_⟩⟩, fun y hy => hwz y (List.mem_of_mem_take hy)⟩
  ·have h0 := hcell 0 (by omega)
   have := lt_of_cell h0
   rwa [block_of_add] at this
  ·rw [List.getElem?_map] at hu
   have hj : j < (zs.take len).length := by
    rcases Nat.lt_or_ge j (zs.take len).length with h' | h'
    ·exact h'
    ·rw [List.getElem?_eq_none h'] at hu
     cases hu
   rw [hcell j (by omega), ← hu, List.getElem?_take, if_pos (by omega), List.getElem?_eq_getElem (by omega)]
   simp [List.getD_eq_getElem?_getD, List.getElem?_eq_getElem (show j < zs.length by omega)]
end
end Go.Proofs.Ythmgpkcijolljaa
/-
  Slices of ints that the call itself has made: how they are kept, marked and looked at.
-/
namespace Go.Proofs.Ythmgpkcijolljaa
open Go.RowKit
set_option linter.unusedSimpArgs false
set_option linter.unusedVariables false
theorem ownsRow_blk {w : World} {base g : Nat} {l : List Int} (h : Blk w g 3 (ints l).toArray) (hb : base ≤ g) (hl : l.length ≤ 1048576) : w.ownsRow base 3 1 (.slice (some ⟨g, 0, none⟩) l.length l.length) l.length (ints l) := by
 refine ⟨by simp, .inr ⟨g, l.length, (ints l).toArray, rfl, hb, h, Nat.le_refl _, by unfold maxLen; omega, by simp, ?_⟩⟩
 simp [List.take_of_length_le]
section
variable {w w' : World} {base b : Nat}
end
section
variable {w w' : World} {base n sz : Nat} {e : TypeId} {v : Value} {xs : List Value}
end
/-! ### append onto a row of the call's own, the source nil, empty or not -/
section
variable {P : Program} (w : World)
end
end Go.Proofs.Ythmgpkcijolljaa
/-
  Slices of structs whose fields are one cell each: how they read, and the block of a copy, element by element.
-/
namespace Go.Proofs.Ythmgpkcijolljaa
open Go.RowKit
set_option linter.unusedSimpArgs false
set_option linter.unusedVariables false
section
variable {α : Type} {f : α → List Value} {m : Nat}
end
section
variable {α : Type} (z : α) (l : List α)
end
theorem cells3_snoc (l : List Dd) (x : Dd) : cells3 (l ++ [x]) = cells3 l ++ encD x := by simp [cells3]
section
variable {w w' : World} {B B' : Nat} {A : Option Addr} {l : List Dd}
end
section
variable {α : Type} {f : α → List Value} {m : Nat} {w w' : World} {B B' : Nat} {A : Option Addr} {R : List (Option Addr × List α × Nat)}
end
end Go.Proofs.Ythmgpkcijolljaa
/-
  A plain operation that may change its world, in a goroutine's own walk.
-/
namespace Go.Proofs.Ythmgpkcijolljaa
open Go.Conc
set_option linter.unusedSimpArgs false
set_option linter.unusedVariables false
section
variable {P : Program} {S : List FuncId} {main gr st : Bool} {Live : World → Prop} {K : Goroutine → World → Prop} {v : World} {b : Frame} {k : List Item} {cs : List Frame}
/-- .. where no other allots. -/
theorem kOpN (hS : Bodies P S) (hK : KOk P main false false Live K) (hF : Flat P v) {ops : Array Oper} {i : Nat} {rest : List Nat} {o : Oper} {tmps : Array Value} {d : List Deferred} (hk : b.kind ≠ .early) (ho : ops[i]? = some o) (hw : Region.wanted o (yielded ops tmps) = true) (hok : opOk P S o = true) {val : Value} {v' : World}
  (he : ∀ t e, (execOp (Act.mk tmps []).eval o).run P (v.re t e) = .ok (.value val) (v'.re t e))
  (h : Flat P v' → KA K (G (b.at ((Act.mk tmps d).put o.dst val) (.inRegion ops rest :: k)) cs) v') : KA K (G (b.at ⟨tmps, d⟩ (.inRegion ops (i :: rest) :: k)) cs) v :=
 kOpG hS hK hF hk ho hw hok fun n hn hz t e => ⟨val, v'.re t e, by
  rw [hz rfl, upto_le (v := v) (Nat.le_refl _)]
  exact he t e, (fun x => by cases x), fun hf => (h ⟨hf.room, hf.obj, hf.low⟩).re⟩
end
end Go.Proofs.Ythmgpkcijolljaa
/-
  What a meeting leaves, in plain words: by prefixes of what is done.
-/
namespace Go.Proofs.Ythmgpkcijolljaa
open Go.ConcN (upd upd_same upd_ne)
set_option linter.unusedSimpArgs false
set_option linter.unusedVariables false
section
variable {l : List Dd} {k : Nat}
end
theorem co_len (n : Nat) (on : Nat → Nat) (g : Nat) : (co n on g).length = ((List.range n).map fun q => if inCo on g (q + 1) then 1 else 0).sum := by
 unfold co
 rw [List.filter_map, List.length_map]
 induction n with
 | zero => rfl
 | succ n ih =>
  rw [List.range_succ, List.filter_append, List.length_append, ih, List.map_append, List.sum_append]
  congr 1
  simp only [List.filter_cons, List.filter_nil, Function.comp, List.map_cons, List.map_nil, List.sum_cons, List.sum_nil]
  split <;> simp
theorem cnt_step {n : Nat} {l : List Dd} {k : Nat} (h : k < l.length) : cntN n (futAt l (k + 1)) = cntN n (futAt l k) + (if isSay l[k] then (co n (onAt l k) l[k].2.1.toNat).length else 0) := by
 have : ∀ m, cntN m (futAt l (k + 1)) = cntN m (futAt l k) + (if isSay l[k] then ((List.range m).map fun q => if inCo (onAt l k) l[k].2.1.toNat (q + 1) then 1 else 0).sum else 0) := by
  intro m
  induction m with
  | zero => simp [cntN]
  | succ m ih =>
   rw [cntN_succ, cntN_succ, ih, futAt_succ h, List.length_append, List.range_succ, List.map_append, List.sum_append]
   cases isSay l[k]
   ·simp
   ·simp only [Bool.true_and, if_true, List.map_cons, List.map_nil, List.sum_cons, List.sum_nil]
    split <;> simp <;> omega
 rw [this, co_len]
theorem co_mem {n : Nat} {on : Nat → Nat} {g q : Nat} : q ∈ co n on g ↔ (1 ≤ q ∧ q ≤ n) ∧ q ≠ g ∧ 0 < on q ∧ on q = on g := by
 unfold co inCo
 rw [List.mem_filter, List.mem_map]
 simp only [List.mem_range, bne_iff_ne, ne_eq, Bool.and_eq_true, decide_eq_true_eq, beq_iff_eq]
 constructor
 ·rintro ⟨⟨p, hp, rfl⟩, ⟨a, b⟩, c⟩
  exact ⟨⟨by omega, by omega⟩, a, b, c⟩
 ·rintro ⟨⟨a, b⟩, c, d, e⟩
  exact ⟨⟨q - 1, by omega, by omega⟩, ⟨c, d⟩, e⟩
theorem co_sorted (n : Nat) (on : Nat → Nat) (g : Nat) : (co n on g).Pairwise (· < ·) := by
 unfold co
 refine List.Pairwise.filter _ ?_
 refine List.Pairwise.map _ (R := (· < ·)) (fun a b e => by omega) ?_
 exact List.pairwise_lt_range
theorem co_lt1 {n : Nat} {on : Nat → Nat} {g : Nat} (h1 : 1 ≤ g) (h2 : g ≤ n) : (co n on g).length + 1 ≤ n := by
 have h3 := List.length_eq_countP_add_countP (inCo on g) (l := (List.range n).map (· + 1))
 have h4 : 0 < ((List.range n).map (· + 1)).countP (fun a => ¬ inCo on g a = true) := List.countP_pos_iff.2 ⟨g, List.mem_map.2 ⟨g - 1, List.mem_range.2 (by omega), by omega⟩, by simp [inCo]⟩
 unfold co
 rw [← List.countP_eq_length_filter]
 simp only [List.length_map, List.length_range] at h3
 omega
/-- a guest of the company has the other in its own -/
theorem co_sym {n : Nat} {on : Nat → Nat} {g q : Nat} (h1 : 1 ≤ g) (h2 : g ≤ n) (h : q ∈ co n on g) : g ∈ co n on q := by
 obtain ⟨a, b, c, d⟩ := co_mem.1 h
 exact co_mem.2 ⟨⟨h1, h2⟩, fun e => b e.symm, by omega, d.symm⟩
theorem co_same {n : Nat} {on : Nat → Nat} {g q : Nat} (h1 : 1 ≤ g) (h2 : g ≤ n) (h : q ∈ co n on g) : (co n on q).length = (co n on g).length := by
 obtain ⟨⟨a1, a2⟩, b, c, d⟩ := co_mem.1 h
 have key : ∀ g, 1 ≤ g → g ≤ n → 0 < on g → (g :: co n on g).Perm (((List.range n).map (· + 1)).filter fun p => on p == on g) := by
  intro g h1 h2 h0
  have hnd : (g :: co n on g).Nodup := List.nodup_cons.2 ⟨fun h => (co_mem.1 h).2.1 rfl, (co_sorted n on g).imp (fun h => by omega)⟩
  have hn2 : (((List.range n).map (· + 1)).filter fun p => on p == on g).Nodup := List.Pairwise.filter _ (List.Pairwise.map _ (fun a b e => by omega) (List.nodup_range (n := n)))
  refine (List.perm_ext_iff_of_nodup hnd hn2).2 fun p => ?_
  rw [List.mem_cons, co_mem, List.mem_filter, List.mem_map]
  simp only [List.mem_range, beq_iff_eq]
  constructor
  ·rintro (rfl | ⟨⟨a, b⟩, c, d, e⟩)
   ·exact ⟨⟨p - 1, by omega, by omega⟩, rfl⟩
   ·exact ⟨⟨p - 1, by omega, by omega⟩, e⟩
  ·rintro ⟨⟨x, hx, rfl⟩, e⟩
   by_cases e' : x + 1 = g
   ·exact .inl e'
   ·exact .inr ⟨⟨by omega, by omega⟩, e', by omega, e⟩
 have e1 := (key g h1 h2 (by omega)).length_eq
 have e2 := (key q a1 a2 c).length_eq
 rw [d] at e2
 simp only [List.length_cons] at e1 e2
 omega
end Go.Proofs.Ythmgpkcijolljaa
