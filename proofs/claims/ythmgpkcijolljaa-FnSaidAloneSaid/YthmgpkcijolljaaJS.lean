/-
  Slices of ints that the call itself has made: how they are kept, marked and looked at.
-/
import Derived.Test.YthmgpkcijolljaaH1
import Derived.Maps.AppendAt
import Derived.Deep.AppendLies
import Derived.RegionTactic
import Derived.OwnWalk
import Derived.Test.YthmgpkcijolljaaH9
import Derived.Test.YthmgpkcijolljaaH10
namespace Go.Proofs.Ythmgpkcijolljaa
open Go.RowKit
set_option linter.unusedSimpArgs false
set_option linter.unusedVariables false
theorem ownsRow_blk {w : World} {base g : Nat} {l : List Int} (h : Blk w g 3 (ints l).toArray) (hb : base ≤ g) (hl : l.length ≤ 1048576) : w.ownsRow base 3 1 (.slice (some ⟨g, 0, none⟩) l.length l.length) l.length (ints l) := by
 refine ⟨by simp, .inr ⟨g, l.length, (ints l).toArray, rfl, hb, h, Nat.le_refl _, by unfold maxLen; omega, by simp, ?_⟩⟩
 simp [List.take_of_length_le]
section
variable {w w' : World} {base b : Nat}
end
section
variable {w w' : World} {base n sz : Nat} {e : TypeId} {v : Value} {xs : List Value}
end
/-! ### append onto a row of the call's own, the source nil, empty or not -/
section
variable {P : Program} (w : World)
end
end Go.Proofs.Ythmgpkcijolljaa
/-
  Slices of structs whose fields are one cell each: how they read, and the block of a copy, element by element.
-/
namespace Go.Proofs.Ythmgpkcijolljaa
open Go.RowKit
set_option linter.unusedSimpArgs false
set_option linter.unusedVariables false
section
variable {α : Type} {f : α → List Value} {m : Nat}
end
section
variable {α : Type} (z : α) (l : List α)
end
theorem cells3_snoc (l : List Dd) (x : Dd) : cells3 (l ++ [x]) = cells3 l ++ encD x := by simp [cells3]
section
variable {w w' : World} {B B' : Nat} {A : Option Addr} {l : List Dd}
end
section
variable {α : Type} {f : α → List Value} {m : Nat} {w w' : World} {B B' : Nat} {A : Option Addr} {R : List (Option Addr × List α × Nat)}
end
end Go.Proofs.Ythmgpkcijolljaa
/-
  A plain operation that may change its world, in a goroutine's own walk.
-/
namespace Go.Proofs.Ythmgpkcijolljaa
open Go.Conc
set_option linter.unusedSimpArgs false
set_option linter.unusedVariables false
section
variable {P : Program} {S : List FuncId} {main gr st : Bool} {Live : World → Prop} {K : Goroutine → World → Prop} {v : World} {b : Frame} {k : List Item} {cs : List Frame}
/-- .. where no other allots. -/
theorem kOpN (hS : Bodies P S) (hK : KOk P main false false Live K) (hF : Flat P v) {ops : Array Oper} {i : Nat} {rest : List Nat} {o : Oper} {tmps : Array Value} {d : List Deferred} (hk : b.kind ≠ .early) (ho : ops[i]? = some o) (hw : Region.wanted o (yielded ops tmps) = true) (hok : opOk P S o = true) {val : Value} {v' : World}
  (he : ∀ t e, (execOp (Act.mk tmps []).eval o).run P (v.re t e) = .ok (.value val) (v'.re t e))
  (h : Flat P v' → KA K (G (b.at ((Act.mk tmps d).put o.dst val) (.inRegion ops rest :: k)) cs) v') : KA K (G (b.at ⟨tmps, d⟩ (.inRegion ops (i :: rest) :: k)) cs) v :=
 kOpG hS hK hF hk ho hw hok fun n hn hz t e => ⟨val, v'.re t e, by
  rw [hz rfl, upto_le (v := v) (Nat.le_refl _)]
  exact he t e, (fun x => by cases x), fun hf => (h ⟨hf.room, hf.obj, hf.low⟩).re⟩
end
end Go.Proofs.Ythmgpkcijolljaa
/-
  What a meeting leaves, in plain words: by prefixes of what is done.
-/
namespace Go.Proofs.Ythmgpkcijolljaa
open Go.ConcN (upd upd_same upd_ne)
set_option linter.unusedSimpArgs false
set_option linter.unusedVariables false
section
variable {l : List Dd} {k : Nat}
end
theorem co_len (n : Nat) (on : Nat → Nat) (g : Nat) : (co n on g).length = ((List.range n).map fun q => if inCo on g (q + 1) then 1 else 0).sum := by
 unfold co
 rw [List.filter_map, List.length_map]
 induction n with
 | zero => rfl
 | succ n ih =>
  rw [List.range_succ, List.filter_append, List.length_append, ih, List.map_append, List.sum_append]
  congr 1
  simp only [List.filter_cons, List.filter_nil, Function.comp, List.map_cons, List.map_nil, List.sum_cons, List.sum_nil]
  split <;> simp
theorem cnt_step {n : Nat} {l : List Dd} {k : Nat} (h : k < l.length) : cntN n (futAt l (k + 1)) = cntN n (futAt l k) + (if isSay l[k] then (co n (onAt l k) l[k].2.1.toNat).length else 0) := by
 have : ∀ m, cntN m (futAt l (k + 1)) = cntN m (futAt l k) + (if isSay l[k] then ((List.range m).map fun q => if inCo (onAt l k) l[k].2.1.toNat (q + 1) then 1 else 0).sum else 0) := by
  intro m
  induction m with
  | zero => simp [cntN]
  | succ m ih =>
   rw [cntN_succ, cntN_succ, ih, futAt_succ h, List.length_append, List.range_succ, List.map_append, List.sum_append]
   cases isSay l[k]
   ·simp
   ·simp only [Bool.true_and, if_true, List.map_cons, List.map_nil, List.sum_cons, List.sum_nil]
    split <;> simp <;> omega
 rw [this, co_len]
theorem co_lt1 {n : Nat} {on : Nat → Nat} {g : Nat} (h1 : 1 ≤ g) (h2 : g ≤ n) : (co n on g).length + 1 ≤ n := by
 have h3 := List.length_eq_countP_add_countP (inCo on g) (l := (List.range n).map (· + 1))
 have h4 : 0 < ((List.range n).map (· + 1)).countP (fun a => ¬ inCo on g a = true) := List.countP_pos_iff.2 ⟨g, List.mem_map.2 ⟨g - 1, List.mem_range.2 (by omega), by omega⟩, by simp [inCo]⟩
 unfold co
 rw [← List.countP_eq_length_filter]
 simp only [List.length_map, List.length_range] at h3
 omega
end Go.Proofs.Ythmgpkcijolljaa
