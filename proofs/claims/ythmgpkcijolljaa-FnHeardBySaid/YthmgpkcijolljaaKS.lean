/-
  Words on memory and small lemmas that all texts of this seat use.
-/
import Derived.Test.YthmgpkcijolljaaH1
import Derived.Test.YthmgpkcijolljaaProg
import Derived.WalkKit
import Derived.ProofKit
import Derived.WalkSpells
import Derived.WalkLawsBesides
import Derived.Below
import Derived.Laws.OwnMore
import Derived.Deep.AppendLies
import Derived.Deep.Draws
import Derived.Deep.QuietTactic
import Derived.BigQuiet
import Derived.Deep.LoopGhost
import Derived.Lib.Hide
import Derived.Handy
import Derived.Maps.AppendAt
import Derived.RegionTactic
import Derived.OwnWalk
import Derived.Test.YthmgpkcijolljaaH10
namespace Go.Proofs.Ythmgpkcijolljaa
open Go.RowKit
section
variable {w w' : World} {B B' size n : Nat} {A : Option Addr} {xs : List Value}
end
section
variable {w w' : World} {g : Nat} {t : TypeId} {cs : Array Value}
end
section
variable {w w' : World} {B B' : Nat} {A : Option Addr} {l : List Int}
theorem RI.alloc_ (h : RI w w.heap.size A l) (o : Obj) : RI (w.alloc o) w.heap.size A l := Reads.alloc h (Nat.le_refl _) o
end
end Go.Proofs.Ythmgpkcijolljaa
/-
  Slices of ints that the call itself has made: how they are kept, marked and looked at.
-/
namespace Go.Proofs.Ythmgpkcijolljaa
open Go.RowKit
set_option linter.unusedSimpArgs false
set_option linter.unusedVariables false
theorem ownsRow_blk {w : World} {base g : Nat} {l : List Int} (h : Blk w g 3 (ints l).toArray) (hb : base ≤ g) (hl : l.length ≤ 1048576) : w.ownsRow base 3 1 (.slice (some ⟨g, 0, none⟩) l.length l.length) l.length (ints l) := by
 refine ⟨by simp, .inr ⟨g, l.length, (ints l).toArray, rfl, hb, h, Nat.le_refl _, by unfold maxLen; omega, by simp, ?_⟩⟩
 simp [List.take_of_length_le]
section
variable {w w' : World} {base b : Nat}
end
section
variable {w w' : World} {base n sz : Nat} {e : TypeId} {v : Value} {xs : List Value}
end
/-! ### append onto a row of the call's own, the source nil, empty or not -/
section
variable {P : Program} (w : World)
end
theorem ints_oneCell' (l : List Int) : ∀ u ∈ ints l, u.oneCell' = true := ints_oneCell .i64 l
end Go.Proofs.Ythmgpkcijolljaa
/-
  Slices of structs whose fields are one cell each: how they read, and the block of a copy, element by element.
-/
namespace Go.Proofs.Ythmgpkcijolljaa
open Go.RowKit
set_option linter.unusedSimpArgs false
set_option linter.unusedVariables false
section
variable {α : Type} {f : α → List Value} {m : Nat}
end
section
variable {α : Type} (z : α) (l : List α)
end
theorem cells3_snoc (l : List Dd) (x : Dd) : cells3 (l ++ [x]) = cells3 l ++ encD x := by simp [cells3]
section
variable {w w' : World} {B B' : Nat} {A : Option Addr} {l : List Dd}
end
section
variable {α : Type} {f : α → List Value} {m : Nat} {w w' : World} {B B' : Nat} {A : Option Addr} {R : List (Option Addr × List α × Nat)}
end
end Go.Proofs.Ythmgpkcijolljaa
/-
  What a meeting leaves, in plain words: by prefixes of what is done.
-/
namespace Go.Proofs.Ythmgpkcijolljaa
open Go.ConcN (upd upd_same upd_ne)
set_option linter.unusedSimpArgs false
set_option linter.unusedVariables false
section
variable {l : List Dd} {k : Nat}
end
theorem co_mem {n : Nat} {on : Nat → Nat} {g q : Nat} : q ∈ co n on g ↔ (1 ≤ q ∧ q ≤ n) ∧ q ≠ g ∧ 0 < on q ∧ on q = on g := by
 unfold co inCo
 rw [List.mem_filter, List.mem_map]
 simp only [List.mem_range, bne_iff_ne, ne_eq, Bool.and_eq_true, decide_eq_true_eq, beq_iff_eq]
 constructor
 ·rintro ⟨⟨p, hp, rfl⟩, ⟨a, b⟩, c⟩
  exact ⟨⟨by omega, by omega⟩, a, b, c⟩
 ·rintro ⟨⟨a, b⟩, c, d, e⟩
  exact ⟨⟨q - 1, by omega, by omega⟩, ⟨c, d⟩, e⟩
theorem co_sorted (n : Nat) (on : Nat → Nat) (g : Nat) : (co n on g).Pairwise (· < ·) := by
 unfold co
 refine List.Pairwise.filter _ ?_
 refine List.Pairwise.map _ (R := (· < ·)) (fun a b e => by omega) ?_
 exact List.pairwise_lt_range
end Go.Proofs.Ythmgpkcijolljaa
