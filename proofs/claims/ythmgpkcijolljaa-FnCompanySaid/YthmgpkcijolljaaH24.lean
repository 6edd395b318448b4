/-
  How the arguments of a law are opened.
-/
import Derived.Test.YthmgpkcijolljaaH1
import Derived.OpenShut
import Derived.ShutString
import Derived.ChangeOld
import Derived.Carry
import Derived.Lib.SmallJoins
import Derived.Deep.SlicePairs
import Derived.Deep.Slices
import Derived.Deep.Fields
import Derived.ChangeSame
namespace Go.Proofs.Ythmgpkcijolljaa
open Go.ChangeShapes Go.WideShapes Go.ChangeAt Go.RowKit Go.Deep
open Go.ChangeMaps (open_string shut_string)
theorem own : ownKnob Try.prog.godebug = none := by kernel_rfl
theorem laidOut : laidOutB Try.prog = true := by kernel_rfl
theorem lt_of_cell {w : World} {a : Addr} {v : Value} (h : w.cell? a = some v) : a.block < w.heap.size := by
 rcases Nat.lt_or_ge a.block w.heap.size with hlt | hge
 ·exact hlt
 ·unfold World.cell? at h
  rw [Array.getElem?_eq_none hge] at h
  cases h
section
variable {H : Type} {enc : TypeId × Value → H} {P : Program} {W : World}
end
end Go.Proofs.Ythmgpkcijolljaa
/-
  How arguments that are slices of structs, and slices of slices, are opened.
-/
namespace Go.Proofs.Ythmgpkcijolljaa
open Go.ChangeShapes Go.WideShapes Go.ChangeAt Go.RowKit Go.Deep
open Go.ChangeMaps (open_string shut_string)
set_option linter.unusedSimpArgs false
set_option linter.unusedVariables false
section
variable {H : Type} {enc : TypeId × Value → H} {P : Program} {w : World} {base : Nat} {spare : Nat → Bool} {held : Bool}
theorem open_slice_fields {t e : TypeId} {fs : Array Field} {fuel : Nat} {cs : List Value} {x : DataW H × List MemPlace} (ht : P.underlying t = some (.slice e)) (he : P.underlying e = some (.struct fs))
  (hone : oneCellFields P fs = true) (hC : P.cellsOf e = fs.size) (h : DataW.trod enc P w base spare held fuel t cs = some x) :
  (cs = [.slice none 0 0] ∧ x = (.nil, [])) ∨
  ∃ (a : Addr) (len cap m : Nat), cs = [.slice (some a) len cap] ∧ base ≤ a.block ∧ len ≤ cap ∧ cap ≤ maxLen ∧ m = (if spare a.block then cap else len) ∧
   ∀ i, i < m → ∃ (n : Nat), ∀ (j : Nat) (f : Field), fs[j]? = some f → ∃ (v : Value) (y : DataW H × List MemPlace), w.cell? (a.add (i * fs.size + j)) = some v ∧ DataW.trod enc P w base spare held n f.type [v] = some y := by
 rcases open_slice ht h with h0 | ⟨a, len, cap, m, n, D, Pl, hcs, hb, hl, hm, hmm, hx, hi⟩
 ·exact .inl h0
 ·refine .inr ⟨a, len, cap, m, hcs, hb, hl, hm, hmm, fun i him => ?_⟩
  obtain ⟨cs', hc, ht'⟩ := hi i him
  rw [hC] at hc
  obtain ⟨ys, n', hn', hy, hlen, hyl, hf⟩ := DataW.trod_struct he ht'
  obtain ⟨_, hcl, hat⟩ := World.cells?_some hc
  refine ⟨n', fun j f hj => ?_⟩
  obtain ⟨ho, hk⟩ := hone_of hone j f hj
  have hjl : j < fs.size := (Array.getElem?_eq_some_iff.1 hj).1
  have hcell := hat j hjl
  have hv : cs'[j]? = some (cs'[j]'(by omega)) := List.getElem?_eq_getElem (by omega)
  have h1 := hf j f hj
  rw [ho, hk] at h1
  have hone' : (cs'.drop j).take 1 = [cs'[j]'(by omega)] := by
   rw [List.drop_eq_getElem_cons (by omega)]
   rfl
  rw [hone'] at h1
  have hys : ys[j]? = some (ys[j]'(by omega)) := List.getElem?_eq_getElem (by omega)
  refine ⟨_, _, ?_, h1.trans hys⟩
  rw [← Go.Deep.add_add, hcell, hv]
end
section
variable {H : Type} {enc : TypeId × Value → H} {P : Program} {W : World} {spare : Nat → Bool} {held : Bool}
/-- a slice of structs of one-cell fields -/
theorem open_structs {α : Type} (f : α → List Value) (good : α → Prop) {T e : TypeId} {fs : Array Field} {fuel : Nat} {cs : List Value} {x : DataW H × List MemPlace} (hT : P.underlying T = some (.slice e)) (hE : P.underlying e = some (.struct fs))
  (hone : oneCellFields P fs = true) (hC : P.cellsOf e = fs.size) (hm0 : 0 < fs.size) (hf : ∀ x, (f x).length = fs.size)
  (rd : ∀ (c : Nat → Value), (∀ (j : Nat) (fd : Field), fs[j]? = some fd → ∃ n y, DataW.trod enc P W 0 spare held n fd.type [c j] = some y) → ∃ x, good x ∧ ∀ j, j < fs.size → (f x)[j]? = some (c j))
  (h : DataW.trod enc P W 0 spare held fuel T cs = some x) :
  ∃ (A : Option Addr) (l : List α) (c : Nat), cs = [.slice A l.length c] ∧ l.length ≤ c ∧ c ≤ maxLen ∧ Reads W W.heap.size fs.size A l.length (l.flatMap f) ∧ ∀ r ∈ l, good r := by
 rcases open_slice_fields hT hE hone hC h with ⟨hcs, _⟩ | ⟨a, len, cap, m, hcs, _, hl, hm, hmm, hx⟩
 ·exact ⟨none, [], 0, hcs, Nat.le_refl _, Nat.zero_le _, by simpa using Reads.none_, by simp⟩
 ·have hlm : len ≤ m := by rw [hmm]; split <;> omega
  have each : ∀ i, i < m → ∃ y : α, good y ∧ ∀ j, j < fs.size → ∃ u, (f y)[j]? = some u ∧ W.cell? (a.add (i * fs.size + j)) = some u := by
   intro i hi
   obtain ⟨n, hn⟩ := hx i hi
   obtain ⟨y, hy, hyc⟩ := rd (fun j => (W.cell? (a.add (i * fs.size + j))).getD undef) (fun j fd hj => by
    obtain ⟨v, y, hc, ht⟩ := hn j fd hj
    exact ⟨n, y, by simp only [hc, Option.getD_some]; exact ht⟩)
   refine ⟨y, hy, fun j hj => ?_⟩
   obtain ⟨v, y', hc, _⟩ := hn j fs[j] (Array.getElem?_eq_getElem hj)
   refine ⟨v, ?_, hc⟩
   have := hyc j hj
   rwa [hc, Option.getD_some] at this
  let F : Nat → Option α := fun i => if h : i < m then some (Classical.choose (each i h)) else none
  have hl2 : ((List.range len).filterMap F).length = len ∧ ∀ i, (hi : i < len) → ∃ hi2, ∃ him, ((List.range len).filterMap F)[i]'hi2 = Classical.choose (each i him) := by
   have e : (List.range len).filterMap F = (List.range len).attach.map fun i => Classical.choose (each i.1 (by have := List.mem_range.1 i.2; omega)) := by
    rw [← List.filterMap_eq_map]
    have : (List.range len).filterMap F = (List.range len).attach.filterMap fun i => F i.1 := by
     conv => lhs; rw [← List.attach_map_subtype_val (List.range len)]
     rw [List.filterMap_map]
     rfl
    rw [this]
    congr 1
    funext i
    have hi := List.mem_range.1 i.2
    simp only [F, dif_pos (show i.1 < m by omega), Function.comp]
   refine ⟨by rw [e]; simp, fun i hi => ⟨by rw [e]; simpa using hi, by omega, ?_⟩⟩
   simp only [e]
   simp
  obtain ⟨hlen, hget⟩ := hl2
  generalize (List.range len).filterMap F = L at hlen hget
  have hcell : ∀ k (hk : k < L.length) j, j < fs.size → ∃ u, (f L[k])[j]? = some u ∧ W.cell? (a.add (k * fs.size + j)) = some u := by
   intro k hk j hj
   obtain ⟨_, him, e⟩ := hget k (by omega)
   rw [e]
   exact (Classical.choose_spec (each k him)).2 j hj
  refine ⟨some a, L, cap, by rw [hcs, hlen], by omega, hm, ⟨flat_length hf L, fun hn => ⟨a, rfl, ?_, fun j u hu => ?_⟩⟩, fun r hr => ?_⟩
  ·obtain ⟨u, _, hc⟩ := hcell 0 hn 0 hm0
   have h0 := lt_of_cell hc
   rwa [block_of_add] at h0
  ·have hj : j < (L.flatMap f).length := by
    rcases Nat.lt_or_ge j (L.flatMap f).length with h' | h'
    ·exact h'
    ·rw [List.getElem?_eq_none h'] at hu
     cases hu
   rw [flat_length hf] at hj
   have hr : j % fs.size < fs.size := Nat.mod_lt _ hm0
   have hq : j / fs.size < L.length := Nat.div_lt_of_lt_mul (by rw [Nat.mul_comm]; exact hj)
   have e : j / fs.size * fs.size + j % fs.size = j := Nat.div_add_mod' j fs.size
   obtain ⟨u', h1, h2⟩ := hcell _ hq _ hr
   have h3 := flat_get hf L hq hr
   rw [e] at h2 h3
   rw [h3, h1] at hu
   rw [h2, hu]
  ·obtain ⟨i, hi, rfl⟩ := List.mem_iff_getElem.1 hr
   obtain ⟨_, him, e⟩ := hget i (by omega)
   rw [e]
   exact (Classical.choose_spec (each i him)).1
def goodD (d : Dd) : Prop := d.1.size ≤ maxLen ∧ (Lit.int .i64 d.2.1).wf = true ∧ (Lit.int .i64 d.2.2).wf = true
theorem trod_siis {T e : TypeId} {f0 f1 f2 : Field} {fuel : Nat} {cs : List Value} {x : DataW H × List MemPlace} (hT : P.underlying T = some (.slice e)) (hE : P.underlying e = some (.struct #[f0, f1, f2])) (hone : oneCellFields P #[f0, f1, f2] = true) (hC : P.cellsOf e = 3)
  (e0 : P.underlying f0.type = some .string) (e1 : P.underlying f1.type = some (.int .i64)) (e2 : P.underlying f2.type = some (.int .i64)) (h : DataW.trod enc P W 0 spare held fuel T cs = some x) :
  ∃ (A : Option Addr) (l : List Dd) (c : Nat), cs = [.slice A l.length c] ∧ l.length ≤ c ∧ c ≤ maxLen ∧ RD W W.heap.size A l ∧ ∀ r ∈ l, goodD r := by
 refine open_structs encD goodD hT hE hone hC (by simp) encD_length (fun c hc => ?_) h
 obtain ⟨n0, y0, h0⟩ := hc 0 f0 rfl
 obtain ⟨n1, y1, h1⟩ := hc 1 f1 rfl
 obtain ⟨n2, y2, h2⟩ := hc 2 f2 rfl
 obtain ⟨s, hs0, _, hsz⟩ := DataW.trod_string e0 h0
 obtain ⟨x, hx, _, wx⟩ := DataW.trod_int e1 h1
 obtain ⟨y, hy, _, wy⟩ := DataW.trod_int e2 h2
 simp at hs0 hx hy
 refine ⟨(s, x, y), ⟨hsz, wx, wy⟩, fun j hj => ?_⟩
 have hj' : j < 3 := hj
 match j, hj' with
 | 0, _ => simp [encD, hs0]
 | 1, _ => simp [encD, hx]
 | 2, _ => simp [encD, hy]
/-- a slice of structs of a string and two ints -/
theorem open_siis {T e : TypeId} {f0 f1 f2 : Field} {b : Nat} {r : Reach} {v : Value} {d : DataW H} {p : List MemPlace} (hT : P.underlying T = some (.slice e)) (hE : P.underlying e = some (.struct #[f0, f1, f2])) (hone : oneCellFields P #[f0, f1, f2] = true) (hC : P.cellsOf e = 3)
  (e0 : P.underlying f0.type = some .string) (e1 : P.underlying f1.type = some (.int .i64)) (e2 : P.underlying f2.type = some (.int .i64)) (hok : Value.okWide P W r b T v) (h : DataW.Trod enc P W 0 spare held T v d p) :
  ∃ (A : Option Addr) (l : List Dd) (c : Nat), v = .slice A l.length c ∧ l.length ≤ c ∧ c ≤ maxLen ∧ RD W W.heap.size A l ∧ ∀ r ∈ l, goodD r := by
 obtain ⟨A, len, cap, rfl⟩ := okWide_slice hT hok
 obtain ⟨fuel, hf⟩ := h
 obtain ⟨A', l, c, hcs, hr⟩ := trod_siis hT hE hone hC e0 e1 e2 hf
 simp [Value.cells] at hcs
 obtain ⟨rfl, rfl, rfl⟩ := hcs
 exact ⟨A, l, cap, rfl, hr⟩
end
end Go.Proofs.Ythmgpkcijolljaa
