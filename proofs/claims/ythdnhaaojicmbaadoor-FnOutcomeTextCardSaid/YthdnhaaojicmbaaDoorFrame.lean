/-
  How the arguments of a law are opened.
-/
import Derived.Test.YthdnhaaojicmbaaDoorBase
import Derived.OpenShut
import Derived.ShutString
import Derived.ChangeOld
import Derived.Carry
import Derived.Lib.SmallJoins
import Derived.Deep.SlicePairs
namespace Go.Proofs.YthdnhaaojicmbaaDoor
open Go.ChangeShapes Go.WideShapes Go.ChangeAt Go.RowKit Go.Deep
open Go.ChangeMaps (open_string shut_string)

theorem own : ownKnob Tryd.prog.godebug = none := by kernel_rfl
theorem laidOut : laidOutB Tryd.prog = true := by kernel_rfl

theorem lt_of_cell {w : World} {a : Addr} {v : Value} (h : w.cell? a = some v) : a.block < w.heap.size := by
  rcases Nat.lt_or_ge a.block w.heap.size with hlt | hge
  · exact hlt
  · unfold World.cell? at h
    rw [Array.getElem?_eq_none hge] at h
    cases h

section
variable {H : Type} {enc : TypeId × Value → H} {P : Program} {W : World}
theorem open_num {k : IntKind} {T : TypeId} {e : TypeId} {b : Nat} {r : Reach} {v : Value} {d : DataW H} {p : List MemPlace} (hT : P.underlying T = some (.slice e)) (hE : P.underlying e = some (.int k)) (hC : P.cellsOf e = 1)
    (hok : Value.okWide P W r b T v) (h : DataW.Trod enc P W 0 (fun _ => true) true T v d p) :
    ∃ (A : Option Addr) (l : List Int) (c : Nat), v = .slice A l.length c ∧ l.length ≤ c ∧ c ≤ maxLen ∧ Reads W W.heap.size 1 A l.length (l.map (Value.int k)) ∧ ∀ x ∈ l, (Lit.int k x).wf = true := by
  obtain ⟨A, len, cap, rfl⟩ := okWide_slice hT hok
  obtain ⟨fuel, hf⟩ := h
  rcases open_ints hT hE hC hf with ⟨hcs, _⟩ | ⟨x, l, c, zs, hcs, _, hl, hm, hz, _, hcell, hwz⟩
  · simp [Value.cells] at hcs
    obtain ⟨rfl, rfl, rfl⟩ := hcs
    exact ⟨none, [], 0, rfl, Nat.le_refl _, Nat.zero_le _, by simpa using Reads.none_, by simp⟩
  · simp [Value.cells] at hcs
    obtain ⟨rfl, rfl, rfl⟩ := hcs
    have hz' : zs.length = cap := by simpa using hz
    have hlen : (zs.take len).length = len := by rw [List.length_take]; omega
    refine ⟨some x, zs.take len, cap, by rw [hlen], by omega, hm, ⟨by simp, fun hn => ⟨x, rfl, ?_, fun j u hu => ?_⟩⟩, fun y hy => hwz y (List.mem_of_mem_take hy)⟩
    · have h0 := hcell 0 (by omega)
      have := lt_of_cell h0
      rwa [block_of_add] at this
    · rw [List.getElem?_map] at hu
      have hj : j < (zs.take len).length := by
        rcases Nat.lt_or_ge j (zs.take len).length with h' | h'
        · exact h'
        · rw [List.getElem?_eq_none h'] at hu
          cases hu
      rw [hcell j (by omega), ← hu, List.getElem?_take, if_pos (by omega), List.getElem?_eq_getElem (by omega)]
      simp [List.getD_eq_getElem?_getD, List.getElem?_eq_getElem (show j < zs.length by omega)]

theorem flat2_at {l : List (Int × Int)} {j : Nat} {u : Value} (h : (l.flatMap fun r => [Value.int .i64 r.1, Value.int .i64 r.2])[j]? = some u) :
    ∃ (k : Nat) (hk : k < l.length), (j = k * 2 ∧ u = .int .i64 l[k].1) ∨ (j = k * 2 + 1 ∧ u = .int .i64 l[k].2) := by
  induction l generalizing j with
  | nil => simp at h
  | cons x l ih =>
    match j with
    | 0 => exact ⟨0, by simp, .inl ⟨rfl, by simpa using h.symm⟩⟩
    | 1 => exact ⟨0, by simp, .inr ⟨rfl, by simpa using h.symm⟩⟩
    | j + 2 =>
      obtain ⟨k, hk, hh⟩ := ih (j := j) (by simpa using h)
      refine ⟨k + 1, by simpa using hk, ?_⟩
      rcases hh with ⟨e, eu⟩ | ⟨e, eu⟩
      · exact .inl ⟨by omega, by simpa using eu⟩
      · exact .inr ⟨by omega, by simpa using eu⟩
theorem flat2_len (l : List (Int × Int)) : (l.flatMap fun r => [Value.int .i64 r.1, Value.int .i64 r.2]).length = l.length * 2 := by
  induction l with
  | nil => rfl
  | cons x l ih => simp only [List.flatMap_cons, List.length_append, List.length_cons, List.length_nil] at *; omega
/-- a slice of structs of two ints -/
theorem open_iis {T e : TypeId} {f0 f1 : Field} {b : Nat} {r : Reach} {v : Value} {d : DataW H} {p : List MemPlace} (hT : P.underlying T = some (.slice e)) (hE : P.underlying e = some (.struct #[f0, f1])) (hone : oneCellFields P #[f0, f1] = true) (hC : P.cellsOf e = 2)
    (e0 : P.underlying f0.type = some (.int .i64)) (e1 : P.underlying f1.type = some (.int .i64)) (hok : Value.okWide P W r b T v) (h : DataW.Trod enc P W 0 (fun _ => true) true T v d p) :
    ∃ (A : Option Addr) (l : List (Int × Int)) (c : Nat), v = .slice A l.length c ∧ l.length ≤ c ∧ c ≤ maxLen ∧ Reads W W.heap.size 2 A l.length (l.flatMap fun r => [Value.int .i64 r.1, Value.int .i64 r.2]) ∧ ∀ r ∈ l, (Lit.int .i64 r.1).wf = true ∧ (Lit.int .i64 r.2).wf = true := by
  obtain ⟨A, len, cap, rfl⟩ := okWide_slice hT hok
  obtain ⟨fuel, hf⟩ := h
  obtain ⟨o0, c0⟩ := hone_of hone 0 f0 rfl
  obtain ⟨o1, c1⟩ := hone_of hone 1 f1 rfl
  rcases open_slice_pairs hT hE hC o0 o1 c0 c1 hf with ⟨hcs, _⟩ | ⟨a, ln, cp, m, n, V0, V1, D0, D1, P0, P1, hcs, _, hl, hm, hmm, _, hx⟩
  · simp [Value.cells] at hcs
    obtain ⟨rfl, rfl, rfl⟩ := hcs
    exact ⟨none, [], 0, rfl, Nat.le_refl _, Nat.zero_le _, by simpa using Reads.none_, by simp⟩
  · simp [Value.cells] at hcs
    obtain ⟨rfl, rfl, rfl⟩ := hcs
    have hlm : len ≤ m := by rw [hmm]; split <;> omega
    have each : ∀ i, i < m → ∃ r : Int × Int, W.cell? (a.add (i * 2)) = some (.int .i64 r.1) ∧ W.cell? (a.add (i * 2 + 1)) = some (.int .i64 r.2) ∧ (Lit.int .i64 r.1).wf = true ∧ (Lit.int .i64 r.2).wf = true := by
      intro i hi
      obtain ⟨g1, g2, g3, g4⟩ := hx i hi
      obtain ⟨x, hx0, _, wx⟩ := DataW.trod_int e0 g3
      obtain ⟨y, hy0, _, wy⟩ := DataW.trod_int e1 g4
      simp at hx0 hy0
      exact ⟨(x, y), by rw [g1, hx0], by rw [g2, hy0], wx, wy⟩
    let F : Nat → Int × Int := fun i => if h : i < m then Classical.choose (each i h) else (0, 0)
    have hF : ∀ i, i < m → W.cell? (a.add (i * 2)) = some (.int .i64 (F i).1) ∧ W.cell? (a.add (i * 2 + 1)) = some (.int .i64 (F i).2) ∧ (Lit.int .i64 (F i).1).wf = true ∧ (Lit.int .i64 (F i).2).wf = true := by
      intro i hi
      have := Classical.choose_spec (each i hi)
      simpa only [F, dif_pos hi] using this
    have hlen : ((List.range len).map F).length = len := by simp
    refine ⟨some a, (List.range len).map F, cap, by rw [hlen], by omega, hm, ⟨by rw [flat2_len], fun hn => ⟨a, rfl, ?_, fun j u hu => ?_⟩⟩, fun r hr => ?_⟩
    · have h0 := lt_of_cell (hF 0 (by omega)).1
      rwa [block_of_add] at h0
    · obtain ⟨k, hk, hh⟩ := flat2_at hu
      have hkl : k < len := by omega
      have hFk := hF k (by omega)
      rcases hh with ⟨rfl, rfl⟩ | ⟨rfl, rfl⟩
      · rw [hFk.1]; simp
      · rw [hFk.2.1]; simp
    · obtain ⟨i, hi, rfl⟩ := List.mem_map.1 hr
      have hi' : i < len := by simpa using hi
      exact (hF i (by omega)).2.2

/-- a struct of a string and two ints, by value -/
theorem open_sii {r : Reach} {b : Nat} {T : TypeId} {f0 f1 f2 : Field} {v : Value} {d : DataW H} {p : List MemPlace} (hs : P.underlying T = some (.struct #[f0, f1, f2])) (hone : oneCellFields P #[f0, f1, f2] = true) (hC : P.cellsOf T = 3)
    (e0 : P.underlying f0.type = some .string) (e1 : P.underlying f1.type = some (.int .i64)) (e2 : P.underlying f2.type = some (.int .i64)) (hok : Value.okWide P W r b T v) (h : DataW.Trod enc P W 0 (fun _ => true) true T v d p) :
    ∃ (s : ByteArray) (x y : Int), v = .agg #[.string s, .int .i64 x, .int .i64 y] ∧ s.size ≤ maxLen ∧ (Lit.int .i64 x).wf = true ∧ (Lit.int .i64 y).wf = true := by
  obtain ⟨v0, v1, v2, y0, y1, y2, n, rfl, _, _, h0, h1, h2⟩ := Joins.open_agg3 hs hone hC hok h
  obtain ⟨s, hs0, _, hsz⟩ := DataW.trod_string e0 h0
  obtain ⟨x, hx, _, wx⟩ := DataW.trod_int e1 h1
  obtain ⟨y, hy, _, wy⟩ := DataW.trod_int e2 h2
  simp at hs0 hx hy
  subst hs0 hx hy
  exact ⟨s, x, y, rfl, hsz, wx, wy⟩
/-- a struct of three ints, by value -/
theorem open_iii {r : Reach} {b : Nat} {T : TypeId} {f0 f1 f2 : Field} {v : Value} {d : DataW H} {p : List MemPlace} (hs : P.underlying T = some (.struct #[f0, f1, f2])) (hone : oneCellFields P #[f0, f1, f2] = true) (hC : P.cellsOf T = 3)
    (e0 : P.underlying f0.type = some (.int .i64)) (e1 : P.underlying f1.type = some (.int .i64)) (e2 : P.underlying f2.type = some (.int .i64)) (hok : Value.okWide P W r b T v) (h : DataW.Trod enc P W 0 (fun _ => true) true T v d p) :
    ∃ (s x y : Int), v = .agg #[.int .i64 s, .int .i64 x, .int .i64 y] ∧ (Lit.int .i64 s).wf = true ∧ (Lit.int .i64 x).wf = true ∧ (Lit.int .i64 y).wf = true := by
  obtain ⟨v0, v1, v2, y0, y1, y2, n, rfl, _, _, h0, h1, h2⟩ := Joins.open_agg3 hs hone hC hok h
  obtain ⟨s, hs0, _, ws⟩ := DataW.trod_int e0 h0
  obtain ⟨x, hx, _, wx⟩ := DataW.trod_int e1 h1
  obtain ⟨y, hy, _, wy⟩ := DataW.trod_int e2 h2
  simp at hs0 hx hy
  subst hs0 hx hy
  exact ⟨s, x, y, rfl, ws, wx, wy⟩
/-- a struct of a slice of ints, a string and an int, by value -/
theorem open_outcome {r : Reach} {b : Nat} {T e : TypeId} {f0 f1 f2 : Field} {v : Value} {d : DataW H} {p : List MemPlace} (hs : P.underlying T = some (.struct #[f0, f1, f2])) (hone : oneCellFields P #[f0, f1, f2] = true) (hC : P.cellsOf T = 3)
    (e0 : P.underlying f0.type = some (.slice e)) (hE : P.underlying e = some (.int .i64)) (hC1 : P.cellsOf e = 1) (e1 : P.underlying f1.type = some .string) (e2 : P.underlying f2.type = some (.int .i64)) (hok : Value.okWide P W r b T v) (h : DataW.Trod enc P W 0 (fun _ => true) true T v d p) :
    ∃ (A : Option Addr) (l : List Int) (c : Nat) (s : ByteArray) (y : Int), v = .agg #[.slice A l.length c, .string s, .int .i64 y] ∧ l.length ≤ c ∧ c ≤ maxLen ∧ Reads W W.heap.size 1 A l.length (l.map (Value.int .i64)) ∧ (∀ x ∈ l, (Lit.int .i64 x).wf = true) ∧ s.size ≤ maxLen ∧ (Lit.int .i64 y).wf = true := by
  obtain ⟨v0, v1, v2, y0, y1, y2, n, rfl, _, _, h0, h1, h2⟩ := Joins.open_agg3 hs hone hC hok h
  obtain ⟨s, hs0, _, hsz⟩ := DataW.trod_string e1 h1
  obtain ⟨y, hy, _, wy⟩ := DataW.trod_int e2 h2
  simp at hs0 hy
  subst hs0 hy
  rcases open_ints e0 hE hC1 h0 with ⟨hcs, _⟩ | ⟨x, l, c, zs, hcs, _, hl, hm, hz, _, hcell, hwz⟩
  · simp at hcs
    subst hcs
    exact ⟨none, [], 0, s, y, rfl, Nat.le_refl _, Nat.zero_le _, by simpa using Reads.none_, by simp, hsz, wy⟩
  · simp at hcs
    subst hcs
    have hz' : zs.length = c := by simpa using hz
    have hlen : (zs.take l).length = l := by rw [List.length_take]; omega
    refine ⟨some x, zs.take l, c, s, y, by rw [hlen], by omega, hm, ⟨by simp, fun hn => ⟨x, rfl, ?_, fun j u hu => ?_⟩⟩, fun y hy => hwz y (List.mem_of_mem_take hy), hsz, wy⟩
    · have h0 := hcell 0 (by omega)
      have := lt_of_cell h0
      rwa [block_of_add] at this
    · rw [List.getElem?_map] at hu
      have hj : j < (zs.take l).length := by
        rcases Nat.lt_or_ge j (zs.take l).length with h' | h'
        · exact h'
        · rw [List.getElem?_eq_none h'] at hu
          cases hu
      rw [hcell j (by omega), ← hu, List.getElem?_take, if_pos (by omega), List.getElem?_eq_getElem (by omega)]
      simp [List.getD_eq_getElem?_getD, List.getElem?_eq_getElem (show j < zs.length by omega)]
end
end Go.Proofs.YthdnhaaojicmbaaDoor
