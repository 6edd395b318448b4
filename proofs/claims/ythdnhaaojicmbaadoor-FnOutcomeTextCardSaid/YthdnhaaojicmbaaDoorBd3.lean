/-
  A board with parties, as it lies.
-/
import Derived.Test.YthdnhaaojicmbaaDoorBd2
namespace Go.Proofs.YthdnhaaojicmbaaDoor
open Go.RowKit
set_option linter.unusedSimpArgs false
set_option linter.unusedVariables false

/-- a party -/
structure Pt where
  plan : DRow
  at_ : Nat
  heard : IRow
  fin : ByteArray
  last : Int
  ear : Int
def encP (q : Pt) : List Value := [rowV q.plan, .int .i64 q.at_, rowV q.heard, .string q.fin, .int .i64 q.last, .int .i64 q.ear]
theorem encP_length (q : Pt) : (encP q).length = 6 := rfl
theorem encP_oneCell (q : Pt) : ∀ u ∈ [q].flatMap encP, u.oneCell' = true := by
  intro u hu
  simp [encP, rowV] at hu
  rcases hu with rfl | rfl | rfl | rfl | rfl | rfl <;> rfl
theorem party_info : (Tryd.prog.info? 93).map (fun i => (i.zero, i.size, i.bytes)) = some (some (Value.agg #[.slice none 0 0, .int .i64 0, .slice none 0 0, .string ⟨#[]⟩, .int .i64 0, .int .i64 0]), 6, 88) := by kernel_rfl
/-- an act of a plan that is valid -/
def deedOk (nl : Nat) (d : Dd) : Prop := act3B d.1.toList = true ∧ 0 ≤ d.2.1 ∧ d.2.1 ≤ nl ∧ 0 ≤ d.2.2 ∧ d.2.2 ≤ 1000
def ptOk (nl : Nat) (q : Pt) : Prop := q.at_ ≤ q.plan.2.1.length ∧ q.plan.2.1.length ≤ 12 ∧ (∀ d ∈ q.plan.2.1, deedOk nl d) ∧ (q.fin = ⟨#[]⟩ ∨ q.fin = ⟨#[102, 97, 117, 108, 116]⟩) ∧ 0 ≤ q.last ∧ q.last ≤ 1000 ∧ ∀ x ∈ q.heard.2.1, -1 ≤ x ∧ x ≤ 1000
def lnOk (x : Ln) : Prop := ∀ y ∈ x.held.2.1, 0 ≤ y ∧ y ≤ 1000
def muP (q : Pt) : Nat := 2 * (q.plan.2.1.length - q.at_) + (if q.fin.toList.isEmpty then 1 else 0)
def mu (ls : List Ln) (ps : List Pt) : Nat := (ps.map muP).sum + (ls.map fun x => x.held.2.1.length).sum
/-- how long a slice is -/
def lenV : Value → Nat
  | .slice _ n _ => n
  | _ => 0
/-- a board -/
structure BD (w : World) (base gL gO gV gP cL cO cV cP : Nat) (ls : List Ln) (os : List Int) (vs : List Value) (ps : List Pt) : Prop where
  lines : LinesAt w base (.slice (some ⟨gL, 0, none⟩) ls.length cL) ls
  own : w.ownsRow base 3 1 (.slice (some ⟨gO, 0, none⟩) os.length cO) os.length (ints os)
  ovr : w.ownsRow base 22 1 (.slice (some ⟨gV, 0, none⟩) vs.length cV) vs.length vs
  pts : w.ownsRow base 93 6 (.slice (some ⟨gP, 0, none⟩) ps.length cP) ps.length (ps.flatMap encP)
  heard : ∀ q ∈ ps, w.ownsRow base 3 1 (rowV q.heard) q.heard.2.1.length (ints q.heard.2.1)
  plan : ∀ q ∈ ps, w.ownsRow base 67 3 (rowV q.plan) q.plan.2.1.length (cells3 q.plan.2.1)
  each : ∀ v ∈ vs, ∃ xs, w.ownsRow base 3 1 v (lenV v) xs
  apH : ∀ v ∈ vs, ∀ x ∈ ls, Apart v (rowV x.held)
  apQ : ∀ v ∈ vs, ∀ q ∈ ps, Apart v (rowV q.heard)
  apO : ∀ v ∈ vs, v.ownBlock ≠ some gO
  apV : ∀ (i j : Nat) (v u : Value), i ≠ j → vs[i]? = some v → vs[j]? = some u → Apart v u
/-- what is true of its contents -/
structure BOk (nl : Nat) (ls : List Ln) (os : List Int) (vs : List Value) (ps : List Pt) : Prop where
  hl : ls.length = nl + 1
  ho : os.length = nl + 1
  hv : vs.length = nl + 1
  hp : ps.length ≤ 4
  pt : ∀ q ∈ ps, ptOk nl q
  ln : ∀ x ∈ ls, lnOk x
  sz : ∀ q ∈ ps, q.heard.2.1.length + mu ls ps ≤ 500
  ov : ∀ v ∈ vs, lenV v + mu ls ps ≤ 500
section
variable {w w' : World} {base gL gO gV gP cL cO cV cP : Nat} {ls : List Ln} {os : List Int} {vs : List Value} {ps : List Pt}
/-- a change that spares all of a board's blocks -/
theorem BD.keep (h : BD w base gL gO gV gP cL cO cV cP ls os vs ps) (hb : Below w.heap.size w w') : BD w' base gL gO gV gP cL cO cV cP ls os vs ps :=
  ⟨⟨own_below h.lines.row hb, fun x hx => own_below (h.lines.held x hx) hb⟩, own_below h.own hb, own_below h.ovr hb, own_below h.pts hb, fun q hq => own_below (h.heard q hq) hb, fun q hq => own_below (h.plan q hq) hb,
   fun v hv => by obtain ⟨xs, h2⟩ := h.each v hv; exact ⟨xs, own_below h2 hb⟩, h.apH, h.apQ, h.apO, h.apV⟩
theorem BD.party (h : BD w base gL gO gV gP cL cO cV cP ls os vs ps) {k : Nat} (hk : k < ps.length) :
    w.cell? ⟨gP, k * 6, none⟩ = some (rowV ps[k].plan) ∧ w.cell? ⟨gP, k * 6 + 1, none⟩ = some (.int .i64 ps[k].at_) ∧ w.cell? ⟨gP, k * 6 + 2, none⟩ = some (rowV ps[k].heard) ∧ w.cell? ⟨gP, k * 6 + 3, none⟩ = some (.string ps[k].fin) ∧ w.cell? ⟨gP, k * 6 + 4, none⟩ = some (.int .i64 ps[k].last) ∧ w.cell? ⟨gP, k * 6 + 5, none⟩ = some (.int .i64 ps[k].ear) := by
  have hc := h.pts.cells (g := gP) rfl
  have add : ∀ j : Nat, ((⟨gP, 0, none⟩ : Addr).add j) = ⟨gP, j, none⟩ := by intro j; unfold Addr.add; split <;> simp_all
  refine ⟨?_, ?_, ?_, ?_, ?_, ?_⟩
  · have := hc (k * 6 + 0) _ (by rw [flat_get encP_length ps hk (by omega)]; rfl)
    rw [add] at this; exact this
  · have := hc (k * 6 + 1) _ (by rw [flat_get encP_length ps hk (by omega)]; rfl)
    rw [add] at this; exact this
  · have := hc (k * 6 + 2) _ (by rw [flat_get encP_length ps hk (by omega)]; rfl)
    rw [add] at this; exact this
  · have := hc (k * 6 + 3) _ (by rw [flat_get encP_length ps hk (by omega)]; rfl)
    rw [add] at this; exact this
  · have := hc (k * 6 + 4) _ (by rw [flat_get encP_length ps hk (by omega)]; rfl)
    rw [add] at this; exact this
  · have := hc (k * 6 + 5) _ (by rw [flat_get encP_length ps hk (by omega)]; rfl)
    rw [add] at this; exact this
theorem BD.line (h : BD w base gL gO gV gP cL cO cV cP ls os vs ps) {k : Nat} (hk : k < ls.length) :
    w.cell? ⟨gL, k * 4, none⟩ = some (.int .i64 ls[k].room) ∧ w.cell? ⟨gL, k * 4 + 1, none⟩ = some (rowV ls[k].held) ∧ w.cell? ⟨gL, k * 4 + 2, none⟩ = some (.bool ls[k].ended) ∧ w.cell? ⟨gL, k * 4 + 3, none⟩ = some (.slice ls[k].tk.1 ls[k].tk.2.1 ls[k].tk.2.2) := by
  have hc := h.lines.row.cells (g := gL) rfl
  have add : ∀ j : Nat, ((⟨gL, 0, none⟩ : Addr).add j) = ⟨gL, j, none⟩ := by intro j; unfold Addr.add; split <;> simp_all
  refine ⟨?_, ?_, ?_, ?_⟩
  · have := hc (k * 4 + 0) _ (by rw [flat_get encL_length ls hk (by omega)]; rfl)
    rw [add] at this; exact this
  · have := hc (k * 4 + 1) _ (by rw [flat_get encL_length ls hk (by omega)]; rfl)
    rw [add] at this; exact this
  · have := hc (k * 4 + 2) _ (by rw [flat_get encL_length ls hk (by omega)]; rfl)
    rw [add] at this; exact this
  · have := hc (k * 4 + 3) _ (by rw [flat_get encL_length ls hk (by omega)]; rfl)
    rw [add] at this; exact this
theorem BD.owner (h : BD w base gL gO gV gP cL cO cV cP ls os vs ps) {k : Nat} (hk : k < os.length) : w.cell? ⟨gO, k, none⟩ = some (.int .i64 os[k]) := by
  have hc := h.own.cells (g := gO) rfl
  have add : ∀ j : Nat, ((⟨gO, 0, none⟩ : Addr).add j) = ⟨gO, j, none⟩ := by intro j; unfold Addr.add; split <;> simp_all
  have := hc k _ (by simp [ints, List.getElem?_eq_getElem hk]; rfl)
  rw [add] at this
  exact this
end
end Go.Proofs.YthdnhaaojicmbaaDoor
