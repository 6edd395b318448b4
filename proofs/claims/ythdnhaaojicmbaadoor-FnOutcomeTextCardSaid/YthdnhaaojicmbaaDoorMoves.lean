/-
  Steps on a board: a party at its next deed; what stands beside a store.
-/
import Derived.Test.YthdnhaaojicmbaaDoorStepped
import Derived.Test.YthdnhaaojicmbaaDoorOrd
namespace Go.Proofs.YthdnhaaojicmbaaDoor
open Go.RowKit
set_option linter.unusedSimpArgs false
set_option linter.unusedVariables false

/-- the party at its next deed -/
def nextP (q : Pt) : Pt := ⟨q.plan, q.at_ + 1, q.heard, q.fin, q.last, q.ear⟩
theorem nextP_ok {nl : Nat} {q : Pt} (hq : ptOk nl q) (hat : q.at_ < q.plan.2.1.length) : ptOk nl (nextP q) ∧ muP (nextP q) + 2 = muP q := by
  obtain ⟨a1, a2, a3, a4, a5, a6, a7⟩ := hq
  refine ⟨⟨?_, a2, a3, a4, a5, a6, a7⟩, ?_⟩
  · show q.at_ + 1 ≤ q.plan.2.1.length
    omega
  · show 2 * (q.plan.2.1.length - (q.at_ + 1)) + (if q.fin.toList.isEmpty then 1 else 0) + 2 = 2 * (q.plan.2.1.length - q.at_) + (if q.fin.toList.isEmpty then 1 else 0)
    omega
section
variable {w W : World} {base gL gO gV gP cL cO cV cP : Nat} {ls : List Ln} {os : List Int} {vs : List Value} {ps : List Pt}
theorem BD.atP (h : BD W base gL gO gV gP cL cO cV cP ls os vs ps) {p : Nat} (hp : p < ps.length) {q : Pt} (hq : ps[p] = q) : BD (W.setCell ⟨gP, p * 6 + 1, none⟩ (.int .i64 ((q.at_ : Int) + 1))) base gL gO gV gP cL cO cV cP ls os vs (ps.set p (nextP q)) := by
  subst hq
  exact h.setP hp (by omega) (nextP ps[p]) (.int .i64 ((ps[p].at_ : Int) + 1)) (by simp [encP, nextP]) rfl (h.heard ps[p] (List.getElem_mem hp)) (fun v hv => h.apQ v hv ps[p] (List.getElem_mem hp))
theorem BD.sideP (h : BD W base gL gO gV gP cL cO cV cP ls os vs ps) (B : Below base w W) (X : Boxes w W) (i : Nat) (u : Value) : Below base w (W.setCell ⟨gP, i, none⟩ u) ∧ Boxes w (W.setCell ⟨gP, i, none⟩ u) ∧ ∀ b cs, Blk W b 79 cs → Blk (W.setCell ⟨gP, i, none⟩ u) b 79 cs :=
  ⟨B.setCell (p := ⟨gP, i, none⟩) (h.pts.lt gP rfl).1 u, fun b cs hb => (X b cs hb).beside h.pts (by decide) u, fun b cs hb => hb.beside h.pts (by decide) u⟩
theorem BD.sideL (h : BD W base gL gO gV gP cL cO cV cP ls os vs ps) (B : Below base w W) (X : Boxes w W) (i : Nat) (u : Value) : Below base w (W.setCell ⟨gL, i, none⟩ u) ∧ Boxes w (W.setCell ⟨gL, i, none⟩ u) ∧ ∀ b cs, Blk W b 79 cs → Blk (W.setCell ⟨gL, i, none⟩ u) b 79 cs :=
  ⟨B.setCell (p := ⟨gL, i, none⟩) (h.lines.row.lt gL rfl).1 u, fun b cs hb => (X b cs hb).beside h.lines.row (by decide) u, fun b cs hb => hb.beside h.lines.row (by decide) u⟩
theorem BD.sideV (h : BD W base gL gO gV gP cL cO cV cP ls os vs ps) (B : Below base w W) (X : Boxes w W) (i : Nat) (u : Value) : Below base w (W.setCell ⟨gV, i, none⟩ u) ∧ Boxes w (W.setCell ⟨gV, i, none⟩ u) ∧ ∀ b cs, Blk W b 79 cs → Blk (W.setCell ⟨gV, i, none⟩ u) b 79 cs :=
  ⟨B.setCell (p := ⟨gV, i, none⟩) (h.ovr.lt gV rfl).1 u, fun b cs hb => (X b cs hb).beside h.ovr (by decide) u, fun b cs hb => hb.beside h.ovr (by decide) u⟩
/-- the line's words -/
def held (x : Ln) (r : IRow) : Ln := ⟨x.room, r, x.ended, x.tk⟩
theorem BD.heldL (h : BD W base gL gO gV gP cL cO cV cP ls os vs ps) {k : Nat} (hk : k < ls.length) {x : Ln} (hx : ls[k] = x) (r : IRow) (hr : W.ownsRow base 3 1 (rowV r) r.2.1.length (ints r.2.1)) (hap : ∀ v ∈ vs, Apart v (rowV r)) :
    BD (W.setCell ⟨gL, k * 4 + 1, none⟩ (rowV r)) base gL gO gV gP cL cO cV cP (ls.set k (held x r)) os vs ps := by
  subst hx
  exact h.setL hk (by omega) (held ls[k] r) (rowV r) (by simp [encL, held]) hr hap
/-- a row that was made later is apart from those of the board -/
theorem BD.later (h : BD w base gL gO gV gP cL cO cV cP ls os vs ps) {b n sz : Nat} {e : TypeId} {v : Value} {xs : List Value} (hv : W.ownsRow b e sz v n xs) (hb : w.heap.size ≤ b) : ∀ u ∈ vs, Apart u v := fun u hu r h1 h2 => by
  obtain ⟨xs, h3⟩ := h.each u hu
  have e1 := (h3.lt r h1).2
  have e2 := (hv.lt r h2).1
  omega
end
theorem add0 (g j : Nat) : ((⟨g, 0, none⟩ : Addr).add j) = ⟨g, j, none⟩ := by unfold Addr.add; split <;> simp_all
theorem mem_sum {α : Type} (f : α → Nat) : ∀ (l : List α) (k : Nat) (hk : k < l.length), f l[k] ≤ (l.map f).sum
  | [], k, hk => absurd hk (by simp)
  | a :: l, 0, hk => by simp
  | a :: l, k + 1, hk => by
    have h := mem_sum f l k (by simpa using hk)
    simp only [List.map_cons, List.sum_cons, List.getElem_cons_succ]
    omega
theorem mu_mem_ls {ls : List Ln} (ps : List Pt) {k : Nat} (hk : k < ls.length) : ls[k].held.2.1.length ≤ mu ls ps := by
  unfold mu
  have := mem_sum (fun x : Ln => x.held.2.1.length) ls k hk
  have e : (fun x : Ln => x.held.2.1.length) ls[k] = ls[k].held.2.1.length := rfl
  omega
theorem own_cap {w : World} {base n sz c : Nat} {e : TypeId} {g : Nat} {xs : List Value} (h : w.ownsRow base e sz (.slice (some ⟨g, 0, none⟩) n c) n xs) : n ≤ c ∧ c ≤ maxLen := by
  rcases h.2 with ⟨h1, _⟩ | ⟨g', cap, cur, h1, _, _, h2, h3, _⟩
  · cases h1
  · injection h1 with _ _ e3
    subst e3
    exact ⟨h2, h3⟩
theorem step_append_any {P : Program} {ops : Array Oper} {o : Oper} {a : Act} {w : World} {K : Act → World → Prop} {Q : Exit → Act → World → Prop} {E : Prop} (hg : o.guard = none) (s x : Operand) (t : TypeId)
    (ho : o.op = .call { callee := .builtin .append, args := #[s, x], argTypes := #[t, t] })
    (base : Nat) (e : TypeId) (i : TypeInfo) (z : Value) (size bytes : Nat) (ht : P.underlying t = some (.slice e)) (hi : P.info? e = some i) (hz : i.zero = some z)
    (hsize : i.size = size) (hby : i.bytes = bytes) (hzs : z.cells.size = size) (hsz : 0 < size)
    (v : Value) (n : Nat) (xs : List Value) (hs : a.eval s = v) (hown : w.ownsRow base e size v n xs)
    (B : Nat) (A : Option Addr) (m c : Nat) (news : List Value) (hx : a.eval x = .slice A m c) (hr : Reads w B size A m news) (h1 : ∀ u ∈ news, u.oneCell' = true)
    (h63 : n + m ≤ maxLen) (hbytes : (n + m) * bytes ≤ 140737488355328) (hbase : base ≤ w.heap.size)
    (h : ∀ v' w', w'.ownsRow base e size v' (n + m) (xs ++ news) → w.grownBy w' v.ownBlock → (v'.ownBlock = v.ownBlock ∨ v'.ownBlock = some w.heap.size) → K (a.put o.dst v') w') : if Region.wanted o (yielded ops a.tmps) = true then o.wp P a w K Q else E := by
  have hw : Region.wanted o (yielded ops a.tmps) = true := by simp [Region.wanted, hg]
  rw [if_pos hw]
  exact wp_append_any w s x t ho base e i z size bytes ht hi hz hsize hby hzs hsz v n xs hs hown B A m c news hx hr h1 h63 hbytes hbase h
end Go.Proofs.YthdnhaaojicmbaaDoor
