/-
  A drawn region with one operation that is not quiet, some of the others waiting for it.
-/
import Derived.Test.YthmgpkcijolljaaH11
import Derived.Test.YthmgpkcijolljaaKS
namespace Go.Proofs.Ythmgpkcijolljaa
open Go.Conc
set_option linter.unusedSimpArgs false
set_option linter.unusedVariables false
/-- An operation that is quiet where what is done is shut. -/
def QuietS (P : Program) (S : List FuncId) (v : World) (ops : Array Oper) (F : Nat → Value) (T0 : Array Value) (i : Nat) : Prop :=
 ∃ o, ops[i]? = some o ∧ opOk P S o = true ∧ o.guard = none ∧ ∀ d : List Nat, i ∉ d → (∀ e ∈ o.after, Region.binds .any e = true → e.on ∈ d) → Shuts ops d → ∀ v₁ : World, (∀ (b : Nat) (o : Obj), v.heap[b]? = some o → v₁.heap[b]? = some o) →
  (execOp (Act.mk (fillT ops F T0 d) []).eval o).run P v₁ = .ok (.value (F i)) v₁
theorem QuietAt.s {P : Program} {S : List FuncId} {v : World} {ops : Array Oper} {F : Nat → Value} {T0 : Array Value} {i : Nat} (h : QuietAt P S v ops F T0 i) : QuietS P S v ops F T0 i := by
 obtain ⟨o, h1, h2, h3, h4⟩ := h
 exact ⟨o, h1, h2, h3, fun d hi hd _ v₁ hx => h4 d hi hd v₁ hx⟩
section
variable {P : Program} {S : List FuncId} {main gr st : Bool} {Live : World → Prop} {K : Goroutine → World → Prop} {v : World} {b : Frame} {df : List Deferred} {k : List Item} {cs : List Frame} {ops : Array Oper} {F : Nat → Value} {T0 : Array Value}
theorem kQuietS (hS : Bodies P S) (hK : KOk P main gr st Live K) (hF : Flat P v) (hk : b.kind ≠ .early) (Q R : Nat → Prop) [DecidablePred Q] (hQR : ∀ i, Q i → R i) (hq : ∀ i, Q i → QuietS P S v ops F T0 i)
  (d0 : List Nat) (hs : ∀ d i r, ¬ Q i → (∀ j ∈ d, R j) → (∀ j ∈ d0, j ∈ d) → Shuts ops d → Lin ops d (i :: r) → KA K (G (b.at ⟨fillT ops F T0 d, df⟩ (.inRegion ops (i :: r) :: k)) cs) v)
  (he : ∀ d, (∀ j ∈ d, R j) → (∀ j ∈ d0, j ∈ d) → Lin ops d [] → KA K (G (b.at ⟨fillT ops F T0 d, df⟩ (.inRegion ops [] :: k)) cs) v) :
  ∀ (l d : List Nat), (∀ j ∈ d, R j) → (∀ j ∈ d0, j ∈ d) → Shuts ops d → Lin ops d l → KA K (G (b.at ⟨fillT ops F T0 d, df⟩ (.inRegion ops l :: k)) cs) v := by
 intro l
 induction l with
 | nil => exact fun d hd h0 _ h => he d hd h0 h
 | cons i r ih =>
  intro d hd h0 hC h
  by_cases hQ : Q i
  ·have h' := h
   cases h with
   | cons _ _ _ h1 h2 h3 h4 =>
    obtain ⟨o, ho, hok, hg, hrun⟩ := hq i hQ
    refine kOp hS hK hF hk ho (by unfold Region.wanted; rw [hg]) hok (hrun d h2 (h3 o ho) hC) ?_
    rw [fill_put ho rfl]
    exact ih (i :: d) (fun j hj => (List.mem_cons.1 hj).elim (fun e => e ▸ hQR i hQ) (hd j)) (fun j hj => List.mem_cons_of_mem _ (h0 j hj)) (hC.cons h3) h4
  ·exact hs d i r hQ hd h0 hC h
/-- Who is not among qs and is not m waits for one that is not among qs. -/
def OnlyB (ops : Array Oper) (qs : List Nat) (m : Nat) : Bool := (List.range ops.size).all fun i => qs.contains i || i == m || (List.range ops.size).any fun j => !qs.contains j && waits1 ops i j
/-- ████ Up to the one operation that is not quiet. ████ -/
theorem kOne (hS : Bodies P S) (hm : P.follows .mixedOrders = true) (hK : KOk P main gr st Live K) (hF : Flat P v) (hk : b.kind ≠ .early) {id m : Nat} (qs : List Nat) (hE : Early ops = true) (hms : m < ops.size) (hmq : m ∉ qs) (hO : OnlyB ops qs m = true) (hq : ∀ j ∈ qs, QuietS P S v ops F T0 j)
  (h : ∀ d r, (∀ j ∈ d, j ∈ qs) → Shuts ops d → Lin ops d (m :: r) → KA K (G (b.at ⟨fillT ops F T0 d, df⟩ (.inRegion ops (m :: r) :: k)) cs) v) : KA K (G (b.at ⟨T0, df⟩ (.code (.region id ops true) :: k)) cs) v := by
 refine kDraw hm hK hF hE fun ord hord => ?_
 refine kQuietS (F := F) (T0 := T0) hS hK hF hk (fun j => j ∈ qs) (fun j => j ∈ qs) (fun _ h => h) hq [] (fun d i r hnQ hR _ hC hL => ?_) (fun d hR _ hL => absurd (hR m (hL.all m hms)) hmq) ord [] (by simp) (by simp) .nil hord
 obtain ⟨hlt, hnd, hdep, hL'⟩ := hL.step
 have him : i = m := by
  unfold OnlyB at hO
  rw [List.all_eq_true] at hO
  have h1 := hO i (List.mem_range.2 hlt)
  simp only [Bool.or_eq_true, List.contains_iff_mem, beq_iff_eq] at h1
  rcases h1 with (h1 | h1) | h1
  ·exact absurd h1 hnQ
  ·exact h1
  ·rw [List.any_eq_true] at h1
   obtain ⟨j, _, h2⟩ := h1
   rw [Bool.and_eq_true, Bool.not_eq_true'] at h2
   have h3 := h2.2
   unfold waits1 at h3
   split at h3
   ·rename_i o ho
    have h4 := hR j (hL.waits ho h3)
    have h5 := h2.1
    rw [List.contains_eq_mem, decide_eq_false_iff_not] at h5
    exact absurd h4 h5
   ·cases h3
 subst him
 exact h d r hR hC hL
/-- .. and behind it. -/
theorem kRest (hS : Bodies P S) (hK : KOk P main gr st Live K) (hF : Flat P v) (hk : b.kind ≠ .early) {m : Nat} (hq : ∀ j, j < ops.size → j ≠ m → QuietS P S v ops F T0 j)
  (h : ∀ d, (∀ j, j < ops.size → j ∈ d) → KA K (G (b.at ⟨fillT ops F T0 d, df⟩ (.inRegion ops [] :: k)) cs) v) {d r : List Nat} (hd : ∀ j ∈ d, j < ops.size) (hC : Shuts ops d) (hL : Lin ops d (m :: r)) : KA K (G (b.at ⟨fillT ops F T0 (m :: d), df⟩ (.inRegion ops r :: k)) cs) v := by
 obtain ⟨hlt, hnd, hdep, hL'⟩ := hL.step
 refine kQuietS (F := F) (T0 := T0) hS hK hF hk (fun j => j < ops.size ∧ j ≠ m) (fun j => j < ops.size) (fun _ h => h.1) (fun j hj => hq j hj.1 hj.2) [m] (fun d' i r' hnQ hR h0 hC' hL2 => ?_) (fun d' hR h0 hL2 => h d' hL2.all) r (m :: d) (fun j hj => ?_) (by simp) (hC.cons hdep) hL'
 ·obtain ⟨k1, k2, _, _⟩ := hL2.step
  have : i = m := by
   by_cases e : i = m
   ·exact e
   ·exact absurd ⟨k1, e⟩ hnQ
  subst this
  exact absurd (h0 i (by simp)) k2
 ·rcases List.mem_cons.1 hj with rfl | hj
  ·exact hlt
  ·exact hd j hj
end
end Go.Proofs.Ythmgpkcijolljaa
