/-
  A region that draws its order, in a goroutine's own walk: whatever the order, its quiet operations come to the same.
-/
import Derived.Test.YthmgpkcijolljaaH9
import Derived.Orders
namespace Go.Proofs.Ythmgpkcijolljaa
open Go.Conc
set_option linter.unusedSimpArgs false
set_option linter.unusedVariables false
/-- An order in which the rest of a region may be taken. -/
inductive Lin (ops : Array Oper) : List Nat → List Nat → Prop
 | nil (d : List Nat) (h : ∀ i, i < ops.size → i ∈ d) : Lin ops d []
 | cons (d : List Nat) (i : Nat) (r : List Nat) (h1 : i < ops.size) (h2 : i ∉ d) (h3 : ∀ o, ops[i]? = some o → ∀ e ∈ o.after, Region.binds .any e = true → e.on ∈ d) (h : Lin ops (i :: d) r) : Lin ops d (i :: r)
/-- Each operation waits for earlier ones alone. -/
def Early (ops : Array Oper) : Bool := (List.range ops.size).all fun i => match ops[i]? with
 | some o => o.after.all fun e => decide (e.on < i)
 | none => true
theorem Early.lt {ops : Array Oper} (h : Early ops = true) {i : Nat} {o : Oper} (ho : ops[i]? = some o) {e : Edge} (he : e ∈ o.after) : e.on < i := by
 unfold Early at h
 rw [List.all_eq_true] at h
 have h1 := h i (List.mem_range.2 (Array.getElem?_eq_some_iff.1 ho).1)
 rw [ho] at h1
 simp only [Array.all_eq_true_iff_forall_mem] at h1
 simpa using h1 e he
theorem lin_go {ops : Array Oper} (hE : Early ops = true) : ∀ (fuel t : Nat) (listed : Array Bool) (d : List Nat), listed.size = ops.size → (∀ i, i < ops.size → (listed.getD i true = true ↔ i ∈ d)) →
  ((List.range ops.size).filter fun i => !listed.getD i true).length ≤ fuel → Lin ops d (Region.linearise.go .any ops fuel t listed []) := by
 intro fuel
 induction fuel with
 | zero =>
  intro t listed d hs hd hl
  refine .nil d fun i hi => (hd i hi).1 ?_
  have h0 := List.eq_nil_of_length_eq_zero (Nat.le_zero.1 hl)
  cases hb : listed.getD i true with
  | true => rfl
  | false =>
   have : i ∈ (List.range ops.size).filter fun i => !listed.getD i true := List.mem_filter.2 ⟨List.mem_range.2 hi, by rw [hb]; rfl⟩
   rw [h0] at this
   cases this
 | succ fuel ih =>
  intro t listed d hs hd hl
  simp only [Region.linearise.go]
  change Lin ops d (match (Region.ready .any ops listed)[t % (Region.ready .any ops listed).length]? with
   | some i => Region.linearise.go .any ops fuel (t / (Region.ready .any ops listed).length) (listed.setIfInBounds i true) [i]
   | none => [].reverse)
  cases hi : (Region.ready .any ops listed)[t % (Region.ready .any ops listed).length]? with
  | none =>
   have hnil : Region.ready .any ops listed = [] := by
    cases hr : Region.ready .any ops listed with
    | nil => rfl
    | cons x xs =>
     rw [hr] at hi
     have hlt : t % (x :: xs).length < (x :: xs).length := Nat.mod_lt _ (by simp)
     simp at hi
     simp at hlt
     omega
   refine .nil d ?_
   intro i
   induction i using Nat.strongRecOn with
   | _ i ihi =>
    intro hlt
    refine (hd i hlt).1 ?_
    cases hb : listed.getD i true with
    | true => rfl
    | false =>
     have : i ∈ Region.ready .any ops listed := by
      unfold Region.ready
      refine List.mem_filter.2 ⟨List.mem_range.2 hlt, ?_⟩
      rw [hb, Array.getElem?_eq_getElem hlt]
      simp only [Bool.not_false, Bool.true_and, Option.map_some, Option.getD_some, Array.all_eq_true_iff_forall_mem, Bool.or_eq_true, Bool.not_eq_true']
      intro e he
      right
      have h1 := Early.lt hE (Array.getElem?_eq_getElem hlt) he
      have h2 := (hd e.on (by omega)).2 (ihi e.on h1 (by omega))
      rw [Array.getD_eq_getD_getElem?] at h2 ⊢
      rw [Array.getElem?_eq_getElem (by omega)] at h2 ⊢
      exact h2
     rw [hnil] at this
     cases this
  | some i =>
   have hm := List.mem_of_getElem? hi
   unfold Region.ready at hm
   obtain ⟨hr, hc⟩ := List.mem_filter.1 hm
   have hlt := List.mem_range.1 hr
   rw [Array.getElem?_eq_getElem hlt] at hc
   simp only [Option.map_some, Option.getD_some, Bool.and_eq_true, Bool.not_eq_true', Array.all_eq_true_iff_forall_mem, Bool.or_eq_true] at hc
   obtain ⟨hc1, hc2⟩ := hc
   simp only []
   rw [linearise_go_acc, List.reverse_singleton, List.singleton_append]
   have hset : ∀ j, j < ops.size → ((listed.setIfInBounds i true).getD j true = true ↔ j ∈ i :: d) := by
    intro j hj
    rw [Array.getD_eq_getD_getElem?]
    by_cases e : i = j
    ·subst e
     rw [Array.getElem?_setIfInBounds_self_of_lt (by omega)]
     simp
    ·rw [Array.getElem?_setIfInBounds_ne e, ← Array.getD_eq_getD_getElem?, hd j hj]
     simp [List.mem_cons, Ne.symm e]
   refine .cons d i _ hlt (fun hid => ?_) (fun o ho e he hb => ?_) (ih _ _ _ (by simpa using hs) hset ?_)
   ·have := (hd i hlt).2 hid
    rw [hc1] at this
    cases this
   ·rw [Array.getElem?_eq_getElem hlt] at ho
    obtain rfl := Option.some.inj ho
    have h1 := hc2 e he
    rw [hb] at h1
    have h2 := Early.lt hE (Array.getElem?_eq_getElem hlt) he
    refine (hd e.on (by omega)).1 ?_
    have h3 : listed.getD e.on false = true := by
     rcases h1 with h1 | h1
     ·cases h1
     ·exact h1
    rw [Array.getD_eq_getD_getElem?] at h3 ⊢
    rw [Array.getElem?_eq_getElem (by omega)] at h3 ⊢
    exact h3
   ·have hsub : ((List.range ops.size).filter fun j => !(listed.setIfInBounds i true).getD j true) = ((List.range ops.size).filter fun j => !listed.getD j true).filter fun j => j != i := by
     rw [List.filter_filter]
     apply List.filter_congr
     intro j hj
     rw [Array.getD_eq_getD_getElem?, Array.getD_eq_getD_getElem?]
     by_cases e : i = j
     ·subst e
      rw [Array.getElem?_setIfInBounds_self_of_lt (by have := List.mem_range.1 hj; omega)]
      simp
     ·rw [Array.getElem?_setIfInBounds_ne e]
      have : (j != i) = true := by simp [Ne.symm e]
      rw [this, Bool.true_and]
    have hmem : i ∈ (List.range ops.size).filter fun j => !listed.getD j true := List.mem_filter.2 ⟨hr, by rw [hc1]; rfl⟩
    have hlt2 : (((List.range ops.size).filter fun j => !listed.getD j true).filter fun j => j != i).length < ((List.range ops.size).filter fun j => !listed.getD j true).length :=
     List.length_filter_lt_length_iff_exists.2 ⟨i, hmem, by simp⟩
    rw [hsub]
    omega
theorem lin_of {ops : Array Oper} (hE : Early ops = true) (t : Nat) : Lin ops [] (Region.linearise .any ops t) := by
 unfold Region.linearise
 refine lin_go hE _ _ _ _ (by simp) (fun i hi => ?_) (Nat.le_trans (List.length_filter_le _ _) (by simp))
 rw [Array.getD_eq_getD_getElem?, Array.getElem?_replicate, if_pos hi]
 simp
section
variable {P : Program} {S : List FuncId} {main gr st : Bool} {Live : World → Prop} {K : Goroutine → World → Prop} {v : World} {b : Frame} {a : Act} {k : List Item} {cs : List Frame}
/-- The order is drawn. -/
theorem kDraw (hm : P.follows .mixedOrders = true) (hK : KOk P main gr st Live K) (hF : Flat P v) {id : Nat} {ops : Array Oper} (hE : Early ops = true)
  (h : ∀ l, Lin ops [] l → KA K (G (b.at a (.inRegion ops l :: k)) cs) v) : KA K (G (b.at a (.code (.region id ops true) :: k)) cs) v := by
 intro t e
 refine hK.step _ (v.re t e) rfl fun w hV hz hL => ?_
 have hVu := (hV.upto (n := w.heap.size) (Nat.le_refl _)).re w.tape w.drawn
 have hle : v.heap.size ≤ w.heap.size := hV.size
 have hsz : w.heap.size = ((((v.re t e).upto w.heap.size).re w.tape w.drawn)).heap.size := by
  show w.heap.size = (v.upto w.heap.size).heap.size
  rw [upto_size]; omega
 refine ⟨G (b.at a (.inRegion ops (Region.schedule (P.follows .mixedOrders) ops (w.tape w.drawn (.order b.fn id))) :: k)) cs, _, _, #[], ?_, fol_draw hVu hsz rfl rfl, fun e he => by simp at he, fun _ => rfl, ?_⟩
 ·simp [G, Frame.at, stepG, stepG.exec, choose, Sem.run, Question.forced, Question.cut]
 ·have hl := h (Region.schedule (P.follows .mixedOrders) ops (w.tape w.drawn (.order b.fn id))) (by
   simp only [Region.schedule, hm, Bool.true_or, if_true]
   exact lin_of hE _)
  show K _ ((v.re w.tape (w.drawn + 1)).upto w.heap.size)
  cases gr with
  | true => exact hK.more rfl _ _ _ (re_flat hF) (hl _ _)
  | false =>
   have e : w.heap.size = v.heap.size := hz rfl
   rw [upto_le (v := v.re w.tape (w.drawn + 1)) (by show w.heap.size ≤ v.heap.size; omega)]
   exact hl _ _
end
/-! ### the slots behind the operations that are done -/
def putT (ops : Array Oper) (F : Nat → Value) (T : Array Value) (i : Nat) : Array Value := match (ops[i]?).bind (·.dst) with
 | some d => T.setIfInBounds d (F i)
 | none => T
def fillT (ops : Array Oper) (F : Nat → Value) (T0 : Array Value) (d : List Nat) : Array Value := d.foldr (fun i T => putT ops F T i) T0
/-- No two operations have one slot. -/
def Apart (ops : Array Oper) : Prop := ∀ (i j s : Nat), (ops[i]?).bind (·.dst) = some s → (ops[j]?).bind (·.dst) = some s → i = j
def ApartB (ops : Array Oper) : Bool := (List.range ops.size).all fun i => (List.range ops.size).all fun j => i == j || (match (ops[i]?).bind (·.dst) with | some s => (ops[j]?).bind (·.dst) != some s | none => true)
theorem apart_of {ops : Array Oper} (h : ApartB ops = true) : Apart ops := by
 intro i j s hi hj
 have lt : ∀ {i : Nat} {s : Nat}, (ops[i]?).bind (·.dst) = some s → i < ops.size := fun {i s} h => by
  apply Classical.byContradiction
  intro hn
  rw [Array.getElem?_eq_none (by omega)] at h
  cases h
 unfold ApartB at h
 rw [List.all_eq_true] at h
 have h1 := h i (List.mem_range.2 (lt hi))
 rw [List.all_eq_true] at h1
 have h2 := h1 j (List.mem_range.2 (lt hj))
 rw [hi] at h2
 simp only [Bool.or_eq_true, beq_iff_eq, bne_iff_ne, ne_eq] at h2
 rcases h2 with h2 | h2
 ·exact h2
 ·exact absurd hj h2
/-- No operation has this slot. -/
def NoDst (ops : Array Oper) (s : Nat) : Bool := ops.all fun o => o.dst != some s
theorem noDst {ops : Array Oper} {s : Nat} (h : NoDst ops s = true) (i : Nat) : (ops[i]?).bind (·.dst) ≠ some s := by
 intro e
 obtain ⟨o, ho, hs⟩ := Option.bind_eq_some_iff.1 e
 unfold NoDst at h
 rw [Array.all_eq_true_iff_forall_mem] at h
 have := h o (Array.mem_of_getElem? ho)
 rw [hs] at this
 simp at this
section
variable {ops : Array Oper} {F : Nat → Value} {T0 : Array Value}
theorem putT_size (T : Array Value) (i : Nat) : (putT ops F T i).size = T.size := by unfold putT; split <;> simp
theorem fillT_size : ∀ (d : List Nat), (fillT ops F T0 d).size = T0.size
 | [] => rfl
 | i :: d => by
  show (putT ops F (fillT ops F T0 d) i).size = _
  rw [putT_size, fillT_size d]
theorem fillT_other {s : Nat} : ∀ {d : List Nat}, (∀ i ∈ d, (ops[i]?).bind (·.dst) ≠ some s) → (fillT ops F T0 d)[s]? = T0[s]?
 | [], _ => rfl
 | i :: d, h => by
  show (putT ops F (fillT ops F T0 d) i)[s]? = _
  unfold putT
  split
  ·rename_i x hx
   rw [Array.getElem?_setIfInBounds_ne (fun e => h i (List.mem_cons_self ..) (by rw [hx, e]))]
   exact fillT_other fun j hj => h j (List.mem_cons_of_mem _ hj)
  ·exact fillT_other fun j hj => h j (List.mem_cons_of_mem _ hj)
theorem fillT_at (hA : Apart ops) {i s : Nat} (hs : (ops[i]?).bind (·.dst) = some s) (hlt : s < T0.size) : ∀ {d : List Nat}, i ∈ d → (fillT ops F T0 d)[s]? = some (F i)
 | [], h => by cases h
 | j :: d, h => by
  show (putT ops F (fillT ops F T0 d) j)[s]? = _
  by_cases e : j = i
  ·subst e
   unfold putT
   rw [hs]
   exact Array.getElem?_setIfInBounds_self_of_lt (by rw [fillT_size]; exact hlt)
  ·have hd : i ∈ d := by
    rcases List.mem_cons.1 h with h1 | h1
    ·exact absurd h1.symm e
    ·exact h1
   unfold putT
   split
   ·rename_i x hx
    rw [Array.getElem?_setIfInBounds_ne (fun e' => e (hA j i s (by rw [hx, e']) hs))]
    exact fillT_at hA hs hlt hd
   ·exact fillT_at hA hs hlt hd
theorem fillT_getD (hA : Apart ops) {i s : Nat} (hs : (ops[i]?).bind (·.dst) = some s) (hlt : s < T0.size) {d : List Nat} (hd : i ∈ d) : (fillT ops F T0 d).getD s undef = F i := by
 rw [Array.getD_eq_getD_getElem?, fillT_at hA hs hlt hd]; rfl
theorem fillT_keep {s : Nat} {d : List Nat} (h : ∀ i ∈ d, (ops[i]?).bind (·.dst) ≠ some s) : (fillT ops F T0 d).getD s undef = T0.getD s undef := by
 rw [Array.getD_eq_getD_getElem?, Array.getD_eq_getD_getElem?, fillT_other h]
/-- An operand's value, while the region goes on. -/
theorem fill_ev (hA : ApartB ops = true) {i s : Nat} (hs : (ops[i]?).bind (·.dst) = some s) (hlt : s < T0.size) {d : List Nat} (hd : i ∈ d) (ds : List Deferred) : (Act.mk (fillT ops F T0 d) ds).eval (.tmp s) = F i := fillT_getD (apart_of hA) hs hlt hd
theorem fill_old {s : Nat} (h : NoDst ops s = true) (d : List Nat) (ds : List Deferred) : (Act.mk (fillT ops F T0 d) ds).eval (.tmp s) = T0.getD s undef := fillT_keep fun i _ => noDst h i
end
/-- With each operation what it waits for is done. -/
def Shuts (ops : Array Oper) (d : List Nat) : Prop := ∀ i ∈ d, ∀ o, ops[i]? = some o → ∀ e ∈ o.after, Region.binds .any e = true → e.on ∈ d
theorem Shuts.nil {ops : Array Oper} : Shuts ops [] := fun i hi => by cases hi
theorem Shuts.cons {ops : Array Oper} {d : List Nat} {i : Nat} (h : Shuts ops d) (h3 : ∀ o, ops[i]? = some o → ∀ e ∈ o.after, Region.binds .any e = true → e.on ∈ d) : Shuts ops (i :: d) := fun j hj o ho e he hb => by
 rcases List.mem_cons.1 hj with rfl | hj
 ·exact List.mem_cons_of_mem _ (h3 o ho e he hb)
 ·exact List.mem_cons_of_mem _ (h j hj o ho e he hb)
/-- An operation that is quiet: with what it waits for done, it comes to F i, and leaves the world as it is. -/
def QuietAt (P : Program) (S : List FuncId) (v : World) (ops : Array Oper) (F : Nat → Value) (T0 : Array Value) (i : Nat) : Prop :=
 ∃ o, ops[i]? = some o ∧ opOk P S o = true ∧ o.guard = none ∧ ∀ d : List Nat, i ∉ d → (∀ e ∈ o.after, Region.binds .any e = true → e.on ∈ d) → ∀ v₁ : World, (∀ (b : Nat) (o : Obj), v.heap[b]? = some o → v₁.heap[b]? = some o) →
  (execOp (Act.mk (fillT ops F T0 d) []).eval o).run P v₁ = .ok (.value (F i)) v₁
theorem quiet_of {P : Program} {S : List FuncId} {v : World} {ops : Array Oper} {F : Nat → Value} {T0 : Array Value} {i : Nat} {o : Oper} (ho : ops[i]? = some o) (hok : opOk P S o = true) (hg : o.guard = none) (deps : List Nat) (hdep : (deps.all fun k => o.after.any fun e => e.on == k && Region.binds .any e) = true)
  (h : ∀ d : List Nat, (∀ k ∈ deps, k ∈ d) → ∀ v₁ : World, (∀ (b : Nat) (o : Obj), v.heap[b]? = some o → v₁.heap[b]? = some o) → (execOp (Act.mk (fillT ops F T0 d) []).eval o).run P v₁ = .ok (.value (F i)) v₁) : QuietAt P S v ops F T0 i := by
 refine ⟨o, ho, hok, hg, fun d _ hd v₁ hx => h d (fun k hk => ?_) v₁ hx⟩
 rw [List.all_eq_true] at hdep
 have h1 := hdep k hk
 rw [Array.any_eq_true] at h1
 obtain ⟨j, hj, h2⟩ := h1
 rw [Bool.and_eq_true, beq_iff_eq] at h2
 rw [← h2.1]
 exact hd _ (Array.getElem_mem hj) h2.2
section
variable {P : Program} {S : List FuncId} {main gr st : Bool} {Live : World → Prop} {K : Goroutine → World → Prop} {v : World} {b : Frame} {df : List Deferred} {k : List Item} {cs : List Frame} {ops : Array Oper} {F : Nat → Value} {T0 : Array Value}
/-- ████ The quiet operations of a drawn region, up to the next one that is not. ████ -/
theorem kQuiet (hS : Bodies P S) (hK : KOk P main gr st Live K) (hF : Flat P v) (hk : b.kind ≠ .early) (Q R : Nat → Prop) [DecidablePred Q] (hQR : ∀ i, Q i → R i) (hq : ∀ i, Q i → QuietAt P S v ops F T0 i)
  (d0 : List Nat) (hs : ∀ d i r, ¬ Q i → (∀ j ∈ d, R j) → (∀ j ∈ d0, j ∈ d) → Shuts ops d → Lin ops d (i :: r) → KA K (G (b.at ⟨fillT ops F T0 d, df⟩ (.inRegion ops (i :: r) :: k)) cs) v)
  (he : ∀ d, (∀ j ∈ d, R j) → (∀ j ∈ d0, j ∈ d) → Lin ops d [] → KA K (G (b.at ⟨fillT ops F T0 d, df⟩ (.inRegion ops [] :: k)) cs) v) :
  ∀ (l d : List Nat), (∀ j ∈ d, R j) → (∀ j ∈ d0, j ∈ d) → Shuts ops d → Lin ops d l → KA K (G (b.at ⟨fillT ops F T0 d, df⟩ (.inRegion ops l :: k)) cs) v := by
 intro l
 induction l with
 | nil => exact fun d hd h0 _ h => he d hd h0 h
 | cons i r ih =>
  intro d hd h0 hC h
  by_cases hQ : Q i
  ·have h' := h
   cases h with
   | cons _ _ _ h1 h2 h3 h4 =>
    obtain ⟨o, ho, hok, hg, hrun⟩ := hq i hQ
    refine kOp hS hK hF hk ho (by unfold Region.wanted; rw [hg]) hok (hrun d h2 (h3 o ho)) ?_
    have e : (Act.mk (fillT ops F T0 d) df).put o.dst (F i) = ⟨fillT ops F T0 (i :: d), df⟩ := by
     show _ = Act.mk (putT ops F (fillT ops F T0 d) i) df
     unfold putT
     rw [ho]
     cases hdd : o.dst <;> simp [hdd, Act.put]
    rw [e]
    exact ih (i :: d) (fun j hj => (List.mem_cons.1 hj).elim (fun e => e ▸ hQR i hQ) (hd j)) (fun j hj => List.mem_cons_of_mem _ (h0 j hj)) (hC.cons h3) h4
  ·exact hs d i r hQ hd h0 hC h
/-- behind an operation that is done -/
theorem fill_put {i : Nat} {d : List Nat} {o : Oper} (ho : ops[i]? = some o) {x : Value} (hx : x = F i) : (Act.mk (fillT ops F T0 d) df).put o.dst x = ⟨fillT ops F T0 (i :: d), df⟩ := by
 subst hx
 show _ = Act.mk (putT ops F (fillT ops F T0 d) i) df
 unfold putT
 rw [ho]
 cases hdd : o.dst <;> simp [hdd, Act.put]
theorem Lin.waits {d : List Nat} {i : Nat} {r : List Nat} (h : Lin ops d (i :: r)) {o : Oper} (ho : ops[i]? = some o) {k : Nat} (hk : (o.after.any fun e => e.on == k && Region.binds .any e) = true) : k ∈ d := by
 cases h with
 | cons _ _ _ h1 h2 h3 h4 =>
  rw [Array.any_eq_true] at hk
  obtain ⟨j, hj, h5⟩ := hk
  rw [Bool.and_eq_true, beq_iff_eq] at h5
  rw [← h5.1]
  exact h3 o ho _ (Array.getElem_mem hj) h5.2
theorem Lin.all {d : List Nat} (h : Lin ops d []) : ∀ i, i < ops.size → i ∈ d := by
 cases h with
 | nil _ h => exact h
theorem Lin.step {d : List Nat} {i : Nat} {r : List Nat} (h : Lin ops d (i :: r)) : i < ops.size ∧ i ∉ d ∧ (∀ o, ops[i]? = some o → ∀ e ∈ o.after, Region.binds .any e = true → e.on ∈ d) ∧ Lin ops (i :: d) r := by
 cases h with
 | cons _ _ _ h1 h2 h3 h4 => exact ⟨h1, h2, h3, h4⟩
theorem fillT_congr {F F' : Nat → Value} : ∀ {d : List Nat}, (∀ j ∈ d, F j = F' j) → fillT ops F T0 d = fillT ops F' T0 d
 | [], _ => rfl
 | i :: d, h => by
  show putT ops F (fillT ops F T0 d) i = putT ops F' (fillT ops F' T0 d) i
  rw [fillT_congr fun j hj => h j (List.mem_cons_of_mem _ hj)]
  unfold putT
  rw [h i (List.mem_cons_self ..)]
/-- behind an operation that is done, whatever it comes to -/
theorem fill_new {F : Nat → Value} {i : Nat} {d : List Nat} (hi : i ∉ d) {o : Oper} (ho : ops[i]? = some o) (x : Value) : (Act.mk (fillT ops F T0 d) df).put o.dst x = ⟨fillT ops (Go.ConcN.upd F i x) T0 (i :: d), df⟩ := by
 rw [fillT_congr (F := F) (F' := Go.ConcN.upd F i x) fun j hj => (Go.ConcN.upd_ne _ _ (by rintro rfl; exact hi hj)).symm]
 exact fill_put ho (by rw [Go.ConcN.upd_same])
/-- ████ A drawn region, whatever its operations do. ████ -/
theorem kFree (Inv : List Nat → (Nat → Value) → World → Prop)
  (step : ∀ d F v i o r, Inv d F v → Flat P v → i ∉ d → ops[i]? = some o → Lin ops d (i :: r) → Shuts ops d → (∀ F' v', Flat P v' → Inv (i :: d) F' v' → KA K (G (b.at ⟨fillT ops F' T0 (i :: d), df⟩ (.inRegion ops r :: k)) cs) v') → KA K (G (b.at ⟨fillT ops F T0 d, df⟩ (.inRegion ops (i :: r) :: k)) cs) v)
  (fin : ∀ d F v, Inv d F v → Flat P v → (∀ i, i < ops.size → i ∈ d) → KA K (G (b.at ⟨fillT ops F T0 d, df⟩ (.inRegion ops [] :: k)) cs) v) :
  ∀ (l d : List Nat) (F : Nat → Value) (v : World), Inv d F v → Flat P v → Shuts ops d → Lin ops d l → KA K (G (b.at ⟨fillT ops F T0 d, df⟩ (.inRegion ops l :: k)) cs) v := by
 intro l
 induction l with
 | nil => exact fun d F v hI hF _ hL => fin d F v hI hF hL.all
 | cons i r ih =>
  intro d F v hI hF hC hL
  obtain ⟨h1, h2, h3, h4⟩ := hL.step
  obtain ⟨o, ho⟩ : ∃ o, ops[i]? = some o := ⟨_, Array.getElem?_eq_getElem h1⟩
  exact step d F v i o r hI hF h2 ho hL hC fun F' v' hF' hI' => ih (i :: d) F' v' hI' hF' (hC.cons h3) h4
end
end Go.Proofs.Ythmgpkcijolljaa
/-
  A drawn region whose last operation waits for all others, which are quiet.
-/
namespace Go.Proofs.Ythmgpkcijolljaa
open Go.Conc
set_option linter.unusedSimpArgs false
set_option linter.unusedVariables false
/-- Who waits for an operation finds it done. -/
theorem shut_dep {ops : Array Oper} {d : List Nat} (h : Shuts ops d) {i k : Nat} (hi : i ∈ d) {o : Oper} (ho : ops[i]? = some o) (hk : (o.after.any fun e => e.on == k && Region.binds .any e) = true) : k ∈ d := by
 rw [Array.any_eq_true] at hk
 obtain ⟨j, hj, h5⟩ := hk
 rw [Bool.and_eq_true, beq_iff_eq] at h5
 rw [← h5.1]
 exact h i hi o ho _ (Array.getElem_mem hj) h5.2
def waits1 (ops : Array Oper) (i j : Nat) : Bool := match ops[i]? with
 | some o => o.after.any fun e => e.on == j && Region.binds .any e
 | none => false
/-- Operation m waits for all before it. -/
def Dom (ops : Array Oper) (m : Nat) : Bool := (List.range m).all fun j => (List.range (m + 1)).any fun i => decide (j < i) && waits1 ops i j
theorem Dom.all {ops : Array Oper} {m : Nat} (h : Dom ops m = true) {d : List Nat} (hS : Shuts ops d) {r : List Nat} (hL : Lin ops d (m :: r)) : ∀ j, j < m → j ∈ d := by
 have key : ∀ n j, m - j = n → j < m → j ∈ d := by
  intro n
  induction n using Nat.strongRecOn with
  | _ n ih =>
   intro j hn hj
   unfold Dom at h
   rw [List.all_eq_true] at h
   have h1 := h j (List.mem_range.2 hj)
   rw [List.any_eq_true] at h1
   obtain ⟨i, hi, h2⟩ := h1
   rw [Bool.and_eq_true, decide_eq_true_eq] at h2
   have hi' := List.mem_range.1 hi
   have h3 := h2.2
   unfold waits1 at h3
   split at h3
   ·rename_i o ho
    by_cases e : i = m
    ·subst e
     exact hL.waits ho h3
    ·exact shut_dep hS (ih (m - i) (by omega) i rfl (by omega)) ho h3
   ·cases h3
 exact fun j hj => key _ j rfl hj
section
variable {P : Program} {S : List FuncId} {main gr st : Bool} {Live : World → Prop} {K : Goroutine → World → Prop} {v : World} {b : Frame} {df : List Deferred} {k : List Item} {cs : List Frame} {ops : Array Oper} {F : Nat → Value} {T0 : Array Value}
/-- ████ All is quiet up to the last operation. ████ -/
theorem kLast (hS : Bodies P S) (hm : P.follows .mixedOrders = true) (hK : KOk P main gr st Live K) (hF : Flat P v) (hk : b.kind ≠ .early) {id m : Nat} (hE : Early ops = true) (hsz : ops.size = m + 1) (hD : Dom ops m = true) (hq : ∀ j, j < m → QuietAt P S v ops F T0 j)
  (h : ∀ d, (∀ j, j < m → j ∈ d) → m ∉ d → KA K (G (b.at ⟨fillT ops F T0 d, df⟩ (.inRegion ops [m] :: k)) cs) v) : KA K (G (b.at ⟨T0, df⟩ (.code (.region id ops true) :: k)) cs) v := by
 refine kDraw hm hK hF hE fun ord hord => ?_
 refine kQuiet (F := F) (T0 := T0) hS hK hF hk (fun j => j < m) (fun j => j < m) (fun _ h => h) hq [] (fun d i r hnQ hR _ hC hL => ?_) (fun d hR _ hL => ?_) ord [] (by simp) (by simp) .nil hord
 ·obtain ⟨hlt, hnd, hdep, hL'⟩ := hL.step
  obtain rfl : i = m := by omega
  have hall := Dom.all hD hC hL
  obtain rfl : r = [] := by
   cases r with
   | nil => rfl
   | cons q r =>
    exfalso
    obtain ⟨h1, h2, _, _⟩ := hL'.step
    refine h2 ?_
    by_cases e : q = i
    ·rw [e]; exact List.mem_cons_self ..
    ·exact List.mem_cons_of_mem _ (hall q (by omega))
  exact h d hall hnd
 ·exact absurd (hR m (hL.all m (by omega))) (by omega)
/-- .. all of it is quiet. -/
theorem kAll (hS : Bodies P S) (hm : P.follows .mixedOrders = true) (hK : KOk P main gr st Live K) (hF : Flat P v) (hk : b.kind ≠ .early) {id : Nat} (hE : Early ops = true) (hq : ∀ j, j < ops.size → QuietAt P S v ops F T0 j)
  (h : ∀ d, (∀ j, j < ops.size → j ∈ d) → KA K (G (b.at ⟨fillT ops F T0 d, df⟩ (.inRegion ops [] :: k)) cs) v) : KA K (G (b.at ⟨T0, df⟩ (.code (.region id ops true) :: k)) cs) v := by
 refine kDraw hm hK hF hE fun ord hord => ?_
 exact kQuiet (F := F) (T0 := T0) hS hK hF hk (fun j => j < ops.size) (fun j => j < ops.size) (fun _ h => h) hq [] (fun d i r hnQ hR _ hC hL => absurd hL.step.1 hnQ) (fun d hR _ hL => h d hL.all) ord [] (by simp) (by simp) .nil hord
/-- .. up to the next operation that is not quiet: it is not among qs, nor done (d0). -/
theorem kPhase (hS : Bodies P S) (hK : KOk P main gr st Live K) (hF : Flat P v) (hk : b.kind ≠ .early) (qs d0 : List Nat) (hq : ∀ j ∈ qs, QuietAt P S v ops F T0 j) (m0 : Nat) (hm : m0 < ops.size ∧ m0 ∉ qs ∧ m0 ∉ d0)
  (hs : ∀ d i r, i ∉ qs → i ∉ d0 → i < ops.size → i ∉ d → (∀ j ∈ d, j ∈ qs ∨ j ∈ d0) → (∀ j ∈ d0, j ∈ d) → Shuts ops d → Lin ops d (i :: r) → KA K (G (b.at ⟨fillT ops F T0 d, df⟩ (.inRegion ops (i :: r) :: k)) cs) v)
  {l d : List Nat} (hd : ∀ j ∈ d, j ∈ qs ∨ j ∈ d0) (h0 : ∀ j ∈ d0, j ∈ d) (hC : Shuts ops d) (hL : Lin ops d l) : KA K (G (b.at ⟨fillT ops F T0 d, df⟩ (.inRegion ops l :: k)) cs) v := by
 refine kQuiet (F := F) (T0 := T0) hS hK hF hk (fun j => j ∈ qs) (fun j => j ∈ qs ∨ j ∈ d0) (fun _ h => .inl h) hq d0 (fun d i r hnQ hR h0 hC hL => ?_) (fun d hR h0 hL => ?_) l d hd h0 hC hL
 ·obtain ⟨hlt, hnd, hdep, hL'⟩ := hL.step
  exact hs d i r hnQ (fun h => hnd (h0 i h)) hlt hnd hR h0 hC hL
 ·rcases hR m0 (hL.all m0 hm.1) with h | h
  ·exact absurd h hm.2.1
  ·exact absurd h hm.2.2
end
end Go.Proofs.Ythmgpkcijolljaa
