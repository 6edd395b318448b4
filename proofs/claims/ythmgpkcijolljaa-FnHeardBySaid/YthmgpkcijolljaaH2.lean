/-
  The veil: a world as one goroutine sees it (what is not its own is hidden, what is shared is frozen), and what a step of simple make does to the true world behind it.
-/
import Derived.Conc.Beside
import Derived.Calls
namespace Go.Proofs.Ythmgpkcijolljaa
open Go.Conc
set_option linter.unusedSimpArgs false
set_option linter.unusedVariables false
/-- What is hidden: nothing of it can be looked at. -/
def hid : Obj := .view ⟨0, 0, some 0⟩ 0
def inFr (f : Nat × Nat) (i : Nat) : Prop := f.1 ≤ i ∧ i < f.2
/-- An object as it is seen, and as it is. -/
inductive Blq : Obj → Obj → Prop
  | hid (o : Obj) : Blq hid o
  | cells (c : Array Value) (e : TypeId) (f f' : Nat × Nat) (hf : (∀ i, inFr f' i → inFr f i) ∧ (f = (0, 0) → f' = (0, 0))) : Blq (.cells c e f) (.cells c e f')
  | map (es : Array MapEntry) (k : Nat) : Blq (.map es k) (.map es k)
  | chan (cap : Nat) (buf : Array Value) (cl : Bool) (s r : Nat) (t : Bool) : Blq (.chan cap buf cl s r t) (.chan cap buf cl s r t)
  | number (a : Addr) (l : Bool) : Blq (.number a l) (.number a l)
def _root_.Go.World.re (v : World) (t : Nat → Question → Nat) (d : Nat) : World := { v with tape := t, drawn := d }
/-- The world with hidden blocks at its end. -/
def _root_.Go.World.upto (v : World) (n : Nat) : World := { v with heap := v.heap ++ Array.replicate (n - v.heap.size) hid }
def flat : Obj → Prop
  | .cells .. | .map .. | .chan .. | .number .. => True
  | .view a t => a = ⟨0, 0, some 0⟩ ∧ t = 0
  | _ => False
structure Flat (P : Program) (v : World) : Prop where
  room : P.globals.size ≤ v.heap.size
  obj : ∀ (b : Nat) (o : Obj), v.heap[b]? = some o → flat o
  low : ∀ (b : Nat), v.heap[b]? = some hid → P.globals.size ≤ b
structure Veil (P : Program) (v w : World) : Prop where
  size : v.heap.size ≤ w.heap.size
  blk : ∀ (b : Nat) (o : Obj), v.heap[b]? = some o → ∃ o', w.heap[b]? = some o' ∧ Blq o o'
  flat : Flat P v
theorem flat_self {o : Obj} (h : flat o) : Blq o o := by
  cases o <;> simp only [flat] at h
  case cells c e f => exact .cells _ _ _ _ ⟨fun _ x => x, fun x => x⟩
  case view a t => obtain ⟨rfl, rfl⟩ := h; exact .hid _
  case number a l => exact .number _ _
  case map es k => exact .map _ _
  case chan => exact .chan _ _ _ _ _ _
theorem Flat.self {P : Program} {v : World} (h : Flat P v) : Veil P v v := ⟨Nat.le_refl _, fun b o e => ⟨o, e, flat_self (h.obj b o e)⟩, h⟩
/-! ### Steps of simple make -/
def okHalt : Halt → Prop
  | .panic _ | .stuck _ => True
  | .unsupported (.initOrder _) => False
  | .unsupported _ => True
  | _ => False
def okNew : Obj → Prop
  | .cells _ _ f => f = (0, 0)
  | .map .. | .chan .. | .number .. => True
  | _ => False
def okSet : Obj → Prop
  | .map .. | .chan .. | .number .. => True
  | _ => False
/-- Where block r is hidden it comes to no value. -/
def _root_.Go.Sem.deadOn {α : Type} (P : Program) (r : Nat) (s : Sem α) : Prop := ∀ (v : World), Flat P v → v.heap[r]? = some hid → ∀ (x : α) (v' : World), s.run P v ≠ .ok x v'
/-- It comes to no value. -/
def _root_.Go.Sem.dead {α : Type} (P : Program) : Sem α → Prop
  | .pure _ => False
  | .load m _ k => m = .plain ∧ ∀ x, (k x).dead P
  | .store m _ _ k => m = .plain ∧ k.dead P
  | .new o k => okNew o ∧ ∀ r, (k r).dead P
  | .shape _ k => ∀ x, (k x).dead P
  | .freeze _ _ _ => False
  | .frozen _ k => ∀ x, (k x).dead P
  | .getObj _ k => ∀ x, (k x).dead P
  | .setObj _ _ _ => False
  | .choose _ k => ∀ x, (k x).dead P
  | .sys _ _ => False
  | .program k => (k P).dead P
  | .mark m k => m = .noRoom ∧ k.dead P
  | .halt h => okHalt h
def _root_.Go.Sem.tame {α : Type} (P : Program) (L : α → Prop) : Sem α → Prop
  | .pure a => L a
  | .load m _ k => m = .plain ∧ ∀ x, (k x).tame P L
  | .store m _ _ k => m = .plain ∧ k.tame P L
  | .new o k => okNew o ∧ ∀ r, (k r).tame P L
  | .shape r k => (∀ x, (k x).tame P L) ∧ (k none).deadOn P r
  | .freeze _ _ _ => False
  | .frozen _ k => ∀ x, (k x).dead P
  | .getObj r k => (∀ x, (k x).tame P L) ∧ (k hid).deadOn P r
  | .setObj _ _ _ => False
  | .choose _ k => ∀ x, (k x).tame P L
  | .sys _ _ => False
  | .program k => (k P).tame P L
  | .mark m k => m = .noRoom ∧ k.tame P L
  | .halt h => okHalt h
section
variable {α β : Type} {P : Program} {L : α → Prop} {M : β → Prop}
/-- It may come to a value, and does nothing that a step of simple make does not do; it may ask for shapes. -/
def _root_.Go.Sem.semi {α : Type} (P : Program) : Sem α → Prop
  | .pure _ => True
  | .load m _ k => m = .plain ∧ ∀ x, (k x).semi P
  | .store m _ _ k => m = .plain ∧ k.semi P
  | .new o k => okNew o ∧ ∀ r, (k r).semi P
  | .shape _ k => ∀ x, (k x).semi P
  | .freeze _ _ _ => False
  | .frozen _ k => ∀ x, (k x).semi P
  | .getObj _ k => ∀ x, (k x).semi P
  | .setObj _ _ _ => False
  | .choose _ k => ∀ x, (k x).semi P
  | .sys _ _ => False
  | .program k => (k P).semi P
  | .mark m k => m = .noRoom ∧ k.semi P
  | .halt h => okHalt h
theorem semi_bind (s : Sem α) (f : α → Sem β) (h : s.semi P) (hf : ∀ a, (f a).semi P) : (s.bind f).semi P := by
  induction s with
  | pure a => exact hf a
  | load m a k ih => exact ⟨h.1, fun x => ih x (h.2 x)⟩
  | store m a v k ih => exact ⟨h.1, ih h.2⟩
  | new o k ih => exact ⟨h.1, fun x => ih x (h.2 x)⟩
  | shape r k ih => exact fun x => ih x (h x)
  | freeze a n k ih => exact h.elim
  | frozen a k ih => exact fun x => ih x (h x)
  | getObj r k ih => exact fun x => ih x (h x)
  | setObj r o k ih => exact h.elim
  | choose q k ih => exact fun x => ih x (h x)
  | sys c k ih => exact h.elim
  | program k ih => exact ih P h
  | mark m k ih => exact ⟨h.1, ih h.2⟩
  | halt h' => exact h
theorem semi_dead (s : Sem α) (f : α → Sem β) (h : s.semi P) (hf : ∀ a, (f a).dead P) : (s.bind f).dead P := by
  induction s with
  | pure a => exact hf a
  | load m a k ih => exact ⟨h.1, fun x => ih x (h.2 x)⟩
  | store m a v k ih => exact ⟨h.1, ih h.2⟩
  | new o k ih => exact ⟨h.1, fun x => ih x (h.2 x)⟩
  | shape r k ih => exact fun x => ih x (h x)
  | freeze a n k ih => exact h.elim
  | frozen a k ih => exact fun x => ih x (h x)
  | getObj r k ih => exact fun x => ih x (h x)
  | setObj r o k ih => exact h.elim
  | choose q k ih => exact fun x => ih x (h x)
  | sys c k ih => exact h.elim
  | program k ih => exact ih P h
  | mark m k ih => exact ⟨h.1, ih h.2⟩
  | halt h' => exact h
theorem dead_bind (s : Sem α) (f : α → Sem β) (h : s.dead P) : (s.bind f).dead P := by
  induction s with
  | pure a => exact h.elim
  | load m a k ih => exact ⟨h.1, fun x => ih x (h.2 x)⟩
  | store m a v k ih => exact ⟨h.1, ih h.2⟩
  | new o k ih => exact ⟨h.1, fun x => ih x (h.2 x)⟩
  | shape r k ih => exact fun x => ih x (h x)
  | freeze a n k ih => exact h.elim
  | frozen a k ih => exact fun x => ih x (h x)
  | getObj r k ih => exact fun x => ih x (h x)
  | setObj r o k ih => exact h.elim
  | choose q k ih => exact fun x => ih x (h x)
  | sys c k ih => exact h.elim
  | program k ih => exact ih P h
  | mark m k ih => exact ⟨h.1, ih h.2⟩
  | halt h' => exact h
theorem run_bind_ok {s : Sem α} {f : α → Sem β} : ∀ {v : World} {y : β} {v' : World}, (s.bind f).run P v = .ok y v' → ∃ x v₁, s.run P v = .ok x v₁ := by
  induction s with
  | pure a => exact fun _ => ⟨_, _, rfl⟩
  | load m a k ih =>
    intro v y v' e
    simp only [Sem.bind, Sem.run] at e ⊢
    split at e
    · exact ih _ e
    · split at e
      · exact ih _ e
      · cases e
  | store m a z k ih =>
    intro v y v' e
    cases z <;> simp only [Sem.bind, Sem.run] at e ⊢ <;> first
      | cases e
      | (split at e
         · split at e
           · cases e
           · rename_i h1 h2
             simp only [h2, Bool.false_eq_true, if_false]
             exact ih e
         · split at e
           · exact ih e
           · cases e)
  | new o k ih => exact fun e => ih _ e
  | shape r k ih => exact fun e => ih _ e
  | freeze a n k ih => exact fun e => ih e
  | frozen a k ih => exact fun e => ih _ e
  | getObj r k ih =>
    intro v y v' e
    simp only [Sem.bind, Sem.run] at e ⊢
    split at e
    · cases e
    · exact ih _ e
    · cases e
  | setObj r o k ih =>
    intro v y v' e
    simp only [Sem.bind, Sem.run] at e ⊢
    split at e
    · cases e
    · exact ih e
    · cases e
  | choose q k ih =>
    intro v y v' e
    simp only [Sem.bind, Sem.run] at e ⊢
    split at e
    · rename_i hq; simp only [hq, if_true]; exact ih _ e
    · rename_i hq; simp only [hq, Bool.false_eq_true, if_false]; exact ih _ e
  | sys c k ih => exact fun e => ih _ e
  | program k ih => exact fun e => ih _ e
  | mark m k ih => exact fun e => ih e
  | halt h => exact fun e => by cases e
theorem deadOn_bind {r : Nat} (s : Sem α) (f : α → Sem β) (h : s.deadOn P r) : (s.bind f).deadOn P r := fun v hF hr x v' e => by
  obtain ⟨y, v₁, h1⟩ := run_bind_ok e
  exact h v hF hr y v₁ h1
theorem tame_bind (s : Sem α) (f : α → Sem β) (h : s.tame P L) (hf : ∀ a, L a → (f a).tame P M) : (s.bind f).tame P M := by
  induction s with
  | pure a => exact hf a h
  | load m a k ih => exact ⟨h.1, fun x => ih x (h.2 x)⟩
  | store m a v k ih => exact ⟨h.1, ih h.2⟩
  | new o k ih => exact ⟨h.1, fun x => ih x (h.2 x)⟩
  | shape r k ih => exact ⟨fun x => ih x (h.1 x), deadOn_bind _ _ h.2⟩
  | freeze a n k ih => exact h.elim
  | frozen a k ih => exact fun x => dead_bind _ _ (h x)
  | getObj r k ih => exact ⟨fun x => ih x (h.1 x), deadOn_bind _ _ h.2⟩
  | setObj r o k ih => exact h.elim
  | choose q k ih => exact fun x => ih x (h x)
  | sys c k ih => exact h.elim
  | program k ih => exact ih P h
  | mark m k ih => exact ⟨h.1, ih h.2⟩
  | halt h' => exact h
end
/-! ### What may be read and written -/
def Rd (v : World) : Loc → Prop
  | .cell a => v.cell? a ≠ none
  | .obj r => ∃ o, v.heap[r]? = some o ∧ okSet o
  | _ => False
def Wr (v : World) : Loc → Prop
  | .cell a => v.cell? a ≠ none ∧ v.frozen? a = false
  | .obj r => ∃ o, v.heap[r]? = some o ∧ okSet o
  | _ => False
def _root_.Go.Loc.blockOf : Loc → Nat
  | .cell a => a.block
  | .obj r => r
  | _ => 0
/-- Nothing of this block can be written. -/
def Shut (v : World) (b : Nat) : Prop := v.heap[b]? = some hid ∨ ∃ c e f, v.heap[b]? = some (.cells c e f) ∧ ∀ i, i < c.size → inFr f i
def EvOk (v : World) (e : Event) : Prop :=
  match e.loc with
  | .cell a => Rd v (.cell a) ∧ (e.write = true → Wr v (.cell a)) ∧ e.sync = false
  | .obj r => Wr v (.obj r)
  | .mark m => m = .noRoom
  | _ => False
/-- What a stretch of one goroutine's own doing keeps. -/
structure Fol P (v w v' w' : World) : Prop where
  veil : Veil P v' w'
  size : w'.heap.size = v'.heap.size
  grow : v.heap.size ≤ v'.heap.size
  tape : w'.tape = w.tape
  vtape : v'.tape = w'.tape
  vdrawn : v'.drawn = w'.drawn
  os : w'.os = w.os
  output : w'.output = w.output
  shut : ∀ b, Shut v b → v'.heap[b]? = v.heap[b]? ∧ w'.heap[b]? = w.heap[b]?
  rd : ∀ l : Loc, l.blockOf < v.heap.size → (Rd v' l ↔ Rd v l)
  wr : ∀ l : Loc, l.blockOf < v.heap.size → (Wr v' l ↔ Wr v l)
  keep : ∀ a : Addr, a.block < v.heap.size → ¬ Wr v (.cell a) → w'.cell? a = w.cell? a
theorem Shut.lt {v : World} {b : Nat} (h : Shut v b) : b < v.heap.size := by
  rcases h with h | ⟨c, e, f, h, _⟩ <;> exact (Array.getElem?_eq_some_iff.1 h).1
section
variable {P : Program} {v w v' w' v₂ w₂ : World}
theorem Fol.refl (hV : Veil P v w) (hz : w.heap.size = v.heap.size) (ht : v.tape = w.tape) (hd : v.drawn = w.drawn) : Fol P v w v w :=
  ⟨hV, hz, Nat.le_refl _, rfl, ht, hd, rfl, rfl, fun _ _ => ⟨rfl, rfl⟩, fun _ _ => Iff.rfl, fun _ _ => Iff.rfl, fun _ _ _ => rfl⟩
theorem Fol.shut_of (h : Fol P v w v' w') {b : Nat} (hs : Shut v b) : Shut v' b := by
  rcases id hs with h1 | ⟨c, e, f, h1, h2⟩
  · exact .inl ((h.shut b hs).1.trans h1)
  · exact .inr ⟨c, e, f, (h.shut b hs).1.trans h1, h2⟩
theorem Fol.trans (h : Fol P v w v' w') (k : Fol P v' w' v₂ w₂) : Fol P v w v₂ w₂ :=
  ⟨k.veil, k.size, Nat.le_trans h.grow k.grow, k.tape.trans h.tape, k.vtape, k.vdrawn, k.os.trans h.os, k.output.trans h.output,
   fun b hb => ⟨(k.shut b (h.shut_of hb)).1.trans (h.shut b hb).1, (k.shut b (h.shut_of hb)).2.trans (h.shut b hb).2⟩,
   fun l hl => (k.rd l (Nat.lt_of_lt_of_le hl h.grow)).trans (h.rd l hl), fun l hl => (k.wr l (Nat.lt_of_lt_of_le hl h.grow)).trans (h.wr l hl),
   fun a ha hn => (k.keep a (Nat.lt_of_lt_of_le ha h.grow) fun x => hn ((h.wr (.cell a) ha).1 x)).trans (h.keep a ha hn)⟩
theorem Fol.ev (h : Fol P v w v' w') {e : Event} (he : EvOk v e) (hb : e.loc.blockOf < v.heap.size) : EvOk v' e := by
  obtain ⟨loc, wr, sy⟩ := e
  cases loc with
  | cell a => exact ⟨(h.rd _ hb).2 he.1, fun x => (h.wr _ hb).2 (he.2.1 x), he.2.2⟩
  | obj r => exact (h.wr _ hb).2 he
  | output => exact he
  | goroutines => exact he
  | mark m => exact he
end
theorem cell?_some {w : World} {a : Addr} {x : Value} (h : w.cell? a = some x) : ∃ c e f, w.heap[a.block]? = some (.cells c e f) ∧ a.spot = none ∧ c[a.off]? = some x := by
  unfold World.cell? at h
  split at h
  · rename_i c e f hc
    refine ⟨c, e, f, hc, ?_⟩
    cases hs : a.spot with
    | none => rw [hs] at h; exact ⟨rfl, by simpa using h⟩
    | some _ => rw [hs] at h; simp at h
  · cases h
theorem Veil.cell {P : Program} {v w : World} (h : Veil P v w) {a : Addr} {x : Value} (hx : v.cell? a = some x) : w.cell? a = some x := by
  obtain ⟨c, e, f, h1, h2, h3⟩ := cell?_some hx
  obtain ⟨o', h4, hb⟩ := h.blk _ _ h1
  cases hb with
  | cells _ _ _ f' hf => simp [World.cell?, h4, h2, h3]
theorem Veil.thaw {P : Program} {v w : World} (h : Veil P v w) {a : Addr} {x : Value} (hx : v.cell? a = some x) (hf : v.frozen? a = false) : w.frozen? a = false := by
  obtain ⟨c, e, f, h1, h2, h3⟩ := cell?_some hx
  obtain ⟨o', h4, hb⟩ := h.blk _ _ h1
  cases hb with
  | cells _ _ _ f' hf' =>
    simp only [World.frozen?, h1, h4] at hf ⊢
    cases hh : (decide (f'.1 ≤ a.off) && decide (a.off < f'.2)) with
    | false => rfl
    | true =>
      simp at hh
      have := hf'.1 a.off ⟨hh.1, hh.2⟩
      simp [inFr] at this
      simp at hf
      omega
theorem seen_hid (P : Program) (v : World) (a : Addr) (h : a.spot.isSome = true) (u : TypeId) (k : Addr) (at_ : Bool) : v.seen P a u k at_ = .error "memory seen as another type: a place without cells" := by
  unfold World.seen
  simp only [h, Bool.or_true, if_true]
  rfl
theorem viewLoad_hid (P : Program) (v : World) (a : Addr) (h : a.spot.isSome = true) (u : TypeId) (k : Addr) (at_ : Bool) : ∃ s, v.viewLoad P a u k at_ = .error s :=
  ⟨_, by unfold World.viewLoad; rw [seen_hid P v a h u k at_]; rfl⟩
theorem viewStore_hid (P : Program) (v : World) (a : Addr) (h : a.spot.isSome = true) (u : TypeId) (k : Addr) (x : Value) (at_ : Bool) : ∃ s, v.viewStore P a u k x at_ = .error s := by
  cases ht : tight P P.depth u with
  | false => exact ⟨_, by unfold World.viewStore; simp only [ht]; rfl⟩
  | true => exact ⟨_, by unfold World.viewStore; rw [seen_hid P v a h u k at_]; simp only [ht]; rfl⟩
theorem farLoad_flat {P : Program} {v : World} (hF : Flat P v) {a : Addr} (at_ : Bool) (hc : v.cell? a = none) : ∃ h, v.farLoad P a at_ = .error h ∧ okHalt h := by
  unfold World.farLoad
  cases hh : v.heap[a.block]? with
  | none => exact ⟨_, rfl, by simp [World.noCell, hh, okHalt]⟩
  | some o =>
    have := hF.obj _ _ hh
    cases o <;> simp only [flat] at this
    case view at' u =>
      obtain ⟨s, hs⟩ := viewLoad_hid P v at' (by rw [this.1]; rfl) u a at_
      exact ⟨.unsupported (.unsafePointer s), by simp only [hs], trivial⟩
    all_goals exact ⟨_, rfl, by simp [World.noCell, hh, okHalt]⟩
theorem farStore_flat {P : Program} {v : World} (hF : Flat P v) {a : Addr} (x : Value) (at_ : Bool) (hc : v.cell? a = none) : ∃ h, v.farStore P a x at_ = .error h ∧ okHalt h := by
  unfold World.farStore
  cases hh : v.heap[a.block]? with
  | none => exact ⟨_, rfl, by simp [World.noCell, hh, okHalt]⟩
  | some o =>
    have := hF.obj _ _ hh
    cases o <;> simp only [flat] at this
    case view at' u =>
      obtain ⟨s, hs⟩ := viewStore_hid P v at' (by rw [this.1]; rfl) u a x at_
      exact ⟨.unsupported (.unsafePointer s), by simp only [hs], trivial⟩
    all_goals exact ⟨_, rfl, by simp [World.noCell, hh, okHalt]⟩
theorem frozen?_true {v : World} {a : Addr} {c : Array Value} {e : TypeId} {f : Nat × Nat} (h : v.heap[a.block]? = some (.cells c e f)) : v.frozen? a = (decide (f.1 ≤ a.off) && decide (a.off < f.2)) := by
  simp [World.frozen?, h]
end Go.Proofs.Ythmgpkcijolljaa
/-
  A step of simple make, reckoned in the seen world, is the true world's step: its value, its doing, its listed accesses; and it hangs on the tape by the answers drawn alone.
-/
namespace Go.Proofs.Ythmgpkcijolljaa
open Go.Conc
set_option linter.unusedSimpArgs false
set_option linter.unusedVariables false
theorem setCell_get {w : World} {a : Addr} {x : Value} (b : Nat) : (w.setCell a x).heap[b]? = if b = a.block then (w.heap[b]?).map (fun o => match o with | .cells c elem frozen => .cells (if a.spot.isSome then c else c.setIfInBounds a.off x) elem frozen | o => o) else w.heap[b]? := by
  unfold World.setCell
  simp only [Array.getElem?_modify]
  by_cases h : b = a.block
  · subst h; simp; rfl
  · simp [h, Ne.symm h]
theorem setCell_size {w : World} {a : Addr} {x : Value} : (w.setCell a x).heap.size = w.heap.size := by simp [World.setCell]
theorem rd_cell_size {v : World} {a : Addr} : v.cell? a ≠ none ↔ ∃ c e f, v.heap[a.block]? = some (.cells c e f) ∧ a.spot = none ∧ a.off < c.size := by
  constructor
  · intro h
    obtain ⟨x, hx⟩ := Option.ne_none_iff_exists'.1 h
    obtain ⟨c, e, f, h1, h2, h3⟩ := cell?_some hx
    exact ⟨c, e, f, h1, h2, (Array.getElem?_eq_some_iff.1 h3).1⟩
  · rintro ⟨c, e, f, h1, h2, h3⟩
    simp [World.cell?, h1, h2, Array.getElem?_eq_getElem h3]
/-- Two objects that may be read and written alike. -/
def LikeO : Obj → Obj → Prop
  | .cells c _ f, .cells c' _ f' => c.size = c'.size ∧ f = f'
  | .cells .., _ => False
  | _, .cells .. => False
  | o, o' => (okSet o ↔ okSet o')
theorem LikeO.refl (o : Obj) : LikeO o o := by cases o <;> simp [LikeO]
theorem LikeO.of_set {o o' : Obj} (h : okSet o) (h' : okSet o') : LikeO o o' := by cases o <;> cases o' <;> simp_all [LikeO, okSet]
def Like (v v' : World) (n : Nat) : Prop := ∀ b, b < n → ∃ o o', v.heap[b]? = some o ∧ v'.heap[b]? = some o' ∧ LikeO o o'
theorem Like.rdwr {v v' : World} {n : Nat} (h : Like v v' n) (l : Loc) (hl : l.blockOf < n) : (Rd v' l ↔ Rd v l) ∧ (Wr v' l ↔ Wr v l) := by
  cases l with
  | cell a =>
    obtain ⟨o, o', h1, h2, hb⟩ := h a.block hl
    simp only [Rd, Wr, rd_cell_size, h1, h2]
    cases o <;> cases o' <;> first
      | exact hb.elim
      | (obtain ⟨e1, rfl⟩ := hb
         simp [World.frozen?, h1, h2, e1])
      | simp [World.frozen?, h1, h2]
  | obj r =>
    obtain ⟨o, o', h1, h2, hb⟩ := h r hl
    simp only [Rd, Wr, h1, h2]
    cases o <;> cases o' <;> first
      | exact hb.elim
      | simp_all [LikeO, okSet]
  | output => exact ⟨Iff.rfl, Iff.rfl⟩
  | goroutines => exact ⟨Iff.rfl, Iff.rfl⟩
  | mark m => exact ⟨Iff.rfl, Iff.rfl⟩
theorem rd_lt {v : World} {l : Loc} (h : Rd v l) : l.blockOf < v.heap.size := by
  cases l with
  | cell a =>
    obtain ⟨c, e, f, h1, _⟩ := rd_cell_size.1 h
    exact (Array.getElem?_eq_some_iff.1 h1).1
  | obj r => obtain ⟨o, h1, _⟩ := h; exact (Array.getElem?_eq_some_iff.1 h1).1
  | output => exact h.elim
  | goroutines => exact h.elim
  | mark m => exact h.elim
theorem Fol.ev' {P : Program} {v w v' w' : World} (h : Fol P v w v' w') {e : Event} (he : EvOk v e) : EvOk v' e := by
  obtain ⟨loc, wr, sy⟩ := e
  cases loc with
  | cell a => exact h.ev he (rd_lt (l := .cell a) he.1)
  | obj r => exact h.ev he (rd_lt (l := .obj r) he)
  | output => exact he
  | goroutines => exact he
  | mark m => exact he
theorem set_get {hp : Array Obj} {o : Obj} {r b : Nat} (hr : r < hp.size) : (hp.setIfInBounds r o)[b]? = if b = r then some o else hp[b]? := by
  by_cases h : b = r
  · subst h; simp [hr]
  · simp [h, Array.getElem?_setIfInBounds_ne (Ne.symm h)]
theorem Flat.of_set {P : Program} {v : World} (h : Flat P v) {a : Addr} {x : Value} : Flat P (v.setCell a x) := by
  refine ⟨by simpa [setCell_size] using h.room, fun b o e => ?_, fun b e => ?_⟩
  · rw [setCell_get] at e
    by_cases hb : b = a.block
    · rw [if_pos hb] at e
      obtain ⟨o', h1, h2⟩ := Option.map_eq_some_iff.1 e
      have := h.obj _ _ h1
      subst h2
      cases o' <;> first | exact this | trivial
    · rw [if_neg hb] at e; exact h.obj _ _ e
  · rw [setCell_get] at e
    by_cases hb : b = a.block
    · rw [if_pos hb] at e
      obtain ⟨o', h1, h2⟩ := Option.map_eq_some_iff.1 e
      refine h.low b ?_
      rw [h1]
      cases o' <;> first | exact congrArg some h2 | (simp [hid] at h2)
    · rw [if_neg hb] at e; exact h.low _ e
theorem flat_of_new {o : Obj} (h : okNew o) : flat o := by cases o <;> first | trivial | exact h.elim
theorem flat_of_okSet {o : Obj} (h : okSet o) : flat o := by cases o <;> first | trivial | exact h.elim
theorem Flat.push {P : Program} {v : World} (h : Flat P v) {o : Obj} (ho : okNew o) : Flat P { v with heap := v.heap.push o } := by
  refine ⟨by have := h.room; simp; omega, fun b o' e => ?_, fun b e => ?_⟩
  · simp only [Array.getElem?_push] at e
    by_cases hb : b = v.heap.size
    · rw [if_pos hb] at e; cases e; exact flat_of_new ho
    · rw [if_neg hb] at e; exact h.obj _ _ e
  · simp only [Array.getElem?_push] at e
    by_cases hb : b = v.heap.size
    · rw [if_pos hb] at e; rw [Option.some.inj e] at ho; exact ho.elim
    · rw [if_neg hb] at e; exact h.low _ e
theorem Flat.set {P : Program} {v : World} (h : Flat P v) {o : Obj} {r : Nat} (ho : okSet o) : Flat P { v with heap := v.heap.setIfInBounds r o } := by
  by_cases hr : r < v.heap.size
  · refine ⟨by have := h.room; simpa using this, fun b o' e => ?_, fun b e => ?_⟩
    · simp only [set_get hr] at e
      by_cases hb : b = r
      · rw [if_pos hb] at e; cases e; exact flat_of_okSet ho
      · rw [if_neg hb] at e; exact h.obj _ _ e
    · simp only [set_get hr] at e
      by_cases hb : b = r
      · rw [if_pos hb] at e; rw [Option.some.inj e] at ho; exact ho.elim
      · rw [if_neg hb] at e; exact h.low _ e
  · have e2 : (v.heap.setIfInBounds r o) = v.heap := by simp [Array.setIfInBounds, hr]
    have e3 : ({ v with heap := v.heap.setIfInBounds r o } : World) = v := by rw [e2]
    rw [e3]; exact h
section
variable {P : Program} {v w : World}
theorem fol_store (hV : Veil P v w) (hz : w.heap.size = v.heap.size) (ht : v.tape = w.tape) (hd : v.drawn = w.drawn) {a : Addr} {x y : Value} (hc : v.cell? a = some y) (hf : v.frozen? a = false) :
    Fol P v w (v.setCell a x) (w.setCell a x) := by
  obtain ⟨c, e, f, h1, h2, h3⟩ := cell?_some hc
  obtain ⟨o', h4, hb⟩ := hV.blk _ _ h1
  have hlt : a.off < c.size := (Array.getElem?_eq_some_iff.1 h3).1
  have hfr : ¬ inFr f a.off := by
    rw [frozen?_true h1] at hf
    simp [inFr] at hf ⊢
    omega
  have hlike : Like v (v.setCell a x) v.heap.size := by
    intro b hb
    rw [setCell_get]
    by_cases hba : b = a.block
    · subst hba; exact ⟨_, _, h1, by simp [h1]; rfl, by simp [h2, LikeO]⟩
    · simp only [hba, if_false]
      exact ⟨_, _, Array.getElem?_eq_getElem hb, Array.getElem?_eq_getElem hb, .refl _⟩
  refine ⟨⟨by simpa [setCell_size] using hV.size, fun b o hbo => ?_, hV.flat.of_set⟩, by simpa [setCell_size] using hz, by simp [setCell_size], rfl, ht, hd, rfl, rfl, fun b hb => ?_, fun l hl => (hlike.rdwr l hl).1, fun l hl => (hlike.rdwr l hl).2, fun a' ha' hn => ?_⟩
  · rw [setCell_get] at hbo
    rw [setCell_get]
    by_cases hba : b = a.block
    · subst hba
      rw [h1] at hbo
      simp [h2] at hbo
      subst hbo
      cases hb with
      | cells _ _ _ f' hf' => exact ⟨.cells (c.setIfInBounds a.off x) e f', by simp [h4, h2], .cells _ _ _ _ hf'⟩
    · simp only [hba, if_false] at hbo ⊢
      exact hV.blk b o hbo
  · have hne : b ≠ a.block := by
      rintro rfl
      rcases hb with h5 | ⟨c', e', f', h5, h6⟩
      · rw [h1] at h5; cases h5
      · rw [h1] at h5
        cases h5
        exact hfr (h6 _ hlt)
    rw [setCell_get, setCell_get]
    simp [hne]
  · by_cases hba : a'.block = a.block
    · cases hb with
      | cells _ _ _ f' hf' =>
        have e1 : (w.setCell a x).heap[a'.block]? = some (.cells (c.setIfInBounds a.off x) e f') := by
          rw [setCell_get, if_pos hba, hba, h4]; simp [h2]
        have e2 : w.heap[a'.block]? = some (.cells c e f') := by rw [hba, h4]
        unfold World.cell?
        rw [e1, e2]
        cases hs : a'.spot with
        | some _ => rfl
        | none =>
          have hoff : a.off ≠ a'.off := by
            intro h
            refine hn ?_
            have : a' = a := by
              obtain ⟨b1, o1, s1⟩ := a'
              obtain ⟨b2, o2, s2⟩ := a
              simp only at hba h hs h2
              subst hba h hs h2
              rfl
            subst this
            exact ⟨by rw [hc]; simp, hf⟩
          simp [Array.getElem?_setIfInBounds_ne hoff]
    · have e1 : (w.setCell a x).heap[a'.block]? = w.heap[a'.block]? := by rw [setCell_get, if_neg hba]
      unfold World.cell?
      rw [e1]
theorem push_get {hp : Array Obj} {o : Obj} {b : Nat} (h : b < hp.size) : (hp.push o)[b]? = hp[b]? := by
  simp [Array.getElem?_push, Nat.ne_of_lt h]
theorem like_push (o : Obj) : Like v { v with heap := v.heap.push o } v.heap.size := by
  intro b hb
  simp only [push_get hb]
  exact ⟨_, _, Array.getElem?_eq_getElem hb, Array.getElem?_eq_getElem hb, .refl _⟩
theorem blk_same {o : Obj} (h : okNew o) : Blq o o := by
  cases o <;> simp [okNew] at h
  · exact .cells _ _ _ _ ⟨fun _ x => x, fun x => x⟩
  · exact .number _ _
  · exact .map _ _
  · exact .chan _ _ _ _ _ _
theorem fol_new (hV : Veil P v w) (hz : w.heap.size = v.heap.size) (ht : v.tape = w.tape) (hd : v.drawn = w.drawn) {o : Obj} (ho : okNew o) :
    Fol P v w { v with heap := v.heap.push o } { w with heap := w.heap.push o } := by
  refine ⟨⟨by simp [hz], fun b o' hbo => ?_, hV.flat.push ho⟩, by simp [hz], by simp, rfl, ht, hd, rfl, rfl, fun b hb => ?_, fun l hl => ((like_push o).rdwr l hl).1, fun l hl => ((like_push o).rdwr l hl).2, fun a ha _ => by
    unfold World.cell?
    rw [show ({ w with heap := w.heap.push o } : World).heap[a.block]? = w.heap[a.block]? from push_get (by omega)]⟩
  · simp only [Array.getElem?_push] at hbo ⊢
    rw [hz]
    by_cases hb : b = v.heap.size
    · subst hb
      simp at hbo ⊢
      subst hbo
      exact blk_same ho
    · simp only [hb, if_false] at hbo ⊢
      exact hV.blk b o' hbo
  · have := hb.lt
    simp only [push_get this, push_get (show b < w.heap.size by omega), and_self]
theorem fol_draw (hV : Veil P v w) (hz : w.heap.size = v.heap.size) (ht : v.tape = w.tape) (hd : v.drawn = w.drawn) :
    Fol P v w { v with drawn := v.drawn + 1 } { w with drawn := w.drawn + 1 } :=
  ⟨⟨hV.size, hV.blk, ⟨hV.flat.room, hV.flat.obj, hV.flat.low⟩⟩, hz, Nat.le_refl _, rfl, ht, by simp [hd], rfl, rfl, fun _ _ => ⟨rfl, rfl⟩, fun _ _ => Iff.rfl, fun _ _ => Iff.rfl, fun _ _ _ => rfl⟩
end
theorem Blq.obj {o o' : Obj} (h : Blq o o') (hn : ∀ c e f, o ≠ .cells c e f) : o = Ythmgpkcijolljaa.hid ∨ okSet o ∧ o' = o := by
  cases h with
  | hid => exact .inl rfl
  | cells => exact absurd rfl (hn _ _ _)
  | map => exact .inr ⟨trivial, rfl⟩
  | chan => exact .inr ⟨trivial, rfl⟩
  | number => exact .inr ⟨trivial, rfl⟩
section
variable {α : Type} {P : Program} {w : World} {r : Nat} {o o' : Obj}
theorem run_getObj (k : Obj → Sem α) (h : w.heap[r]? = some o) (hs : okSet o) : (Sem.getObj r k).run P w = (k o).run P w := by
  cases o <;> first | exact hs.elim | simp only [Sem.run, h]
theorem runT_getObj (k : Obj → Sem α) (h : w.heap[r]? = some o) (hs : okSet o) (es : Array Event) : (Sem.getObj r k).runT P w es = (k o).runT P w (es.push ⟨.obj r, false, o.isChan⟩) := by
  cases o <;> first | exact hs.elim | simp only [Sem.runT, h]
theorem run_setObj (k : Sem α) (h : w.heap[r]? = some o) (hs : okSet o) : (Sem.setObj r o' k).run P w = k.run P { w with heap := w.heap.setIfInBounds r o' } := by
  cases o <;> first | exact hs.elim | simp only [Sem.run, h]
theorem runT_setObj (k : Sem α) (h : w.heap[r]? = some o) (hs : okSet o) (es : Array Event) : (Sem.setObj r o' k).runT P w es = k.runT P { w with heap := w.heap.setIfInBounds r o' } (es.push ⟨.obj r, true, o'.isChan⟩) := by
  cases o <;> first | exact hs.elim | simp only [Sem.runT, h]
end
section
variable {α : Type} {P : Program} {L : α → Prop}
theorem dead_run (s : Sem α) (h : s.dead P) : ∀ (v : World) (x : α) (v' : World), s.run P v ≠ .ok x v' := by
  induction s with
  | pure a => exact h.elim
  | load m a k ih =>
    intro v x v' e
    simp only [Sem.run] at e
    split at e
    · exact ih _ (h.2 _) _ _ _ e
    · split at e
      · exact ih _ (h.2 _) _ _ _ e
      · cases e
  | store m a y k ih =>
    intro v x v' e
    cases y <;> simp only [Sem.run] at e <;> first
      | cases e
      | (split at e
         · split at e
           · cases e
           · exact ih h.2 _ _ _ e
         · split at e
           · exact ih h.2 _ _ _ e
           · cases e)
  | new o k ih => exact fun v x v' e => ih _ (h.2 _) _ _ _ e
  | shape r k ih => exact fun v x v' e => ih _ (h _) _ _ _ e
  | freeze a n k ih => exact h.elim
  | frozen a k ih => exact fun v x v' e => ih _ (h _) _ _ _ e
  | getObj r k ih =>
    intro v x v' e
    simp only [Sem.run] at e
    split at e
    · cases e
    · exact ih _ (h _) _ _ _ e
    · cases e
  | setObj r o k ih => exact h.elim
  | choose q k ih =>
    intro v x v' e
    simp only [Sem.run] at e
    split at e
    · exact ih _ (h _) _ _ _ e
    · exact ih _ (h _) _ _ _ e
  | sys c k ih => exact h.elim
  | program k ih => exact fun v x v' e => ih P h _ _ _ e
  | mark m k ih => exact fun v x v' e => ih h.2 _ _ _ e
  | halt h' => intro v x v' e; cases e
theorem deadOn_of_dead {r : Nat} (s : Sem α) (h : s.dead P) : s.deadOn P r := fun v _ _ x v' => dead_run s h v x v'
theorem tame_of_dead (s : Sem α) (h : s.dead P) : s.tame P L := by
  induction s with
  | pure a => exact h.elim
  | load m a k ih => exact ⟨h.1, fun x => ih x (h.2 x)⟩
  | store m a v k ih => exact ⟨h.1, ih h.2⟩
  | new o k ih => exact ⟨h.1, fun x => ih x (h.2 x)⟩
  | shape r k ih => exact ⟨fun x => ih x (h x), deadOn_of_dead _ (h _)⟩
  | freeze a n k ih => exact h.elim
  | frozen a k ih => exact h
  | getObj r k ih => exact ⟨fun x => ih x (h x), deadOn_of_dead _ (h _)⟩
  | setObj r o k ih => exact h.elim
  | choose q k ih => exact fun x => ih x (h x)
  | sys c k ih => exact h.elim
  | program k ih => exact ih P h
  | mark m k ih => exact ⟨h.1, ih h.2⟩
  | halt h' => exact h
/-- What a run of simple make comes to: in the true world as in the seen one. -/
theorem tame_run (s : Sem α) : s.tame P L → ∀ (v w : World) (x : α) (v' : World), Veil P v w → w.heap.size = v.heap.size → v.tape = w.tape → v.drawn = w.drawn → s.run P v = .ok x v' →
    L x ∧ ∃ w', Fol P v w v' w' ∧ ∀ es, ∃ es', s.runT P w es = (.ok x w', es ++ es') ∧ ∀ e ∈ es', EvOk v' e := by
  induction s with
  | pure a =>
    intro h v w x v' hV hz ht hd e
    cases e
    exact ⟨h, w, .refl hV hz ht hd, fun es => ⟨#[], by simp [Sem.runT], by simp⟩⟩
  | load m a k ih =>
    intro h v w x v' hV hz ht hd e
    obtain ⟨rfl, h⟩ := h
    simp only [Sem.run] at e
    cases hc : v.cell? a with
    | none =>
      obtain ⟨hh, e1, _⟩ := farLoad_flat (P := P) hV.flat (Mode.plain == .atomic) hc
      rw [hc] at e; simp only [e1] at e; cases e
    | some y =>
      rw [hc] at e
      obtain ⟨hl, w', hf, hev⟩ := ih y (h y) v w x v' hV hz ht hd e
      refine ⟨hl, w', hf, fun es => ?_⟩
      obtain ⟨es', h1, h2⟩ := hev (es.push ⟨.cell a, false, Mode.plain == .atomic⟩)
      refine ⟨#[⟨.cell a, false, Mode.plain == .atomic⟩] ++ es', ?_, fun e he => ?_⟩
      · simp only [Sem.runT, hV.cell hc]
        rw [h1]; simp
      · rcases Array.mem_append.1 he with he | he
        · have : e = ⟨.cell a, false, Mode.plain == .atomic⟩ := by simpa using he
          subst this
          exact hf.ev' ⟨by simp [Rd, hc], (fun x => by cases x), rfl⟩
        · exact h2 e he
  | store m a y k ih =>
    intro h v w x v' hV hz ht hd e
    obtain ⟨rfl, h⟩ := h
    have key : (∀ c, y ≠ .agg c) → (∀ c, y ≠ .tuple c) → L x ∧ ∃ w', Fol P v w v' w' ∧ ∀ es, ∃ es', (Sem.store .plain a y k).runT P w es = (.ok x w', es ++ es') ∧ ∀ e ∈ es', EvOk v' e := by
      intro n1 n2
      cases hc : v.cell? a with
      | none =>
        obtain ⟨hh, e1, _⟩ := farStore_flat (P := P) hV.flat y (Mode.plain == .atomic) hc
        cases y <;> simp_all [Sem.run]
      | some z =>
        cases hfz : v.frozen? a with
        | true => cases y <;> simp_all [Sem.run]
        | false =>
          have e' : k.run P (v.setCell a y) = .ok x v' := by cases y <;> simp_all [Sem.run]
          have hst := fol_store (x := y) hV hz ht hd hc hfz
          obtain ⟨hl, w', hf, hev⟩ := ih h (v.setCell a y) (w.setCell a y) x v' hst.veil hst.size hst.vtape hst.vdrawn e'
          refine ⟨hl, w', hst.trans hf, fun es => ?_⟩
          obtain ⟨es', h1, h2⟩ := hev (es.push ⟨.cell a, true, Mode.plain == .atomic⟩)
          refine ⟨#[⟨.cell a, true, Mode.plain == .atomic⟩] ++ es', ?_, fun e he => ?_⟩
          · have : (Sem.store .plain a y k).runT P w es = k.runT P (w.setCell a y) (es.push ⟨.cell a, true, Mode.plain == .atomic⟩) := by
              cases y <;> first
                | exact absurd rfl (n1 _)
                | exact absurd rfl (n2 _)
                | simp [Sem.runT, hV.cell hc, hV.thaw hc hfz]
            rw [this, h1]; simp
          · rcases Array.mem_append.1 he with he | he
            · have : e = ⟨.cell a, true, Mode.plain == .atomic⟩ := by simpa using he
              subst this
              exact (hst.trans hf).ev' ⟨by simp [Rd, hc], fun _ => ⟨by simp [hc], hfz⟩, rfl⟩
            · exact h2 e he
    cases y with
    | agg c => simp [Sem.run] at e
    | tuple c => simp [Sem.run] at e
    | _ => exact key (fun _ z => by cases z) (fun _ z => by cases z)
  | new o k ih =>
    intro h v w x v' hV hz ht hd e
    have hst := fol_new (v := v) (w := w) hV hz ht hd h.1
    simp only [Sem.run] at e
    obtain ⟨hl, w', hf, hev⟩ := ih _ (h.2 _) _ { w with heap := w.heap.push o } x v' hst.veil hst.size hst.vtape hst.vdrawn e
    refine ⟨hl, w', hst.trans hf, fun es => ?_⟩
    obtain ⟨es', h1, h2⟩ := hev es
    exact ⟨es', by simp only [Sem.runT]; rw [hz]; exact h1, h2⟩
  | shape r k ih =>
    intro h v w x v' hV hz ht hd e
    have hs : w.shape? r = v.shape? r := by
      cases ho : v.heap[r]? with
      | none =>
        have : w.heap.size ≤ r := by rw [hz]; exact Array.getElem?_eq_none_iff.1 ho
        simp [World.shape?, ho, Array.getElem?_eq_none this]
      | some o =>
        obtain ⟨o', h4, hb⟩ := hV.blk _ _ ho
        cases hb with
        | hid =>
          have e2 : v.shape? r = none := by simp [World.shape?, ho, hid]
          exact absurd (by simpa only [Sem.run, e2] using e) (h.2 v hV.flat ho x v')
        | cells _ _ _ f' _ => simp [World.shape?, ho, h4]
        | map => simp [World.shape?, ho, h4]
        | chan => simp [World.shape?, ho, h4]
        | number => simp [World.shape?, ho, h4]
    simp only [Sem.run] at e
    obtain ⟨hl, w', hf, hev⟩ := ih _ (h.1 _) v w x v' hV hz ht hd e
    refine ⟨hl, w', hf, fun es => ?_⟩
    obtain ⟨es', h1, h2⟩ := hev es
    exact ⟨es', by simp only [Sem.runT, hs]; exact h1, h2⟩
  | freeze a n k ih => exact fun h => h.elim
  | frozen a k ih => exact fun h v w x v' hV hz ht hd e => absurd e (dead_run (k (v.frozen? a)) (h _) _ _ _)
  | getObj r k ih =>
    intro h v w x v' hV hz ht hd e
    cases ho : v.heap[r]? with
    | none => simp only [Sem.run, ho] at e; cases e
    | some o =>
      obtain ⟨o', h4, hb⟩ := hV.blk _ _ ho
      have hs : o = hid ∨ okSet o ∧ o' = o := hb.obj (fun c t f hcc => by subst hcc; simp only [Sem.run, ho] at e; cases e)
      have hs : okSet o ∧ o' = o := hs.resolve_left (fun hh => by
        subst hh
        exact h.2 v hV.flat ho x v' (by simpa only [Sem.run, ho, hid] using e))
      obtain ⟨hs, rfl⟩ := hs
      have e' : (k o').run P v = .ok x v' := (run_getObj k ho hs).symm.trans e
      obtain ⟨hl, w', hf, hev⟩ := ih _ (h.1 o') v w x v' hV hz ht hd e'
      refine ⟨hl, w', hf, fun es => ?_⟩
      obtain ⟨es', h1, h2⟩ := hev (es.push ⟨.obj r, false, o'.isChan⟩)
      refine ⟨#[⟨.obj r, false, o'.isChan⟩] ++ es', ?_, fun e he => ?_⟩
      · rw [runT_getObj k h4 hs, h1]; simp
      · rcases Array.mem_append.1 he with he | he
        · have : e = ⟨.obj r, false, o'.isChan⟩ := by simpa using he
          subst this
          exact hf.ev' (e := ⟨.obj r, false, o'.isChan⟩) ⟨o', ho, hs⟩
        · exact h2 e he
  | setObj r o k ih => exact fun h => h.elim
  | choose q k ih =>
    intro h v w x v' hV hz ht hd e
    simp only [Sem.run] at e
    cases hq : q.forced with
    | true =>
      rw [if_pos hq] at e
      obtain ⟨hl, w', hf, hev⟩ := ih _ (h 0) v w x v' hV hz ht hd e
      refine ⟨hl, w', hf, fun es => ?_⟩
      obtain ⟨es', h1, h2⟩ := hev es
      exact ⟨es', by simp only [Sem.runT, hq, if_true]; exact h1, h2⟩
    | false =>
      rw [if_neg (by simp [hq])] at e
      have hst := fol_draw hV hz ht hd
      obtain ⟨hl, w', hf, hev⟩ := ih _ (h _) _ { w with drawn := w.drawn + 1 } x v' hst.veil hst.size hst.vtape hst.vdrawn e
      refine ⟨hl, w', hst.trans hf, fun es => ?_⟩
      obtain ⟨es', h1, h2⟩ := hev es
      exact ⟨es', by simp only [Sem.runT, hq]; rw [← ht, ← hd]; rw [← ht, ← hd] at h1; exact h1, h2⟩
  | sys c k ih => exact fun h => h.elim
  | program k ih =>
    intro h v w x v' hV hz ht hd e
    obtain ⟨hl, w', hf, hev⟩ := ih P h v w x v' hV hz ht hd e
    exact ⟨hl, w', hf, fun es => by obtain ⟨es', h1, h2⟩ := hev es; exact ⟨es', h1, h2⟩⟩
  | mark m k ih =>
    intro h v w x v' hV hz ht hd e
    obtain ⟨rfl, h⟩ := h
    obtain ⟨hl, w', hf, hev⟩ := ih h v w x v' hV hz ht hd e
    refine ⟨hl, w', hf, fun es => ?_⟩
    obtain ⟨es', h1, h2⟩ := hev (es.push ⟨.mark .noRoom, false, true⟩)
    refine ⟨#[⟨.mark .noRoom, false, true⟩] ++ es', by simp only [Sem.runT]; rw [h1]; simp, fun e he => ?_⟩
    rcases Array.mem_append.1 he with he | he
    · have : e = ⟨.mark .noRoom, false, true⟩ := by simpa using he
      subst this
      exact rfl
    · exact h2 e he
  | halt h' => intro h v w x v' hV hz ht hd e; cases e
end
end Go.Proofs.Ythmgpkcijolljaa
/-
  A step of simple make hangs on the tape by the answers drawn alone; where it allots nothing, hidden blocks laid behind turn nothing.
-/
namespace Go.Proofs.Ythmgpkcijolljaa
open Go.Conc
set_option linter.unusedSimpArgs false
set_option linter.unusedVariables false
def _root_.Go.Sem.loc {α : Type} (P : Program) : Sem α → Prop
 | .pure _ => True
 | .load _ _ k => ∀ x, (k x).loc P
 | .store _ _ _ k => k.loc P
 | .new o k => okNew o ∧ ∀ r, (k r).loc P
 | .shape _ k => ∀ x, (k x).loc P
 | .freeze _ _ _ => False
 | .frozen _ k => ∀ x, (k x).loc P
 | .getObj _ k => ∀ x, (k x).loc P
 | .setObj _ o k => okSet o ∧ k.loc P
 | .choose _ k => ∀ x, (k x).loc P
 | .sys _ _ => False
 | .program k => (k P).loc P
 | .mark _ k => k.loc P
 | .halt h => okHalt h
section
variable {α : Type} {P : Program} {L : α → Prop}
theorem loc_of_dead (s : Sem α) (h : s.dead P) : s.loc P := by
 induction s with
 | pure a => exact h.elim
 | load m a k ih => exact fun x => ih x (h.2 x)
 | store m a v k ih => exact ih h.2
 | new o k ih => exact ⟨h.1, fun x => ih x (h.2 x)⟩
 | shape r k ih => exact fun x => ih x (h x)
 | freeze a n k ih => exact h.elim
 | frozen a k ih => exact fun x => ih x (h x)
 | getObj r k ih => exact fun x => ih x (h x)
 | setObj r o k ih => exact h.elim
 | choose q k ih => exact fun x => ih x (h x)
 | sys c k ih => exact h.elim
 | program k ih => exact ih P h
 | mark m k ih => exact ih h.2
 | halt h' => exact h
theorem loc_of_tame (s : Sem α) (h : s.tame P L) : s.loc P := by
 induction s with
 | pure a => trivial
 | load m a k ih => exact fun x => ih x (h.2 x)
 | store m a v k ih => exact ih h.2
 | new o k ih => exact ⟨h.1, fun x => ih x (h.2 x)⟩
 | shape r k ih => exact fun x => ih x (h.1 x)
 | freeze a n k ih => exact h.elim
 | frozen a k ih => exact fun x => loc_of_dead _ (h x)
 | getObj r k ih => exact fun x => ih x (h.1 x)
 | setObj r o k ih => exact h.elim
 | choose q k ih => exact fun x => ih x (h x)
 | sys c k ih => exact h.elim
 | program k ih => exact ih P h
 | mark m k ih => exact ih h.2
 | halt h' => exact h
end
def _root_.Go.Result.w {α : Type} : Result α → World
 | .ok _ w => w
 | .halt _ w => w
def _root_.Go.Result.re {α : Type} (r : Result α) (t : Nat → Question → Nat) (d : Nat) : Result α :=
 match r with
 | .ok a w => .ok a (w.re t d)
 | .halt h w => .halt h (w.re t d)
def okRes {α : Type} : Result α → Prop
 | .ok _ _ => True
 | .halt h _ => okHalt h
/-- From drawn count d on, the two tapes agree for m answers. -/
def Agree (t : Nat → Question → Nat) (d : Nat) (t' : Nat → Question → Nat) (e m : Nat) : Prop := ∀ i, i < m → t' (e + i) = t (d + i)
section
variable {v : World} {t : Nat → Question → Nat} {d : Nat}
theorem re_cell (a : Addr) : (v.re t d).cell? a = v.cell? a := rfl
theorem re_frozen (a : Addr) : (v.re t d).frozen? a = v.frozen? a := rfl
theorem re_flat {P : Program} (h : Flat P v) : Flat P (v.re t d) := ⟨h.room, h.obj, h.low⟩
end
theorem farLoad_re {P : Program} {v : World} {t : Nat → Question → Nat} {d : Nat} (hF : Flat P v) (a : Addr) (at_ : Bool) : (v.re t d).farLoad P a at_ = v.farLoad P a at_ := by
 unfold World.farLoad
 have e5 : (v.re t d).heap = v.heap := rfl
 rw [e5]
 cases hb : v.heap[a.block]? with
 | none => simp only [World.noCell, e5, hb]
 | some o =>
  have := hF.obj _ _ hb
  cases o <;> simp only [flat] at this
  case view at' u => simp only [World.viewLoad, seen_hid _ _ at' (by rw [this.1]; rfl)]
  all_goals simp only [World.noCell, e5, hb]
theorem farStore_re {P : Program} {v : World} {t : Nat → Question → Nat} {d : Nat} (hF : Flat P v) (a : Addr) (x : Value) (at_ : Bool) (hc : v.cell? a = none) : (v.re t d).farStore P a x at_ = v.farStore P a x at_ := by
 unfold World.farStore
 have e5 : (v.re t d).heap = v.heap := rfl
 rw [e5]
 cases hb : v.heap[a.block]? with
 | none => simp only [World.noCell, e5, hb]
 | some o =>
  have := hF.obj _ _ hb
  cases o <;> simp only [flat] at this
  case view at' u =>
   cases ht : tight P P.depth u <;> simp only [World.viewStore, seen_hid _ _ at' (by rw [this.1]; rfl), ht] <;> rfl
  all_goals simp only [World.noCell, e5, hb]
section
variable {α : Type} {P : Program} {L : α → Prop}
/-- WHAT A RUN OF SIMPLE MAKE HANGS ON. -/
theorem loc_run (s : Sem α) : s.loc P → ∀ (v : World), Flat P v →
  ∃ m, (s.run P v).w.drawn = v.drawn + m ∧ (s.run P v).w.tape = v.tape ∧ Flat P (s.run P v).w ∧ v.heap.size ≤ (s.run P v).w.heap.size ∧ okRes (s.run P v) ∧
   ∀ t e, Agree v.tape v.drawn t e m → s.run P (v.re t e) = (s.run P v).re t (e + m) := by
 induction s with
 | pure a => exact fun h v hF => ⟨0, rfl, rfl, hF, Nat.le_refl _, trivial, fun t e _ => rfl⟩
 | load m a k ih =>
  intro h v hF
  cases hc : v.cell? a with
  | none =>
   obtain ⟨hh, e1, e2⟩ := farLoad_flat (P := P) hF (m == .atomic) hc
   have e3 : (Sem.load m a k).run P v = .halt hh v := by simp only [Sem.run, hc, e1]
   rw [e3]
   refine ⟨0, rfl, rfl, hF, Nat.le_refl _, e2, fun t e _ => ?_⟩
   have e4 : (v.re t e).farLoad P a (m == .atomic) = .error hh := by
    rw [← e1]
    exact farLoad_re hF a _
   simp only [Sem.run, re_cell, hc, e4, Result.re, Nat.add_zero]
  | some x =>
   have e3 : (Sem.load m a k).run P v = (k x).run P v := by simp only [Sem.run, hc]
   rw [e3]
   obtain ⟨n, h1, h2, h3, h4, h5, h6⟩ := ih x (h x) v hF
   exact ⟨n, h1, h2, h3, h4, h5, fun t e ha => by rw [← h6 t e ha]; simp only [Sem.run, re_cell, hc]⟩
 | store m a y k ih =>
  intro h v hF
  have key : (∀ c, y ≠ .agg c) → (∀ c, y ≠ .tuple c) → ∃ n, ((Sem.store m a y k).run P v).w.drawn = v.drawn + n ∧ ((Sem.store m a y k).run P v).w.tape = v.tape ∧ Flat P ((Sem.store m a y k).run P v).w ∧ v.heap.size ≤ ((Sem.store m a y k).run P v).w.heap.size ∧ okRes ((Sem.store m a y k).run P v) ∧
   ∀ t e, Agree v.tape v.drawn t e n → (Sem.store m a y k).run P (v.re t e) = ((Sem.store m a y k).run P v).re t (e + n) := by
   intro n1 n2
   have eq1 : ∀ v : World, (Sem.store m a y k).run P v = (match v.cell? a with
     | some _ => if v.frozen? a then .halt (.unsupported (.unsafePointer "a write to bytes that a string shares")) v else k.run P (v.setCell a y)
     | none => match v.farStore P a y (m == .atomic) with
      | .ok (w, _) => k.run P w
      | .error h => .halt h v) := by
    intro v
    cases y <;> first
     | exact absurd rfl (n1 _)
     | exact absurd rfl (n2 _)
     | (simp only [Sem.run]; rfl)
   cases hc : v.cell? a with
   | none =>
    obtain ⟨hh, e1, e2⟩ := farStore_flat (P := P) hF y (m == .atomic) hc
    have e3 : (Sem.store m a y k).run P v = .halt hh v := by rw [eq1]; simp only [hc, e1]
    rw [e3]
    refine ⟨0, rfl, rfl, hF, Nat.le_refl _, e2, fun t e _ => ?_⟩
    have e4 : (v.re t e).farStore P a y (m == .atomic) = .error hh := by
     rw [← e1]
     exact farStore_re hF a y _ hc
    rw [eq1]
    simp only [re_cell, hc, e4, Result.re, Nat.add_zero]
   | some z =>
    cases hfz : v.frozen? a with
    | true =>
     have e3 : (Sem.store m a y k).run P v = .halt (.unsupported (.unsafePointer "a write to bytes that a string shares")) v := by rw [eq1]; simp only [hc, hfz, if_true]
     rw [e3]
     exact ⟨0, rfl, rfl, hF, Nat.le_refl _, trivial, fun t e _ => by rw [eq1]; simp only [re_cell, re_frozen, hc, hfz, if_true, Result.re, Nat.add_zero]⟩
    | false =>
     have e3 : (Sem.store m a y k).run P v = k.run P (v.setCell a y) := by rw [eq1]; simp only [hc, hfz, Bool.false_eq_true, if_false]
     rw [e3]
     obtain ⟨n, h1, h2, h3, h4, h5, h6⟩ := ih h (v.setCell a y) hF.of_set
     refine ⟨n, h1, h2, h3, by simpa [setCell_size] using h4, h5, fun t e ha => ?_⟩
     have := h6 t e ha
     rw [← this, eq1]
     simp only [re_cell, re_frozen, hc, hfz, Bool.false_eq_true, if_false]
     rfl
  cases y with
  | agg c => exact ⟨0, rfl, rfl, hF, Nat.le_refl _, trivial, fun t e _ => rfl⟩
  | tuple c => exact ⟨0, rfl, rfl, hF, Nat.le_refl _, trivial, fun t e _ => rfl⟩
  | _ => exact key (fun _ z => by cases z) (fun _ z => by cases z)
 | new o k ih =>
  intro h v hF
  obtain ⟨n, h1, h2, h3, h4, h5, h6⟩ := ih v.heap.size (h.2 _) { v with heap := v.heap.push o } (hF.push h.1)
  exact ⟨n, h1, h2, h3, Nat.le_trans (by simp) h4, h5, fun t e ha => h6 t e ha⟩
 | shape r k ih => exact fun h v hF => ih _ (h _) v hF
 | freeze a n k ih => exact fun h => h.elim
 | frozen a k ih => exact fun h v hF => ih _ (h _) v hF
 | getObj r k ih =>
  intro h v hF
  cases ho : v.heap[r]? with
  | none =>
   have e3 : ∀ v : World, v.heap[r]? = none → (Sem.getObj r k).run P v = .halt (.stuck "getObj: no such block") v := fun v hv => by simp only [Sem.run, hv]
   rw [e3 v ho]
   exact ⟨0, rfl, rfl, hF, Nat.le_refl _, trivial, fun t e _ => e3 _ ho⟩
  | some o =>
   have := hF.obj _ _ ho
   by_cases hs : ∀ c t f, o ≠ .cells c t f
   ·have e3 : ∀ v : World, v.heap[r]? = some o → (Sem.getObj r k).run P v = (k o).run P v := fun v hv => by
     cases o <;> first | exact absurd rfl (hs _ _ _) | simp only [Sem.run, hv]
    rw [e3 v ho]
    obtain ⟨n, h1, h2, h3, h4, h5, h6⟩ := ih o (h o) v hF
    exact ⟨n, h1, h2, h3, h4, h5, fun t e ha => by rw [e3 (v.re t e) ho]; exact h6 t e ha⟩
   ·have e3 : ∀ v : World, v.heap[r]? = some o → (Sem.getObj r k).run P v = .halt (.stuck "getObj: a row of cells") v := fun v hv => by
     cases o <;> first
      | (simp only [Sem.run, hv]; done)
      | exact absurd (fun _ _ _ hcc => Obj.noConfusion hcc) hs
    rw [e3 v ho]
    exact ⟨0, rfl, rfl, hF, Nat.le_refl _, trivial, fun t e _ => e3 _ ho⟩
 | setObj r o k ih =>
  intro h v hF
  cases ho : v.heap[r]? with
  | none =>
   have e3 : ∀ v : World, v.heap[r]? = none → (Sem.setObj r o k).run P v = .halt (.stuck "setObj: no such block") v := fun v hv => by simp only [Sem.run, hv]
   rw [e3 v ho]
   exact ⟨0, rfl, rfl, hF, Nat.le_refl _, trivial, fun t e _ => e3 _ ho⟩
  | some o₀ =>
   have := hF.obj _ _ ho
   by_cases hs : ∀ c t f, o₀ ≠ .cells c t f
   ·have e3 : ∀ v : World, v.heap[r]? = some o₀ → (Sem.setObj r o k).run P v = k.run P { v with heap := v.heap.setIfInBounds r o } := fun v hv => by
     cases o₀ <;> first | exact absurd rfl (hs _ _ _) | simp only [Sem.run, hv]
    rw [e3 v ho]
    obtain ⟨n, h1, h2, h3, h4, h5, h6⟩ := ih h.2 { v with heap := v.heap.setIfInBounds r o } (hF.set h.1)
    exact ⟨n, h1, h2, h3, by simpa using h4, h5, fun t e ha => by rw [e3 (v.re t e) ho]; exact h6 t e ha⟩
   ·have e3 : ∀ v : World, v.heap[r]? = some o₀ → (Sem.setObj r o k).run P v = .halt (.stuck "setObj: a row of cells") v := fun v hv => by
     cases o₀ <;> first
      | (simp only [Sem.run, hv]; done)
      | exact absurd (fun _ _ _ hcc => Obj.noConfusion hcc) hs
    rw [e3 v ho]
    exact ⟨0, rfl, rfl, hF, Nat.le_refl _, trivial, fun t e _ => e3 _ ho⟩
 | choose q k ih =>
  intro h v hF
  cases hq : q.forced with
  | true =>
   have e3 : ∀ v : World, (Sem.choose q k).run P v = (k 0).run P v := fun v => by simp only [Sem.run, hq, if_true]
   rw [e3 v]
   obtain ⟨n, h1, h2, h3, h4, h5, h6⟩ := ih 0 (h 0) v hF
   exact ⟨n, h1, h2, h3, h4, h5, fun t e ha => by rw [e3]; exact h6 t e ha⟩
  | false =>
   have e3 : ∀ v : World, (Sem.choose q k).run P v = (k (q.cut (v.tape v.drawn q))).run P { v with drawn := v.drawn + 1 } := fun v => by simp only [Sem.run, hq, Bool.false_eq_true, if_false]
   rw [e3 v]
   obtain ⟨n, h1, h2, h3, h4, h5, h6⟩ := ih (q.cut (v.tape v.drawn q)) (h _) { v with drawn := v.drawn + 1 } ⟨hF.room, hF.obj, hF.low⟩
   refine ⟨n + 1, by rw [h1]; show v.drawn + 1 + n = _; omega, h2, h3, h4, h5, fun t e ha => ?_⟩
   have e0 : t e = v.tape v.drawn := by simpa using ha 0 (by omega)
   have := h6 t (e + 1) (fun i hi => by
    have := ha (i + 1) (by omega)
    rw [show e + 1 + i = e + (i + 1) by omega, this]
    show v.tape _ = v.tape _
    congr 1
    show v.drawn + (i + 1) = v.drawn + 1 + i
    omega)
   rw [e3]
   show (k (q.cut (t e q))).run P _ = _
   rw [e0, show e + (n + 1) = e + 1 + n by omega, ← this]
   rfl
 | sys c k ih => exact fun h => h.elim
 | program k ih => exact fun h v hF => ih P h v hF
 | mark m k ih => exact fun h v hF => ih h v hF
 | halt h' => exact fun h v hF => ⟨0, rfl, rfl, hF, Nat.le_refl _, h, fun t e _ => rfl⟩
end
/-! ### Hidden blocks laid behind -/
section
variable {v : World} {n : Nat}
theorem upto_get {b : Nat} (h : b < v.heap.size) : (v.upto n).heap[b]? = v.heap[b]? := by
 simp [World.upto, Array.getElem?_append, h]
theorem upto_size : (v.upto n).heap.size = max n v.heap.size := by simp [World.upto]; omega
theorem upto_new {b : Nat} (h : v.heap.size ≤ b) (hn : b < n) : (v.upto n).heap[b]? = some hid := by
 simp only [World.upto, Array.getElem?_append, Nat.not_lt.2 h, if_false]
 rw [Array.getElem?_replicate, if_pos (by omega)]
theorem heap_ext {a b : Array Obj} (h : ∀ i : Nat, a[i]? = b[i]?) : a = b := Array.ext_getElem? h
theorem world_ext {a b : World} (h : ∀ i : Nat, a.heap[i]? = b.heap[i]?) (ht : a.tape = b.tape) (hd : a.drawn = b.drawn) (ho : a.os = b.os) (hu : a.output = b.output) : a = b := by
 cases a; cases b
 simp only at ht hd ho hu
 subst ht hd ho hu
 congr 1
 exact heap_ext h
theorem upto_le (h : n ≤ v.heap.size) : v.upto n = v := by
 have : n - v.heap.size = 0 := by omega
 cases v
 simp [World.upto, this] at *
end
section
variable {α : Type} {P : Program} {L : α → Prop}
theorem still_run (s : Sem α) : s.tame P L → ∀ (v : World) (n : Nat) (x : α) (v' : World), Flat P v → s.run P v = .ok x v' → v'.heap.size = v.heap.size → s.run P (v.upto n) = .ok x (v'.upto n) := by
 induction s with
 | pure a => intro h v n x v' hF e hz; cases e; rfl
 | load m a k ih =>
  intro h v n x v' hF e hz
  cases hc : v.cell? a with
  | none =>
   obtain ⟨hh, e1, _⟩ := farLoad_flat (P := P) hF (m == .atomic) hc
   simp only [Sem.run, hc, e1] at e; cases e
  | some y =>
   have hb : a.block < v.heap.size := by obtain ⟨c, t, f, h1, _⟩ := cell?_some hc; exact (Array.getElem?_eq_some_iff.1 h1).1
   have hc' : (v.upto n).cell? a = some y := by simpa only [World.cell?, upto_get hb] using hc
   simp only [Sem.run, hc] at e
   simp only [Sem.run, hc']
   exact ih y (h.2 y) v n x v' hF e hz
 | store m a y k ih =>
  intro h v n x v' hF e hz
  have key : (∀ c, y ≠ .agg c) → (∀ c, y ≠ .tuple c) → (Sem.store m a y k).run P (v.upto n) = .ok x (v'.upto n) := by
   intro n1 n2
   have eq1 : ∀ v : World, (Sem.store m a y k).run P v = (match v.cell? a with
     | some _ => if v.frozen? a then .halt (.unsupported (.unsafePointer "a write to bytes that a string shares")) v else k.run P (v.setCell a y)
     | none => match v.farStore P a y (m == .atomic) with
      | .ok (w, _) => k.run P w
      | .error h => .halt h v) := by
    intro v
    cases y <;> first
     | exact absurd rfl (n1 _)
     | exact absurd rfl (n2 _)
     | (simp only [Sem.run]; rfl)
   rw [eq1] at e
   rw [eq1]
   cases hc : v.cell? a with
   | none =>
    obtain ⟨hh, e1, _⟩ := farStore_flat (P := P) hF y (m == .atomic) hc
    simp only [hc, e1] at e; cases e
   | some z =>
    have hb : a.block < v.heap.size := by obtain ⟨c, t, f, h1, _⟩ := cell?_some hc; exact (Array.getElem?_eq_some_iff.1 h1).1
    have hc' : (v.upto n).cell? a = some z := by simpa only [World.cell?, upto_get hb] using hc
    cases hfz : v.frozen? a with
    | true => simp only [hc, hfz, if_true] at e; cases e
    | false =>
     have hfz' : (v.upto n).frozen? a = false := by simpa only [World.frozen?, upto_get hb] using hfz
     simp only [hc, hfz, Bool.false_eq_true, if_false] at e
     simp only [hc', hfz', Bool.false_eq_true, if_false]
     have e5 : (v.upto n).setCell a y = (v.setCell a y).upto n := by
      refine world_ext (fun b => ?_) rfl rfl rfl rfl
      by_cases hbs : b < v.heap.size
      ·rw [setCell_get, upto_get hbs, upto_get (by simpa [setCell_size] using hbs), setCell_get]
      ·have hba : b ≠ a.block := by omega
       rw [setCell_get, if_neg hba]
       by_cases hbn : b < n
       ·rw [upto_new (by omega) hbn, upto_new (by simp [setCell_size]; omega) hbn]
       ·have h1 : (v.upto n).heap.size ≤ b := by rw [upto_size]; omega
        have h2 : ((v.setCell a y).upto n).heap.size ≤ b := by rw [upto_size, setCell_size]; omega
        rw [Array.getElem?_eq_none h1, Array.getElem?_eq_none h2]
     rw [e5]
     exact ih h.2 (v.setCell a y) n x v' hF.of_set e (by simpa [setCell_size] using hz)
  cases y with
  | agg c => simp [Sem.run] at e
  | tuple c => simp [Sem.run] at e
  | _ => exact key (fun _ z => by cases z) (fun _ z => by cases z)
 | new o k ih =>
  intro h v n x v' hF e hz
  simp only [Sem.run] at e
  obtain ⟨_, _, _, _, h4, _⟩ := loc_run (k v.heap.size) (loc_of_tame _ (h.2 _)) { v with heap := v.heap.push o } (hF.push h.1)
  rw [e] at h4
  simp [Result.w] at h4
  omega
 | shape r k ih =>
  intro h v n x v' hF e hz
  by_cases hb : r < v.heap.size
  ·have hs : (v.upto n).shape? r = v.shape? r := by simp only [World.shape?, upto_get hb]
   simp only [Sem.run] at e ⊢
   rw [hs]
   exact ih _ (h.1 _) v n x v' hF e hz
  ·have hs : (v.upto n).shape? r = v.shape? r := by
    have h0 : v.shape? r = none := by simp [World.shape?, Array.getElem?_eq_none (Nat.le_of_not_lt hb)]
    rw [h0]
    by_cases hn : r < n
    ·simp [World.shape?, upto_new (Nat.le_of_not_lt hb) hn, hid]
    ·have : (v.upto n).heap.size ≤ r := by rw [upto_size]; omega
     simp [World.shape?, Array.getElem?_eq_none this]
   simp only [Sem.run] at e ⊢
   rw [hs]
   exact ih _ (h.1 _) v n x v' hF e hz
 | freeze a n k ih => exact fun h => h.elim
 | frozen a k ih => exact fun h v n x v' hF e => absurd e (dead_run (k (v.frozen? a)) (h _) _ _ _)
 | getObj r k ih =>
  intro h v n x v' hF e hz
  cases ho : v.heap[r]? with
  | none => simp only [Sem.run, ho] at e; cases e
  | some o =>
   have hb : r < v.heap.size := (Array.getElem?_eq_some_iff.1 ho).1
   have hs : ∀ c t f, o ≠ .cells c t f := fun c t f hcc => by subst hcc; simp only [Sem.run, ho] at e; cases e
   have e3 : ∀ v : World, v.heap[r]? = some o → (Sem.getObj r k).run P v = (k o).run P v := fun v hv => by
    cases o <;> first | exact absurd rfl (hs _ _ _) | simp only [Sem.run, hv]
   rw [e3 v ho] at e
   rw [e3 (v.upto n) (by rw [upto_get hb]; exact ho)]
   exact ih o (h.1 o) v n x v' hF e hz
 | setObj r o k ih => exact fun h => h.elim
 | choose q k ih =>
  intro h v n x v' hF e hz
  cases hq : q.forced with
  | true =>
   simp only [Sem.run, hq, if_true] at e ⊢
   exact ih 0 (h 0) v n x v' hF e hz
  | false =>
   simp only [Sem.run, hq, Bool.false_eq_true, if_false] at e ⊢
   exact ih _ (h _) { v with drawn := v.drawn + 1 } n x v' ⟨hF.room, hF.obj, hF.low⟩ e hz
 | sys c k ih => exact fun h => h.elim
 | program k ih => exact fun h v n x v' hF e hz => ih P h v n x v' hF e hz
 | mark m k ih => exact fun h v n x v' hF e hz => ih h.2 v n x v' hF e hz
 | halt h' => intro h v n x v' hF e hz; cases e
end
end Go.Proofs.Ythmgpkcijolljaa
/-
  Which operations are steps of simple make.
-/
namespace Go.Proofs.Ythmgpkcijolljaa
open Go.Conc
set_option linter.unusedSimpArgs false
set_option linter.unusedVariables false
/-- A step of simple make, whatever it comes to. -/
def T {α : Type} (P : Program) (s : Sem α) : Prop := s.tame P fun _ => True
section
variable {P : Program} {α β : Type}
theorem t_do {s : Sem α} {f : α → Sem β} (h : T P s) (hf : ∀ a, T P (f a)) : T P (s >>= f) := tame_bind s f h fun a _ => hf a
theorem t_seq {s : Sem Unit} {f : Sem β} (h : T P s) (hf : T P f) : T P (do s; f) := tame_bind s (fun _ => f) h fun a _ => hf
theorem t_map {s : Sem α} (f : α → β) (h : T P s) : T P (f <$> s) := tame_bind s (fun a => .pure (f a)) h fun a _ => trivial
theorem t_pure (a : α) : T P (pure a : Sem α) := trivial
theorem t_program : T P program := trivial
theorem t_stuck (w : String) : T P (stuck w : Sem α) := trivial
theorem t_unsup {u : Unsupported} (h : okHalt (.unsupported u)) : T P (unsupported u : Sem α) := h
theorem t_panic (v : Value) : T P (goPanic v : Sem α) := trivial
theorem t_load (a : Addr) : T P (load a) := ⟨rfl, fun _ => trivial⟩
theorem t_store (a : Addr) (v : Value) : T P (store a v) := ⟨rfl, trivial⟩
theorem t_choose (q : Question) : T P (choose q) := fun _ => trivial
theorem t_noRoom : T P (mark .noRoom) := ⟨rfl, trivial⟩
theorem t_new {o : Obj} (h : okNew o) : T P (newObj o) := ⟨h, fun _ => trivial⟩
theorem t_prog {f : Program → Sem β} (h : T P (f P)) : T P (program >>= f) := h
theorem t_askRoom (n : Nat) : T P (askRoom n) := by
 unfold askRoom
 split
 ·exact t_noRoom
 ·exact t_pure _
theorem t_typeInfo (t : TypeId) : T P (typeInfo t) := t_prog (by split <;> first | exact t_pure _ | exact t_stuck _)
theorem t_under (t : TypeId) : T P (underlying t) := t_prog (by split <;> first | exact t_pure _ | exact t_stuck _)
theorem t_under_of {t : TypeId} {d : TypeDesc} {f : TypeDesc → Sem β} (hu : P.underlying t = some d) (h : T P (f d)) : T P (underlying t >>= f) := by
 show T P ((underlying t).bind f)
 have : (underlying t).bind f = program.bind fun p => ((match p.underlying t with | some d => pure d | none => stuck "no such type") : Sem TypeDesc).bind f := rfl
 rw [this]
 show Sem.tame P _ (((match P.underlying t with | some d => pure d | none => stuck "no such type") : Sem TypeDesc).bind f)
 rw [hu]
 exact h
theorem t_zero (t : TypeId) : T P (zeroValue t) := t_do (t_typeInfo t) fun i => by split <;> first | exact t_pure _ | exact t_unsup trivial
theorem t_sizeOf (t : TypeId) : T P (sizeOf t) := t_do (t_typeInfo t) fun i => t_pure _
theorem t_isAgg (t : TypeId) : T P (isAgg t) := t_do (t_under t) fun i => by split <;> exact t_pure _
theorem t_loadCellsFrom (a : Addr) : ∀ (n i : Nat) (acc : Array Value), T P (loadCellsFrom a i n acc)
 | 0, _, _ => t_pure _
 | n + 1, i, acc => t_do (t_load _) fun v => t_loadCellsFrom a n (i + 1) (acc.push v)
theorem t_loadCells (a : Addr) (n : Nat) : T P (loadCells a n) := t_loadCellsFrom a n 0 #[]
theorem t_storeCells (a : Addr) : ∀ (vs : List Value) (i : Nat), T P (storeCells a vs i)
 | [], _ => t_pure _
 | v :: rest, i => t_seq (t_store _ _) (t_storeCells a rest (i + 1))
theorem t_loadVar (t : TypeId) (a : Addr) : T P (loadVar t a) := t_do (t_isAgg t) fun b => by
 split
 ·exact t_do (t_sizeOf t) fun n => t_do (t_loadCells a n) fun c => t_pure _
 ·exact t_load a
theorem t_storeVar (t : TypeId) (a : Addr) (v : Value) : T P (storeVar t a v) := t_do (t_sizeOf t) fun n => by
 split
 ·exact t_stuck _
 ·exact t_storeCells a _ 0
theorem t_newRow (e : TypeId) (c : Array Value) : T P (newRow e c) := t_do (t_new rfl) fun r => t_pure _
theorem t_newVar (t : TypeId) (v : Value) : T P (newVar t v) := t_newRow t v.cells
theorem t_elemOf (t : TypeId) : T P (elemOf t) := t_do (t_under t) fun d => by split <;> first | exact t_pure _ | exact t_stuck _
theorem t_part (t : TypeId) (cs : Array Value) (off : Nat) : T P (part t cs off) := t_do (t_isAgg t) fun b => by
 split
 ·exact t_do (t_sizeOf t) fun n => t_pure _
 ·split <;> first | exact t_pure _ | exact t_stuck _
theorem t_asIntOf (v : Value) : T P (asIntOf v) := by unfold asIntOf; split <;> first | exact t_pure _ | exact t_stuck _ | exact t_unsup trivial
theorem t_asInt (v : Value) : T P (asInt v) := t_do (t_asIntOf v) fun x => t_pure _
theorem t_asBool (v : Value) : T P (asBool v) := by unfold asBool; split <;> first | exact t_pure _ | exact t_stuck _
theorem t_asAgg (v : Value) : T P (asAgg v) := by unfold asAgg; split <;> first | exact t_pure _ | exact t_stuck _
theorem t_rpanic (e : RuntimeError) : T P (runtimePanic e : Sem α) := t_prog (by
 cases e <;> first
  | exact t_panic _
  | exact t_do (t_elemOf _) fun _ => t_do (t_newVar _ _) fun _ => t_panic _)
theorem t_bounds (k : IntKind) (x y : Int) (c : BoundsCode) : T P (boundsPanic k x y c : Sem α) := by
 unfold boundsPanic
 split
 ·exact t_do (t_map _ (t_choose _)) fun b => t_rpanic _
 ·exact t_do (t_pure _) fun b => t_rpanic _
theorem t_asAddr (v : Value) : T P (asAddr v) := by unfold asAddr; split <;> first | exact t_pure _ | exact t_stuck _ | exact t_rpanic _
theorem t_sureAddr (v : Value) : T P (Instr.sureAddr v) := by unfold Instr.sureAddr; split <;> first | exact t_pure _ | exact t_stuck _
/-! ### What asks for a block's shape -/
theorem shape_hid {v : World} {r : Nat} (h : v.heap[r]? = some hid) : v.shape? r = none := by simp [World.shape?, h, hid]
theorem t_shape {f : Option (TypeId × Nat) → Sem β} (r : Nat) (h : ∀ x, T P (f x)) (hd : (f none).deadOn P r) : T P (shape r >>= f) := ⟨h, hd⟩
/-- On a hidden block 'f' comes to no value. -/
theorem deadOn_halt {r : Nat} (h : Halt) : (Sem.halt h : Sem α).deadOn P r := fun _ _ _ _ _ e => by cases e
theorem deadOn_unsup {r : Nat} (u : Unsupported) : (unsupported u : Sem α).deadOn P r := deadOn_halt _
theorem deadOn_stuck {r : Nat} (u : String) : (stuck u : Sem α).deadOn P r := deadOn_halt _
theorem deadOn_do {r : Nat} {s : Sem α} {f : α → Sem β} (h : s.deadOn P r) : (s >>= f).deadOn P r := deadOn_bind s f h
theorem deadOn_shape {r : Nat} {f : Option (TypeId × Nat) → Sem β} (h : (f none).deadOn P r) : (shape r >>= f).deadOn P r := fun v hF hr x v' e => by
 have : (shape r >>= f).run P v = (f (v.shape? r)).run P v := rfl
 rw [this, shape_hid hr] at e
 exact h v hF hr x v' e
theorem deadOn_getObj {r : Nat} {f : Obj → Sem β} (h : (f hid).deadOn P r) : (getObj r >>= f).deadOn P r := fun v hF hr x v' e => by
 have : (getObj r >>= f).run P v = (f hid).run P v := by
  show (Sem.getObj r fun o => f o).run P v = _
  simp only [Sem.run, hr, hid]
 rw [this] at e
 exact h v hF hr x v' e
theorem viewAt_hid {r : Nat} {f : Option (Addr × TypeId) → Sem β} (h : ∀ x, (f (some x)).deadOn P r) : (viewAt r >>= f).deadOn P r := by
 show ((shape r).bind (fun s => (if s.isSome = true then pure none else getObj r >>= fun o => match o with | .view a t => pure (some (a, t)) | _ => pure none : Sem (Option (Addr × TypeId)))) >>= f).deadOn P r
 refine deadOn_shape (f := fun s => (if s.isSome = true then pure none else getObj r >>= fun o => match o with | .view a t => pure (some (a, t)) | _ => pure none : Sem (Option (Addr × TypeId))) >>= f) ?_
 simp only [Option.isSome_none, Bool.false_eq_true, if_false]
 refine deadOn_getObj (f := fun o => (match o with | .view a t => pure (some (a, t)) | _ => pure none : Sem (Option (Addr × TypeId))) >>= f) ?_
 exact h _
theorem t_viewAt {f : Option (Addr × TypeId) → Sem β} (r : Nat) (h : ∀ x, T P (f x)) (hd : ∀ x, (f (some x)).deadOn P r) : T P (viewAt r >>= f) := by
 refine ⟨fun s => ?_, ?_⟩
 ·cases s with
  | some _ => exact h none
  | none =>
   refine ⟨fun o => ?_, hd _⟩
   show T P ((match o with | .view a t => pure (some (a, t)) | _ => pure none : Sem (Option (Addr × TypeId))) >>= f)
   cases o <;> first | exact h _
 ·exact deadOn_getObj (f := fun o => (match o with | .view a t => pure (some (a, t)) | _ => pure none : Sem (Option (Addr × TypeId))) >>= f) (hd _)
theorem t_noView (a : Addr) : T P (noView a) := t_viewAt _ (fun x => by cases x <;> first | exact t_unsup trivial | exact t_pure _) fun x => deadOn_unsup _
theorem t_byteOf (a : Addr) : T P (byteOf a) := by
 unfold byteOf
 split
 ·exact t_pure _
 ·refine t_prog (t_seq (t_noView a) (t_shape _ (fun x => ?_) (deadOn_stuck _)))
  split
  ·show T P (if P.cellsOf _ = 0 then _ else _)
   split
   ·exact t_pure _
   ·split <;> first | exact t_pure _ | exact t_stuck _
  ·exact t_stuck _
theorem t_number {f : Option (Addr × Bool) → Sem β} (r : Nat) (h : ∀ x, T P (f x)) (hd : (f none).deadOn P r) : T P (numberAt r >>= f) := by
 refine ⟨fun s => ?_, ?_⟩
 ·cases s with
  | some _ => exact h none
  | none =>
   refine ⟨fun o => ?_, hd⟩
   show T P ((match o with | .number a t => pure (some (a, t)) | _ => pure none : Sem (Option (Addr × Bool))) >>= f)
   cases o <;> first | exact h _
 ·exact deadOn_getObj (f := fun o => (match o with | .number a t => pure (some (a, t)) | _ => pure none : Sem (Option (Addr × Bool))) >>= f) hd
theorem bind_assoc' {γ : Type} (s : Sem α) (f : α → Sem β) (g : β → Sem γ) : (s.bind f).bind g = s.bind fun x => (f x).bind g := by
 induction s with
 | pure a => rfl
 | load m a k ih => simp only [Sem.bind]; congr 1; funext x; exact ih x
 | store m a v k ih => simp only [Sem.bind, ih]
 | new o k ih => simp only [Sem.bind]; congr 1; funext x; exact ih x
 | shape r k ih => simp only [Sem.bind]; congr 1; funext x; exact ih x
 | freeze a n k ih => simp only [Sem.bind, ih]
 | frozen a k ih => simp only [Sem.bind]; congr 1; funext x; exact ih x
 | getObj r k ih => simp only [Sem.bind]; congr 1; funext x; exact ih x
 | setObj r o k ih => simp only [Sem.bind, ih]
 | choose q k ih => simp only [Sem.bind]; congr 1; funext x; exact ih x
 | sys c k ih => simp only [Sem.bind]; congr 1; funext x; exact ih x
 | program k ih => simp only [Sem.bind]; congr 1; funext x; exact ih x
 | mark m k ih => simp only [Sem.bind, ih]
 | halt h => rfl
theorem t_behind {f : Addr × Bool → Sem β} (n : Addr) (h : ∀ x, T P (f x)) (hd : (f (n, false)).deadOn P n.block) : T P (behindNumber n >>= f) :=
 by
 have e : behindNumber n >>= f = (numberAt n.block).bind fun x => f (x.getD (n, false)) := bind_assoc' (numberAt n.block) (fun x => pure (x.getD (n, false))) f
 rw [e]
 exact t_number (f := fun x => f (x.getD (n, false))) n.block (fun x => h _) hd
/-! ### Numbers that are addresses -/
theorem t_unsafeAdd (at_ : Array TypeId) (ty : TypeId) (x y : Value) : T P (Builtin.unsafeAdd_ at_ ty #[x, y]) := by
 unfold Builtin.unsafeAdd_
 dsimp only
 cases x with
 | pointer ptr =>
  refine t_do (t_asInt _) fun n => ?_
  split
  ·cases ptr with
   | none => exact t_unsup trivial
   | some a =>
    dsimp only
    refine t_viewAt _ (fun x => ?_) (fun x => ?_)
    ·cases x with
     | none => exact t_pure _
     | some x => exact t_unsup trivial
    ·exact deadOn_halt _
  ·split
   ·exact t_unsup trivial
   ·cases ptr with
    | none => exact t_unsup trivial
    | some a =>
     dsimp only
     refine t_shape _ (fun x => ?_) (deadOn_halt _)
     cases x with
     | none => exact t_unsup trivial
     | some x =>
      refine t_prog ?_
      split <;> first | exact t_pure _ | exact t_unsup trivial
 | _ => exact t_stuck _
theorem asInt_deadOn {r : Nat} {y : Value} {f : Int → Sem β} (h : ∀ n, (f n).deadOn P r) : (asInt y >>= f).deadOn P r := by
 cases y with
 | int k n => exact h n
 | pointer a => cases a <;> exact deadOn_halt _
 | _ => exact deadOn_halt _
theorem unsafeAdd_hid (a : Addr) (ty : TypeId) (y : Value) : (Builtin.unsafeAdd_ #[] ty #[.pointer (some a), y]).deadOn P a.block := by
 unfold Builtin.unsafeAdd_
 dsimp only
 refine asInt_deadOn fun n => ?_
 split
 ·exact viewAt_hid fun x => deadOn_halt _
 ·split
  ·exact deadOn_halt _
  ·exact deadOn_shape (deadOn_halt _)
theorem t_movedNumber {t : TypeId} {d : TypeDesc} (hu : P.underlying t = some d) (x y : Value) : T P (movedNumber t x y) := by
 unfold movedNumber
 dsimp only
 refine t_under_of hu ?_
 split
 ·exact t_unsup trivial
 ·simp only [Bool.false_eq_true, if_false]
  have other : T P (Builtin.unsafeAdd_ #[] t #[x, y]) := t_unsafeAdd _ _ _ _
  cases x with
  | pointer p =>
   cases p with
   | none => exact other
   | some n =>
    dsimp only
    refine t_behind n (fun z => ?_) ?_
    ·obtain ⟨a, lost⟩ := z
     refine t_do (t_unsafeAdd _ _ _ _) fun v => ?_
     split
     ·exact t_do (t_new trivial) fun r => t_pure _
     ·exact t_pure _
    ·exact deadOn_do (unsafeAdd_hid n t y)
  | _ => exact other
theorem t_twoPlaces (a b : Addr) : T P (Op.twoPlaces a b) := by
 unfold Op.twoPlaces
 dsimp only
 refine t_prog ?_
 split
 ·exact t_unsup trivial
 ·exact t_do (t_byteOf a) fun x => t_do (t_byteOf b) fun y => t_pure _
theorem twoPlaces_hid (a b : Addr) : (Op.twoPlaces a b).deadOn P a.block := fun v hF hr x v' e => by
 have hl := hF.low _ hr
 unfold Op.twoPlaces at e
 change (ite _ _ _ : Sem (Nat × Nat)).run P v = _ at e
 rw [if_pos (by simp; omega)] at e
 cases e
theorem twoPlaces_hid' (a b : Addr) : (Op.twoPlaces a b).deadOn P b.block := fun v hF hr x v' e => by
 have hl := hF.low _ hr
 unfold Op.twoPlaces at e
 change (ite _ _ _ : Sem (Nat × Nat)).run P v = _ at e
 rw [if_pos (by simp; omega)] at e
 cases e
/-- A look at a block turns nothing. -/
theorem deadOn_shape_any {r r' : Nat} {f : Option (TypeId × Nat) → Sem β} (h : ∀ x, (f x).deadOn P r) : (shape r' >>= f).deadOn P r := fun v hF hr x v' e => h (v.shape? r') v hF hr x v' e
theorem deadOn_getObj_any {r r' : Nat} {f : Obj → Sem β} (h : ∀ x, (f x).deadOn P r) : (getObj r' >>= f).deadOn P r := fun v hF hr x v' e => by
 have e' : (Sem.getObj r' fun o => f o).run P v = .ok x v' := e
 simp only [Sem.run] at e'
 split at e'
 ·cases e'
 ·exact h _ v hF hr x v' e'
 ·cases e'
theorem behind_any {r : Nat} {f : Addr × Bool → Sem β} (n : Addr) (h : ∀ x, (f x).deadOn P r) : (behindNumber n >>= f).deadOn P r := by
 have e : behindNumber n >>= f = (numberAt n.block).bind fun x => f (x.getD (n, false)) := bind_assoc' (numberAt n.block) (fun x => pure (x.getD (n, false))) f
 rw [e]
 show ((shape n.block).bind (fun s => (if s.isSome = true then pure none else getObj n.block >>= fun o => match o with | .number a t => pure (some (a, t)) | _ => pure none : Sem (Option (Addr × Bool)))) >>= fun x => f (x.getD (n, false))).deadOn P r
 refine deadOn_shape_any (f := fun s => (if s.isSome = true then pure none else getObj n.block >>= fun o => match o with | .number a t => pure (some (a, t)) | _ => pure none : Sem (Option (Addr × Bool))) >>= fun x => f (x.getD (n, false))) fun s => ?_
 split
 ·exact h _
 ·refine deadOn_getObj_any (f := fun o => (match o with | .number a t => pure (some (a, t)) | _ => pure none : Sem (Option (Addr × Bool))) >>= fun x => f (x.getD (n, false))) fun o => ?_
  cases o <;> exact h _
/-- Two addresses, each behind its number, looked at together. -/
theorem t_twoNumbers {f : Addr → Addr → Sem β} (a b : Addr) (h : ∀ a b, T P (f a b)) (hd : ∀ a b, (f a b).deadOn P a.block ∧ (f a b).deadOn P b.block) : T P (behindNumber a >>= fun x => behindNumber b >>= fun y => f x.1 y.1) := by
 refine t_behind a (fun x => ?_) ?_
 ·exact t_behind b (fun y => h _ _) (hd _ _).2
 ·exact behind_any b fun y => (hd _ _).1
theorem t_addrSub (k : IntKind) (a b : Addr) : T P (Op.addrSub k a b) := t_do (t_twoPlaces a b) fun x => t_pure _
theorem t_addrCmp (op : BinOp) (a b : Addr) : T P (Op.addrCmp op a b) := t_do (t_twoPlaces a b) fun x => by
 obtain ⟨x, y⟩ := x
 cases op <;> first | exact t_pure _ | exact t_unsup trivial
theorem t_addrMod (k : IntKind) (a : Addr) (n : Int) : T P (Op.addrMod k a n) := by
 unfold Op.addrMod
 refine t_shape _ (fun x => ?_) (deadOn_halt _)
 cases x with
 | none => exact t_unsup trivial
 | some x =>
  obtain ⟨e, c⟩ := x
  refine t_do (t_typeInfo e) fun i => ?_
  dsimp only
  split
  ·exact t_unsup trivial
  ·exact t_do (t_byteOf a) fun b => t_pure _
theorem addrMod_hid (k : IntKind) (a : Addr) (n : Int) : (Op.addrMod k a n).deadOn P a.block := by
 unfold Op.addrMod
 exact deadOn_shape (deadOn_halt _)
/-! ### Comparisons -/
def plainDesc : TypeDesc → Bool
 | .int _ | .string | .bool | .slice _ | .chan .. => true
 | _ => false
def notChecker (P : Program) (t : TypeId) : Bool := match P.info? t with | some i => (match i.desc with | .named "sync.copyChecker" _ => false | _ => true) | none => true
theorem t_equalIn {t : TypeId} {d : TypeDesc} (hu : P.underlying t = some d) (hd : plainDesc d = true) (hc : notChecker P t = true) (n : Nat) (x y : Value) : T P (Op.equalIn (n + 1) t x y) := by
 unfold Op.equalIn
 refine t_under_of hu ?_
 cases d with
 | bool => cases x <;> cases y <;> first | exact t_pure _ | exact t_stuck _
 | string => cases x <;> cases y <;> first | exact t_pure _ | exact t_stuck _
 | chan a b => cases x <;> cases y <;> first | exact t_pure _ | exact t_stuck _
 | slice e => 
  cases x with
  | slice a n c =>
   cases y with
   | slice b n c => cases a <;> cases b <;> first | exact t_pure _ | exact t_stuck _
   | _ => cases a <;> exact t_stuck _
  | _ => cases y <;> exact t_stuck _
 | int k =>
  cases x with
  | int kx a =>
   cases y with
   | int ky b => 
    show T P (if kx = ky then _ else _)
    split <;> first | exact t_pure _ | exact t_stuck _
   | pointer q =>
    cases q with
    | none => split <;> first | contradiction | exact t_unsup trivial | exact t_pure _ | exact t_stuck _
    | some b => split <;> first | contradiction | exact t_unsup trivial | exact t_pure _ | exact t_stuck _
   | _ => exact t_stuck _
  | pointer p =>
   cases p with
   | none => cases y <;> exact t_unsup trivial
   | some a =>
    cases y with
    | int ky b => split <;> first | contradiction | exact t_unsup trivial | exact t_pure _ | exact t_stuck _
    | pointer q =>
     cases q with
     | none => exact t_unsup trivial
     | some b =>
      refine t_twoNumbers (f := fun a b => program >>= fun p => if (a.block == b.block && decide (a.block < p.globals.size)) = true then byteOf a >>= fun x => byteOf b >>= fun y => pure (x == y) else typeInfo t >>= fun i => match i.desc with | .named "sync.copyChecker" _ => if (a == b) = true then pure true else unsupported .addressObserved | _ => unsupported .addressObserved) a b ?_ ?_
      ·intro a b
       refine t_prog ?_
       split
       ·exact t_do (t_byteOf a) fun x => t_do (t_byteOf b) fun y => t_pure _
       ·refine t_do (t_typeInfo t) fun i => ?_
        split
        ·split <;> first | exact t_pure _ | exact t_unsup trivial
        ·exact t_unsup trivial
      ·intro a b
       have key : ∀ r, P.globals.size ≤ r → (r = a.block ∨ r = b.block) → ∀ (v : World) (x : Bool) (v' : World), (program >>= fun p => if (a.block == b.block && decide (a.block < p.globals.size)) = true then byteOf a >>= fun x => byteOf b >>= fun y => pure (x == y) else typeInfo t >>= fun i => match i.desc with | .named "sync.copyChecker" _ => if (a == b) = true then pure true else unsupported .addressObserved | _ => unsupported .addressObserved : Sem Bool).run P v ≠ .ok x v' := by
        intro r hr hor v x v' e
        change (ite _ _ _ : Sem Bool).run P v = _ at e
        rw [if_neg (by simp; rcases hor with rfl | rfl <;> omega)] at e
        change (Sem.bind (match P.info? t with | some i => pure i | none => stuck "no such type" : Sem TypeInfo) _).run P v = _ at e
        unfold notChecker at hc
        cases hi : P.info? t with
        | none => rw [hi] at e; cases e
        | some i =>
         rw [hi] at e hc
         change (match i.desc with | .named "sync.copyChecker" _ => if (a == b) = true then pure true else unsupported .addressObserved | _ => unsupported .addressObserved : Sem Bool).run P v = _ at e
         split at e
         ·rename_i hd'
          simp [hd'] at hc
         ·cases e
       exact ⟨fun v hF hr => key _ (hF.low _ hr) (.inl rfl) v, fun v hF hr => key _ (hF.low _ hr) (.inr rfl) v⟩
    | _ => exact t_unsup trivial
  | _ =>
   cases y with
   | pointer q => cases q <;> exact t_unsup trivial
   | _ => exact t_stuck _
 | _ => cases hd
end
end Go.Proofs.Ythmgpkcijolljaa
/-
  Which operations are steps of simple make: arithmetic, slices, calls.
-/
namespace Go.Proofs.Ythmgpkcijolljaa
open Go.Conc
set_option linter.unusedSimpArgs false
set_option linter.unusedVariables false
section
variable {P : Program} {α β : Type}
theorem t_unsupE (w : String) : T P (unsupported (.noEntry w) : Sem α) := trivial
theorem t_unsupR (w : String) : T P (unsupported (.resourceLimit w) : Sem α) := trivial
theorem t_equal {t : TypeId} {d : TypeDesc} (hu : P.underlying t = some d) (hd : plainDesc d = true) (hc : notChecker P t = true) (x y : Value) : T P (Op.equal t x y) := t_equalIn hu hd hc 9999 x y
theorem t_eqGuardIn {t : TypeId} {d : TypeDesc} (hu : P.underlying t = some d) (hd : plainDesc d = true) (n : Nat) (x y : Value) : T P (Op.eqGuardIn (n + 1) t x y) := by
 unfold Op.eqGuardIn
 refine t_under_of hu ?_
 split <;> first | exact t_pure _ | (simp [plainDesc] at hd)
theorem t_eqGuard {t : TypeId} {d : TypeDesc} (hu : P.underlying t = some d) (hd : plainDesc d = true) (op : BinOp) (x y : Operand) (a b : Value) : T P (eqGuard op t x y a b) := by
 have hg : T P (Op.eqGuardIn Op.maxDepth t a b) := t_eqGuardIn hu hd 9999 a b
 unfold eqGuard
 repeat' first
  | with_reducible exact t_pure _
  | with_reducible exact t_unsupE _
  | with_reducible refine t_do hg fun _ => ?_
  | with_reducible refine t_prog ?_
  | split
theorem t_shift (op : BinOp) (k : IntKind) (x : Int) (yk : IntKind) (y : Int) : T P (Op.shift op k x yk y) := by
 unfold Op.shift
 dsimp only
 split
 ·exact t_rpanic _
 ·split <;> first | exact t_pure _ | exact t_stuck _
theorem t_intArith (op : BinOp) (k : IntKind) (x y : Int) : T P (Op.intArith op k x y) := by unfold Op.intArith; split <;> first | exact t_pure _ | exact t_stuck _
theorem t_intDiv (op : BinOp) (k : IntKind) (x y : Int) : T P (Op.intDiv op k x y) := by
 unfold Op.intDiv
 split
 ·exact t_rpanic _
 ·split <;> first | exact t_pure _ | exact t_stuck _
theorem t_intBits (op : BinOp) (k : IntKind) (x y : Int) : T P (Op.intBits op k x y) := by unfold Op.intBits; dsimp only; split <;> first | exact t_pure _ | exact t_stuck _
theorem t_intCmp (op : BinOp) (x y : Int) : T P (Op.intCmp op x y) := by unfold Op.intCmp; split <;> first | exact t_pure _ | exact t_stuck _
theorem t_stringOp (op : BinOp) (x y : ByteArray) : T P (Op.stringOp op x y) := by
 unfold Op.stringOp
 dsimp only
 split <;> first
  | exact t_pure _
  | exact t_stuck _
  | (split <;> first | exact t_pure _ | exact t_unsup trivial)
theorem t_floatArith (op : BinOp) (k : FloatKind) (x y : Nat) : T P (Op.floatArith op k x y) := by
 have key : ∀ r : Option Nat, T P (match r with | some r => pure (.float k r) | none => do pure (.float k (← choose (.nanBits k x y))) : Sem Value) := by
  intro r
  cases r with
  | some r => exact t_pure _
  | none => exact t_do (t_choose _) fun n => t_pure _
 unfold Op.floatArith
 split <;> first | exact key _ | exact t_do (t_stuck _) fun r => key r
theorem t_floatCmp (op : BinOp) (k : FloatKind) (x y : Nat) : T P (Op.floatCmp op k x y) := by unfold Op.floatCmp; dsimp only; split <;> first | exact t_pure _ | exact t_stuck _
theorem t_carith (op : BinOp) (k : FloatKind) (x y : Nat) : T P (Op.Complex.arith op k x y) := t_do (t_floatArith op k x y) fun v => by split <;> first | exact t_pure _ | exact t_stuck _
theorem t_ccmp (op : BinOp) (k : FloatKind) (x y : Nat) : T P (Op.Complex.cmp op k x y) := t_do (t_floatCmp op k x y) fun v => t_asBool _
theorem t_floatToFloat (a : FloatKind) (b : Nat) (c : FloatKind) : T P (Conv.floatToFloat a b c) := by
 unfold Conv.floatToFloat
 split
 ·exact t_pure _
 ·split
  ·exact t_do (t_choose _) fun n => t_pure _
  ·exact t_pure _
  ·dsimp only
   split
   ·exact t_do (t_choose _) fun n => t_pure _
   ·exact t_pure _
theorem t_cconv (a : FloatKind) (b : Nat) (c : FloatKind) : T P (Op.Complex.conv a b c) := by
 unfold Op.Complex.conv
 split
 ·exact t_pure _
 ·exact t_do (t_floatToFloat _ _ _) fun v => by split <;> first | exact t_pure _ | exact t_stuck _
theorem t_cadd (a b : Nat) : T P (Op.Complex.add a b) := t_carith _ _ _ _
theorem t_csub (a b : Nat) : T P (Op.Complex.sub a b) := t_carith _ _ _ _
theorem t_cmul (a b : Nat) : T P (Op.Complex.mul a b) := t_carith _ _ _ _
theorem t_cquo (a b : Nat) : T P (Op.Complex.quo a b) := t_carith _ _ _ _
theorem t_cproduct (a b c d : Nat) : T P (Op.Complex.product a b c d) := by
 unfold Op.Complex.product
 with_reducible repeat' first | exact t_cadd _ _ | exact t_csub _ _ | exact t_cmul _ _ | exact t_pure _ | refine t_do ?_ fun _ => ?_
theorem t_ccorrected (s a b c d : Nat) : T P (Op.Complex.corrected s a b c d) := by
 unfold Op.Complex.corrected
 with_reducible repeat' first | exact t_cadd _ _ | exact t_csub _ _ | exact t_cmul _ _ | exact t_pure _ | refine t_do ?_ fun _ => ?_
theorem t_cquotient (a b c d : Nat) : T P (Op.Complex.quotient a b c d) := by
 unfold Op.Complex.quotient
 dsimp only
 with_reducible repeat' first | exact t_cadd _ _ | exact t_csub _ _ | exact t_cmul _ _ | exact t_cquo _ _ | exact t_ccmp _ _ _ _ | exact t_pure _ | exact t_ccorrected _ _ _ _ _ | refine t_do ?_ fun _ => ?_ | split
theorem t_complexOp (op : BinOp) (k : FloatKind) (a b c d : Nat) : T P (Op.complexOp op k a b c d) := by
 unfold Op.complexOp
 split
 all_goals with_reducible repeat' first | exact t_carith _ _ _ _ | exact t_ccmp _ _ _ _ | exact t_cconv _ _ _ | exact t_cproduct _ _ _ _ | exact t_cquotient _ _ _ _ | exact t_pure _ | exact t_stuck _ | refine t_do ?_ fun _ => ?_ | split
theorem t_binOp {t : TypeId} {d : TypeDesc} (hu : P.underlying t = some d) (hd : plainDesc d = true) (hc : notChecker P t = true) (op : BinOp) (x y : Value) : T P (binOp op t x y) := by
 have hnot : ∀ s : Sem Value, ∀ s' : Sem Value, T P s → T P s' → T P (underlying t >>= fun u => if (match u with | .unsafePointer => true | _ => false) = true then s else s') := by
  intro s s' h h'
  refine t_under_of hu ?_
  split <;> assumption
 unfold binOp
 split
 ·exact t_shift _ _ _ _ _
 ·exact t_shift _ _ _ _ _
 ·split
  ·exact t_stuck _
  ·split <;> first | exact t_intArith _ _ _ _ | exact t_intDiv _ _ _ _ | exact t_intBits _ _ _ _ | exact t_intCmp _ _ _
 ·split
  ·exact t_stuck _
  ·split <;> first | exact t_floatArith _ _ _ _ | exact t_floatCmp _ _ _ _
 ·split
  ·exact t_stuck _
  ·exact t_complexOp _ _ _ _ _ _
 ·exact t_stringOp _ _ _
 ·exact t_do (t_equal hu hd hc _ _) fun b => t_pure _
 ·exact t_do (t_equal hu hd hc _ _) fun b => t_pure _
 ·refine t_under_of hu ?_
  split
  ·simp [plainDesc] at hd
  ·exact t_movedNumber hu _ _
 ·exact t_movedNumber hu _ _
 ·exact t_movedNumber hu _ _
 ·exact t_twoNumbers (f := fun a b => Op.addrSub .u64 a b) _ _ (fun a b => t_addrSub _ _ _) fun a b => ⟨deadOn_do (twoPlaces_hid a b), deadOn_do (twoPlaces_hid' a b)⟩
 all_goals first
  | exact t_twoNumbers (f := fun a b => Op.addrCmp _ a b) _ _ (fun a b => t_addrCmp _ _ _) fun a b => ⟨deadOn_do (twoPlaces_hid a b), deadOn_do (twoPlaces_hid' a b)⟩
  | exact t_behind (f := fun x => Op.addrMod _ x.1 _) _ (fun x => t_addrMod _ _ _) (addrMod_hid _ _ _)
  | exact t_unsup trivial
  | exact t_stuck _
theorem t_unary (op : UnOp) (x : Value) : T P (Op.unary op x) := by unfold Op.unary; split <;> first | exact t_intArith _ _ _ _ | exact t_intBits _ _ _ _ | exact t_pure _ | exact t_unsup trivial | exact t_stuck _
/-! ### Memory -/
theorem t_alloc (e : TypeId) : T P (Instr.alloc e true (.tuple #[])) := t_do (t_zero e) fun z => t_do (t_newVar e z) fun a => t_pure _
theorem t_box (e : TypeId) (v : Value) : T P (Instr.box e v) := t_do (t_newVar e v) fun a => t_pure _
theorem bind_pure' (s : Sem α) : s.bind Sem.pure = s := by
 induction s with
 | pure a => rfl
 | load m a k ih => simp only [Sem.bind]; congr 1; funext x; exact ih x
 | store m a v k ih => simp only [Sem.bind, ih]
 | new o k ih => simp only [Sem.bind]; congr 1; funext x; exact ih x
 | shape r k ih => simp only [Sem.bind]; congr 1; funext x; exact ih x
 | freeze a n k ih => simp only [Sem.bind, ih]
 | frozen a k ih => simp only [Sem.bind]; congr 1; funext x; exact ih x
 | getObj r k ih => simp only [Sem.bind]; congr 1; funext x; exact ih x
 | setObj r o k ih => simp only [Sem.bind, ih]
 | choose q k ih => simp only [Sem.bind]; congr 1; funext x; exact ih x
 | sys c k ih => simp only [Sem.bind]; congr 1; funext x; exact ih x
 | program k ih => simp only [Sem.bind]; congr 1; funext x; exact ih x
 | mark m k ih => simp only [Sem.bind, ih]
 | halt h => rfl
theorem lawful : LawfulMonad Sem := LawfulMonad.mk' Sem (fun x => bind_pure' x) (fun _ _ => rfl) (fun x f g => bind_assoc' x f g)
theorem t_mapM {γ : Type} (f : γ → Sem β) (h : ∀ x, T P (f x)) (xs : Array γ) : T P (xs.mapM f) := by
 haveI := lawful
 rw [Array.mapM_eq_mapM_toList]
 refine t_map _ ?_
 induction xs.toList with
 | nil => rw [List.mapM_nil]; exact t_pure _
 | cons x l ih => rw [List.mapM_cons]; exact t_do (h x) fun y => t_do ih fun r => t_pure _
theorem t_build (t : TypeId) (parts : Array (Nat × Value)) : T P (Instr.build t parts) := by
 unfold Instr.build
 refine t_do (t_zero t) fun z => t_do (t_under t) fun d => ?_
 split
 ·refine t_do (t_mapM _ (fun f => t_do (t_sizeOf _) fun n => t_pure _) _) fun ps => ?_
  split <;> first | exact t_pure _ | exact t_stuck _
 ·refine t_do (t_sizeOf _) fun n => ?_
  split <;> first | exact t_pure _ | exact t_stuck _
 ·exact t_stuck _
theorem t_buildSlice (t : TypeId) (n : Nat) (parts : Array (Nat × Value)) : T P (Instr.buildSlice t n parts) := by
 unfold Instr.buildSlice
 refine t_do (t_under t) fun d => ?_
 split
 ·rename_i elem
  refine t_do (t_sizeOf _) fun s => ?_
  have key : ∀ zero : Array Value, T P (match Instr.fill (fun i => some (i * s, s)) ((Array.range (n * s)).map (zero[· % zero.size]!)) parts.toList with | some cells => newRow elem cells >>= fun a => pure (.slice (some a) n n) | _ => stuck "buildSlice: a part of the wrong size" : Sem Value) := by
   intro zero
   split
   ·exact t_do (t_newRow _ _) fun a => t_pure _
   ·exact t_stuck _
  dsimp only
  by_cases h1 : n * s > 2 ^ 24
  ·rw [if_pos h1]; exact t_unsup trivial
  ·rw [if_neg h1]
   by_cases h2 : n * s = 0
   ·rw [if_pos h2]; exact key _
   ·rw [if_neg h2]; exact t_do (t_zero _) fun z => key _
 ·exact t_stuck _
theorem t_loadAt (t : TypeId) (a : Value) : T P (Instr.loadAt t a) := t_do (t_sureAddr a) fun a => t_loadVar t a
theorem t_storeAt (t : TypeId) (a x : Value) : T P (Instr.storeAt t a x) := t_do (t_sureAddr a) fun a => t_storeVar t a x
theorem t_partAt (a : Addr) (c b : Nat) : T P (partAt a c b) := by
 unfold partAt
 exact t_do (t_byteOf a) fun x => t_do (t_byteOf _) fun y => t_pure _
theorem t_fieldPlace (a : Addr) (f : Field) : T P (fieldPlace a f) := t_do (t_sizeOf _) fun n => by
 split
 ·exact t_partAt _ _ _
 ·exact t_pure _
theorem t_fieldAt (s : TypeId) (a : Value) (f : Nat) : T P (Instr.fieldAt s a f) := by
 unfold Instr.fieldAt
 refine t_do (t_under s) fun d => ?_
 split
 ·split
  ·exact t_do (t_sureAddr a) fun a => t_do (t_fieldPlace a _) fun b => t_pure _
  ·exact t_stuck _
 ·exact t_stuck _
theorem t_field (s : TypeId) (x : Value) (f : Nat) : T P (Instr.field s x f) := by
 unfold Instr.field
 refine t_do (t_under s) fun d => ?_
 split
 ·split
  ·exact t_do (t_asAgg x) fun c => t_part _ _ _
  ·exact t_stuck _
 ·exact t_stuck _
theorem t_extract (x : Value) (i : Nat) : T P (Instr.extract x i) := by
 unfold Instr.extract
 split
 ·split <;> first | exact t_pure _ | exact t_stuck _
 ·exact t_stuck _
end
end Go.Proofs.Ythmgpkcijolljaa
/-
  Which operations are steps of simple make: slices and builtins. (Printed by gen_tame.py.)
-/
namespace Go.Proofs.Ythmgpkcijolljaa
open Go.Conc
set_option linter.unusedSimpArgs false
set_option linter.unusedVariables false
section
variable {P : Program} {α β : Type}
theorem t_unsupA : T P (unsupported .addressObserved : Sem α) := trivial
theorem t_lenOf (v : Value) : T P (Builtin.lenOf v) := by
 unfold Builtin.lenOf
 with_reducible repeat' first
  | exact t_pure _
  | exact t_stuck _
  | exact t_unsupE _
  | exact t_unsupR _
  | exact t_unsupA
  | exact t_rpanic _
  | exact t_bounds _ _ _ _
  | exact t_asIntOf _
  | exact t_asInt _
  | exact t_asBool _
  | exact t_under _
  | exact t_typeInfo _
  | exact t_sizeOf _
  | exact t_zero _
  | exact t_sureAddr _
  | exact t_asAddr _
  | exact t_choose _
  | exact t_newRow _ _
  | exact t_askRoom _
  | exact t_part _ _ _
  | exact t_loadCells _ _
  | exact t_storeCells _ _ _
  | exact t_stringOp _ _ _
  | refine t_do ?_ fun _ => ?_
  | split
theorem t_firstCells (s n : Nat) (v : Value) : T P (Builtin.firstCells s n v) := by
 unfold Builtin.firstCells
 with_reducible repeat' first
  | exact t_pure _
  | exact t_stuck _
  | exact t_unsupE _
  | exact t_unsupR _
  | exact t_unsupA
  | exact t_rpanic _
  | exact t_bounds _ _ _ _
  | exact t_asIntOf _
  | exact t_asInt _
  | exact t_asBool _
  | exact t_under _
  | exact t_typeInfo _
  | exact t_sizeOf _
  | exact t_zero _
  | exact t_sureAddr _
  | exact t_asAddr _
  | exact t_choose _
  | exact t_newRow _ _
  | exact t_askRoom _
  | exact t_part _ _ _
  | exact t_loadCells _ _
  | exact t_storeCells _ _ _
  | exact t_stringOp _ _ _
  | refine t_do ?_ fun _ => ?_
  | split
theorem t_sliceBound (x : Value) (y : Nat) (c : BoundsCode) : T P (Instr.sliceBound x y c) := by
 unfold Instr.sliceBound
 with_reducible repeat' first
  | exact t_pure _
  | exact t_stuck _
  | exact t_unsupE _
  | exact t_unsupR _
  | exact t_unsupA
  | exact t_rpanic _
  | exact t_bounds _ _ _ _
  | exact t_asIntOf _
  | exact t_asInt _
  | exact t_asBool _
  | exact t_under _
  | exact t_typeInfo _
  | exact t_sizeOf _
  | exact t_zero _
  | exact t_sureAddr _
  | exact t_asAddr _
  | exact t_choose _
  | exact t_newRow _ _
  | exact t_askRoom _
  | exact t_part _ _ _
  | exact t_loadCells _ _
  | exact t_storeCells _ _ _
  | exact t_stringOp _ _ _
  | refine t_do ?_ fun _ => ?_
  | split
theorem t_sliceBounds (b : Bool) (l c : Nat) (lo hi mx : Option Value) : T P (Instr.sliceBounds b l c lo hi mx) := by
 unfold Instr.sliceBounds
 dsimp only
 with_reducible repeat' first
  | exact t_pure _
  | exact t_stuck _
  | exact t_unsupE _
  | exact t_unsupR _
  | exact t_unsupA
  | exact t_rpanic _
  | exact t_bounds _ _ _ _
  | exact t_asIntOf _
  | exact t_asInt _
  | exact t_asBool _
  | exact t_under _
  | exact t_typeInfo _
  | exact t_sizeOf _
  | exact t_zero _
  | exact t_sureAddr _
  | exact t_asAddr _
  | exact t_choose _
  | exact t_newRow _ _
  | exact t_askRoom _
  | exact t_part _ _ _
  | exact t_loadCells _ _
  | exact t_storeCells _ _ _
  | exact t_lenOf _
  | exact t_firstCells _ _ _
  | exact t_sliceBound _ _ _
  | exact t_stringOp _ _ _
  | refine t_do ?_ fun _ => ?_
  | split
theorem t_slice (t : TypeId) (x : Value) (lo hi mx : Option Value) : T P (Instr.slice t x lo hi mx) := by
 unfold Instr.slice
 dsimp only
 with_reducible repeat' first
  | exact t_pure _
  | exact t_stuck _
  | exact t_unsupE _
  | exact t_unsupR _
  | exact t_unsupA
  | exact t_rpanic _
  | exact t_bounds _ _ _ _
  | exact t_asIntOf _
  | exact t_asInt _
  | exact t_asBool _
  | exact t_under _
  | exact t_typeInfo _
  | exact t_sizeOf _
  | exact t_zero _
  | exact t_sureAddr _
  | exact t_asAddr _
  | exact t_choose _
  | exact t_newRow _ _
  | exact t_askRoom _
  | exact t_part _ _ _
  | exact t_loadCells _ _
  | exact t_storeCells _ _ _
  | exact t_lenOf _
  | exact t_firstCells _ _ _
  | exact t_sliceBound _ _ _
  | exact t_sliceBounds _ _ _ _ _ _
  | exact t_stringOp _ _ _
  | refine t_do ?_ fun _ => ?_
  | split
theorem t_sliceAt (t : TypeId) (x : Value) (lo hi mx : Option Value) : T P (Instr.sliceAt t x lo hi mx) := by
 unfold Instr.sliceAt
 with_reducible repeat' first
  | exact t_pure _
  | exact t_stuck _
  | exact t_unsupE _
  | exact t_unsupR _
  | exact t_unsupA
  | exact t_rpanic _
  | exact t_bounds _ _ _ _
  | exact t_asIntOf _
  | exact t_asInt _
  | exact t_asBool _
  | exact t_under _
  | exact t_typeInfo _
  | exact t_sizeOf _
  | exact t_zero _
  | exact t_sureAddr _
  | exact t_asAddr _
  | exact t_choose _
  | exact t_newRow _ _
  | exact t_askRoom _
  | exact t_part _ _ _
  | exact t_loadCells _ _
  | exact t_storeCells _ _ _
  | exact t_lenOf _
  | exact t_firstCells _ _ _
  | exact t_sliceBound _ _ _
  | exact t_sliceBounds _ _ _ _ _ _
  | exact t_slice _ _ _ _ _
  | exact t_stringOp _ _ _
  | refine t_do ?_ fun _ => ?_
  | split
theorem t_indexAt (t : TypeId) (x i : Value) : T P (Instr.indexAt t x i) := by
 unfold Instr.indexAt
 dsimp only
 with_reducible repeat' first
  | exact t_pure _
  | exact t_stuck _
  | exact t_unsupE _
  | exact t_unsupR _
  | exact t_unsupA
  | exact t_rpanic _
  | exact t_bounds _ _ _ _
  | exact t_asIntOf _
  | exact t_asInt _
  | exact t_asBool _
  | exact t_under _
  | exact t_typeInfo _
  | exact t_sizeOf _
  | exact t_zero _
  | exact t_sureAddr _
  | exact t_asAddr _
  | exact t_choose _
  | exact t_newRow _ _
  | exact t_askRoom _
  | exact t_part _ _ _
  | exact t_loadCells _ _
  | exact t_storeCells _ _ _
  | exact t_lenOf _
  | exact t_firstCells _ _ _
  | exact t_sliceBound _ _ _
  | exact t_sliceBounds _ _ _ _ _ _
  | exact t_slice _ _ _ _ _
  | exact t_stringOp _ _ _
  | refine t_do ?_ fun _ => ?_
  | split
theorem t_index (t : TypeId) (x i : Value) : T P (Instr.index t x i) := by
 unfold Instr.index
 with_reducible repeat' first
  | exact t_pure _
  | exact t_stuck _
  | exact t_unsupE _
  | exact t_unsupR _
  | exact t_unsupA
  | exact t_rpanic _
  | exact t_bounds _ _ _ _
  | exact t_asIntOf _
  | exact t_asInt _
  | exact t_asBool _
  | exact t_under _
  | exact t_typeInfo _
  | exact t_sizeOf _
  | exact t_zero _
  | exact t_sureAddr _
  | exact t_asAddr _
  | exact t_choose _
  | exact t_newRow _ _
  | exact t_askRoom _
  | exact t_part _ _ _
  | exact t_loadCells _ _
  | exact t_storeCells _ _ _
  | exact t_lenOf _
  | exact t_firstCells _ _ _
  | exact t_sliceBound _ _ _
  | exact t_sliceBounds _ _ _ _ _ _
  | exact t_slice _ _ _ _ _
  | exact t_stringOp _ _ _
  | refine t_do ?_ fun _ => ?_
  | split
theorem t_makeSlice (t : TypeId) (l c : Value) : T P (Instr.makeSlice t l c) := by
 unfold Instr.makeSlice
 dsimp only
 with_reducible repeat' first
  | exact t_pure _
  | exact t_stuck _
  | exact t_unsupE _
  | exact t_unsupR _
  | exact t_unsupA
  | exact t_rpanic _
  | exact t_bounds _ _ _ _
  | exact t_asIntOf _
  | exact t_asInt _
  | exact t_asBool _
  | exact t_under _
  | exact t_typeInfo _
  | exact t_sizeOf _
  | exact t_zero _
  | exact t_sureAddr _
  | exact t_asAddr _
  | exact t_choose _
  | exact t_newRow _ _
  | exact t_askRoom _
  | exact t_part _ _ _
  | exact t_loadCells _ _
  | exact t_storeCells _ _ _
  | exact t_lenOf _
  | exact t_firstCells _ _ _
  | exact t_sliceBound _ _ _
  | exact t_sliceBounds _ _ _ _ _ _
  | exact t_slice _ _ _ _ _
  | exact t_stringOp _ _ _
  | refine t_do ?_ fun _ => ?_
  | split
theorem t_max2 (x y : Value) : T P (Builtin.max2 x y) := by
 unfold Builtin.max2
 with_reducible repeat' first
  | exact t_pure _
  | exact t_stuck _
  | exact t_unsupE _
  | exact t_unsupR _
  | exact t_unsupA
  | exact t_rpanic _
  | exact t_bounds _ _ _ _
  | exact t_asIntOf _
  | exact t_asInt _
  | exact t_asBool _
  | exact t_under _
  | exact t_typeInfo _
  | exact t_sizeOf _
  | exact t_zero _
  | exact t_sureAddr _
  | exact t_asAddr _
  | exact t_choose _
  | exact t_newRow _ _
  | exact t_askRoom _
  | exact t_part _ _ _
  | exact t_loadCells _ _
  | exact t_storeCells _ _ _
  | exact t_lenOf _
  | exact t_firstCells _ _ _
  | exact t_sliceBound _ _ _
  | exact t_sliceBounds _ _ _ _ _ _
  | exact t_slice _ _ _ _ _
  | exact t_stringOp _ _ _
  | refine t_do ?_ fun _ => ?_
  | split
theorem t_min2 (x y : Value) : T P (Builtin.min2 x y) := by
 unfold Builtin.min2
 with_reducible repeat' first
  | exact t_pure _
  | exact t_stuck _
  | exact t_unsupE _
  | exact t_unsupR _
  | exact t_unsupA
  | exact t_rpanic _
  | exact t_bounds _ _ _ _
  | exact t_asIntOf _
  | exact t_asInt _
  | exact t_asBool _
  | exact t_under _
  | exact t_typeInfo _
  | exact t_sizeOf _
  | exact t_zero _
  | exact t_sureAddr _
  | exact t_asAddr _
  | exact t_choose _
  | exact t_newRow _ _
  | exact t_askRoom _
  | exact t_part _ _ _
  | exact t_loadCells _ _
  | exact t_storeCells _ _ _
  | exact t_lenOf _
  | exact t_firstCells _ _ _
  | exact t_sliceBound _ _ _
  | exact t_sliceBounds _ _ _ _ _ _
  | exact t_slice _ _ _ _ _
  | exact t_stringOp _ _ _
  | refine t_do ?_ fun _ => ?_
  | split
theorem semi_do {s : Sem α} {f : α → Sem β} (h : s.semi P) (hf : ∀ a, (f a).semi P) : (s >>= f).semi P := semi_bind s f h hf
theorem dead_do {s : Sem α} {f : α → Sem β} (h : s.semi P) (hf : ∀ a, (f a).dead P) : (s >>= f).dead P := semi_dead s f h hf
theorem semi_holds (a : Addr) (n : Nat) : (Builtin.holdsCells a n).semi P := semi_do (s := shape a.block) (fun _ => trivial) fun x => by
 split <;> trivial
theorem semi_mayShare (s l n : Nat) (b : Option Addr) (x : Value) : (Builtin.mayShare s l n b x).semi P := by
 have key : ∀ there : Bool, (if (!there) = true then pure true else match x with | .slice (some c) _ _ => do pure (!(← Builtin.holdsCells c (n * s)) || b.any (·.block == c.block)) | _ => pure false : Sem Bool).semi P := by
  intro there
  split
  ·trivial
  ·split
   ·exact semi_do (semi_holds _ _) fun _ => trivial
   ·trivial
 unfold Builtin.mayShare
 cases b with
 | none => exact key true
 | some a => exact semi_do (semi_holds _ _) fun h => semi_do (s := frozen _) (fun _ => trivial) fun f => key _
end
end Go.Proofs.Ythmgpkcijolljaa
/-
  Which operations are steps of simple make: append and the other builtins; calls; all of them. (Printed by gen_tame.py.)
-/
namespace Go.Proofs.Ythmgpkcijolljaa
open Go.Conc
set_option linter.unusedSimpArgs false
set_option linter.unusedVariables false
section
variable {P : Program} {α β : Type}
theorem t_ite {c : Prop} [Decidable c] {a b : Sem α} (ha : T P a) (hb : T P b) : T P (if c then a else b) := by split <;> assumption
theorem d_ite {c : Prop} [Decidable c] {a b : Sem α} (ha : a.dead P) (hb : b.dead P) : (if c then a else b).dead P := by split <;> assumption
theorem t_may {s : Sem Bool} (h : s.semi P) (w : String) : T P (s >>= fun b => if (!b) = true then (mark .noRoom >>= fun _ => unsupported (.resourceLimit w)) else unsupported (.resourceLimit w) : Sem β) :=
 tame_of_dead _ (dead_do h fun b => d_ite ⟨rfl, trivial⟩ trivial)
theorem t_append (at_ : Array TypeId) (ty : TypeId) (args : Array Value) : T P (Builtin.append_ at_ ty args) := by
 unfold Builtin.append_
 with_reducible repeat' first
  | exact t_pure _
  | exact t_stuck _
  | exact t_unsupE _
  | exact t_unsupR _
  | exact t_unsupA
  | exact t_rpanic _
  | exact t_bounds _ _ _ _
  | exact t_asIntOf _
  | exact t_asInt _
  | exact t_asBool _
  | exact t_under _
  | exact t_typeInfo _
  | exact t_sizeOf _
  | exact t_zero _
  | exact t_sureAddr _
  | exact t_asAddr _
  | exact t_choose _
  | exact t_newRow _ _
  | exact t_askRoom _
  | exact t_part _ _ _
  | exact t_loadCells _ _
  | exact t_storeCells _ _ _
  | exact t_lenOf _
  | exact t_firstCells _ _ _
  | exact t_sliceBound _ _ _
  | exact t_sliceBounds _ _ _ _ _ _
  | exact t_slice _ _ _ _ _
  | exact t_stringOp _ _ _
  | exact t_may (semi_mayShare _ _ _ _ _) _
  | refine t_do ?_ fun _ => ?_
  | refine t_ite ?_ ?_
  | split
end
end Go.Proofs.Ythmgpkcijolljaa
/-
  Which operations are steps of simple make: all of them, by a test on the text.
-/
namespace Go.Proofs.Ythmgpkcijolljaa
open Go.Conc
set_option linter.unusedSimpArgs false
set_option linter.unusedVariables false
section
variable {P : Program} {α β : Type}
def lenDesc : TypeDesc → Bool
  | .slice _ | .string => true
  | _ => false
theorem t_len {at_ : Array TypeId} {t : TypeId} {d : TypeDesc} (ht : at_[0]? = some t) (hu : P.underlying t = some d) (hd : lenDesc d = true) (ty : TypeId) (args : Array Value) : T P (Builtin.len_ at_ ty args) := by
  unfold Builtin.len_
  rw [ht]
  cases args[0]? with
  | none => exact t_stuck _
  | some x =>
    refine t_under_of hu ?_
    cases d with
    | slice e => cases x <;> first | exact t_pure _ | exact t_stuck _
    | string => cases x <;> first | exact t_pure _ | exact t_stuck _
    | _ => cases hd
theorem t_cap {at_ : Array TypeId} {t : TypeId} {d : TypeDesc} (ht : at_[0]? = some t) (hu : P.underlying t = some d) (hd : lenDesc d = true) (ty : TypeId) (args : Array Value) : T P (Builtin.cap_ at_ ty args) := by
  unfold Builtin.cap_
  rw [ht]
  cases args[0]? with
  | none => exact t_stuck _
  | some x =>
    refine t_under_of hu ?_
    cases d with
    | slice e => cases x <;> first | exact t_pure _ | exact t_stuck _
    | string => cases x <;> first | exact t_pure _ | exact t_stuck _
    | _ => cases hd
theorem t_foldlM {γ : Type} (f : β → γ → Sem β) (h : ∀ b x, T P (f b x)) : ∀ (l : List γ) (b : β), T P (l.foldlM f b)
  | [], b => by rw [List.foldlM_nil]; exact t_pure _
  | x :: l, b => by rw [List.foldlM_cons]; exact t_do (h b x) fun b' => t_foldlM f h l b'
theorem t_max (at_ : Array TypeId) (ty : TypeId) (args : Array Value) : T P (Builtin.max_ at_ ty args) := by
  unfold Builtin.max_
  split
  · exact t_stuck _
  · exact t_foldlM _ (fun x y => t_max2 x y) _ _
theorem t_min (at_ : Array TypeId) (ty : TypeId) (args : Array Value) : T P (Builtin.min_ at_ ty args) := by
  unfold Builtin.min_
  split
  · exact t_stuck _
  · exact t_foldlM _ (fun x y => t_min2 x y) _ _
theorem t_convert {src dst : TypeId} {j k : IntKind} (hs : P.underlying src = some (.int j)) (hd : P.underlying dst = some (.int k)) (x : Value) : T P (convert src dst x) := by
  unfold convert
  refine t_under_of hs (t_under_of hd ?_)
  cases x with
  | int k n => exact t_pure _
  | float s b =>
    show T P (Conv.floatToInt s b k)
    unfold Conv.floatToInt
    dsimp only
    split
    · split
      · exact t_pure _
      · exact t_do (t_choose _) fun n => t_pure _
    · exact t_do (t_choose _) fun n => t_pure _
  | pointer a => cases a <;> exact t_unsup trivial
  | _ => exact t_unsup trivial
theorem t_makeChan (t : TypeId) (n : Value) : T P (Instr.makeChan t n) := by
  unfold Instr.makeChan
  refine t_do (t_asInt n) fun k => t_do (t_under t) fun d => ?_
  split
  · refine t_do (t_typeInfo _) fun i => ?_
    dsimp only
    split
    · exact t_do (t_rpanic _) fun _ => t_do (t_new trivial) fun r => t_pure _
    · exact t_do (t_new trivial) fun r => t_pure _
  · exact t_stuck _
theorem t_makeMap (t : TypeId) (r : Option Value) : T P (Instr.makeMap t r) := by
  unfold Instr.makeMap
  cases r with
  | none => exact t_do (t_new trivial) fun r => t_pure _
  | some h =>
    refine t_do (t_under t) fun d => ?_
    split
    · exact t_do (t_asInt h) fun k => t_do (t_new trivial) fun r => t_pure _
    · exact t_stuck _
theorem t_followBlind : ∀ (l : List FieldStep) (t : TypeId) (x : Option Value), T P (followBlind l t x)
  | [], _, _ => t_pure _
  | s :: rest, t, x => by
    unfold followBlind
    refine t_do (t_under _) fun d => ?_
    split
    · split
      · split <;> first
          | exact t_pure _
          | exact t_stuck _
          | exact t_followBlind rest _ _
          | exact t_do (t_part _ _ _) fun v => t_followBlind rest _ _
      · exact t_stuck _
    · exact t_stuck _
theorem t_nilAhead : ∀ (n : Nat) (t : TypeId) (v : Value) (s : String), T P (nilAhead n t v s)
  | 0, _, _, _ => t_pure _
  | n + 1, t, v, s => by
    unfold nilAhead
    refine t_do (t_typeInfo t) fun i => ?_
    split
    · refine t_do (t_followBlind _ _ _) fun r => ?_
      split
      · exact t_pure _
      · split <;> first
          | exact t_nilAhead n _ _ _
          | exact t_pure _
          | exact t_stuck _
          | (refine t_do (t_under _) fun d => ?_
             split <;> exact t_pure _)
    · exact t_stuck _
/-! ### What is asked of an operation -/
theorem run_bind (s : Sem α) (f : α → Sem β) : ∀ v : World, (s.bind f).run P v = match s.run P v with | .ok x v₁ => (f x).run P v₁ | .halt h v₁ => .halt h v₁ := by
  induction s with
  | pure a => exact fun _ => rfl
  | load m a k ih =>
    intro v
    simp only [Sem.bind, Sem.run]
    cases v.cell? a with
    | some x => exact ih x v
    | none =>
      cases v.farLoad P a (m == .atomic) with
      | ok r => exact ih r.1 v
      | error h => rfl
  | store m a z k ih =>
    intro v
    cases z <;> simp only [Sem.bind, Sem.run] <;> first
      | rfl
      | (cases v.cell? a with
         | some x =>
           cases v.frozen? a with
           | true => simp only [if_true]
           | false => simp only [Bool.false_eq_true, if_false]; exact ih _
         | none =>
           dsimp only
           split
           · exact ih _
           · rfl)
  | new o k ih => exact fun v => ih _ _
  | shape r k ih => exact fun v => ih _ _
  | freeze a n k ih => exact fun v => ih _
  | frozen a k ih => exact fun v => ih _ _
  | getObj r k ih =>
    intro v
    simp only [Sem.bind, Sem.run]
    split
    · rfl
    · exact ih _ _
    · rfl
  | setObj r o k ih =>
    intro v
    simp only [Sem.bind, Sem.run]
    split
    · rfl
    · exact ih _
    · rfl
  | choose q k ih =>
    intro v
    simp only [Sem.bind, Sem.run]
    split <;> exact ih _ _
  | sys c k ih => exact fun v => ih _ _
  | program k ih => exact fun v => ih _ _
  | mark m k ih => exact fun v => ih _
  | halt h => exact fun _ => rfl
theorem runT_bind (s : Sem α) (f : α → Sem β) : ∀ (v : World) (es : Array Event), (s.bind f).runT P v es = match s.runT P v es with | (.ok x v₁, es₁) => (f x).runT P v₁ es₁ | (.halt h v₁, es₁) => (.halt h v₁, es₁) := by
  induction s with
  | pure a => exact fun _ _ => rfl
  | load m a k ih =>
    intro v es
    simp only [Sem.bind, Sem.runT]
    cases v.cell? a with
    | some x => exact ih x v _
    | none =>
      cases v.farLoad P a (m == .atomic) with
      | ok r => exact ih r.1 v _
      | error h => rfl
  | store m a z k ih =>
    intro v es
    cases z <;> simp only [Sem.bind, Sem.runT] <;> first
      | rfl
      | (cases v.cell? a with
         | some x =>
           cases v.frozen? a with
           | true => simp only [if_true]
           | false => simp only [Bool.false_eq_true, if_false]; exact ih _ _
         | none =>
           dsimp only
           split
           · exact ih _ _
           · rfl)
  | new o k ih => exact fun v es => ih _ _ _
  | shape r k ih => exact fun v es => ih _ _ _
  | freeze a n k ih => exact fun v es => ih _ _
  | frozen a k ih => exact fun v es => ih _ _ _
  | getObj r k ih =>
    intro v es
    simp only [Sem.bind, Sem.runT]
    split
    · rfl
    · exact ih _ _ _
    · rfl
  | setObj r o k ih =>
    intro v es
    simp only [Sem.bind, Sem.runT]
    split
    · rfl
    · exact ih _ _
    · rfl
  | choose q k ih =>
    intro v es
    simp only [Sem.bind, Sem.runT]
    split <;> exact ih _ _ _
  | sys c k ih => exact fun v es => ih _ _ _
  | program k ih => exact fun v es => ih _ _ _
  | mark m k ih => exact fun v es => ih _ _
  | halt h => exact fun _ _ => rfl
theorem loc_bind (s : Sem α) (f : α → Sem β) (h : s.loc P) (hf : ∀ a, (f a).loc P) : (s.bind f).loc P := by
  induction s with
  | pure a => exact hf a
  | load m a k ih => exact fun x => ih x (h x)
  | store m a v k ih => exact ih h
  | new o k ih => exact ⟨h.1, fun x => ih x (h.2 x)⟩
  | shape r k ih => exact fun x => ih x (h x)
  | freeze a n k ih => exact h.elim
  | frozen a k ih => exact fun x => ih x (h x)
  | getObj r k ih => exact fun x => ih x (h x)
  | setObj r o k ih => exact ⟨h.1, ih h.2⟩
  | choose q k ih => exact fun x => ih x (h x)
  | sys c k ih => exact h.elim
  | program k ih => exact ih P h
  | mark m k ih => exact ih h
  | halt h' => exact h
structure Sound (P : Program) (L : α → Prop) (s : Sem α) : Prop where
  run : ∀ (v w : World) (x : α) (v' : World), Veil P v w → w.heap.size = v.heap.size → v.tape = w.tape → v.drawn = w.drawn → s.run P v = .ok x v' →
    L x ∧ ∃ w', Fol P v w v' w' ∧ ∀ es, ∃ es', s.runT P w es = (.ok x w', es ++ es') ∧ ∀ e ∈ es', EvOk v' e
  loc : s.loc P
  still : ∀ (v : World) (n : Nat) (x : α) (v' : World), Flat P v → s.run P v = .ok x v' → v'.heap.size = v.heap.size → s.run P (v.upto n) = .ok x (v'.upto n)
theorem sound_tame {L : α → Prop} {s : Sem α} (h : s.tame P L) : Sound P L s := ⟨tame_run s h, loc_of_tame s h, still_run s h⟩
theorem sound_bind {L : α → Prop} {M : β → Prop} {s : Sem α} {f : α → Sem β} (h : Sound P L s) (hf : ∀ a, Sound P M (f a)) : Sound P M (s >>= f) := by
  refine ⟨fun v w x v' hV hz ht hd e => ?_, loc_bind s f h.loc fun a => (hf a).loc, fun v n x v' hF e hz => ?_⟩
  · have e' : (s.bind f).run P v = .ok x v' := e
    rw [run_bind] at e'
    cases hs : s.run P v with
    | halt hh v₁ => rw [hs] at e'; cases e'
    | ok y v₁ =>
      rw [hs] at e'
      obtain ⟨_, w₁, f1, k1⟩ := h.run v w y v₁ hV hz ht hd hs
      obtain ⟨hl, w', f2, k2⟩ := (hf y).run v₁ w₁ x v' f1.veil f1.size f1.vtape f1.vdrawn e'
      refine ⟨hl, w', f1.trans f2, fun es => ?_⟩
      obtain ⟨es₁, r1, o1⟩ := k1 es
      obtain ⟨es₂, r2, o2⟩ := k2 (es ++ es₁)
      refine ⟨es₁ ++ es₂, ?_, fun e he => ?_⟩
      · show (s.bind f).runT P w es = _
        rw [runT_bind, r1]
        dsimp only
        rw [r2]; simp
      · rcases Array.mem_append.1 he with he | he
        · exact f2.ev' (o1 e he)
        · exact o2 e he
  · have e' : (s.bind f).run P v = .ok x v' := e
    show (s.bind f).run P (v.upto n) = _
    rw [run_bind] at e' ⊢
    cases hs : s.run P v with
    | halt hh v₁ => rw [hs] at e'; cases e'
    | ok y v₁ =>
      rw [hs] at e'
      obtain ⟨_, _, _, hF1, g1, _⟩ := loc_run s h.loc v hF
      rw [hs] at hF1 g1
      obtain ⟨_, _, _, _, g2, _⟩ := loc_run (f y) (hf y).loc v₁ hF1
      dsimp only at e'
      rw [e'] at g2
      simp only [Result.w] at g1 g2
      rw [h.still v n y v₁ hF hs (by omega)]
      exact (hf y).still v₁ n x v' hF1 e' (by omega)
theorem sound_T {s : Sem α} (h : T P s) : Sound P (fun _ => True) s := sound_tame h
end
end Go.Proofs.Ythmgpkcijolljaa
/-
  Which operations are steps of simple make: maps, calls; the test on the text.
-/
namespace Go.Proofs.Ythmgpkcijolljaa
open Go.Conc
set_option linter.unusedSimpArgs false
set_option linter.unusedVariables false
theorem fol_set {P : Program} {v w : World} (hV : Veil P v w) (hz : w.heap.size = v.heap.size) (ht : v.tape = w.tape) (hd : v.drawn = w.drawn) {o o₀ : Obj} {r : Nat} (h0 : v.heap[r]? = some o₀) (hs : okSet o₀) (ho : okSet o) :
  Fol P v w { v with heap := v.heap.setIfInBounds r o } { w with heap := w.heap.setIfInBounds r o } := by
 have hr : r < v.heap.size := (Array.getElem?_eq_some_iff.1 h0).1
 have hr' : r < w.heap.size := by omega
 have hn : okNew o := by cases o <;> first | trivial | exact ho.elim
 have hlike : Like v { v with heap := v.heap.setIfInBounds r o } v.heap.size := by
  intro b hb
  simp only [set_get hr]
  by_cases hbr : b = r
  ·subst hbr
   exact ⟨_, _, h0, by simp, .of_set hs ho⟩
  ·simp only [hbr, if_false]
   exact ⟨_, _, Array.getElem?_eq_getElem hb, Array.getElem?_eq_getElem hb, .refl _⟩
 refine ⟨⟨by simp [hz], fun b o' hbo => ?_, hV.flat.set ho⟩, by simp [hz], by simp, rfl, ht, hd, rfl, rfl, fun b hb => ?_, fun l hl => (hlike.rdwr l hl).1, fun l hl => (hlike.rdwr l hl).2, fun a _ _ => ?_⟩
 ·simp only [set_get hr] at hbo
  simp only [set_get hr']
  by_cases hbr : b = r
  ·subst hbr
   simp at hbo ⊢
   subst hbo
   exact blk_same hn
  ·simp only [hbr, if_false] at hbo ⊢
   exact hV.blk b o' hbo
 ·have hne : b ≠ r := by
   rintro rfl
   rcases hb with h5 | ⟨c', e', f', h5, h6⟩
   ·rw [h0] at h5; rw [Option.some.inj h5] at hs; exact hs
   ·rw [h0] at h5
    cases h5
    exact hs
  simp [set_get hr, set_get hr', hne]
 ·by_cases har : a.block = r
  ·have e0 : w.heap[r]? = some o₀ := by
    obtain ⟨o', h4, hb⟩ := hV.blk _ _ h0
    cases hb <;> first | exact h4 | exact hs.elim
   have e1 : ({ w with heap := w.heap.setIfInBounds r o } : World).heap[a.block]? = some o := by
    show (w.heap.setIfInBounds r o)[a.block]? = some o
    rw [set_get hr', if_pos har]
   have e2 : w.heap[a.block]? = some o₀ := by rw [har]; exact e0
   unfold World.cell?
   rw [e1, e2]
   cases o <;> cases o₀ <;> first | rfl | exact ho.elim | exact hs.elim
  ·have e1 : ({ w with heap := w.heap.setIfInBounds r o } : World).heap[a.block]? = w.heap[a.block]? := by
    show (w.heap.setIfInBounds r o)[a.block]? = _
    rw [set_get hr', if_neg har]
   unfold World.cell?
   rw [e1]
section
variable {P : Program} {α β : Type}
theorem loc_leaf {L : α → Prop} (s : Sem α) (f : α → Sem β) (h : s.tame P L) (hf : ∀ a, L a → (f a).loc P) : (s.bind f).loc P := by
 induction s with
 | pure a => exact hf a h
 | load m a k ih => exact fun x => ih x (h.2 x)
 | store m a v k ih => exact ih h.2
 | new o k ih => exact ⟨h.1, fun x => ih x (h.2 x)⟩
 | shape r k ih => exact fun x => ih x (h.1 x)
 | freeze a n k ih => exact h.elim
 | frozen a k ih => exact fun x => loc_of_dead _ (dead_bind _ _ (h x))
 | getObj r k ih => exact fun x => ih x (h.1 x)
 | setObj r o k ih => exact h.elim
 | choose q k ih => exact fun x => ih x (h x)
 | sys c k ih => exact h.elim
 | program k ih => exact ih P h
 | mark m k ih => exact ih h.2
 | halt h' => exact h
/-- A map is taken, and laid anew. -/
theorem sound_getset {r : Nat} {wh : String} {g : Array MapEntry → Nat → Sem Obj} (hg : ∀ es c, (g es c).tame P okSet) :
  Sound P (fun _ => True) (getObj r >>= fun o => (match o with | .map es c => g es c >>= fun o' => setObj r o' | _ => stuck wh : Sem Unit)) := by
 have inv : ∀ (v : World) (x : Unit) (v' : World), (getObj r >>= fun o => (match o with | .map es c => g es c >>= fun o' => setObj r o' | _ => stuck wh : Sem Unit)).run P v = .ok x v' →
   ∃ es c, v.heap[r]? = some (.map es c) ∧ (g es c >>= fun o' => setObj r o').run P v = .ok x v' := by
  intro v x v' e
  have e' : (Sem.getObj r fun o => (match o with | .map es c => g es c >>= fun o' => setObj r o' | _ => stuck wh : Sem Unit)).run P v = .ok x v' := e
  simp only [Sem.run] at e'
  split at e'
  ·cases e'
  ·rename_i o hno ho
   cases o <;> first
    | exact ⟨_, _, ho, e'⟩
    | cases e'
  ·cases e'
 have fw : ∀ (v : World) (es : Array MapEntry) (c : Nat), v.heap[r]? = some (.map es c) → (getObj r >>= fun o => (match o with | .map es c => g es c >>= fun o' => setObj r o' | _ => stuck wh : Sem Unit)).run P v = (g es c >>= fun o' => setObj r o').run P v := by
  intro v es c h
  show (Sem.getObj r fun o => _).run P v = _
  simp only [Sem.run, h]
  rfl
 refine ⟨fun v w x v' hV hz ht hd e => ?_, ?_, fun v n x v' hF e hz => ?_⟩
 ·obtain ⟨es, c, h0, e1⟩ := inv v x v' e
  obtain ⟨o', h4, hb⟩ := hV.blk _ _ h0
  cases hb
  have e1' : ((g es c).bind fun o' => setObj r o').run P v = .ok x v' := e1
  rw [run_bind] at e1'
  cases hs : (g es c).run P v with
  | halt hh v₁ => rw [hs] at e1'; cases e1'
  | ok y v₁ =>
   rw [hs] at e1'
   obtain ⟨hy, w₁, f1, k1⟩ := tame_run _ (hg es c) v w y v₁ hV hz ht hd hs
   have hw : Wr v (.obj r) := ⟨_, h0, trivial⟩
   obtain ⟨o₁, h1, hs1⟩ := (f1.wr (.obj r) (Array.getElem?_eq_some_iff.1 h0).1).2 hw
   obtain ⟨o₂, h2, hb2⟩ := f1.veil.blk _ _ h1
   have e2 : (Sem.setObj r y (.pure ())).run P v₁ = .ok x v' := e1'
   rw [run_setObj _ h1 hs1] at e2
   cases e2
   have f2 := fol_set f1.veil f1.size f1.vtape f1.vdrawn h1 hs1 hy
   have hb2' := hb2.obj (fun c t f hcc => by subst hcc; exact hs1)
   have hs2 : okSet o₂ := by
    rcases hb2' with rfl | ⟨_, rfl⟩
    ·exact hs1.elim
    ·exact hs1
   refine ⟨trivial, _, f1.trans f2, fun es₀ => ?_⟩
   obtain ⟨es₁, r1, o1⟩ := k1 (es₀.push ⟨.obj r, false, (Obj.map es c).isChan⟩)
   refine ⟨#[⟨.obj r, false, (Obj.map es c).isChan⟩] ++ es₁ ++ #[⟨.obj r, true, y.isChan⟩], ?_, fun e he => ?_⟩
   ·show (Sem.getObj r fun o => _).runT P w es₀ = _
    rw [runT_getObj _ h4 trivial]
    show ((g es c).bind fun o' => setObj r o').runT P w _ = _
    rw [runT_bind, r1]
    show (Sem.setObj r y (.pure ())).runT P w₁ _ = _
    rw [runT_setObj _ h2 hs2]
    simp [Sem.runT]
   ·rcases Array.mem_append.1 he with he | he
    ·rcases Array.mem_append.1 he with he | he
     ·have : e = ⟨.obj r, false, (Obj.map es c).isChan⟩ := by simpa using he
      subst this
      exact (f1.trans f2).ev' (e := ⟨.obj r, false, (Obj.map es c).isChan⟩) hw
     ·exact f2.ev' (o1 e he)
    ·have : e = ⟨.obj r, true, y.isChan⟩ := by simpa using he
     subst this
     exact f2.ev' (e := ⟨.obj r, true, y.isChan⟩) ⟨o₁, h1, hs1⟩
 ·intro o
  show Sem.loc P (match o with | .map es c => g es c >>= fun o' => setObj r o' | _ => stuck wh : Sem Unit)
  cases o <;> first
   | exact loc_leaf _ _ (hg _ _) fun o' ho' => ⟨ho', trivial⟩
   | exact trivial
 ·obtain ⟨es, c, h0, e1⟩ := inv v x v' e
  have hb : r < v.heap.size := (Array.getElem?_eq_some_iff.1 h0).1
  rw [fw (v.upto n) es c (by rw [upto_get hb]; exact h0)]
  have e1' : ((g es c).bind fun o' => setObj r o').run P v = .ok x v' := e1
  show ((g es c).bind fun o' => setObj r o').run P (v.upto n) = _
  rw [run_bind] at e1' ⊢
  cases hs : (g es c).run P v with
  | halt hh v₁ => rw [hs] at e1'; cases e1'
  | ok y v₁ =>
   rw [hs] at e1'
   obtain ⟨_, _, _, hF1, g1, _⟩ := loc_run (g es c) (loc_of_tame _ (hg es c)) v hF
   rw [hs] at hF1 g1
   simp only [Result.w] at g1
   have e2 : (Sem.setObj r y (.pure ())).run P v₁ = .ok x v' := e1'
   have hv' : ∃ o₁, v₁.heap[r]? = some o₁ ∧ (∀ c t f, o₁ ≠ .cells c t f) ∧ v' = { v₁ with heap := v₁.heap.setIfInBounds r y } := by
    simp only [Sem.run] at e2
    split at e2
    ·cases e2
    ·rename_i o hno ho
     cases e2
     exact ⟨o, ho, fun c t f hcc => hno c t f hcc, rfl⟩
    ·cases e2
   obtain ⟨o₁, ho₁, hno, rfl⟩ := hv'
   have hb1 : r < v₁.heap.size := by omega
   rw [still_run _ (hg es c) v n y v₁ hF hs (by simpa using hz)]
   show (Sem.setObj r y (.pure ())).run P (v₁.upto n) = _
   have e5 : (Sem.setObj r y (.pure ())).run P (v₁.upto n) = .ok () { v₁.upto n with heap := (v₁.upto n).heap.setIfInBounds r y } := by
    have : (v₁.upto n).heap[r]? = some o₁ := by rw [upto_get hb1]; exact ho₁
    cases o₁ <;> first
     | (simp only [Sem.run, this]; done)
     | exact absurd rfl (hno _ _ _)
   rw [e5]
   congr 1
   refine world_ext (fun b => ?_) rfl rfl rfl rfl
   have hb' : r < (v₁.upto n).heap.size := by rw [upto_size]; omega
   simp only [set_get hb']
   by_cases hbs : b < v₁.heap.size
   ·rw [upto_get hbs, upto_get (by simpa using hbs)]
    simp only [set_get hb1]
   ·have hba : b ≠ r := by omega
    rw [if_neg hba]
    by_cases hbn : b < n
    ·rw [upto_new (by omega) hbn, upto_new (by simp; omega) hbn]
    ·have h1 : (v₁.upto n).heap.size ≤ b := by rw [upto_size]; omega
     have h2 : (({ v₁ with heap := v₁.heap.setIfInBounds r y } : World).upto n).heap.size ≤ b := by rw [upto_size]; simp; omega
     rw [Array.getElem?_eq_none h1, Array.getElem?_eq_none h2]
theorem under_eq {t : TypeId} {d : TypeDesc} {f : TypeDesc → Sem β} (hu : P.underlying t = some d) : (underlying t >>= f) = .program fun p => ((match p.underlying t with | some d => pure d | none => stuck "no such type" : Sem TypeDesc).bind f) := rfl
theorem sound_under {t : TypeId} {d : TypeDesc} {L : β → Prop} {f : TypeDesc → Sem β} (hu : P.underlying t = some d) (h : Sound P L (f d)) : Sound P L (underlying t >>= f) := by
 have e : ∀ v : World, (underlying t >>= f).run P v = (f d).run P v := by
  intro v
  rw [under_eq hu]
  simp only [Sem.run, hu]
  rfl
 have eT : ∀ (v : World) (es : Array Event), (underlying t >>= f).runT P v es = (f d).runT P v es := by
  intro v es
  rw [under_eq hu]
  simp only [Sem.runT, hu]
  rfl
 refine ⟨fun v w x v' hV hz ht hd hr => ?_, ?_, fun v n x v' hF hr hz => ?_⟩
 ·rw [e] at hr
  obtain ⟨hl, w', f1, k1⟩ := h.run v w x v' hV hz ht hd hr
  exact ⟨hl, w', f1, fun es => by rw [eT]; exact k1 es⟩
 ·rw [under_eq hu]
  simp only [Sem.loc, hu]
  exact h.loc
 ·rw [e] at hr ⊢
  exact h.still v n x v' hF hr hz
theorem sound_clear {at_ : Array TypeId} {t : TypeId} {e : TypeId} (ht : at_[0]? = some t) (hu : P.underlying t = some (.slice e)) (ty : TypeId) (args : Array Value) : Sound P (fun _ => True) (Builtin.clear_ at_ ty args) := by
 unfold Builtin.clear_
 rw [ht]
 cases args[0]? with
 | none => exact sound_T (t_stuck _)
 | some x =>
  refine sound_under hu ?_
  cases x with
  | map r =>
   cases r with
   | none => exact sound_T (t_pure _)
   | some r =>
    have h := sound_bind (sound_getset (P := P) (r := r) (wh := "clear: map expected") (g := fun _ c => pure (.map #[] c)) fun _ _ => trivial) (f := fun _ => (pure (.tuple #[]) : Sem Value)) (M := fun _ => True) fun _ => sound_T (t_pure _)
    have e : (getObj r >>= fun o => (match o with | .map es c => pure (.map #[] c) >>= fun o' => setObj r o' | _ => stuck "clear: map expected" : Sem Unit)) >>= (fun _ => (pure (.tuple #[]) : Sem Value)) = getObj r >>= fun o => ((match o with | .map es c => setObj r (.map #[] c) | _ => stuck "clear: map expected" : Sem Unit) >>= fun _ => (pure (.tuple #[]) : Sem Value)) := by
     show Sem.getObj r (fun o => _) = Sem.getObj r (fun o => _)
     congr 1
    rw [e] at h
    refine cast (congrArg (Sound P fun _ => True) ?_) h
    show Sem.getObj r (fun o => _) = Sem.getObj r (fun o => _)
    congr 1
    funext o
    cases o <;> rfl
  | slice a n c =>
   cases a with
   | none => exact sound_T (t_pure _)
   | some a =>
    cases n with
    | zero => exact sound_T (t_pure _)
    | succ n => exact sound_T (t_do (t_zero _) fun z => t_do (t_storeCells _ _ _) fun _ => t_pure _)
  | _ => exact sound_T (t_stuck _)
end
end Go.Proofs.Ythmgpkcijolljaa
/-
  Which operations are steps of simple make: maps whose keys are channels (or of another plain type).
-/
namespace Go.Proofs.Ythmgpkcijolljaa
open Go.Conc
set_option linter.unusedSimpArgs false
set_option linter.unusedVariables false
section
variable {P : Program} {α β γ : Type}
theorem sem_assoc (s : Sem α) (f : α → Sem β) (g : β → Sem γ) : (s.bind f).bind g = s.bind fun a => (f a).bind g := by
 induction s with
 | pure a => rfl
 | load m a k ih => exact congrArg (Sem.load m a) (funext ih)
 | store m a v k ih => exact congrArg (Sem.store m a v) ih
 | new o k ih => exact congrArg (Sem.new o) (funext ih)
 | shape r k ih => exact congrArg (Sem.shape r) (funext ih)
 | freeze a n k ih => exact congrArg (Sem.freeze a n) ih
 | frozen a k ih => exact congrArg (Sem.frozen a) (funext ih)
 | getObj r k ih => exact congrArg (Sem.getObj r) (funext ih)
 | setObj r o k ih => exact congrArg (Sem.setObj r o) ih
 | choose q k ih => exact congrArg (Sem.choose q) (funext ih)
 | sys c k ih => exact congrArg (Sem.sys c) (funext ih)
 | program k ih => exact congrArg Sem.program (funext ih)
 | mark m k ih => exact congrArg (Sem.mark m) ih
 | halt h => rfl
theorem t_checkKey {t : TypeId} {d : TypeDesc} (hu : P.underlying t = some d) (hd : plainDesc d = true) (b : Bool) (v : Value) : T P (Instr.checkKey b 10000 t v) := by
 show T P (Instr.checkKey b (9999 + 1) t v)
 unfold Instr.checkKey
 refine t_under_of hu ?_
 cases d <;> first | (cases v <;> exact t_pure _) | (simp [plainDesc] at hd; done)
theorem t_findAsking {t : TypeId} {d : TypeDesc} (hu : P.underlying t = some d) (hd : plainDesc d = true) (hc : notChecker P t = true) (k : Value) : ∀ (es : List MapEntry) (i : Nat), T P (Instr.findAsking t k es i)
 | [], i => t_pure _
 | e :: es, i => by
  unfold Instr.findAsking
  refine t_do (t_equal hu hd hc _ _) fun b => ?_
  cases b with
  | true => exact t_pure _
  | false => exact t_findAsking hu hd hc k es (i + 1)
theorem t_findKey {t : TypeId} {d : TypeDesc} (hu : P.underlying t = some d) (hd : plainDesc d = true) (hc : notChecker P t = true) (k : Value) (es : List MapEntry) : T P (Instr.findKey t k es) := by
 unfold Instr.findKey
 refine t_under_of hu ?_
 split
 ·exact t_pure _
 ·exact t_findAsking hu hd hc k es 0
theorem t_getMap {wh : String} {f : Array MapEntry → Sem β} (r : Nat) (h : ∀ es, T P (f es)) : T P (getObj r >>= fun o => (match o with | .map es _ => f es | _ => stuck wh : Sem β)) := by
 refine ⟨fun o => ?_, ?_⟩
 ·show T P (match o with | .map es _ => f es | _ => stuck wh : Sem β)
  cases o <;> first | exact h _ | exact t_stuck _
 ·intro v hF hr x v' e
  cases e
theorem t_lookup {xt key elem : TypeId} {dk : TypeDesc} (hm : P.underlying xt = some (.map key elem)) (hk : P.underlying key = some dk) (hd : plainDesc dk = true) (hc : notChecker P key = true) (x ix : Value) (ok : Bool) : T P (Instr.lookup xt x ix ok) := by
 have tail : ∀ es : Array MapEntry, T P (do
   Instr.checkKey es.isEmpty 10000 key ix
   let (v, ok') ← match ← Instr.findKey key ix es.toList with
    | some (_, v) => pure (v, true)
    | none => pure (← zeroValue elem, false)
   pure (if ok then .tuple #[v, .bool ok'] else v) : Sem Value) := fun es =>
  t_do (t_checkKey hk hd _ _) fun _ => t_do (t_findKey hk hd hc _ _) fun r => by
   cases r with
   | none => exact t_do (t_zero _) fun z => t_pure _
   | some r => exact t_pure _
 unfold Instr.lookup
 refine t_under_of hm ?_
 cases x with
 | map r =>
  cases r with
  | none => exact tail #[]
  | some r => exact t_getMap r tail
 | _ => exact t_stuck _
theorem t_keyThatStays (a b : Value) : T P (Instr.keyThatStays a b) := by
 unfold Instr.keyThatStays
 split
 ·exact t_pure _
 ·exact t_do (t_choose _) fun n => t_pure _
theorem sound_mapUpdate {mt key elem : TypeId} {dk : TypeDesc} (hm : P.underlying mt = some (.map key elem)) (hk : P.underlying key = some dk) (hd : plainDesc dk = true) (hc : notChecker P key = true) (m k x : Value) : Sound P (fun _ => True) (Instr.mapUpdate mt m k x) := by
 unfold Instr.mapUpdate
 refine sound_under hm ?_
 cases m with
 | map r =>
  cases r with
  | none => exact sound_T (t_rpanic _)
  | some r =>
   have h := sound_getset (P := P) (r := r) (wh := "MapUpdate: map expected") (g := fun es clock => (Instr.checkKey false 10000 key k).bind fun _ => (Instr.findKey key k es.toList).bind fun q => match q with
    | some (i, _) => (Instr.keyThatStays (((es[i]?).map (·.key)).getD k) k).bind fun k' => .pure (.map (es.modify i fun e => { e with key := k', val := x }) clock)
    | none => .pure (.map (es.push { key := k, val := x, born := clock }) (clock + 1))) (fun es clock => by
     refine tame_bind (L := fun _ => True) _ _ (t_checkKey hk hd _ _) fun _ _ => tame_bind (L := fun _ => True) _ _ (t_findKey hk hd hc _ _) fun q _ => ?_
     cases q with
     | none => exact (trivial : okSet (.map _ _))
     | some q => exact tame_bind (L := fun _ => True) _ _ (t_keyThatStays _ _) fun _ _ => (trivial : okSet (.map _ _)))
   refine cast (congrArg (Sound P fun _ => True) ?_) h
   show Sem.getObj r (fun o => _) = Sem.getObj r (fun o => _)
   congr 1
   funext o
   cases o with
   | map es clock =>
    show Sem.bind (Sem.bind _ _) _ = _
    rw [sem_assoc]
    show _ = Sem.bind (Instr.checkKey false 10000 key k) _
    congr 1
    funext _
    rw [sem_assoc]
    show _ = Sem.bind (Instr.findKey key k es.toList) _
    congr 1
    funext q
    cases q with
    | none => rfl
    | some q =>
     show Sem.bind (Sem.bind _ _) _ = _
     rw [sem_assoc]
     rfl
   | _ => rfl
 | _ => exact sound_T (t_stuck _)
theorem t_forList {σ ι : Type} (f : ι → σ → Sem (ForInStep σ)) (h : ∀ x b, T P (f x b)) : ∀ (l : List ι) (b : σ), T P (forIn l b f)
 | [], b => t_pure _
 | x :: l, b => by
  rw [List.forIn_cons]
  refine t_do (h x b) fun r => ?_
  cases r with
  | done b => exact t_pure _
  | yield b => exact t_forList f h l b
theorem t_bytesToString (x : Value) : T P (Conv.bytesToString x) := by
 unfold Conv.bytesToString
 cases x with
 | slice a n c =>
  cases a with
  | none => exact t_pure _
  | some a =>
   refine t_do (t_loadCells _ _) fun cs => ?_
   refine t_do ?_ fun s => t_pure _
   rw [← Array.forIn_toList]
   refine t_forList _ (fun x b => ?_) _ _
   split
   ·exact t_pure _
   ·exact t_stuck _
 | _ => exact t_stuck _
theorem t_intToString (n : Int) : T P (Conv.intToString n) := by
 unfold Conv.intToString
 exact t_pure _
theorem t_convertBS {src dst e : TypeId} (hs : P.underlying src = some (.slice e)) (hd : P.underlying dst = some .string) (he : P.underlying e = some (.int .u8)) (x : Value) : T P (convert src dst x) := by
 unfold convert
 refine t_under_of hs (t_under_of hd ?_)
 cases x with
 | int k n => exact t_intToString n
 | string s => exact t_pure _
 | _ => exact t_under_of he (t_bytesToString _)
end
end Go.Proofs.Ythmgpkcijolljaa
/-
  Which operations are steps of simple make: the test on the text, and what it is worth.
-/
namespace Go.Proofs.Ythmgpkcijolljaa
open Go.Conc
set_option linter.unusedSimpArgs false
set_option linter.unusedVariables false
def builtinOk (P : Program) (at_ : Array TypeId) : Builtin → Bool
  | .append | .max | .min => true
  | .len | .cap => match (at_[0]?).bind P.underlying with | some d => lenDesc d | none => false
  | .clear => match (at_[0]?).bind P.underlying with | some (.slice _) => true | _ => false
  | _ => false
/-- A map whose keys are of a plain type. -/
def mapOk (P : Program) (t : TypeId) : Bool := match P.underlying t with
  | some (.map key _) => (match P.underlying key with | some d => plainDesc d | none => false) && notChecker P key
  | _ => false
theorem mapOk_iff {P : Program} {t : TypeId} (h : mapOk P t = true) : ∃ key elem d, P.underlying t = some (.map key elem) ∧ P.underlying key = some d ∧ plainDesc d = true ∧ notChecker P key = true := by
  unfold mapOk at h
  split at h
  · rename_i key elem hu
    rw [Bool.and_eq_true] at h
    obtain ⟨h1, h2⟩ := h
    split at h1
    · rename_i d hd; exact ⟨key, elem, d, hu, hd, h1, h2⟩
    · cases h1
  · cases h
def opOk (P : Program) (S : List FuncId) (o : Oper) : Bool :=
  match o.op with
  | .move _ | .assign _ | .pick .. | .alloc _ | .box .. | .build .. | .buildSlice .. | .load .. | .store .. | .unOp .. | .makeFunc .. | .makeSlice .. | .slice .. | .fieldAddr .. | .field .. | .indexAddr .. | .index .. | .extract .. | .nilCheck _ | .makeChan .. | .makeMap .. => true
  | .lookup t _ _ _ | .mapUpdate t _ _ _ | .insert t _ _ _ => mapOk P t
  | .binOp _ t _ _ _ => (match P.underlying t with | some d => plainDesc d | none => false) && notChecker P t
  | .convert src dst _ => match P.underlying src, P.underlying dst with | some (.int _), some (.int _) => true | some (.slice e), some .string => (match P.underlying e with | some (.int .u8) => true | _ => false) | _, _ => false
  | .call c => match c.callee with
    | .builtin b => builtinOk P c.argTypes b
    | .value (.func f) => S.contains f
    | _ => false
  | _ => false
/-- What a step of simple make comes to. -/
def okNext (S : List FuncId) : Next → Prop
  | .value _ | .skip => True
  | .enter f _ => f ∈ S
  | _ => False
/-- The functions are there, with a text. -/
def Bodies (P : Program) (S : List FuncId) : Prop := ∀ f ∈ S, ∃ fn c, P.funcs[f]? = some fn ∧ fn.body = some c ∧ (fn.name == "runtime.NumGoroutine") = false
section
variable {P : Program} {S : List FuncId}
theorem n_value {s : Sem Value} (h : T P s) : Sound P (okNext S) (do pure (.value (← s)) : Sem Next) := sound_tame (tame_bind (M := okNext S) s (fun v => Sem.pure (Next.value v)) h fun a _ => (show okNext S (Next.value a) from trivial))
theorem n_pure {x : Next} (h : okNext S x) : Sound P (okNext S) (pure x : Sem Next) := sound_tame (s := Sem.pure x) h
theorem n_halt {L : Next → Prop} {s : Sem Next} (h : s.dead P) : Sound P L s := sound_tame (tame_of_dead s h)
theorem dead_rpanic {α : Type} (e : RuntimeError) (he : ∀ i c a m, e ≠ .typeAssertion i c a m) (he' : e ≠ .panicNil) : (runtimePanic e : Sem α).dead P := by
  cases e <;> first
    | exact (trivial : okHalt (.panic _))
    | exact absurd rfl (he _ _ _ _)
    | exact absurd rfl he'
theorem n_value' {s : Sem Value} (h : Sound P (fun _ => True) s) : Sound P (okNext S) (do pure (.value (← s)) : Sem Next) := sound_bind h fun v => n_pure (x := Next.value v) trivial
theorem n_skip {s : Sem Unit} (h : T P s) : Sound P (okNext S) (do s; pure .skip : Sem Next) := sound_tame (tame_bind (M := okNext S) s (fun v => Sem.pure Next.skip) h fun _ _ => (show okNext S Next.skip from trivial))
theorem op_sound (hS : Bodies P S) (ρ : Operand → Value) (hρ : ∀ f, ρ (.func f) = .func (.func f) #[] #[]) (o : Oper) (h : opOk P S o = true) : Sound P (okNext S) (execOp ρ o) := by
  obtain ⟨dst, op, type, pos, after, guard⟩ := o
  unfold opOk at h
  unfold execOp
  dsimp only at h ⊢
  cases op with
  | move x => exact n_pure (x := Next.value (ρ x)) trivial
  | assign x => exact n_pure (x := Next.value (ρ x)) trivial
  | pick c a b => exact sound_tame (tame_bind (L := fun _ => True) (M := okNext S) (asBool (ρ c)) (fun x => Sem.pure (Next.value (if x then ρ a else ρ b))) (t_asBool (ρ c)) fun a _ => (show okNext S (Next.value _) from trivial))
  | alloc e => exact n_value (t_alloc e)
  | box e x => exact n_value (t_box e _)
  | build t p => exact n_value (t_build t _)
  | buildSlice t n p => exact n_value (t_buildSlice t n _)
  | load t a => exact n_value (t_loadAt t _)
  | store t a x => exact n_skip (t_storeAt t _ _)
  | nilCheck x =>
    have hnil : Sound P (okNext S) (runtimePanic .nilDeref : Sem Next) := n_halt (dead_rpanic _ (fun _ _ _ _ => by simp) (by simp))
    dsimp only
    split
    · exact hnil
    · exact hnil
    · exact hnil
    · split
      · exact hnil
      · refine sound_bind (sound_T t_program) fun p => sound_bind (sound_T (t_nilAhead _ _ _ _)) fun r => ?_
        split
        · exact n_halt (show okHalt (.unsupported (.noEntry _)) from trivial)
        · exact n_pure trivial
      · exact n_pure trivial
    · exact n_pure trivial
  | binOp op t x y z =>
    dsimp only at h
    rw [Bool.and_eq_true] at h
    obtain ⟨h1, h2⟩ := h
    cases hu : P.underlying t with
    | none => rw [hu] at h1; cases h1
    | some d =>
      rw [hu] at h1
      exact n_value (t_seq (t_eqGuard hu h1 _ _ _ _ _) (t_binOp hu h1 h2 _ _ _))
  | unOp op t x => exact n_value (t_unary op _)
  | convert src dst x =>
    dsimp only at h
    cases hs : P.underlying src with
    | none => rw [hs] at h; cases h
    | some ds =>
      cases hd : P.underlying dst with
      | none => rw [hs, hd] at h; simp at h
      | some dd =>
        rw [hs, hd] at h
        cases ds <;> cases dd <;> first
          | exact n_value (t_convert hs hd _)
          | (simp only at h
             split at h
             · rename_i he; exact n_value (t_convertBS hs hd he _)
             · exact Bool.noConfusion h)
          | exact Bool.noConfusion h
  | makeFunc f a b => exact n_value (s := Sem.pure _) trivial
  | makeSlice t l c => exact n_value (t_makeSlice t _ _)
  | slice t x lo hi mx => exact n_value (t_sliceAt t _ _ _ _)
  | fieldAddr s x f => exact n_value (t_fieldAt s _ f)
  | field s x f => exact n_value (t_field s _ f)
  | indexAddr t x i => exact n_value (t_indexAt t _ _)
  | index t x i => exact n_value (t_index t _ _)
  | extract t i => exact n_value (t_extract _ i)
  | makeChan t n => exact n_value (t_makeChan t _)
  | makeMap t r => exact n_value (t_makeMap t _)
  | lookup t x i ok =>
    obtain ⟨key, elem, d, h1, h2, h3, h4⟩ := mapOk_iff h
    exact n_value (t_lookup h1 h2 h3 h4 _ _ _)
  | insert t m k x =>
    obtain ⟨key, elem, d, h1, h2, h3, h4⟩ := mapOk_iff h
    exact sound_bind (sound_mapUpdate h1 h2 h3 h4 _ _ _) fun _ => n_pure (x := Next.skip) trivial
  | mapUpdate t m k x =>
    obtain ⟨key, elem, d, h1, h2, h3, h4⟩ := mapOk_iff h
    exact sound_bind (sound_mapUpdate h1 h2 h3 h4 _ _ _) fun _ => n_pure (x := Next.skip) trivial
  | call c =>
    obtain ⟨callee, args, at_⟩ := c
    cases callee with
    | builtin b =>
      have h : builtinOk P at_ b = true := h
      show Sound P (okNext S) (builtin b at_ type _ (args.map ρ))
      unfold builtin
      cases b <;> first
        | exact Bool.noConfusion h
        | exact n_value (t_append _ _ _)
        | exact n_value (t_max _ _ _)
        | exact n_value (t_min _ _ _)
        | (unfold builtinOk at h
           cases ht : at_[0]? with
           | none => rw [ht] at h; cases h
           | some t =>
             cases hu : P.underlying t with
             | none => simp [ht, hu] at h
             | some d =>
               simp only [ht, hu, Option.bind_some] at h
               first
                 | exact n_value (t_len ht hu h _ _)
                 | exact n_value (t_cap ht hu h _ _)
                 | (cases d <;> first | exact n_value' (sound_clear ht hu _ _) | exact Bool.noConfusion h))
    | value f =>
      cases f with
      | func f =>
        have hf : f ∈ S := by simpa using h
        obtain ⟨fn, c, h1, h2, h3⟩ := hS f hf
        dsimp only
        have e : (resolve ρ ⟨.value (.func f), args, at_⟩ type >>= fun d => invoke d.target d.args) = callFunc f (args.map ρ ++ #[]) := by
          show (Deferred.ofValue (ρ (.func f)) (args.map ρ) >>= fun d => invoke d.target d.args) = _
          rw [hρ]
          simp [Deferred.ofValue, invoke]
        rw [e]
        refine sound_tame ?_
        unfold callFunc
        show Sem.tame P (okNext S) (match P.funcs[f]? with
          | none => stuck "call: no such function"
          | some fn => _ : Sem Next)
        rw [h1]
        show Sem.tame P (okNext S) (if (fn.name == "runtime.NumGoroutine") = true then _ else _ : Sem Next)
        rw [h3, h2]
        exact hf
      | _ => cases h
    | invoke a b => cases h
  | _ => cases h
end
end Go.Proofs.Ythmgpkcijolljaa
