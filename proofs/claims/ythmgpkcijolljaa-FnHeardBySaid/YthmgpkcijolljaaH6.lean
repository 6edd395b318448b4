/-
  What is asked of goroutines that talk over channels of their own and join by a sync.WaitGroup.
-/
import Derived.Test.YthmgpkcijolljaaH3
import Derived.Test.YthmgpkcijolljaaH4
import Derived.Conc.CrowdComm
import Derived.Conc.JoinTrace
namespace Go.Proofs.Ythmgpkcijolljaa
open Go.Conc
open Go.ConcN (upd upd_same upd_ne)
open Go.ConcR (KK WgAt stA smA rd wr mk DC0)
set_option linter.unusedSimpArgs false
set_option linter.unusedVariables false
/-- What goroutine 0 and the workers hold in common: block H, where each worker lays something down in a cell of its own; the cell where each looks. -/
structure Pl where
 H : Nat
 e : TypeId
 cs : Array Value
 lk : Addr
 hv : Value
structure BsP extends Bs where
 X : Pl
instance : CoeFun BsP (fun _ => Nat → Prop) := ⟨fun B => B.hid⟩
/-- What lies in worker k's cell. -/
def pcell (X : Pl) (w : World) (k : Nat) : Value := (w.cell? ⟨X.H, k + 1, none⟩).getD undef
/-- The common block, of which the first j workers may have filled their cells. -/
def PayBlk (X : Pl) (j : Nat) (w : World) : Prop := ∃ cs' : Array Value, w.heap[X.H]? = some (.cells cs' X.e (0, 0)) ∧ cs'.size = X.cs.size ∧ ∀ i : Nat, (i = 0 ∨ j < i) → cs'[i]? = X.cs[i]?
/-- What a worker does on its channel; it looks; it lays down. -/
inductive Say where
 | send (x : Value) | close | recv (x : Value) | eof | look | put
/-- The other side's deed. -/
def Say.mate : Say → Say
 | .send x => .recv x
 | .close => .eof
 | .recv x => .send x
 | .eof => .eof
 | .look => .eof
 | .put => .eof
def Say.case (c : Nat) (z : Value) : Say → CommCase
 | .send x => scase c x z
 | _ => rcase c z
def Say.val (z : Value) : Say → Value
 | .recv x => x
 | .eof => z
 | _ => undef
def Say.ok : Say → Bool
 | .recv _ => true
 | _ => false
def Say.talks : Say → Prop
 | .close | .look | .put => False
 | _ => True
/-- Goroutine 0 has a part in it. -/
def Say.mine : Say → Prop
 | .send _ | .close | .recv _ => True
 | _ => False
def Say.quiet : Say → Prop
 | .look | .put => True
 | _ => False
theorem Say.quiet.noTalk {x : Say} (h : x.quiet) : ¬ x.talks ∧ ¬ x.mine ∧ x ≠ .close ∧ x ≠ .eof := by
 cases x <;> first | exact h.elim | exact ⟨id, id, by simp, by simp⟩
/-- Quiet lines come behind the end of the channel alone, and nothing else does. -/
def Formed (l : List Say) : Prop := ∃ a b : List Say, l = a ++ b ∧ (∀ x ∈ a, ¬ x.quiet ∧ x ≠ .eof) ∧ (b = [] ∨ ∃ tl, b = .eof :: tl ∧ ∀ x ∈ tl, x.quiet)
theorem Formed.tail {x : Say} {l : List Say} (h : Formed (x :: l)) (hx : x ≠ .eof) : Formed l := by
 obtain ⟨a, b, e, ha, hb⟩ := h
 cases a with
 | nil =>
  rcases hb with rfl | ⟨tl, rfl, _⟩
  ·cases e
  ·exact absurd (List.cons.inj e).1 hx
 | cons y a => exact ⟨a, b, (List.cons.inj e).2, fun z hz => ha z (List.mem_cons_of_mem _ hz), hb⟩
theorem Formed.head {x : Say} {l : List Say} (h : Formed (x :: l)) : ¬ x.quiet := fun hq => by
 obtain ⟨a, b, e, ha, hb⟩ := h
 cases a with
 | nil =>
  rcases hb with rfl | ⟨tl, rfl, _⟩
  ·cases e
  ·rw [(List.cons.inj e).1] at hq; exact hq
 | cons y a => exact (ha y (List.mem_cons_self ..)).1 ((List.cons.inj e).1 ▸ hq)
theorem Formed.eof {l : List Say} (h : Formed (.eof :: l)) : ∀ x ∈ l, x.quiet := by
 obtain ⟨a, b, e, ha, hb⟩ := h
 cases a with
 | nil =>
  rcases hb with rfl | ⟨tl, rfl, ht⟩
  ·cases e
  ·rw [(List.cons.inj e).2]; exact ht
 | cons y a => exact absurd (List.cons.inj e).1.symm (ha y (List.mem_cons_self ..)).2
theorem Formed.mk_ {a tl : List Say} (ha : ∀ x ∈ a, ¬ x.quiet ∧ x ≠ .eof) (ht : ∀ x ∈ tl, x.quiet) : Formed (a ++ .eof :: tl) := ⟨a, _, rfl, ha, .inr ⟨tl, rfl, ht⟩⟩
theorem drop_said {tl l : List Say} {m : Nat} {x : Say} (ht : ∀ x ∈ tl, x.quiet) (h : x :: l = (Say.eof :: tl).drop m) : x = .eof ∨ x.quiet := by
 have : x ∈ Say.eof :: tl := List.drop_subset m _ (by rw [← h]; exact List.mem_cons_self ..)
 rcases List.mem_cons.1 this with h1 | h1
 ·exact .inl h1
 ·exact .inr (ht x h1)
/-- g stands at a communication of one case; let try again it stands there still. -/
structure Comm (P : Program) (main : Bool) (g g₂ : Goroutine) (cs : Array CommCase) (sh : CommShape) : Prop where
 run : g.status = .running
 run₂ : g₂.status = .running
 step : ∀ w, stepG P main g w = .comm g₂ cs true sh w #[]
 step₂ : ∀ w, stepG P main g₂ w = .comm g₂ cs true sh w #[]
def after (P : Program) (g₂ : Goroutine) (s : Say) (c : Nat) (z : Value) (sh : CommShape) : Goroutine := g₂.finishComm P #[s.case c z] sh 0 (s.val z) s.ok
def shutOn (w : World) (c : Nat) (s r : Nat) (tm : Bool) : World := w.setChan c 0 #[] true s r tm
/-- What a close lists. -/
def shutEv (c : Nat) : Array Event := #[⟨.obj c, false, true⟩, ⟨.obj c, true, true⟩]
/-- It closes the channel. -/
def Closes (P : Program) (main : Bool) (c : Nat) (g g' : Goroutine) : Prop :=
 g.status = .running ∧ g'.status = .running ∧ mayWake P g = true ∧ ∀ w s r tm, w.heap[c]? = some (.chan 0 #[] false s r tm) → stepG P main g w = .go g' (shutOn w c s r tm) (shutEv c)
/-- It looks at the common cell. -/
def Looks (P : Program) (main : Bool) (a : Addr) (x : Value) (g g' : Goroutine) : Prop :=
 g.status = .running ∧ g'.status = .running ∧ ∀ w, w.cell? a = some x → stepG P main g w = .go g' w #[⟨.cell a, false, false⟩]
/-- It lays x down in its cell. -/
def Puts (P : Program) (main : Bool) (a : Addr) (x : Value) (g g' : Goroutine) : Prop :=
 g.status = .running ∧ g'.status = .running ∧ ∀ w, w.cell? a ≠ none → w.frozen? a = false → stepG P main g w = .go g' (w.setCell a x) #[⟨.cell a, true, false⟩]
/-- A worker's cell, the common cell and what lies there; what it leaves behind, by what it has laid down. -/
structure Ax where
 pa : Addr
 lk : Addr
 hv : Value
 D : Value → World → Prop
section
variable (P : Program) (ty : TypeId) (Wg : Nat) (st : Bool)
/-- A worker's lines, on channel c; then its word to the group. 'st': it allots nothing. -/
def AtSay (ax : Ax) (c : Nat) : (World → Prop) → List Say → Goroutine → World → Prop
 | Dn, [], g, v => Dn v ∧ WG P ty Wg false (DRel P ty Wg) g
 | Dn, .close :: l, g, v => l = [] ∧ ∃ g', Closes P false c g g' ∧ Th P false true st (fun _ => True) (AtSay ax c Dn l) g' v
 | Dn, .look :: l, g, v => ∃ g', Looks P false ax.lk ax.hv g g' ∧ Th P false true st (fun _ => True) (AtSay ax c Dn l) g' v
 | _, .put :: l, g, v => ∃ g' y, Puts P false ax.pa y g g' ∧ Th P false true st (fun _ => True) (AtSay ax c (ax.D y) l) g' v
 | Dn, s :: l, g, v => True ∧ ∃ g₂ z sh, Comm P false g g₂ #[s.case c z] sh ∧ Th P false true st (fun _ => True) (AtSay ax c Dn l) (after P g₂ s c z sh) v
/-- What goroutine 0 has in view: the workers (number k is goroutine J + k), their channels, what they have yet to do, which channels it has closed itself, what they leave behind; the Adds that no go statement has met. -/
structure View where
 J : Nat
 j : Nat
 c : Nat → Nat
 σ : Nat → List Say
 shut : Nat → Bool
 dn : Nat → Value → World → Prop
 owed : Nat
/-- What is in view behind a word exchanged. -/
def View.past (γ : View) : Say → Nat → List Say → View
 | .close, _, _ => γ
 | _, k, l => { γ with σ := upd γ.σ k l }
def axOf (X : Pl) (γ : View) (k : Nat) : Ax := ⟨⟨X.H, k + 1, none⟩, X.lk, X.hv, γ.dn k⟩
variable (Base : BsP) (Post : Value → World → Prop)
/-- The two seen worlds of a go statement. -/
structure Split (v v0 vc : World) : Prop where
 veil0 : Veil P v0 v
 veilc : Veil P vc v
 s0 : v0.heap.size = v.heap.size
 sc : vc.heap.size = v.heap.size
 w0 : ∀ l, l.isMemory = true → Wr v0 l → ¬ Rd vc l
 wc : ∀ l, l.isMemory = true → Wr vc l → ¬ Rd v0 l
/-- It is certain to come to its end without another word of goroutine 0's. -/
def Settled (γ : View) (k : Nat) : Prop := γ.σ k = [.close] ∨ ((∃ tl, γ.σ k = .eof :: tl) ∧ γ.shut k = true)
/-- Behind the join. -/
def Joined (γ : View) (v : World) (g : Goroutine) : Prop :=
 ∀ w, Veil P v w → PayBlk Base.X γ.j w → (∀ k, k < γ.j → ∃ vk, Veil P vk w ∧ γ.dn k (pcell Base.X w k) vk) →
  ∃ vf, Veil P vf w ∧ vf.heap.size = w.heap.size ∧ (∀ b, Base b → b < w.heap.size → vf.heap[b]? = some hid) ∧ vf.heap[Wg]? = some hid ∧ (∀ b, Base.shut b → Shut vf b) ∧ Wins P Post g vf
def MStop (Next : View → Goroutine → World → Prop) (γ : View) (g : Goroutine) (v : World) : Prop :=
 (∃ k s l z sh g₂, k < γ.j ∧ γ.σ k = s :: l ∧ s.mine ∧ Comm P true g g₂ #[s.mate.case (γ.c k) z] sh ∧
  Next (γ.past s k l) (after P g₂ s.mate (γ.c k) z sh) v) ∨
 (∃ k g' tl, k < γ.j ∧ γ.σ k = .eof :: tl ∧ γ.shut k = false ∧ Closes P true (γ.c k) g g' ∧ Next { γ with shut := upd γ.shut k true } g' v) ∨
 (γ.owed = 0 ∧ γ.j + 2 < 2147483647 ∧ WG P ty Wg true (ADis P ty Wg (fun g' => g'.status = .running ∧ Next { γ with owed := 1 } g' v)) g) ∨
 (γ.owed = 1 ∧ ∃ g' child v0 vc c tm says dn, g.status = .running ∧ g'.status = .running ∧ child.status = .running ∧ (∀ w, stepG P true g w = .spawn g' child w #[]) ∧ Split P v v0 vc ∧
  v.heap[c]? = some (.chan 0 #[] false 0 0 tm) ∧ v0.heap[c]? = some hid ∧ vc.heap[c]? = some hid ∧ c ≠ Wg ∧ (says ≠ [] ∧ Formed says ∧ γ.j + 1 < Base.X.cs.size) ∧ Th P false true st (fun _ => True) (AtSay P ty Wg st ⟨⟨Base.X.H, γ.j + 1, none⟩, Base.X.lk, Base.X.hv, dn⟩ c (dn ((Base.X.cs[γ.j + 1]?).getD undef)) says) child vc ∧
  (∀ y v t d, dn y (v.re t d) → dn y v) ∧ (∀ y v n, Flat P v → dn y v → dn y (v.upto n)) ∧
  Next { γ with j := γ.j + 1, c := upd γ.c γ.j c, σ := upd γ.σ γ.j says, shut := upd γ.shut γ.j false, dn := upd γ.dn γ.j dn, owed := 0 } g' v0) ∨
 (γ.owed = 0 ∧ (∀ k, k < γ.j → Settled γ k) ∧ ∃ Anch : Goroutine → Prop, WG P ty Wg true (PDis P ty Wg Anch) g ∧
  ∀ g, Anch g → WG P ty Wg true (PLoad P ty Wg (fun g' => g'.status = .running ∧ Joined P Wg Base Post γ v g') Anch) g)
/-- Goroutine 0's way, of at most n events. -/
def MNext : Nat → View → Goroutine → World → Prop
 | 0, _, _, _ => False
 | n + 1, γ, g, v => Th P true (!st) false (fun _ => True) (MStop P ty Wg st Base Post (MNext n) γ) g v
end
section
variable {P : Program} {ty : TypeId} {Wg : Nat} {st : Bool} {Base : BsP} {Post : Value → World → Prop}
theorem say_ok {ax : Ax} {c : Nat} (k1 : ∀ y v t d, ax.D y (v.re t d) → ax.D y v) (k2 : ∀ y v n, Flat P v → ax.D y v → ax.D y (v.upto n)) : ∀ l {Dn : World → Prop}, (∀ v t d, Dn (v.re t d) → Dn v) → (∀ v n, Flat P v → Dn v → Dn (v.upto n)) → SOk P true (AtSay P ty Wg st ax c Dn l)
 | [], Dn, h1, h2 => ⟨fun g v t d h => ⟨h1 v t d h.1, h.2⟩, fun _ g v n hF h => ⟨h2 v n hF h.1, h.2⟩⟩
 | .close :: l, Dn, h1, h2 => by
  have ih := say_ok k1 k2 (c := c) l h1 h2
  exact ⟨fun g v t d ⟨e, g', a, b⟩ => ⟨e, g', a, b.re ih⟩, fun hg g v n hF ⟨e, g', a, r, b⟩ => ⟨e, g', a, r, b.more ih hg hF⟩⟩
 | .look :: l, Dn, h1, h2 => by
  have ih := say_ok k1 k2 (c := c) l h1 h2
  exact ⟨fun g v t d ⟨g', a, b⟩ => ⟨g', a, b.re ih⟩, fun hg g v n hF ⟨g', a, r, b⟩ => ⟨g', a, r, b.more ih hg hF⟩⟩
 | .put :: l, Dn, h1, h2 => by
  have ih := fun y => say_ok k1 k2 (c := c) l (k1 y) (k2 y)
  exact ⟨fun g v t d ⟨g', y, a, b⟩ => ⟨g', y, a, b.re (ih y)⟩, fun hg g v n hF ⟨g', y, a, r, b⟩ => ⟨g', y, a, r, b.more (ih y) hg hF⟩⟩
 | .send x :: l, Dn, h1, h2 => by
  have ih := say_ok k1 k2 (c := c) l h1 h2
  exact ⟨fun g v t d ⟨e, g₂, z, sh, a, b⟩ => ⟨e, g₂, z, sh, a, b.re ih⟩, fun hg g v n hF ⟨e, g₂, z, sh, a, r, b⟩ => ⟨e, g₂, z, sh, a, r, b.more ih hg hF⟩⟩
 | .recv x :: l, Dn, h1, h2 => by
  have ih := say_ok k1 k2 (c := c) l h1 h2
  exact ⟨fun g v t d ⟨e, g₂, z, sh, a, b⟩ => ⟨e, g₂, z, sh, a, b.re ih⟩, fun hg g v n hF ⟨e, g₂, z, sh, a, r, b⟩ => ⟨e, g₂, z, sh, a, r, b.more ih hg hF⟩⟩
 | .eof :: l, Dn, h1, h2 => by
  have ih := say_ok k1 k2 (c := c) l h1 h2
  exact ⟨fun g v t d ⟨e, g₂, z, sh, a, b⟩ => ⟨e, g₂, z, sh, a, b.re ih⟩, fun hg g v n hF ⟨e, g₂, z, sh, a, r, b⟩ => ⟨e, g₂, z, sh, a, r, b.more ih hg hF⟩⟩
theorem AtSay.talk {ax : Ax} {c : Nat} {Dn : World → Prop} {s : Say} {l : List Say} {g : Goroutine} {v : World} (h : AtSay P ty Wg st ax c Dn (s :: l) g v) (hs : s.talks) :
  True ∧ ∃ g₂ z sh, Comm P false g g₂ #[s.case c z] sh ∧ Th P false true st (fun _ => True) (AtSay P ty Wg st ax c Dn l) (after P g₂ s c z sh) v := by
 cases s <;> first | exact h | exact hs.elim
theorem Split.re {v v0 vc : World} {t : Nat → Question → Nat} {d : Nat} (h : Split P (v.re t d) v0 vc) : Split P v v0 vc := ⟨⟨h.veil0.size, h.veil0.blk, h.veil0.flat⟩, ⟨h.veilc.size, h.veilc.blk, h.veilc.flat⟩, h.s0, h.sc, h.w0, h.wc⟩
theorem upto_rd {v : World} {n : Nat} {l : Loc} : Rd (v.upto n) l ↔ Rd v l := by
 have key : ∀ (b : Nat) (o : Obj), (v.upto n).heap[b]? = some o → o ≠ hid → v.heap[b]? = some o := by
  intro b o e hn
  by_cases hb : b < v.heap.size
  ·rw [upto_get hb] at e; exact e
  ·have hb2 : b < n := by
    have := (Array.getElem?_eq_some_iff.1 e).1
    rw [upto_size] at this
    omega
   rw [upto_new (by omega) hb2] at e
   exact absurd (Option.some.inj e).symm hn
 cases l with
 | cell a =>
  refine ⟨fun h => ?_, fun h => ?_⟩
  ·obtain ⟨c, e, f, h1, h2, h3⟩ := rd_cell_size.1 h
   exact rd_cell_size.2 ⟨c, e, f, key _ _ h1 (by simp [hid]), h2, h3⟩
  ·obtain ⟨c, e, f, h1, h2, h3⟩ := rd_cell_size.1 h
   exact rd_cell_size.2 ⟨c, e, f, by rw [upto_get (Array.getElem?_eq_some_iff.1 h1).1]; exact h1, h2, h3⟩
 | obj r =>
  refine ⟨fun ⟨o, h1, h2⟩ => ⟨o, key _ _ h1 (by rintro rfl; exact h2), h2⟩, fun ⟨o, h1, h2⟩ => ⟨o, by rw [upto_get (Array.getElem?_eq_some_iff.1 h1).1]; exact h1, h2⟩⟩
 | output => exact Iff.rfl
 | goroutines => exact Iff.rfl
 | mark m => exact Iff.rfl
theorem upto_wr {v : World} {n : Nat} {l : Loc} : Wr (v.upto n) l ↔ Wr v l := by
 cases l with
 | cell a =>
  have fr : v.cell? a ≠ none → (v.upto n).frozen? a = v.frozen? a := by
   intro h
   obtain ⟨c, e, f, h1, h2, h3⟩ := rd_cell_size.1 h
   have h4 : (v.upto n).heap[a.block]? = some (.cells c e f) := by rw [upto_get (Array.getElem?_eq_some_iff.1 h1).1]; exact h1
   simp [World.frozen?, h1, h4]
  refine ⟨fun h => ?_, fun h => ?_⟩
  ·have h1 := (upto_rd (l := .cell a)).1 h.1
   exact ⟨h1, by rw [← fr h1]; exact h.2⟩
  ·exact ⟨(upto_rd (l := .cell a)).2 h.1, by rw [fr h.1]; exact h.2⟩
 | obj r => exact upto_rd (l := .obj r)
 | output => exact Iff.rfl
 | goroutines => exact Iff.rfl
 | mark m => exact Iff.rfl
theorem Veil.upto_both {v w : World} (h : Veil P v w) (hs : v.heap.size = w.heap.size) (n : Nat) : Veil P (v.upto n) (w.upto n) := by
 refine ⟨by rw [upto_size, upto_size, hs]; exact Nat.le_refl _, fun b o e => ?_, h.flat.upto n⟩
 by_cases hb : b < v.heap.size
 ·rw [upto_get hb] at e
  obtain ⟨o', h1, h2⟩ := h.blk b o e
  exact ⟨o', by rw [upto_get (Array.getElem?_eq_some_iff.1 h1).1]; exact h1, h2⟩
 ·have hb2 : b < n := by
   have := (Array.getElem?_eq_some_iff.1 e).1
   rw [upto_size] at this
   omega
  rw [upto_new (by omega) hb2] at e
  obtain rfl := Option.some.inj e
  exact ⟨_, upto_new (by omega) hb2, .hid _⟩
theorem Split.upto {v v0 vc : World} (h : Split P v v0 vc) (n : Nat) : Split P (v.upto n) (v0.upto n) (vc.upto n) :=
 ⟨h.veil0.upto_both h.s0 n, h.veilc.upto_both h.sc n, by rw [upto_size, upto_size, h.s0], by rw [upto_size, upto_size, h.sc], fun l hm hw hr => h.w0 l hm (upto_wr.1 hw) (upto_rd.1 hr), fun l hm hw hr => h.wc l hm (upto_wr.1 hw) (upto_rd.1 hr)⟩
theorem WG.mono {main : Bool} {S S' : Goroutine → World → Prop} (h : ∀ g w, S g w → S' g w) {g : Goroutine} (hw : WG P ty Wg main S g) : WG P ty Wg main S' g := by
 obtain ⟨m, hm⟩ := hw
 refine ⟨m, fun w => ?_⟩
 have key : ∀ (m : Nat) (g : Goroutine) (w : World), Goes P main (fun _ w₁ => Go.ConcN.WgLive ty Wg w₁) DC0 S m g w → Goes P main (fun _ w₁ => Go.ConcN.WgLive ty Wg w₁) DC0 S' m g w := by
  intro m
  induction m with
  | zero => exact fun g w hg w₁ h₁ => h _ _ (hg w₁ h₁)
  | succ m ih =>
   intro g w hg
   rcases hg with hg | ⟨hr, hg⟩
   ·exact .inl fun w₁ h₁ => h _ _ (hg w₁ h₁)
   ·refine .inr ⟨hr, fun w₁ h₁ => ?_⟩
    have := hg w₁ h₁
    revert this
    cases stepG P main g w₁ <;> simp only [GStep.goes, imp_self]
    exact fun ⟨a, b⟩ => ⟨a, ih _ _ b⟩
 exact key m g w (hm w)
theorem AtMk.mono {main : Bool} {e : Event} {K K' : Goroutine → Prop} (h : ∀ g, K g → K' g) (g : Goroutine) (w : World) (x : AtMk P main e K g w) : AtMk P main e K' g w := let ⟨a, g', b, c⟩ := x; ⟨a, g', b, h g' c⟩
theorem ADis.mono {F F' : Goroutine → Prop} (h : ∀ g, F g → F' g) (g : Goroutine) (w : World) (x : ADis P ty Wg F g w) : ADis P ty Wg F' g w := by
 have en : ∀ g, WG P ty Wg true (AEn P ty Wg F) g → WG P ty Wg true (AEn P ty Wg F') g := fun g => WG.mono fun g w => AtMk.mono (fun g => WG.mono fun g _ => h g) g w
 refine AtMk.mono (fun g => WG.mono fun g w ⟨a, b⟩ => ⟨a, fun v hv hw => ?_⟩) g w x
 obtain ⟨g', h1, h2, h3⟩ := b v hv hw
 exact ⟨g', h1, fun e => WG.mono (fun g w => AtMk.mono en g w) (h2 e), fun e => en _ (h3 e)⟩
theorem PEn.mono {F F' : Goroutine → Prop} (h : ∀ g, F g → F' g) (g : Goroutine) : WG P ty Wg true (PEn P ty Wg F) g → WG P ty Wg true (PEn P ty Wg F') g :=
 WG.mono fun g w => AtMk.mono (fun g => WG.mono fun g w => AtMk.mono (fun g => WG.mono fun g _ => h g) g w) g w
theorem PLoad.mono {F F' A : Goroutine → Prop} (h : ∀ g, F g → F' g) (g : Goroutine) (w : World) (x : PLoad P ty Wg F A g w) : PLoad P ty Wg F' A g w := by
 refine ⟨x.1, fun v hv hw => ?_⟩
 obtain ⟨g', h1, h2, h3⟩ := x.2 v hv hw
 refine ⟨g', h1, fun e => PEn.mono h _ (h2 e), fun e => WG.mono (fun g w ⟨a, b⟩ => ⟨a, fun v hv hw => ⟨fun e => ?_, (b v hv hw).2⟩⟩) (h3 e)⟩
 obtain ⟨g'', h4, h5⟩ := (b v hv hw).1 e
 refine ⟨g'', h4, WG.mono (fun g w => AtMk.mono (fun g => WG.mono fun g w ⟨a, b, c, d⟩ => ⟨a, b, c, fun hw => ?_⟩) g w) h5⟩
 obtain ⟨g3, h6, h7⟩ := d hw
 refine ⟨g3, h6, WG.mono (fun g w ⟨a, b⟩ => ⟨a, fun hw => ?_⟩) h7⟩
 obtain ⟨g4, h8, h9⟩ := b hw
 exact ⟨g4, h8, PEn.mono h _ h9⟩
theorem mstop_ok {gr : Bool} {Next : View → Goroutine → World → Prop} (re : ∀ γ g v t d, Next γ g (v.re t d) → Next γ g v) (more : gr = true → ∀ γ g v n, Flat P v → Next γ g v → Next γ g (v.upto n)) (γ : View) : SOk P gr (MStop P ty Wg st Base Post Next γ) := by
 refine ⟨fun g v t d h => ?_, fun hg g v n hF h => ?_⟩
 ·rcases h with ⟨k, s, l, z, sh, g₂, h1, h2, h3, h4, h5⟩ | ⟨k, g', tl, h1, h2, h3, h4, h5⟩ | ⟨h1, h2, h3⟩ | ⟨h1, g', child, v0, vc, c, tm, says, dn, h2, h3, h4, h5, h6, h7, h8⟩ | ⟨h1, h2, A, h3, h4⟩
  ·exact .inl ⟨k, s, l, z, sh, g₂, h1, h2, h3, h4, re _ _ _ _ _ h5⟩
  ·exact .inr (.inl ⟨k, g', tl, h1, h2, h3, h4, re _ _ _ _ _ h5⟩)
  ·exact .inr (.inr (.inl ⟨h1, h2, WG.mono (ADis.mono fun g x => ⟨x.1, re _ _ _ _ _ x.2⟩) h3⟩))
  ·exact .inr (.inr (.inr (.inl ⟨h1, g', child, v0, vc, c, tm, says, dn, h2, h3, h4, h5, h6.re, h7, h8⟩)))
  ·refine .inr (.inr (.inr (.inr ⟨h1, h2, A, h3, fun g hg => WG.mono (PLoad.mono fun g x => ⟨x.1, fun w hV => x.2 w (hV.re t d)⟩) (h4 g hg)⟩)))
 ·rcases h with ⟨k, s, l, z, sh, g₂, h1, h2, h3, h4, h5⟩ | ⟨k, g', tl, h1, h2, h3, h4, h5⟩ | ⟨h1, h2, h3⟩ | ⟨h1, g', child, v0, vc, c, tm, says, dn, h2, h3, h4, h5, h6, h7, h8, h9, h10, h11, h12, h13, h14, h15⟩ | ⟨h1, h2, A, h3, h4⟩
  ·exact .inl ⟨k, s, l, z, sh, g₂, h1, h2, h3, h4, more hg _ _ _ _ hF h5⟩
  ·exact .inr (.inl ⟨k, g', tl, h1, h2, h3, h4, more hg _ _ _ _ hF h5⟩)
  ·exact .inr (.inr (.inl ⟨h1, h2, WG.mono (ADis.mono fun g x => ⟨x.1, more hg _ _ _ _ hF x.2⟩) h3⟩))
  ·obtain ⟨r, h12⟩ := h12
   have up : ∀ {v : World} {b : Nat} {o : Obj}, v.heap[b]? = some o → (v.upto n).heap[b]? = some o := fun e => by rw [upto_get (Array.getElem?_eq_some_iff.1 e).1]; exact e
   exact .inr (.inr (.inr (.inl ⟨h1, g', child, v0.upto n, vc.upto n, c, tm, says, dn, h2, h3, h4, h5, h6.upto n, up h7, up h8, up h9, h10, h11, ⟨r, h12.more (say_ok h13 h14 says (h13 _) (h14 _)) rfl h6.veilc.flat⟩, h13, h14, more hg _ _ _ _ h6.veil0.flat h15⟩)))
  ·exact .inr (.inr (.inr (.inr ⟨h1, h2, A, h3, fun g hg => WG.mono (PLoad.mono fun g x => ⟨x.1, fun w hV => x.2 w (hV.of_upto hF)⟩) (h4 g hg)⟩)))
theorem mnext_ok : ∀ n γ, (∀ g v t d, MNext P ty Wg st Base Post n γ g (v.re t d) → MNext P ty Wg st Base Post n γ g v) ∧ (st = false → ∀ g v m, Flat P v → MNext P ty Wg st Base Post n γ g v → MNext P ty Wg st Base Post n γ g (v.upto m))
 | 0, γ => ⟨fun _ _ _ _ h => h, fun _ _ _ _ _ h => h⟩
 | n + 1, γ => by
  have ih := fun γ => mnext_ok n γ
  have hS : SOk P (!st) (MStop P ty Wg st Base Post (MNext P ty Wg st Base Post n) γ) := mstop_ok (fun γ g v t d h => (ih γ).1 g v t d h) (fun hg γ g v m hF h => (ih γ).2 (by simpa using hg) g v m hF h) γ
  exact ⟨fun g v t d h => h.re hS, fun hst g v m hF ⟨r, h⟩ => ⟨r, h.more hS (by simp [hst]) hF⟩⟩
theorem mstop_sok (n : Nat) (γ : View) : SOk P (!st) (MStop P ty Wg st Base Post (MNext P ty Wg st Base Post n) γ) :=
 mstop_ok (fun γ g v t d h => (mnext_ok n γ).1 g v t d h) (fun hg γ g v m hF h => (mnext_ok n γ).2 (by simpa using hg) g v m hF h) γ
theorem mnext_kok (n : Nat) (γ : View) : KOk P true (!st) false (fun _ => True) (MNext P ty Wg st Base Post (n + 1) γ) := th_ok (mstop_sok n γ)
end
end Go.Proofs.Ythmgpkcijolljaa
/-
  A machine of many: goroutine 0, old leavers, workers, each with its seen world: what every step keeps.
-/
namespace Go.Proofs.Ythmgpkcijolljaa
open Go.Conc
open Go.ConcN (upd upd_same upd_ne)
open Go.ConcR (KK WgAt stA smA rd wr mk DC0)
set_option linter.unusedSimpArgs false
set_option linter.unusedVariables false
/-- Who is in the play: goroutine 0, and workers J, .., J + j - 1. -/
def Act' (J j : Nat) (i : Nat) : Prop := i = 0 ∨ (J ≤ i ∧ i < J + j)
/-- Block b is the channel of a worker, and i is that one, or goroutine 0. -/
def ChOf (J j : Nat) (c : Nat → Nat) (b i : Nat) : Prop := ∃ k, k < j ∧ b = c k ∧ (i = 0 ∨ i = J + k)
/-- What is in common. -/
structure Pay (X : Pl) (Wg J j : Nat) (c : Nat → Nat) (w : World) (t : Trace) (V : Nat → World) : Prop where
 hid : ∀ i, Act' J j i → Blind (V i) X.H
 blk : PayBlk X j w
 room : j < X.cs.size
 hwg : X.H ≠ Wg
 hch : ∀ k, k < j → X.H ≠ c k
 lkv : w.cell? X.lk = some X.hv
 lkw : ∀ i, Act' J j i → ¬ Wr (V i) (.cell X.lk)
 lwg : X.lk.block ≠ Wg
 lH : X.lk.block ≠ X.H
 lch : ∀ k, k < j → X.lk.block ≠ c k
 k0 : ∀ i : Nat, (i = 0 ∨ j < i) → Perm t 0 (.cell ⟨X.H, i, none⟩)
 kk : ∀ k, k < j → Perm t (J + k) (.cell ⟨X.H, k + 1, none⟩)
 l0 : Go.ConcN.PermW t 0 (.cell X.lk)
 lk : ∀ k, k < j → Go.ConcN.PermW t (J + k) (.cell X.lk)
theorem PayBlk.lt {X : Pl} {j : Nat} {w : World} (h : PayBlk X j w) : X.H < w.heap.size := by
 obtain ⟨_, h1, _⟩ := h
 exact (Array.getElem?_eq_some_iff.1 h1).1
theorem PayBlk.of_get {X : Pl} {j : Nat} {w w' : World} (h : PayBlk X j w) (e : w'.heap[X.H]? = w.heap[X.H]?) : PayBlk X j w' := by
 obtain ⟨cs', h1, h2⟩ := h
 exact ⟨cs', e.trans h1, h2⟩
theorem cell_lt {w : World} {a : Addr} {x : Value} (h : w.cell? a = some x) : a.block < w.heap.size := by
 obtain ⟨c, e, f, h1, _⟩ := cell?_some h
 exact (Array.getElem?_eq_some_iff.1 h1).1
theorem cell_blk {w w' : World} {a : Addr} (h : w'.heap[a.block]? = w.heap[a.block]?) : w'.cell? a = w.cell? a := by
 unfold World.cell?
 rw [h]
theorem pcell_blk {X : Pl} {w w' : World} (h : w'.heap[X.H]? = w.heap[X.H]?) (k : Nat) : pcell X w' k = pcell X w k := by
 unfold pcell
 rw [cell_blk (a := ⟨X.H, k + 1, none⟩) h]
section
variable {X : Pl} {Wg J j : Nat} {c : Nat → Nat} {w w' : World} {t u : Trace} {V : Nat → World}
theorem Pay.lne (h : Pay X Wg J j c w t V) : X.lk.block < w.heap.size := cell_lt h.lkv
/-- What is known of it, where it stands untouched. -/
theorem Pay.app (h : Pay X Wg J j c w t V) (h1 : ∀ op ∈ u, ∀ b, op.act.touch? = some b → ∀ i, b.loc ≠ .cell ⟨X.H, i, none⟩) (h2 : ∀ op ∈ u, ∀ b, op.act.touch? = some b → b.write = true → b.loc ≠ .cell X.lk) (hH : w'.heap[X.H]? = w.heap[X.H]?) (hl : w'.cell? X.lk = w.cell? X.lk) :
  Pay X Wg J j c w' (t ++ u) V :=
 ⟨h.hid, h.blk.of_get hH, h.room, h.hwg, h.hch, hl.trans h.lkv, h.lkw, h.lwg, h.lH, h.lch,
  fun i hi => (h.k0 i hi).app fun op hop b hb hbl => absurd hbl (h1 op hop b hb i),
  fun k hk => (h.kk k hk).app fun op hop b hb hbl => absurd hbl (h1 op hop b hb _),
  h.l0.app fun op hop b hb hbl hw => absurd hbl (h2 op hop b hb hw),
  fun k hk => (h.lk k hk).app fun op hop b hb hbl hw => absurd hbl (h2 op hop b hb hw)⟩
theorem Pay.see (h : Pay X Wg J j c w t V) {i : Nat} {v' : World} (h1 : Blind v' X.H) (h2 : ¬ Wr v' (.cell X.lk)) : Pay X Wg J j c w t (upd V i v') :=
 ⟨fun k hk => by
  by_cases e : k = i
  ·subst e; rw [upd_same]; exact h1
  ·rw [upd_ne _ _ e]; exact h.hid k hk, h.blk, h.room, h.hwg, h.hch, h.lkv, fun k hk => by
  by_cases e : k = i
  ·subst e; rw [upd_same]; exact h2
  ·rw [upd_ne _ _ e]; exact h.lkw k hk, h.lwg, h.lH, h.lch, h.k0, h.kk, h.l0, h.lk⟩
/-- .. where a goroutine takes a step. -/
theorem Pay.step (h : Pay X Wg J j c w t V) {i : Nat} {v' : World} (hu : OkU (ChOf J j c) Wg v' i u) (h1 : Blind v' X.H) (h2 : ¬ Wr v' (.cell X.lk)) (hH : w'.heap[X.H]? = w.heap[X.H]?) (hl : w'.cell? X.lk = w.cell? X.lk) :
  Pay X Wg J j c w' (t ++ u) (upd V i v') := by
 refine (h.app (fun op hop b hb i' hbl => ?_) (fun op hop b hb hw hbl => ?_) hH hl).see h1 h2
 ·have hm : b.loc.isMemory = true := by rw [hbl]; rfl
  rcases (hu op hop).2 b hb hm with ⟨hR, _⟩ | ⟨hof, _⟩ | ⟨c', _, hbc⟩
  ·exact h1.rd (l := b.loc) ⟨hm, by rw [hbl]; rfl⟩ hR
  ·have := hof.2
   rw [hbl] at this
   exact h.hwg this
  ·rw [hbc] at hbl; cases hbl
 ·have hm : b.loc.isMemory = true := by rw [hbl]; rfl
  rcases (hu op hop).2 b hb hm with ⟨_, hW⟩ | ⟨hof, _⟩ | ⟨c', _, hbc⟩
  ·have := hW hw
   rw [hbl] at this
   exact h2 this
  ·have := hof.2
   rw [hbl] at this
   exact h.lwg this
  ·rw [hbc] at hbl; cases hbl
end
structure Cr (P : Program) (Wg : Nat) (st : Bool) (Base : BsP) (Shun : Loc → Prop) (p J j : Nat) (c : Nat → Nat) (rel : Nat → Prop) (gs : Array Goroutine) (w : World) (t : Trace) (q : Nat → Nat) (V : Nat → World) : Prop where
 size : gs.size = J + j
 old : ∀ i g, 0 < i → i < J → gs[i]? = some g → QuitsD P (q i) (Deaf t i) g
 above : ∀ i, gs.size ≤ i → Deaf t i = 0
 veil : ∀ i, Act' J j i → Veil P (V i) w
 same : st = true → w.heap.size = (V 0).heap.size
 apt : ∀ i, Act' J j i → Apt (Act' J j) V Wg i (V i)
 hidw : ∀ i, Act' J j i → Blind (V i) Wg
 hidc : ∀ k, k < j → c k < w.heap.size ∧ ∀ i, Act' J j i → Blind (V i) (c k)
 tr : Tr t (Act' J j) V Wg (ChOf J j c)
 hd : Hd t Shun (stA Wg) Wg w.heap.size p J rel
 gsop : ∀ n op, p ≤ n → t[n]? = some op → op.g < gs.size
 base : ∀ l, Shun l → l.isMemory = true → Base l.blockOf ∧ l.blockOf < w.heap.size
 wlow : Wg < w.heap.size
 ok : Base.ok w
 hb : ∀ i, Act' J j i → ∀ b, Base.shut b → Shut (V i) b
 bsn : ∀ b, Base.shut b → b ≠ Wg ∧ ∀ k, k < j → b ≠ c k
 bsh : ∀ b, Base.shut b → b ≠ Base.X.H
 pay : Pay Base.X Wg J j c w t V
section
variable {P : Program} {Wg : Nat} {st : Bool} {Base : BsP} {Shun : Loc → Prop} {p J j : Nat} {c : Nat → Nat} {rel : Nat → Prop} {gs : Array Goroutine} {w w' : World} {t : Trace} {q : Nat → Nat} {V : Nat → World}
theorem Cr.gJ (h : Cr P Wg st Base Shun p J j c rel gs w t q V) : 0 < J := h.hd.jpos
theorem Cr.stir (h : Cr P Wg st Base Shun p J j c rel gs w t q V) (d : Nat) : Cr P Wg st Base Shun p J j c rel gs (w.at d) t q V :=
 ⟨h.size, h.old, h.above, fun i hi => (h.veil i hi).atW d, h.same, h.apt, h.hidw, h.hidc, h.tr, h.hd, h.gsop, h.base, h.wlow, h.ok, h.hb, h.bsn, h.bsh, ⟨h.pay.hid, h.pay.blk, h.pay.room, h.pay.hwg, h.pay.hch, h.pay.lkv, h.pay.lkw, h.pay.lwg, h.pay.lH, h.pay.lch, h.pay.k0, h.pay.kk, h.pay.l0, h.pay.lk⟩⟩
theorem gsop_app {t u : Trace} {p n0 : Nat} (h : ∀ n op, p ≤ n → t[n]? = some op → op.g < n0) (hu : ∀ op ∈ u, op.g < n0) : ∀ n op, p ≤ n → (t ++ u)[n]? = some op → op.g < n0 := by
 intro n op hn ho
 rcases getElem?_append_cases ho with ⟨_, h1⟩ | ⟨_, h1⟩
 ·exact h n op hn h1
 ·exact hu op h1
theorem ofEvents_g {g : Nat} {fn : FuncId} {pos : String} {es : Array Event} : ∀ op ∈ MemOp.ofEvents g fn pos es, op.g = g := fun op hop => by obtain ⟨e, _, rfl⟩ := Go.Conc.mem_ofEvents hop; rfl
/-- ████ AN OWN STEP of goroutine i, in the play: it sees v' behind it. ████ -/
theorem Cr.own (h : Cr P Wg st Base Shun p J j c rel gs w t q V) {i : Nat} (hi : Act' J j i) {g g' : Goroutine} (hg : gs[i]? = some g) {es : Array Event} {v' : World} {fn : FuncId} {pos : String} {rel' : Nat → Prop}
  (hv : Veil P v' w') (hoth : ∀ k, Act' J j k → k ≠ i → Veil P (V k) w') (hgrow : w.heap.size ≤ w'.heap.size) (hs : st = true → w'.heap.size = (if i = 0 then v' else V 0).heap.size)
  (hok : Base.ok w') (hbv : ∀ b, Base.shut b → Shut v' b) (hw : Blind v' Wg) (hc : ∀ k, k < j → Blind v' (c k)) (hA : Apt (Act' J j) V Wg i v')
  (hbX : Blind v' Base.X.H) (hwX : ¬ Wr v' (.cell Base.X.lk)) (hHX : w'.heap[Base.X.H]? = w.heap[Base.X.H]?) (hlX : w'.cell? Base.X.lk = w.cell? Base.X.lk)
  (hgr : Grow t (V i) v') (hu : OkU (ChOf J j c) Wg v' i (MemOp.ofEvents i fn pos es))
  (hd : Hd (t ++ MemOp.ofEvents i fn pos es) Shun (stA Wg) Wg w'.heap.size p J rel') :
  Cr P Wg st Base Shun p J j c rel' ((gs.map (woken P g g' w')).setIfInBounds i g') w' (t ++ MemOp.ofEvents i fn pos es) q (upd V i v') := by
 have hlt : i < gs.size := (Array.getElem?_eq_some_iff.1 hg).1
 have hJ := h.gJ
 have hother : ∀ k, k ≠ i → Deaf (t ++ MemOp.ofEvents i fn pos es) k = Deaf t k := fun k hk => Deaf_other t (fun e => hk e.symm) _ ofEvents_g
 refine ⟨by simp [h.size], fun k x hk0 hkJ hx => ?_, fun k hk => ?_, fun k hk => ?_, fun hst => ?_, fun k hk => ?_, fun k hk => ?_, fun k hk => ⟨Nat.lt_of_lt_of_le (h.hidc k hk).1 hgrow, fun m hm => ?_⟩, ?_, hd, ?_, fun l hs hm => ⟨(h.base l hs hm).1, Nat.lt_of_lt_of_le (h.base l hs hm).2 hgrow⟩, Nat.lt_of_lt_of_le h.wlow hgrow, hok, fun k hk b hb => ?_, h.bsn, h.bsh, h.pay.step hu hbX hwX hHX hlX⟩
 ·have hne : i ≠ k := by
   rcases hi with rfl | ⟨h1, _⟩ <;> omega
  rw [Array.getElem?_setIfInBounds_ne hne, Array.getElem?_map] at hx
  obtain ⟨y, hy, rfl⟩ := Option.map_eq_some_iff.1 hx
  have hq := h.old k y hk0 hkJ hy
  rw [woken_quitsD hq, hother k (fun e => hne e.symm)]
  exact hq
 ·have hk' : gs.size ≤ k := by simpa using hk
  rw [hother k (by omega)]
  exact h.above k hk'
 ·by_cases hki : k = i
  ·subst hki; rw [upd_same]; exact hv
  ·rw [upd_ne _ _ hki]; exact hoth k hk hki
 ·have := hs hst
  by_cases hi0 : i = 0
  ·subst hi0; rw [upd_same]; simpa using this
  ·rw [upd_ne _ _ (fun e => hi0 e.symm)]; simpa [hi0] using this
 ·by_cases hki : k = i
  ·subst hki
   rw [upd_same]
   exact ⟨fun m hm hne l hl hW => by rw [upd_ne _ _ hne]; exact hA.wr m hm hne l hl hW, fun m hm hne l hl hR => by rw [upd_ne _ _ hne]; exact hA.rd m hm hne l hl hR, hA.wg⟩
  ·rw [upd_ne _ _ hki]
   refine ⟨fun m hm hne l hl hW => ?_, fun m hm hne l hl hR => ?_, (h.apt k hk).wg⟩
   ·by_cases hmi : m = i
    ·subst hmi; rw [upd_same]; exact fun hR => hA.rd k hk hki l hl hR hW
    ·rw [upd_ne _ _ hmi]; exact (h.apt k hk).wr m hm hne l hl hW
   ·by_cases hmi : m = i
    ·subst hmi; rw [upd_same]; exact fun hW => hA.wr k hk hki l hl hW hR
    ·rw [upd_ne _ _ hmi]; exact (h.apt k hk).rd m hm hne l hl hR
 ·by_cases hki : k = i
  ·subst hki; rw [upd_same]; exact hw
  ·rw [upd_ne _ _ hki]; exact h.hidw k hk
 ·by_cases hmi : m = i
  ·subst hmi; rw [upd_same]; exact hc k hk
  ·rw [upd_ne _ _ hmi]; exact (h.hidc k hk).2 m hm
 ·exact h.tr.step hi hu hgr hA (fun k hk l hl => (h.apt k hk).wg l hl) (fun b k ⟨m, hm, e, _⟩ => by subst e; exact ⟨fun n hn => ((h.hidc m hm).2 n hn).rd ⟨rfl, rfl⟩, (hc m hm).rd ⟨rfl, rfl⟩⟩)
 ·refine gsop_app (fun n op hn ho => by simpa using h.gsop n op hn ho) fun op hop => ?_
  rw [ofEvents_g op hop]
  simpa using hlt
 ·by_cases hki : k = i
  ·subst hki; rw [upd_same]; exact hbv b hb
  ·rw [upd_ne _ _ hki]; exact h.hb k hk b hb
theorem low_touch {x : MemAct} {b : Touch} {B : Nat} (h : x.low B) (hx : x.touch? = some b) (hm : b.loc.isMemory = true) : b.loc.blockOf < B := by
 cases x with
 | access e =>
  simp only [MemAct.touch?, Option.some.injEq] at hx
  subst hx
  obtain ⟨loc, b1, b2⟩ := e
  cases loc with
  | cell a => exact h
  | obj r => exact h
  | output => cases hm
  | goroutines => cases hm
  | mark m => cases hm
 | mark m =>
  cases m with
  | read a => simp only [MemAct.touch?, Option.some.injEq] at hx; subst hx; exact h
  | write a => simp only [MemAct.touch?, Option.some.injEq] at hx; subst hx; exact h
  | _ => cases hx
 | _ => cases hx
theorem Cr.fresh (h : Cr P Wg st Base Shun p J j c rel gs w t q V) {l : Loc} (hl : w.heap.size ≤ l.blockOf) (hm : l.isMemory = true) : Fresh t l := by
 intro n a ha e
 obtain ⟨op, ho, hx⟩ := touch_of ha
 subst e
 exact absurd (low_touch (h.hd.low op (Array.mem_of_getElem? ho)) hx hm) (Nat.not_lt.2 hl)
/-- .. a step in its seen world. -/
theorem Cr.walk (h : Cr P Wg st Base Shun p J j c rel gs w t q V) {i : Nat} (hi : Act' J j i) {g g' : Goroutine} (hg : gs[i]? = some g) {es : Array Event} {v' : World} {fn : FuncId} {pos : String}
  (hf : Fol P (((V i).upto w.heap.size).re w.tape w.drawn) w v' w') (he : ∀ e ∈ es, EvOk v' e) (hs : st = true → i ≠ 0 → w'.heap.size = w.heap.size) (hc : ∀ k, k < j → c k ≠ Wg) (hrel : J ≤ i → ¬ rel i) :
  Cr P Wg st Base Shun p J j c rel ((gs.map (woken P g g' w')).setIfInBounds i g') w' (t ++ MemOp.ofEvents i fn pos es) q (upd V i v') := by
 have hVi := h.veil i hi
 have hup : ((V i).upto w.heap.size).heap.size = w.heap.size := by rw [upto_size]; have := hVi.size; omega
 have hgrow : w.heap.size ≤ w'.heap.size := by
  have h1 := hf.grow
  have h2 := hf.size
  have h3 : (((V i).upto w.heap.size).re w.tape w.drawn).heap.size = w.heap.size := hup
  omega
 have keep : ∀ b : Nat, b < w.heap.size → Blind (V i) b → Blind v' b := by
  intro b hb e o ho
  have e2 : (((V i).upto w.heap.size).re w.tape w.drawn).heap[b]? = some hid := e.hidUp hb
  rw [(hf.shut b (.inl e2)).1, e2] at ho
  exact (Option.some.inj ho).symm
 have hidB : ∀ b, Base.shut b → Shut (((V i).upto w.heap.size).re w.tape w.drawn) b := fun b hb => by
  have h1 := h.hb i hi b hb
  refine h1.of_get ?_
  show ((V i).upto w.heap.size).heap[b]? = _
  rw [upto_get h1.lt]
 have hrd : ∀ l, l.isMemory = true → Rd v' l → l.blockOf < w.heap.size → Rd (V i) l := fun l _ hr hb => upto_rd.1 ((hf.rd l (show l.blockOf < ((V i).upto w.heap.size).heap.size by rw [hup]; exact hb)).1 hr)
 have hwr : ∀ l, l.isMemory = true → Wr v' l → l.blockOf < w.heap.size → Wr (V i) l := fun l _ hr hb => upto_wr.1 ((hf.wr l (show l.blockOf < ((V i).upto w.heap.size).heap.size by rw [hup]; exact hb)).1 hr)
 have low : ∀ k, Act' J j k → ∀ l, Rd (V k) l → l.blockOf < w.heap.size := fun k hk l hr => Nat.lt_of_lt_of_le (rd_lt hr) (h.veil k hk).size
 have hWl : ∀ l, OfB Wg l → ¬ Rd v' l := fun l hl => (keep Wg h.wlow (h.hidw i hi)).rd hl
 have hA : Apt (Act' J j) V Wg i v' := by
  refine ⟨fun k hk hne l hm hW hR => ?_, fun k hk hne l hm hR hW => ?_, hWl⟩
  ·exact (h.apt i hi).wr k hk hne l hm (hwr l hm hW (low k hk l hR)) hR
  ·exact (h.apt i hi).rd k hk hne l hm (hrd l hm hR (low k hk l (wr_rd hW))) hW
 refine h.own hi hg hf.veil (fun k hk hne => hVi.beside (h.veil k hk) (fun l hm hW hR => (h.apt i hi).wr k hk hne l hm hW hR) rfl hf) hgrow (fun hst => ?_) ⟨hf.os.trans h.ok.1, hf.output.trans h.ok.2.1, fun b hb => ?_⟩ (fun b hb => ?_) (keep Wg h.wlow (h.hidw i hi)) (fun k hk => keep _ (h.hidc k hk).1 ((h.hidc k hk).2 i hi)) hA (keep _ h.pay.blk.lt (h.pay.hid i hi)) (fun hW => h.pay.lkw i hi (hwr _ rfl hW h.pay.lne)) (hf.shut _ (.inl (show (((V i).upto w.heap.size).re w.tape w.drawn).heap[Base.X.H]? = some hid from (h.pay.hid i hi).hidUp h.pay.blk.lt))).2 (hf.keep _ (by show _ < ((V i).upto w.heap.size).heap.size; rw [hup]; exact h.pay.lne) (fun hW => h.pay.lkw i hi (upto_wr.1 hW)))
  ⟨fun l hm hW => ?_, fun l hm hR => ?_⟩ ?_ ?_
 ·by_cases hi0 : i = 0
  ·rw [if_pos hi0]; exact hf.size
  ·rw [if_neg hi0, hs hst hi0]; exact h.same hst
 ·exact (hf.shut b (hidB b hb)).2.trans (h.ok.2.2 b hb)
 ·exact hf.shut_of (hidB b hb)
 ·by_cases hb : l.blockOf < w.heap.size
  ·exact .inl (hwr l hm hW hb)
  ·exact .inr (h.fresh (by omega) hm)
 ·by_cases hb : l.blockOf < w.heap.size
  ·exact .inl (hrd l hm hR hb)
  ·exact .inr (h.fresh (by omega) hm)
 ·intro op hop
  obtain ⟨e, hee, rfl⟩ := Go.Conc.mem_ofEvents hop
  refine ⟨rfl, fun b hb hm => .inl ?_⟩
  obtain ⟨_, _, h3, h4⟩ := evOk_touch (he e hee) hb
  exact ⟨h3, h4⟩
 ·refine h.hd.app hgrow ?_ (fun op hop => ?_) (fun op hop => ?_)
  ·rcases hi with rfl | ⟨h1, h2⟩
   ·exact .inl ofEvents_g
   ·exact .inr (.inr (.inl ⟨i, h1, hrel h1, ofEvents_g⟩))
  ·obtain ⟨e, hee, rfl⟩ := Go.Conc.mem_ofEvents hop
   intro hx
   have h1 := evOk_mark (he e hee)
   obtain ⟨loc, b1, b2⟩ := e
   cases loc with
   | mark m =>
    have h2 := he _ hee
    have h3 : m = .noRoom := h2
    subst h3
    cases b1 <;> cases b2 <;> cases hx
   | _ => cases b1 <;> cases b2 <;> cases hx
  ·obtain ⟨e, hee, rfl⟩ := Go.Conc.mem_ofEvents hop
   have := evOk_low (he e hee)
   rw [hf.size]
   exact this
end
end Go.Proofs.Ythmgpkcijolljaa
/-
  A machine of many: steps in the library, words exchanged, leavers, go statements.
-/
namespace Go.Proofs.Ythmgpkcijolljaa
open Go.Conc
open Go.ConcN (upd upd_same upd_ne)
open Go.ConcR (KK WgAt stA smA rd wr mk DC0)
set_option linter.unusedSimpArgs false
set_option linter.unusedVariables false
section
variable {P : Program} {Wg : Nat} {st : Bool} {Base : BsP} {Shun : Loc → Prop} {p J j : Nat} {c : Nat → Nat} {rel : Nat → Prop} {gs gs' : Array Goroutine} {w w' : World} {t : Trace} {q : Nat → Nat} {V : Nat → World}
theorem upd_self (V : Nat → World) (i : Nat) : upd V i (V i) = V := by
 funext k
 by_cases h : k = i
 ·subst h; exact upd_same _ _ _
 ·exact upd_ne _ _ h
/-- The goroutines' own records. -/
theorem Cr.swap (h : Cr P Wg st Base Shun p J j c rel gs w t q V) (hs : gs'.size = gs.size) (ho : ∀ i g, 0 < i → i < J → gs'[i]? = some g → gs[i]? = some g) : Cr P Wg st Base Shun p J j c rel gs' w t q V :=
 ⟨by rw [hs]; exact h.size, fun i g h0 hJ hg => h.old i g h0 hJ (ho i g h0 hJ hg), fun i hi => h.above i (by rw [← hs]; exact hi), h.veil, h.same, h.apt, h.hidw, h.hidc, h.tr, h.hd, fun n op hn hop => by rw [hs]; exact h.gsop n op hn hop, h.base, h.wlow, h.ok, h.hb, h.bsn, h.bsh, h.pay⟩
theorem Cr.set (h : Cr P Wg st Base Shun p J j c rel gs w t q V) {i : Nat} (hi : Act' J j i) (x : Goroutine) : Cr P Wg st Base Shun p J j c rel (gs.setIfInBounds i x) w t q V :=
 h.swap (by simp) fun k g h0 hJ hg => by
  have hne : i ≠ k := by rcases hi with rfl | ⟨h1, _⟩ <;> omega
  rwa [Array.getElem?_setIfInBounds_ne hne] at hg
/-- Goroutine i, in the play, turns block b, that is hidden to all; its entries touch the group's cells alone, as they may. -/
theorem Cr.turnc (h : Cr P Wg st Base Shun p J j c rel gs w t q V) {i : Nat} (hi : Act' J j i) {g g' : Goroutine} (hg : gs[i]? = some g) {es : Array Event} {fn : FuncId} {pos : String} {rel' : Nat → Prop} {b : Nat}
  (hb : ∀ k, Act' J j k → Blind (V k) b) (hsz : w'.heap.size = w.heap.size) (ho : ∀ b', b' ≠ b → w'.heap[b']? = w.heap[b']?)
  (hu : ∀ e ∈ es, ∀ x, (MemAct.ofEvent e).touch? = some x → x.loc.isMemory = true → (OfB Wg x.loc ∧ (x.kind = .atomic ∨ (x.kind = .said ∧ i = 0))) ∨ ∃ b, ChOf J j c b i ∧ x = ⟨.obj b, false, .atomic⟩)
  (hd : Hd (t ++ MemOp.ofEvents i fn pos es) Shun (stA Wg) Wg w'.heap.size p J rel') (hbn : ∀ x, Base.shut x → x ≠ b) (hbX : b ≠ Base.X.H ∧ b ≠ Base.X.lk.block) (hos : w'.os = w.os ∧ w'.output = w.output := by exact ⟨rfl, rfl⟩) :
  Cr P Wg st Base Shun p J j c rel' ((gs.map (woken P g g' w')).setIfInBounds i g') w' (t ++ MemOp.ofEvents i fn pos es) q V := by
 have hv : ∀ k, Act' J j k → Veil P (V k) w' := fun k hk => (h.veil k hk).turn (hb k hk) (by omega) fun b' hb' _ => ho b' hb'
 have := h.own (w' := w') (rel' := rel') hi hg (g' := g') (es := es) (v' := V i) (fn := fn) (pos := pos) (hv i hi) (fun k hk _ => hv k hk) (by omega) (fun hst => by
   have := h.same hst
   by_cases hi0 : i = 0
   ·subst hi0; simpa [hsz] using this
   ·simpa [hi0, hsz] using this) ⟨hos.1.trans h.ok.1, hos.2.trans h.ok.2.1, fun x hx => (ho x (hbn x hx)).trans (h.ok.2.2 x hx)⟩ (fun x hx => h.hb i hi x hx) (h.hidw i hi) (fun k hk => (h.hidc k hk).2 i hi) (h.apt i hi) (h.pay.hid i hi) (h.pay.lkw i hi) (ho _ (fun e => hbX.1 e.symm)) (cell_blk (ho _ (fun e => hbX.2 e.symm))) (Grow.refl _ _) (by
   intro op hop
   obtain ⟨e, hee, rfl⟩ := Go.Conc.mem_ofEvents hop
   exact ⟨rfl, fun x hx hm => .inr (hu e hee x hx hm)⟩) hd
 rwa [upd_self] at this
theorem Cr.turn (h : Cr P Wg st Base Shun p J j c rel gs w t q V) {i : Nat} (hi : Act' J j i) {g g' : Goroutine} (hg : gs[i]? = some g) {es : Array Event} {fn : FuncId} {pos : String} {rel' : Nat → Prop} {b : Nat}
  (hb : ∀ k, Act' J j k → Blind (V k) b) (hsz : w'.heap.size = w.heap.size) (ho : ∀ b', b' ≠ b → w'.heap[b']? = w.heap[b']?)
  (hu : ∀ e ∈ es, ∀ x, (MemAct.ofEvent e).touch? = some x → x.loc.isMemory = true → OfB Wg x.loc ∧ (x.kind = .atomic ∨ (x.kind = .said ∧ i = 0)))
  (hd : Hd (t ++ MemOp.ofEvents i fn pos es) Shun (stA Wg) Wg w'.heap.size p J rel') (hbn : ∀ x, Base.shut x → x ≠ b) (hbX : b ≠ Base.X.H ∧ b ≠ Base.X.lk.block) (hos : w'.os = w.os ∧ w'.output = w.output := by exact ⟨rfl, rfl⟩) :
  Cr P Wg st Base Shun p J j c rel' ((gs.map (woken P g g' w')).setIfInBounds i g') w' (t ++ MemOp.ofEvents i fn pos es) q V :=
 h.turnc hi hg hb hsz ho (fun e he x hx hm => .inl (hu e he x hx hm)) hd hbn hbX hos
/-- .. and lists nothing. -/
theorem Cr.idle (h : Cr P Wg st Base Shun p J j c rel gs w t q V) {i : Nat} (hi : Act' J j i) {g g' : Goroutine} (hg : gs[i]? = some g) {fn : FuncId} {pos : String} :
  Cr P Wg st Base Shun p J j c rel ((gs.map (woken P g g' w)).setIfInBounds i g') w (t ++ MemOp.ofEvents i fn pos #[]) q V := by
 have e : t ++ MemOp.ofEvents i fn pos #[] = t := by simp [MemOp.ofEvents]
 refine h.turn hi hg (b := Wg) (fun k hk => h.hidw k hk) rfl (fun _ _ => rfl) (fun e he => by simp at he) ?_ (fun x hx => (h.bsn x hx).1) ⟨fun e => h.pay.hwg e.symm, fun e => h.pay.lwg e.symm⟩
 rw [e]; exact h.hd
/-- Operations that touch nothing, of those in the play, while a block that is hidden to all turns. -/
theorem Cr.words (h : Cr P Wg st Base Shun p J j c rel gs w t q V) {u : Trace} {b : Nat} (hb : ∀ k, Act' J j k → Blind (V k) b) (hsz : w'.heap.size = w.heap.size) (ho : ∀ b', b' ≠ b → w'.heap[b']? = w.heap[b']?)
  (hn : ∀ op ∈ u, op.act.touch? = none) (hg : ∀ op ∈ u, op.g < gs.size) (hdf : ∀ op ∈ u, ∀ m, op.act ≠ .mark m) (hl : ∀ op ∈ u, op.act.low w.heap.size) (hbn : ∀ x, Base.shut x → x ≠ b) (hbX : b ≠ Base.X.H ∧ b ≠ Base.X.lk.block) (hos : w'.os = w.os ∧ w'.output = w.output := by exact ⟨rfl, rfl⟩) :
  Cr P Wg st Base Shun p J j c rel gs w' (t ++ u) q V := by
 have hD : ∀ i, Deaf (t ++ u) i = Deaf t i := fun i => Go.ConcN.Deaf_still t i u fun op hop => ⟨hdf op hop _, hdf op hop _⟩
 refine ⟨h.size, fun i g h0 hJ hg => by rw [hD]; exact h.old i g h0 hJ hg, fun i hi => by rw [hD]; exact h.above i hi, fun k hk => (h.veil k hk).turn (hb k hk) (by omega) fun b' hb' _ => ho b' hb', fun hst => by rw [hsz]; exact h.same hst,
  h.apt, h.hidw, fun k hk => ⟨by rw [hsz]; exact (h.hidc k hk).1, (h.hidc k hk).2⟩, ?_, ?_, gsop_app h.gsop hg, by rw [hsz]; exact h.base, by rw [hsz]; exact h.wlow, ⟨hos.1.trans h.ok.1, hos.2.trans h.ok.2.1, fun x hx => (ho x (hbn x hx)).trans (h.ok.2.2 x hx)⟩, h.hb, h.bsn, h.bsh, h.pay.app (fun op hop b hb => by rw [hn op hop] at hb; cases hb) (fun op hop b hb => by rw [hn op hop] at hb; cases hb) (ho _ (fun e => hbX.1 e.symm)) (cell_blk (ho _ (fun e => hbX.2 e.symm)))⟩
 ·have := h.tr.quiet u.toList (fun op hop => hn op (by simpa using hop))
  simpa using this
 ·rw [hsz]
  exact h.hd.app (Nat.le_refl _) (.inr (.inl hn)) (fun op hop => hdf op hop _) hl
/-- An old leaver slips. -/
theorem Cr.slip (h : Cr P Wg st Base Shun p J j c rel gs w t q V) {i : Nat} (h0 : 0 < i) (hJ : i < J) {g g' : Goroutine} (hg : gs[i]? = some g) {es : Array Event} {fn : FuncId} {pos : String} {n : Nat}
  (hm : ∀ e ∈ es, e.mute = true) (hq : QuitsD P n (deafBehind (Deaf t i) es) g') :
  Cr P Wg st Base Shun p J j c rel ((gs.map (woken P g g' w)).setIfInBounds i g') w (t ++ MemOp.ofEvents i fn pos es) (upd q i n) V := by
 have hlt : i < gs.size := (Array.getElem?_eq_some_iff.1 hg).1
 have hother : ∀ k, k ≠ i → Deaf (t ++ MemOp.ofEvents i fn pos es) k = Deaf t k := fun k hk => Deaf_other t (fun e => hk e.symm) _ ofEvents_g
 have hnt : ∀ op ∈ MemOp.ofEvents i fn pos es, op.act.touch? = none := fun op hop => by obtain ⟨e, he, rfl⟩ := Go.Conc.mem_ofEvents hop; exact touch_mute (hm e he)
 refine ⟨by simp [h.size], fun k x hk0 hkJ hx => ?_, fun k hk => ?_, h.veil, h.same, h.apt, h.hidw, h.hidc, h.tr.mute ofEvents_g hnt, ?_, ?_, h.base, h.wlow, h.ok, h.hb, h.bsn, h.bsh, h.pay.app (fun op hop b hb => by rw [hnt op hop] at hb; cases hb) (fun op hop b hb => by rw [hnt op hop] at hb; cases hb) rfl rfl⟩
 ·by_cases hki : i = k
  ·subst hki
   rw [Array.getElem?_setIfInBounds_self_of_lt (by simpa using hlt)] at hx
   obtain rfl := Option.some.inj hx
   rw [upd_same, Deaf_own]; exact hq
  ·rw [Array.getElem?_setIfInBounds_ne hki, Array.getElem?_map] at hx
   obtain ⟨y, hy, rfl⟩ := Option.map_eq_some_iff.1 hx
   have hq' := h.old k y hk0 hkJ hy
   rw [woken_quitsD hq', hother k (fun e => hki e.symm), upd_ne q n (fun e => hki e.symm)]
   exact hq'
 ·have hk' : gs.size ≤ k := by simpa using hk
  rw [hother k (by omega)]; exact h.above k hk'
 ·refine h.hd.app (Nat.le_refl _) (.inr (.inl hnt)) (fun op hop => ?_) (fun op hop => ?_)
  ·obtain ⟨e, he, rfl⟩ := Go.Conc.mem_ofEvents hop
   intro hx
   have := hm e he
   obtain ⟨loc, b1, b2⟩ := e
   cases loc with
   | mark m => cases m <;> cases b1 <;> cases b2 <;> first | (cases hx; done) | (simp [Event.mute] at this; done) | (cases hx; simp [Event.mute] at this)
   | _ => cases b1 <;> cases b2 <;> cases hx
  ·obtain ⟨e, he, rfl⟩ := Go.Conc.mem_ofEvents hop; exact low_mute (hm e he) _
 ·refine gsop_app (fun n op hn ho => by simpa using h.gsop n op hn ho) fun op hop => ?_
  rw [ofEvents_g op hop]
  simpa using hlt
/-- A go STATEMENT of goroutine 0's. -/
theorem Cr.fork (h : Cr P Wg st Base Shun p J j c rel gs w t q V) {g' child : Goroutine} {v0 vc : World} (hS : Split P (V 0) v0 vc) {cc : Nat} {tm : Bool} (hcc : (V 0).heap[cc]? = some (.chan 0 #[] false 0 0 tm))
  (h0c : v0.heap[cc]? = some hid) (hcc' : vc.heap[cc]? = some hid) (d0 : Deaf t 0 = 0) {x y : MemOp} (hx : x.g = 0 ∧ x.act = .go gs.size) (hy : y.g = gs.size ∧ y.act = .start) (hroom : j + 1 < Base.X.cs.size) :
  Cr P Wg st Base Shun p J (j + 1) (upd c j cc) rel ((gs.setIfInBounds 0 g').push child) w (t ++ #[x, y]) q (upd (upd V 0 v0) (J + j) vc) := by
 have hJ := h.gJ
 have hsz := h.size
 have act0 : Act' J j 0 := .inl rfl
 have hnt : ∀ op ∈ #[x, y], op.act.touch? = none ∧ (∀ m, op.act ≠ .mark m) ∧ op.act.low w.heap.size := by
  intro op hop
  simp only [List.mem_toArray, List.mem_cons, List.not_mem_nil, or_false] at hop
  rcases hop with rfl | rfl
  ·rw [hx.2]; exact ⟨rfl, by simp, trivial⟩
  ·rw [hy.2]; exact ⟨rfl, by simp, trivial⟩
 have hD : ∀ i, Deaf (t ++ #[x, y]) i = Deaf t i := fun i => Go.ConcN.Deaf_still t i _ fun op hop => ⟨(hnt op hop).2.1 _, (hnt op hop).2.1 _⟩
 have actS : ∀ {i}, Act' J (j + 1) i → i ≠ J + j → Act' J j i := by
  intro i hi hne
  rcases hi with rfl | ⟨h1, h2⟩
  ·exact .inl rfl
  ·exact .inr ⟨h1, by omega⟩
 have hV0 := h.veil 0 act0
 have V'0 : upd (upd V 0 v0) (J + j) vc 0 = v0 := by rw [upd_ne _ _ (by omega), upd_same]
 have V'n : upd (upd V 0 v0) (J + j) vc (J + j) = vc := upd_same _ _ _
 have V'k : ∀ i, i ≠ 0 → i ≠ J + j → upd (upd V 0 v0) (J + j) vc i = V i := fun i h1 h2 => by rw [upd_ne _ _ h2, upd_ne _ _ h1]
 -- what holds of each
 have each : ∀ (Q : Nat → World → Prop), Q 0 v0 → Q (J + j) vc → (∀ i, i ≠ 0 → Act' J j i → Q i (V i)) → ∀ i, Act' J (j + 1) i → Q i (upd (upd V 0 v0) (J + j) vc i) := by
  intro Q q0 qn qk i hi
  by_cases h1 : i = J + j
  ·rw [h1, V'n]; exact qn
  ·by_cases h2 : i = 0
   ·rw [h2, V'0]; exact q0
   ·rw [V'k i h2 h1]; exact qk i h2 (actS hi h1)
 have bl : ∀ b, Blind (V 0) b → Blind v0 b ∧ Blind vc b := fun b hb => ⟨hb.less hS.veil0, hb.less hS.veilc⟩
 have ccl : cc < w.heap.size := Nat.lt_of_lt_of_le (Array.getElem?_eq_some_iff.1 hcc).1 hV0.size
 refine ⟨by simp [hsz]; omega, fun i g h1 h2 hg => ?_, fun i hi => by rw [hD]; exact h.above i (by simp at hi; omega), each (fun _ v => Veil P v w) (hS.veil0.trans hV0) (hS.veilc.trans hV0) fun i _ hi => h.veil i hi, fun hst => by rw [V'0, hS.s0]; exact h.same hst, ?_,
  each (fun _ v => Blind v Wg) (bl _ (h.hidw 0 act0)).1 (bl _ (h.hidw 0 act0)).2 fun i _ hi => h.hidw i hi, fun k hk => ?_, ?_, ?_, ?_, h.base, h.wlow, h.ok, fun i hi b hb => ?_, fun b hb => ⟨(h.bsn b hb).1, fun k hk => ?_⟩, h.bsh, ?_⟩
 ·rw [hD]
  refine h.old i g h1 h2 ?_
  have e : ((gs.setIfInBounds 0 g').push child)[i]? = gs[i]? := by
   rw [Array.getElem?_push, if_neg (by simp; omega), Array.getElem?_setIfInBounds_ne (by omega)]
  rw [← e]; exact hg
 ·-- side by side
  have pair : ∀ i k, Act' J (j + 1) i → Act' J (j + 1) k → k ≠ i → ∀ l, l.isMemory = true → Wr (upd (upd V 0 v0) (J + j) vc i) l → ¬ Rd (upd (upd V 0 v0) (J + j) vc k) l := by
   intro i k hi hk hne l hm
   by_cases hin : i = J + j
   ·rw [hin, V'n]
    intro hW
    by_cases hk0 : k = 0
    ·rw [hk0, V'0]; exact hS.wc l hm hW
    ·rw [V'k k hk0 (by omega)]
     exact (h.apt 0 act0).wr k (actS hk (by omega)) hk0 l hm (hS.veilc.wr hW)
   ·by_cases hi0 : i = 0
    ·rw [hi0, V'0]
     intro hW
     by_cases hkn : k = J + j
     ·rw [hkn, V'n]; exact hS.w0 l hm hW
     ·rw [V'k k (by omega) hkn]
      exact (h.apt 0 act0).wr k (actS hk hkn) (by omega) l hm (hS.veil0.wr hW)
    ·rw [V'k i hi0 hin]
     intro hW
     have h1 : ¬ Rd (V 0) l := (h.apt i (actS hi hin)).wr 0 act0 (fun e => hi0 e.symm) l hm hW
     by_cases hkn : k = J + j
     ·rw [hkn, V'n]; exact fun hR => h1 (hS.veilc.rd hR)
     ·by_cases hk0 : k = 0
      ·rw [hk0, V'0]; exact fun hR => h1 (hS.veil0.rd hR)
      ·rw [V'k k hk0 hkn]; exact (h.apt i (actS hi hin)).wr k (actS hk hkn) hne l hm hW
  intro i hi
  refine ⟨fun k hk hne l hm hW => pair i k hi hk hne l hm hW, fun k hk hne l hm hR hW => pair k i hk hi (fun e => hne e.symm) l hm hW hR, fun l hl => ?_⟩
  exact each (fun _ v => Blind v Wg) (bl _ (h.hidw 0 act0)).1 (bl _ (h.hidw 0 act0)).2 (fun i _ hi => h.hidw i hi) i hi |>.rd hl
 ·by_cases hkj : k = j
  ·subst hkj
   rw [upd_same]
   refine ⟨ccl, each (fun _ v => Blind v cc) (.of_hid h0c) (.of_hid hcc') fun i h0 hi o ho => ?_⟩
   obtain ⟨o', h1, h2⟩ := (h.veil i hi).blk _ _ ho
   obtain ⟨o'', h3, h4⟩ := hV0.blk _ _ hcc
   rw [h1] at h3
   obtain rfl := Option.some.inj h3
   cases h4
   cases h2 with
   | hid => rfl
   | chan => exact absurd (show Rd (V i) (.obj cc) from ⟨_, ho, trivial⟩) ((h.apt 0 act0).wr i hi h0 (.obj cc) rfl ⟨_, hcc, trivial⟩)
  ·rw [upd_ne _ _ hkj]
   have := h.hidc k (by omega)
   exact ⟨this.1, each (fun _ v => Blind v (c k)) (bl _ (this.2 0 act0)).1 (bl _ (this.2 0 act0)).2 fun i _ hi => this.2 i hi⟩
 ·have := h.tr.fork act0 (k := gs.size) hx hy d0 (h.above _ (Nat.le_refl _)) (v0 := v0) (vc := vc) (fun l _ hW => hS.veil0.wr hW) (fun l _ hR => hS.veil0.rd hR) (fun l _ hW => hS.veilc.wr hW) (fun l _ hR => hS.veilc.rd hR) (by omega) (cc := cc) ⟨_, hcc, trivial⟩
  rw [hsz] at this
  have ea : (fun i => Act' J j i ∨ i = J + j) = Act' J (j + 1) := by
   funext i
   apply propext
   constructor
   ·rintro (h1 | h1)
    ·rcases h1 with h1 | h1
     ·exact .inl h1
     ·exact .inr ⟨h1.1, by omega⟩
    ·exact .inr ⟨by omega, by omega⟩
   ·intro h1
    by_cases h2 : i = J + j
    ·exact .inr h2
    ·exact .inl (actS h1 h2)
  have ec : (fun b i => ChOf J j c b i ∨ (b = cc ∧ (i = 0 ∨ i = J + j))) = ChOf J (j + 1) (upd c j cc) := by
   funext b i
   apply propext
   constructor
   ·rintro (⟨k, h1, h2, h3⟩ | ⟨h1, h2⟩)
    ·exact ⟨k, by omega, by rw [upd_ne _ _ (by omega)]; exact h2, h3⟩
    ·exact ⟨j, by omega, by rw [upd_same]; exact h1, h2⟩
   ·rintro ⟨k, h1, h2, h3⟩
    by_cases hkj : k = j
    ·subst hkj; rw [upd_same] at h2; exact .inr ⟨h2, h3⟩
    ·rw [upd_ne _ _ hkj] at h2; exact .inl ⟨k, by omega, h2, h3⟩
  rw [ea, ec] at this
  exact this
 ·exact h.hd.app (Nat.le_refl _) (.inr (.inl fun op hop => (hnt op hop).1)) (fun op hop => (hnt op hop).2.1 _) fun op hop => (hnt op hop).2.2
 ·refine gsop_app (fun n op hn ho => by have := h.gsop n op hn ho; simp; omega) fun op hop => ?_
  simp only [List.mem_toArray, List.mem_cons, List.not_mem_nil, or_false] at hop
  rcases hop with rfl | rfl
  ·rw [hx.1]; simp
  ·rw [hy.1]; simp
 ·have h1 := h.hb 0 act0 b hb
  exact each (fun _ v => Shut v b) (h1.less hS.veil0 (by rw [hS.s0]; exact h1.lt)) (h1.less hS.veilc (by rw [hS.sc]; exact h1.lt)) (fun i _ hi => h.hb i hi b hb) i hi
 ·by_cases hkj : k = j
  ·subst hkj
   rw [upd_same]
   rintro rfl
   rcases h.hb 0 act0 _ hb with h1 | ⟨_, _, _, h1, _⟩
   ·rw [hcc] at h1; cases h1
   ·rw [hcc] at h1; cases h1
  ·rw [upd_ne _ _ hkj]; exact (h.bsn b hb).2 k (by omega)
 ·have hp := h.pay
  have touch : ∀ op ∈ #[x, y], ∀ b, op.act.touch? = some b → False := fun op hop b hb => by rw [(hnt op hop).1] at hb; cases hb
  have ap := hp.app (u := #[x, y]) (w' := w) (fun op hop b hb => (touch op hop b hb).elim) (fun op hop b hb => (touch op hop b hb).elim) rfl rfl
  have kn : ∀ {n : Nat}, Knows t 0 n → Knows (t ++ #[x, y]) (J + j) n := fun hk => by
   have := Go.ConcN.fork_knows (k := gs.size) hx hy d0 (h.above _ (Nat.le_refl _)) hk
   rwa [hsz] at this
  have oldT : ∀ {n : Nat} {a : Touch}, touchAt (t ++ #[x, y]) n = some a → touchAt t n = some a := fun {n a} ha => by
   rcases touch_app ha with h1 | ⟨op, hop, _, hxx⟩
   ·exact h1
   ·exact (touch op hop _ hxx).elim
  obtain ⟨cs', hb1, hb2, hb3⟩ := hp.blk
  obtain ⟨o', hcw, hcq⟩ := hV0.blk _ _ hcc
  have hchan : w.heap[cc]? = some (.chan 0 #[] false 0 0 tm) := by
   cases hcq; exact hcw
  have hHc : Base.X.H ≠ cc := fun e => by rw [e, hchan] at hb1; cases hb1
  have hlc : Base.X.lk.block ≠ cc := fun e => by
   obtain ⟨q1, q2, q3, q4, _⟩ := cell?_some hp.lkv
   rw [e, hchan] at q4; cases q4
  refine ⟨each (fun _ v => Blind v Base.X.H) (bl _ (hp.hid 0 act0)).1 (bl _ (hp.hid 0 act0)).2 (fun i _ hi => hp.hid i hi), ⟨cs', hb1, hb2, fun i hi => hb3 i (by omega)⟩, hroom, hp.hwg, fun k hk => ?_, hp.lkv,
   each (fun _ v => ¬ Wr v (.cell Base.X.lk)) (fun hW => hp.lkw 0 act0 (hS.veil0.wr hW)) (fun hW => hp.lkw 0 act0 (hS.veilc.wr hW)) (fun i _ hi => hp.lkw i hi), hp.lwg, hp.lH, fun k hk => ?_, fun i hi => ap.k0 i (by omega), fun k hk => ?_, ap.l0, fun k hk => ?_⟩
  ·by_cases e : k = j
   ·subst e; rw [upd_same]; exact hHc
   ·rw [upd_ne _ _ e]; exact hp.hch k (by omega)
  ·by_cases e : k = j
   ·subst e; rw [upd_same]; exact hlc
   ·rw [upd_ne _ _ e]; exact hp.lch k (by omega)
  ·by_cases e : k = j
   ·subst e
    exact fun n a ha hl => kn (hp.k0 (k + 1) (by omega) n a (oldT ha) hl)
   ·exact ap.kk k (by omega)
  ·by_cases e : k = j
   ·subst e
    exact fun n a ha hl hw => kn (hp.l0 n a (oldT ha) hl hw)
   ·exact ap.lk k (by omega)
end
end Go.Proofs.Ythmgpkcijolljaa
/-
  A machine of many: the library's steps on the group.
-/
namespace Go.Proofs.Ythmgpkcijolljaa
open Go.Conc
open Go.ConcN (upd upd_same upd_ne)
open Go.ConcR (KK WgAt stA smA rd wr mk DC0)
set_option linter.unusedSimpArgs false
set_option linter.unusedVariables false
/-- An entry on the group's cells, or a word of the detector's that touches nothing and releases nothing. -/
def LibE (Wg : Nat) (e : Event) : Prop := (∃ a : Addr, a.block = Wg ∧ (e = rd a ∨ e = wr a)) ∨ e = mk .disable ∨ e = mk .enable
theorem libE_touch {Wg : Nat} {e : Event} (h : LibE Wg e) : ∀ x, (MemAct.ofEvent e).touch? = some x → OfB Wg x.loc ∧ x.kind = .atomic := by
 intro x hx
 rcases h with ⟨a, ha, rfl | rfl⟩ | rfl | rfl
 ·have : x = ⟨.cell a, false, .atomic⟩ := (Option.some.inj hx).symm
  subst this; exact ⟨⟨rfl, ha⟩, rfl⟩
 ·have : x = ⟨.cell a, true, .atomic⟩ := (Option.some.inj hx).symm
  subst this; exact ⟨⟨rfl, ha⟩, rfl⟩
 ·cases hx
 ·cases hx
theorem libE_rel {Wg : Nat} {e : Event} (h : LibE Wg e) (b : Addr) : MemAct.ofEvent e ≠ .mark (.release b) := by
 rcases h with ⟨a, ha, rfl | rfl⟩ | rfl | rfl <;> intro hx <;> cases hx
theorem libE_low {Wg B : Nat} {e : Event} (h : LibE Wg e) (hB : Wg < B) : (MemAct.ofEvent e).low B := by
 rcases h with ⟨a, ha, rfl | rfl⟩ | rfl | rfl
 ·show a.block < B; omega
 ·show a.block < B; omega
 ·trivial
 ·trivial
section
variable {P : Program} {Wg : Nat} {st : Bool} {Base : BsP} {Shun : Loc → Prop} {p J j : Nat} {c : Nat → Nat} {rel : Nat → Prop} {gs gs' : Array Goroutine} {w w' : World} {t : Trace} {q : Nat → Nat} {V : Nat → World}
theorem unheard {t : Trace} {i : Nat} {fn : FuncId} {pos : String} {es : Array Event} (h : ∀ m, m < es.size → deafBehind (Deaf t i) (es.extract 0 m) ≠ 0) : ∀ n, t.size ≤ n → ¬ (t ++ MemOp.ofEvents i fn pos es).heard n := by
 rintro n hn ⟨g, hg, hd⟩
 have hlt := g?_lt hg
 have hsz : (MemOp.ofEvents i fn pos es).size = es.size := by rw [ofEvents_eq]; simp
 simp [hsz] at hlt
 have hgi : g = i := by
  rcases g?_app hg with h1 | ⟨_, op, hop, _, h2⟩
  ·have := g?_lt h1; omega
  ·rw [← h2]; exact ofEvents_g op hop
 subst hgi
 have := deaf_inside t g fn pos es (n - t.size) (by omega)
 rw [show t.size + (n - t.size) = n by omega] at this
 rw [this] at hd
 exact h (n - t.size) (by omega) hd
/-- Goroutine 0 on the group. -/
theorem Cr.grp0 (h : Cr P Wg st Base Shun p J j c rel gs w t q V) {g g' : Goroutine} (hg : gs[0]? = some g) {es : Array Event} {fn : FuncId} {pos : String} (he : ∀ e ∈ es, LibE Wg e) (hsz : w'.heap.size = w.heap.size) (ho : ∀ b', b' ≠ Wg → w'.heap[b']? = w.heap[b']?) (hos : w'.os = w.os ∧ w'.output = w.output := by exact ⟨rfl, rfl⟩) :
  Cr P Wg st Base Shun p J j c rel ((gs.map (woken P g g' w')).setIfInBounds 0 g') w' (t ++ MemOp.ofEvents 0 fn pos es) q V := by
 refine h.turn (hbn := fun x hx => (h.bsn x hx).1) (hbX := ⟨fun e => h.pay.hwg e.symm, fun e => h.pay.lwg e.symm⟩) (hos := hos) (.inl rfl) hg (b := Wg) h.hidw hsz ho (fun e hee x hx _ => ⟨(libE_touch (he e hee) x hx).1, .inl (libE_touch (he e hee) x hx).2⟩) ?_
 rw [hsz]
 refine h.hd.app (Nat.le_refl _) (.inl ofEvents_g) (fun op hop => ?_) (fun op hop => ?_)
 ·obtain ⟨e, hee, rfl⟩ := Go.Conc.mem_ofEvents hop; exact libE_rel (he e hee) _
 ·obtain ⟨e, hee, rfl⟩ := Go.Conc.mem_ofEvents hop; exact libE_low (he e hee) h.wlow
/-- A worker that is deaf, on the group. -/
theorem Cr.grpW (h : Cr P Wg st Base Shun p J j c rel gs w t q V) {i : Nat} (h1 : J ≤ i) (h2 : i < J + j) {g g' : Goroutine} (hg : gs[i]? = some g) {es : Array Event} {fn : FuncId} {pos : String} (he : ∀ e ∈ es, LibE Wg e)
  (hq : (∀ e ∈ es, e = Go.ConcR.mk .disable ∨ e = Go.ConcR.mk .enable) ∨ ∀ m, m < es.size → deafBehind (Deaf t i) (es.extract 0 m) ≠ 0) (hsz : w'.heap.size = w.heap.size) (ho : ∀ b', b' ≠ Wg → w'.heap[b']? = w.heap[b']?) (hos : w'.os = w.os ∧ w'.output = w.output := by exact ⟨rfl, rfl⟩) :
  Cr P Wg st Base Shun p J j c rel ((gs.map (woken P g g' w')).setIfInBounds i g') w' (t ++ MemOp.ofEvents i fn pos es) q V := by
 refine h.turn (hbn := fun x hx => (h.bsn x hx).1) (hbX := ⟨fun e => h.pay.hwg e.symm, fun e => h.pay.lwg e.symm⟩) (hos := hos) (.inr ⟨h1, h2⟩) hg (b := Wg) h.hidw hsz ho (fun e hee x hx _ => ⟨(libE_touch (he e hee) x hx).1, .inl (libE_touch (he e hee) x hx).2⟩) ?_
 rw [hsz]
 refine h.hd.app (Nat.le_refl _) ?_ (fun op hop => ?_) (fun op hop => ?_)
 ·rcases hq with hq | hq
  ·refine .inr (.inl fun op hop => ?_)
   obtain ⟨e, hee, rfl⟩ := Go.Conc.mem_ofEvents hop
   rcases hq e hee with rfl | rfl <;> rfl
  ·refine .inr (.inr (.inr ⟨i, h1, fun op hop => ?_, unheard hq⟩))
   obtain ⟨e, hee, rfl⟩ := Go.Conc.mem_ofEvents hop
   exact ⟨rfl, libE_touch (he e hee)⟩
 ·obtain ⟨e, hee, rfl⟩ := Go.Conc.mem_ofEvents hop; exact libE_rel (he e hee) _
 ·obtain ⟨e, hee, rfl⟩ := Go.Conc.mem_ofEvents hop; exact libE_low (he e hee) h.wlow
/-- A word on the group's cell, of goroutine 0's. -/
theorem Cr.said0 (h : Cr P Wg st Base Shun p J j c rel gs w t q V) {g g' : Goroutine} (hg : gs[0]? = some g) {fn : FuncId} {pos : String} {m : Mark} (hm : m = .read (smA Wg) ∨ m = .write (smA Wg)) :
  Cr P Wg st Base Shun p J j c rel ((gs.map (woken P g g' w)).setIfInBounds 0 g') w (t ++ MemOp.ofEvents 0 fn pos #[Go.ConcR.mk m]) q V := by
 refine h.turn (hbn := fun x hx => (h.bsn x hx).1) (hbX := ⟨fun e => h.pay.hwg e.symm, fun e => h.pay.lwg e.symm⟩) (hos := ⟨rfl, rfl⟩) (.inl rfl) hg (b := Wg) h.hidw rfl (fun _ _ => rfl) (fun e hee x hx _ => ?_) ?_
 ·simp only [List.mem_toArray, List.mem_singleton] at hee
  subst hee
  rcases hm with rfl | rfl
  ·have : x = ⟨.cell (smA Wg), false, .said⟩ := (Option.some.inj hx).symm
   subst this; exact ⟨⟨rfl, rfl⟩, .inr ⟨rfl, rfl⟩⟩
  ·have : x = ⟨.cell (smA Wg), true, .said⟩ := (Option.some.inj hx).symm
   subst this; exact ⟨⟨rfl, rfl⟩, .inr ⟨rfl, rfl⟩⟩
 ·refine h.hd.app (Nat.le_refl _) (.inl ofEvents_g) (fun op hop => ?_) (fun op hop => ?_)
  ·obtain ⟨e, hee, rfl⟩ := Go.Conc.mem_ofEvents hop
   simp only [List.mem_toArray, List.mem_singleton] at hee
   subst hee
   rcases hm with rfl | rfl <;> intro hx <;> cases hx
  ·obtain ⟨e, hee, rfl⟩ := Go.Conc.mem_ofEvents hop
   simp only [List.mem_toArray, List.mem_singleton] at hee
   subst hee
   rcases hm with rfl | rfl <;> exact h.wlow
/-- Worker i says its release-and-merge. -/
theorem Cr.release (h : Cr P Wg st Base Shun p J j c rel gs w t q V) {i : Nat} (h1 : J ≤ i) (h2 : i < J + j) (hr : ¬ rel i) (hd : Deaf t i = 0) {g g' : Goroutine} (hg : gs[i]? = some g) {fn : FuncId} {pos : String} :
  Cr P Wg st Base Shun p J j c (fun k => rel k ∨ k = i) ((gs.map (woken P g g' w)).setIfInBounds i g') w (t ++ MemOp.ofEvents i fn pos #[Go.ConcR.mk (.releaseMerge (stA Wg))]) q V := by
 have e : MemOp.ofEvents i fn pos #[Go.ConcR.mk (.releaseMerge (stA Wg))] = #[{ g := i, fn := fn, pos := pos, act := .mark (.releaseMerge (stA Wg)) }] := by rw [ofEvents_eq]; simp [Go.ConcR.mk, MemAct.ofEvent]
 refine h.turn (hbn := fun x hx => (h.bsn x hx).1) (hbX := ⟨fun e => h.pay.hwg e.symm, fun e => h.pay.lwg e.symm⟩) (hos := ⟨rfl, rfl⟩) (.inr ⟨h1, h2⟩) hg (b := Wg) h.hidw rfl (fun _ _ => rfl) (fun e hee x hx _ => ?_) ?_
 ·simp only [List.mem_toArray, List.mem_singleton] at hee
  subst hee
  cases hx
 ·rw [e]
  exact h.hd.release h1 hr ⟨rfl, rfl⟩ hd h.wlow
end
end Go.Proofs.Ythmgpkcijolljaa
/-
  Where the goroutines stand, and how a machine of them falls.
-/
namespace Go.Proofs.Ythmgpkcijolljaa
open Go.Conc
open Go.ConcN (upd upd_same upd_ne WgLive)
open Go.ConcR (KK WgAt stA smA rd wr DC0)
set_option linter.unusedSimpArgs false
set_option linter.unusedVariables false
/-- At most m own steps inside the library from the stop. -/
def WGm (P : Program) (ty : TypeId) (Wg : Nat) (main : Bool) (Stop : Goroutine → World → Prop) (m : Nat) (g : Goroutine) : Prop := ∀ w, Goes P main (fun _ w₁ => WgLive ty Wg w₁) DC0 Stop m g w
section
variable {P : Program} {ty : TypeId} {Wg : Nat} {main : Bool} {Stop : Goroutine → World → Prop}
theorem goes_any {m : Nat} {g : Goroutine} {w w' : World} (h : Goes P main (fun _ w₁ => WgLive ty Wg w₁) DC0 Stop m g w) : Goes P main (fun _ w₁ => WgLive ty Wg w₁) DC0 Stop m g w' := by
 cases m with
 | zero => exact h
 | succ m => exact h
theorem WGm.step {m : Nat} {g : Goroutine} {w : World} (h : WGm P ty Wg main Stop m g) (hl : WgLive ty Wg w) :
  Stop g w ∨ ∃ m' g', m = m' + 1 ∧ g.status = .running ∧ stepG P main g w = .go g' w #[] ∧ WGm P ty Wg main Stop m' g' := by
 have h1 := h w
 cases m with
 | zero => exact .inl (h1 w hl)
 | succ m =>
  rcases h1 with h1 | ⟨hr, h1⟩
  ·exact .inl (h1 w hl)
  ·right
   have h2 := h1 w hl
   cases hs : stepG P main g w with
   | go g' w' es =>
    rw [hs, goes_go] at h2
    obtain ⟨⟨rfl, rfl⟩, h3⟩ := h2
    exact ⟨m, g', rfl, hr, rfl, fun w' => goes_any h3⟩
   | _ => rw [hs] at h2; exact h2.elim
theorem WGm.run {m : Nat} {g : Goroutine} {w : World} (h : WGm P ty Wg main Stop m g) (hl : WgLive ty Wg w) (hs : ∀ g w, Stop g w → g.status = .running) : g.status = .running := by
 rcases h.step hl with h1 | ⟨_, _, _, h1, _⟩
 ·exact hs _ _ h1
 ·exact h1
end
/-- Where a worker stands. -/
inductive WS where
 | talk (l : List Say) (r : Rk)
 | park (s : Say) (l : List Say)
 | rel (m : Nat) | dis (m : Nat) | sub (m : Nat) | ld (m : Nat) | sto (m : Nat) | sem (m : Nat) | gone (q : Nat)
def WS.says : WS → List Say
 | .talk l _ => l
 | .park s l => s :: l
 | _ => []
def WS.talks : WS → Prop
 | .talk .. | .park .. => True
 | _ => False
def WS.released : WS → Prop
 | .talk .. | .park .. | .rel _ => False
 | _ => True
/-- It is still counted. -/
def WS.counted : WS → Bool
 | .talk .. | .park .. | .rel _ | .dis _ | .sub _ => true
 | _ => false
def WS.stage : WS → Nat
 | .talk l _ => 10 + l.length
 | .park _ l => 11 + l.length
 | .rel _ => 9 | .dis _ => 8 | .sub _ => 7 | .ld _ => 6 | .sto _ => 5 | .sem _ => 4 | .gone _ => 0
/-- The order inside a stage. -/
abbrev Lvl := Nat × Rk
def Lvl.lt : Lvl → Lvl → Prop := Prod.Lex (· < ·) Rk.lt
theorem Lvl.wf : WellFounded Lvl.lt := (Prod.lex ⟨(· < ·), Nat.lt_wfRel.wf⟩ ⟨Rk.lt, Rk.wf⟩).wf
def WS.lvl : WS → Lvl
 | .talk _ r => (1, r)
 | .park _ _ => (0, .nil)
 | .rel m | .dis m | .sub m | .ld m | .sto m | .sem m | .gone m => (m, .nil)
section
variable (P : Program) (ty : TypeId) (Wg : Nat) (st : Bool)
def WSt (ax : Ax) (c : Nat) (Dn : World → Prop) (d : Nat) (g : Goroutine) (v : World) : WS → Prop
 | .talk l r => d = 0 ∧ ThR P false true st (fun _ => True) (AtSay P ty Wg st ax c Dn l) r g v
 | .park s l => d = 0 ∧ s.talks ∧ True ∧ ∃ g₂ z sh, Comm P false g₂ g₂ #[s.case c z] sh ∧ g = parked g₂ #[s.case c z] sh ∧ Th P false true st (fun _ => True) (AtSay P ty Wg st ax c Dn l) (after P g₂ s c z sh) v
 | .rel m => d = 0 ∧ Dn v ∧ WGm P ty Wg false (DRel P ty Wg) m g
 | .dis m => d = 0 ∧ Dn v ∧ WGm P ty Wg false (AtMk P false (Go.ConcR.mk .disable) (WG P ty Wg false (DSub P ty Wg))) m g
 | .sub m => d = 1 ∧ Dn v ∧ WGm P ty Wg false (DSub P ty Wg) m g
 | .ld m => d = 1 ∧ Dn v ∧ WGm P ty Wg false (DLd P ty Wg) m g
 | .sto m => d = 1 ∧ Dn v ∧ WGm P ty Wg false (DSto P ty Wg) m g
 | .sem m => d = 1 ∧ Dn v ∧ WGm P ty Wg false (DSem P ty Wg) m g
 | .gone q => Dn v ∧ QuitsD P q d g
/-- Where goroutine 0 stands. -/
inductive MS where
 | walk (n : Nat) (r : Rk)
 | park (n k : Nat)
 | adis (n m : Nat) | aadd (n m : Nat) | amk (n m : Nat) | aen (n m : Nat) | afin (n m : Nat)
 | wdis (m : Nat) | wanch (m : Nat) | wload (m : Nat) | wcas (vs m : Nat) | wmk (m : Nat) | wsem (m : Nat) | wblk | wld (m : Nat) | wen (m : Nat) | wacq (m : Nat) | wfin (m : Nat)
/-- Events that are left. -/
def MS.left : MS → Nat
 | .walk n _ => n + 1
 | .park n _ => n + 1
 | .adis n _ | .aadd n _ | .amk n _ | .aen n _ | .afin n _ => n + 1
 | _ => 0
/-- It has put its Add to the count. -/
def MS.added : MS → Bool
 | .amk .. | .aen .. | .afin .. => true
 | _ => false
/-- It is in the group's books as one that waits. -/
def MS.regd : MS → Bool
 | .wmk _ | .wsem _ | .wblk => true
 | _ => false
def MS.waits : MS → Bool
 | .walk .. | .park .. | .adis .. | .aadd .. | .amk .. | .aen .. | .afin .. => false
 | _ => true
variable (Base : BsP) (Post : Value → World → Prop)
/-- Behind Add. -/
def FinA (n : Nat) (γ : View) (v : World) (g : Goroutine) : Prop := g.status = .running ∧ MNext P ty Wg st Base Post n { γ with owed := 1 } g v
/-- Behind Wait. -/
def FinW (γ : View) (v : World) (g : Goroutine) : Prop := g.status = .running ∧ Joined P Wg Base Post γ v g
/-- The loop of Wait, from its head. -/
def Loop (γ : View) (v : World) (Anch : Goroutine → Prop) : Prop := ∀ g, Anch g → WG P ty Wg true (PLoad P ty Wg (FinW P Wg Base Post γ v) Anch) g
def MSt (γ : View) (d : Nat) (g : Goroutine) (v : World) : MS → Prop
 | .walk n r => d = 0 ∧ ThR P true (!st) false (fun _ => True) (MStop P ty Wg st Base Post (MNext P ty Wg st Base Post n) γ) r g v
 | .park n k => d = 0 ∧ k < γ.j ∧ ∃ s l z sh g₂, γ.σ k = s :: l ∧ s.mine ∧ Comm P true g₂ g₂ #[s.mate.case (γ.c k) z] sh ∧ g = parked g₂ #[s.mate.case (γ.c k) z] sh ∧ MNext P ty Wg st Base Post n (γ.past s k l) (after P g₂ s.mate (γ.c k) z sh) v
 | .adis n m => d = 0 ∧ γ.owed = 0 ∧ γ.j + 2 < 2147483647 ∧ WGm P ty Wg true (ADis P ty Wg (FinA P ty Wg st Base Post n γ v)) m g
 | .aadd n m => d = 1 ∧ γ.owed = 0 ∧ γ.j + 2 < 2147483647 ∧ WGm P ty Wg true (AAdd P ty Wg (FinA P ty Wg st Base Post n γ v)) m g
 | .amk n m => d = 1 ∧ γ.owed = 0 ∧ γ.j + 2 < 2147483647 ∧ WGm P ty Wg true (AtMk P true (Go.ConcR.mk (.read (smA Wg))) (WG P ty Wg true (AEn P ty Wg (FinA P ty Wg st Base Post n γ v)))) m g
 | .aen n m => d = 1 ∧ γ.owed = 0 ∧ γ.j + 2 < 2147483647 ∧ WGm P ty Wg true (AEn P ty Wg (FinA P ty Wg st Base Post n γ v)) m g
 | .afin n m => d = 0 ∧ γ.owed = 0 ∧ γ.j + 2 < 2147483647 ∧ WGm P ty Wg true (fun g _ => FinA P ty Wg st Base Post n γ v g) m g
 | .wdis m => d = 0 ∧ ∃ Anch, Loop P ty Wg Base Post γ v Anch ∧ WGm P ty Wg true (PDis P ty Wg Anch) m g
 | .wanch m => d = 1 ∧ ∃ Anch, Loop P ty Wg Base Post γ v Anch ∧ WGm P ty Wg true (fun g _ => Anch g) m g
 | .wload m => d = 1 ∧ ∃ Anch, Loop P ty Wg Base Post γ v Anch ∧ WGm P ty Wg true (PLoad P ty Wg (FinW P Wg Base Post γ v) Anch) m g
 | .wcas vs m => d = 1 ∧ 0 < vs ∧ ∃ Anch, Loop P ty Wg Base Post γ v Anch ∧ WGm P ty Wg true (PCas P ty Wg (FinW P Wg Base Post γ v) Anch vs) m g
 | .wmk m => d = 1 ∧ WGm P ty Wg true (AtMk P true (Go.ConcR.mk (.write (smA Wg))) (WG P ty Wg true (PSem P ty Wg (FinW P Wg Base Post γ v)))) m g
 | .wsem m => d = 1 ∧ WGm P ty Wg true (PSem P ty Wg (FinW P Wg Base Post γ v)) m g
 | .wblk => d = 1 ∧ ∃ g₀, (∀ w, WgLive ty Wg w → PSem P ty Wg (FinW P Wg Base Post γ v) g₀ w) ∧ g = { g₀ with status := .blocked }
 | .wld m => d = 1 ∧ WGm P ty Wg true (PLd P ty Wg (FinW P Wg Base Post γ v)) m g
 | .wen m => d = 1 ∧ WGm P ty Wg true (PEn P ty Wg (FinW P Wg Base Post γ v)) m g
 | .wacq m => d = 0 ∧ WGm P ty Wg true (PAcq P ty Wg (FinW P Wg Base Post γ v)) m g
 | .wfin m => d = 0 ∧ WGm P ty Wg true (fun g _ => FinW P Wg Base Post γ v g) m g
end
end Go.Proofs.Ythmgpkcijolljaa
/-
  The whole machine of talkers: its invariant, its measure.
-/
namespace Go.Proofs.Ythmgpkcijolljaa
open Go.Conc
open Go.ConcN (upd upd_same upd_ne WgLive sumTo)
open Go.ConcR (KK WgAt stA smA rd wr DC0)
set_option linter.unusedSimpArgs false
set_option linter.unusedVariables false
structure Sit where
 γ : View
 gs : Array Goroutine
 w : World
 t : Trace
 q : Nat → Nat
 V : Nat → World
 S : Nat → WS
 ms : MS
 cl : Nat → Bool
/-- How many are counted. -/
def Sit.cnt (s : Sit) : Nat := s.γ.owed + (if s.ms.added then 1 else 0) + sumTo s.γ.j (fun k => if (s.S k).counted then 1 else 0)
def Sit.relOf (s : Sit) (i : Nat) : Prop := ∃ k, k < s.γ.j ∧ i = s.γ.J + k ∧ (s.S k).released
/-- Nobody is at the last worker's errand. -/
def Sit.noErrand (s : Sit) : Prop := ∀ k, k < s.γ.j → (∀ m, s.S k ≠ .ld m) ∧ (∀ m, s.S k ≠ .sto m) ∧ ∀ m, s.S k ≠ .sem m
def Sit.onlyErrand (s : Sit) (k : Nat) : Prop := ∀ k', k' < s.γ.j → k' ≠ k → (∀ m, s.S k' ≠ .ld m) ∧ (∀ m, s.S k' ≠ .sto m) ∧ ∀ m, s.S k' ≠ .sem m
/-- The group's books. -/
inductive Books (ty : TypeId) (Wg : Nat) (s : Sit) : Prop
 | idle (r : s.ms.regd = false) (e : s.noErrand) (h : WgAt ty Wg s.w (s.cnt * KK) 0)
 | reg (r : s.ms.regd = true) (e : s.noErrand) (c : 0 < s.cnt) (h : WgAt ty Wg s.w (s.cnt * KK + 1) 0)
 | ld (k : Nat) (r : s.ms.regd = true) (hk : k < s.γ.j) (e : (∃ m, s.S k = .ld m) ∨ ∃ m, s.S k = .sto m) (o : s.onlyErrand k) (c : s.cnt = 0) (h : WgAt ty Wg s.w 1 0)
 | sem (k : Nat) (r : s.ms.regd = true) (hk : k < s.γ.j) (e : ∃ m, s.S k = .sem m) (o : s.onlyErrand k) (c : s.cnt = 0) (h : WgAt ty Wg s.w 0 0)
 | post (r : s.ms.regd = true) (b : s.ms ≠ .wblk) (e : s.noErrand) (c : s.cnt = 0) (h : WgAt ty Wg s.w 0 1)
theorem Books.live {ty : TypeId} {Wg : Nat} {s : Sit} (h : Books ty Wg s) : WgLive ty Wg s.w := by cases h <;> exact ⟨_, _, ‹_›⟩
structure MI (P : Program) (ty : TypeId) (Wg : Nat) (st : Bool) (Base : BsP) (Post : Value → World → Prop) (Shun : Loc → Prop) (p : Nat) (s : Sit) : Prop where
 cr : Cr P Wg st Base Shun p s.γ.J s.γ.j s.γ.c s.relOf s.gs s.w s.t s.q s.V
 wrk : ∀ k, k < s.γ.j → ∃ g, s.gs[s.γ.J + k]? = some g ∧ WSt P ty Wg st (axOf Base.X s.γ k) (s.γ.c k) (s.γ.dn k (pcell Base.X s.w k)) (Deaf s.t (s.γ.J + k)) g (s.V (s.γ.J + k)) (s.S k)
 dn : ∀ k, k < s.γ.j → (∀ y v t d, s.γ.dn k y (v.re t d) → s.γ.dn k y v) ∧ ∀ y v n, Flat P v → s.γ.dn k y v → s.γ.dn k y (v.upto n)
 form : ∀ k, k < s.γ.j → Formed (s.γ.σ k)
 zero : ∃ g, s.gs[0]? = some g ∧ MSt P ty Wg st Base Post s.γ (Deaf s.t 0) g (s.V 0) s.ms
 chan : ∀ k, k < s.γ.j → ∃ a b tm, s.w.heap[s.γ.c k]? = some (.chan 0 #[] (s.cl k) a b tm)
 cinj : ∀ k k', k < s.γ.j → k' < s.γ.j → s.γ.c k = s.γ.c k' → k = k'
 cwg : ∀ k, k < s.γ.j → s.γ.c k ≠ Wg
 open_ : ∀ k, k < s.γ.j → s.cl k = false → s.γ.shut k = false ∧ (s.S k).says = s.γ.σ k
 closed : ∀ k, k < s.γ.j → s.cl k = true → (s.γ.σ k = [.close] ∧ (s.S k).says = []) ∨ (∃ tl, s.γ.σ k = .eof :: tl ∧ s.γ.shut k = true ∧ ∃ m, (s.S k).says = (Say.eof :: tl).drop m)
 nopark : ∀ k, k < s.γ.j → s.cl k = true → ∀ x l, s.S k ≠ .park x l
 meet : ∀ n k, s.ms = .park n k → s.cl k = false ∧ ∃ l r, s.S k = .talk l r
 waits : s.ms.waits = true → s.γ.owed = 0 ∧ ∀ k, k < s.γ.j → Settled s.γ k
 small : s.γ.j + s.γ.owed + 1 < 2147483647
 books : Books ty Wg s
 late : (∃ m, s.ms = .wld m ∨ s.ms = .wen m ∨ s.ms = .wacq m ∨ s.ms = .wfin m) → s.cnt = 0
 fin : ∀ m, s.ms = .wfin m → Past (fun l => Shun l ∨ OfB Wg l) s.w.heap.size s.t
/-! ### the measure -/
structure Mea where
 n : Nat
 a : Nat
 D : Nat
 f : Nat → Lvl
 μ : Nat × Lvl
def Falls (x y : Mea) : Prop :=
 x.n < y.n ∨ (x.n = y.n ∧ (x.a < y.a ∨ (x.a = y.a ∧ x.D = y.D ∧ (OneDown Lvl.lt y.D x.f y.f ∨ (x.f = y.f ∧ Prod.Lex (· < ·) Lvl.lt x.μ y.μ)))))
theorem falls_acc : ∀ x : Mea, Acc Falls x := by
 have main : ∀ n a D (f : Nat → Lvl) (μ : Nat × Lvl), Acc Falls ⟨n, a, D, f, μ⟩ := by
  intro n
  induction n using Nat.strongRecOn with
  | _ n ihn =>
   intro a
   induction a using Nat.strongRecOn with
   | _ a iha =>
    intro D f
    have hf := oneDown_acc Lvl.wf D f
    induction hf with
    | intro f _ ihf =>
     intro μ
     have hμ : Acc (Prod.Lex (· < ·) Lvl.lt) μ := (Prod.lex ⟨(· < ·), Nat.lt_wfRel.wf⟩ ⟨Lvl.lt, Lvl.wf⟩).wf.apply μ
     induction hμ with
     | intro μ _ ihμ =>
      refine ⟨_, fun y hy => ?_⟩
      obtain ⟨n', a', D', f', μ'⟩ := y
      rcases hy with h | ⟨h1, h | ⟨h2, h3, h | ⟨h4, h5⟩⟩⟩
      ·exact ihn n' h a' D' f' μ'
      ·have h1' : n' = n := h1
       subst h1'
       exact iha a' h D' f' μ'
      ·have h1' : n' = n := h1
       have h2' : a' = a := h2
       have h3' : D' = D := h3
       subst h1' h2' h3'
       exact ihf f' h μ'
      ·have h1' : n' = n := h1
       have h2' : a' = a := h2
       have h3' : D' = D := h3
       have h4' : f' = f := h4
       subst h1' h2' h3' h4'
       exact ihμ μ' h5
 exact fun ⟨n, a, D, f, μ⟩ => main n a D f μ
/-- Goroutine 0's stage; 'cnt': what the count is now: a number seen before it fell sends it round once more. -/
def MS.rank (cnt : Nat) : MS → Nat × Lvl
 | .walk _ r => (21, 1, r)
 | .park _ _ => (20, 0, .nil)
 | .adis _ m => (19, m, .nil) | .aadd _ m => (18, m, .nil) | .amk _ m => (17, m, .nil) | .aen _ m => (16, m, .nil) | .afin _ m => (15, m, .nil)
 | .wdis m => (14, m, .nil) | .wanch m => (11, m, .nil) | .wload m => (10, m, .nil)
 | .wcas vs m => (if vs = cnt then 9 else 13, m, .nil)
 | .wmk m => (8, m, .nil) | .wsem m => (7, m, .nil) | .wblk => (6, 0, .nil) | .wld m => (5, m, .nil) | .wen m => (4, m, .nil) | .wacq m => (3, m, .nil) | .wfin m => (2, m, .nil)
def Sit.lvl (s : Sit) (i : Nat) : Lvl := if i = 0 then (0, .nil) else if i < s.γ.J then (s.q i, .nil) else if i < s.γ.J + s.γ.j then (s.S (i - s.γ.J)).lvl else (0, .nil)
def Sit.mea (s : Sit) : Mea := ⟨s.ms.left, sumTo s.γ.j (fun k => (s.S k).stage), s.γ.J + s.γ.j, s.lvl, s.ms.rank s.cnt⟩
section
variable {P : Program} {ty : TypeId} {Wg : Nat} {st : Bool} {Base : BsP} {Post : Value → World → Prop} {Shun : Loc → Prop} {p : Nat} {s : Sit}
/-- On its way: it ends, or it comes to a lower situation out of which the run goes on. -/
def Ahead (P : Program) (ty : TypeId) (Wg : Nat) (st : Bool) (Base : BsP) (Post : Value → World → Prop) (Shun : Loc → Prop) (p : Nat) (s : Sit) (sl : Option (Nat × Nat)) : Prop :=
 Ends P (Base.post Post) (crowd s.gs s.w sl) s.t ∨ ∃ s' sl', MI P ty Wg st Base Post Shun p s' ∧ Falls s'.mea s.mea ∧ (Ends P (Base.post Post) (crowd s'.gs s'.w sl') s'.t → Ends P (Base.post Post) (crowd s.gs s.w sl) s.t)
theorem ends_of_ahead (h : ∀ s sl, MI P ty Wg st Base Post Shun p s → Ahead P ty Wg st Base Post Shun p s sl) : ∀ s sl, MI P ty Wg st Base Post Shun p s → Ends P (Base.post Post) (crowd s.gs s.w sl) s.t := by
 have key : ∀ x : Mea, ∀ s sl, s.mea = x → MI P ty Wg st Base Post Shun p s → Ends P (Base.post Post) (crowd s.gs s.w sl) s.t := by
  intro x
  induction falls_acc x with
  | intro x _ ih =>
   intro s sl hx hs
   rcases h s sl hs with h1 | ⟨s', sl', h1, h2, h3⟩
   ·exact h1
   ·exact h3 (ih s'.mea (hx ▸ h2) s' sl' rfl h1)
 exact fun s sl hs => key s.mea s sl rfl hs
theorem MI.stir (h : MI P ty Wg st Base Post Shun p s) (d : Nat) : MI P ty Wg st Base Post Shun p { s with w := s.w.at d } := by
 refine ⟨h.cr.stir d, h.wrk, h.dn, h.form, h.zero, h.chan, h.cinj, h.cwg, h.open_, h.closed, h.nopark, h.meet, h.waits, h.small, ?_, h.late, h.fin⟩
 cases h.books with
 | idle r e x => exact .idle r e x
 | reg r e c x => exact .reg r e c x
 | ld k r hk e o c x => exact .ld k r hk e o c x
 | sem k r hk e o c x => exact .sem k r hk e o c x
 | post r b e c x => exact .post r b e c x
end
end Go.Proofs.Ythmgpkcijolljaa
/-
  In the machine of talkers somebody can always run.
-/
namespace Go.Proofs.Ythmgpkcijolljaa
open Go.Conc
open Go.ConcN (upd upd_same upd_ne WgLive sumTo)
open Go.ConcR (KK WgAt stA smA rd wr DC0)
set_option linter.unusedSimpArgs false
set_option linter.unusedVariables false
section
variable {P : Program} {ty : TypeId} {Wg : Nat} {st : Bool} {Base : BsP} {Post : Value → World → Prop} {Shun : Loc → Prop} {p : Nat} {s : Sit}
theorem WG.run {main : Bool} {Stop : Goroutine → World → Prop} {g : Goroutine} {w : World} (h : WG P ty Wg main Stop g) (hl : WgLive ty Wg w) (hs : ∀ g w, Stop g w → g.status = .running) : g.status = .running := by
 obtain ⟨m, hm⟩ := h
 exact WGm.run (P := P) (ty := ty) (Wg := Wg) hm hl hs
theorem atSay_run {ax : Ax} {c : Nat} {Dn : World → Prop} {w : World} (hl : WgLive ty Wg w) : ∀ {l : List Say} {g : Goroutine} {v : World}, AtSay P ty Wg st ax c Dn l g v → g.status = .running
 | [], g, v, h => h.2.run hl fun g w x => x.1
 | .look :: l, g, v, h => let ⟨_, a, _⟩ := h; a.1
 | .put :: l, g, v, h => let ⟨_, _, a, _⟩ := h; a.1
 | .close :: l, g, v, h => let ⟨_, _, a, _⟩ := h; a.1
 | .send x :: l, g, v, h => let ⟨_, _, _, _, a, _⟩ := h; a.run
 | .recv x :: l, g, v, h => let ⟨_, _, _, _, a, _⟩ := h; a.run
 | .eof :: l, g, v, h => let ⟨_, _, _, _, a, _⟩ := h; a.run
theorem thR_run {main gr st' : Bool} {Live : World → Prop} {Stop : Goroutine → World → Prop} (hs : ∀ g v, Stop g v → g.status = .running) : ∀ {r : Rk} {g : Goroutine} {v : World}, ThR P main gr st' Live Stop r g v → g.status = .running
 | .nil, g, v, h => hs g v h
 | .sup f, g, v, h => h.1
theorem mstop_run {w : World} (hl : WgLive ty Wg w) {Next : View → Goroutine → World → Prop} {γ : View} {g : Goroutine} {v : World} (h : MStop P ty Wg st Base Post Next γ g v) : g.status = .running := by
 rcases h with ⟨k, s, l, z, sh, g₂, _, _, _, h4, _⟩ | ⟨k, g', _, _, _, _, h4, _⟩ | ⟨_, _, h3⟩ | ⟨_, g', child, v0, vc, c, tm, says, dn, h2, _⟩ | ⟨_, _, A, h3, _⟩
 ·exact h4.run
 ·exact h4.1
 ·exact h3.run hl fun g w x => x.1
 ·exact h2
 ·exact h3.run hl fun g w x => x.1
/-- A worker: it runs, or is parked, or is gone. -/
theorem wst_status {ax : Ax} {c : Nat} {Dn : World → Prop} {d : Nat} {g : Goroutine} {v w : World} (hl : WgLive ty Wg w) {x : WS} (h : WSt P ty Wg st ax c Dn d g v x) :
  (g.status = .running) ∨ (g.status = .blocked ∧ ∃ s l, x = .park s l) ∨ (g.status = .finished ∧ ∃ q, x = .gone q) := by
 cases x with
 | talk l r => exact .inl (thR_run (fun g v hh => atSay_run hl hh) h.2)
 | park s l => obtain ⟨_, _, _, g₂, z, sh, _, rfl, _⟩ := h; exact .inr (.inl ⟨rfl, s, l, rfl⟩)
 | rel m => exact .inl (h.2.2.run hl fun g w x => x.1)
 | dis m => exact .inl (h.2.2.run hl fun g w x => x.1)
 | sub m => exact .inl (h.2.2.run hl fun g w x => x.1)
 | ld m => exact .inl (h.2.2.run hl fun g w x => x.1)
 | sto m => exact .inl (h.2.2.run hl fun g w x => x.1)
 | sem m => exact .inl (h.2.2.run hl fun g w x => x.1)
 | gone q => exact h.2.status.imp id fun e => .inr ⟨e, q, rfl⟩
theorem loop_run {γ : View} {v : World} {Anch : Goroutine → Prop} {w : World} (hl : WgLive ty Wg w) (h : Loop P ty Wg Base Post γ v Anch) {g : Goroutine} (hg : Anch g) : g.status = .running := (h g hg).run hl fun g w x => x.1
/-- Goroutine 0: it runs, or is parked, or waits for the group. -/
theorem mst_status {γ : View} {d : Nat} {g : Goroutine} {v w : World} (hl : WgLive ty Wg w) {x : MS} (h : MSt P ty Wg st Base Post γ d g v x) :
  g.status = .running ∨ (g.status = .blocked ∧ ((∃ n k, x = .park n k) ∨ x = .wblk)) := by
 cases x with
 | walk n r => exact .inl (thR_run (fun g v hh => mstop_run hl hh) h.2)
 | park n k => obtain ⟨_, _, s, l, z, sh, g₂, _, _, _, rfl, _⟩ := h; exact .inr ⟨rfl, .inl ⟨n, k, rfl⟩⟩
 | adis n m => exact .inl (h.2.2.2.run hl fun g w x => x.1)
 | aadd n m => exact .inl (h.2.2.2.run hl fun g w x => x.1)
 | amk n m => exact .inl (h.2.2.2.run hl fun g w x => x.1)
 | aen n m => exact .inl (h.2.2.2.run hl fun g w x => x.1)
 | afin n m => exact .inl (h.2.2.2.run hl fun g w x => x.1)
 | wdis m => obtain ⟨_, A, _, h⟩ := h; exact .inl (h.run hl fun g w x => x.1)
 | wanch m => obtain ⟨_, A, hL, h⟩ := h; exact .inl (h.run hl fun g w x => loop_run hl hL x)
 | wload m => obtain ⟨_, A, _, h⟩ := h; exact .inl (h.run hl fun g w x => x.1)
 | wcas vs m => obtain ⟨_, _, A, _, h⟩ := h; exact .inl (h.run hl fun g w x => x.1)
 | wmk m => exact .inl (h.2.run hl fun g w x => x.1)
 | wsem m => exact .inl (h.2.run hl fun g w x => x.1)
 | wblk => obtain ⟨_, g₀, _, rfl⟩ := h; exact .inr ⟨rfl, .inr rfl⟩
 | wld m => exact .inl (h.2.run hl fun g w x => x.1)
 | wen m => exact .inl (h.2.run hl fun g w x => x.1)
 | wacq m => exact .inl (h.2.run hl fun g w x => x.1)
 | wfin m => exact .inl (h.2.run hl fun g w x => x.1)
theorem sumTo_pos {f : Nat → Nat} : ∀ {n : Nat}, 0 < sumTo n f → ∃ k, k < n ∧ 0 < f k
 | 0, h => by simp [sumTo] at h
 | n + 1, h => by
  by_cases h0 : 0 < f n
  ·exact ⟨n, Nat.lt_succ_self n, h0⟩
  ·have : 0 < sumTo n f := by simp [sumTo] at h; omega
   obtain ⟨k, hk, h1⟩ := sumTo_pos this
   exact ⟨k, Nat.lt_succ_of_lt hk, h1⟩
theorem MI.idx (h : MI P ty Wg st Base Post Shun p s) {i : Nat} {g : Goroutine} (hi : s.gs[i]? = some g) : i = 0 ∨ (0 < i ∧ i < s.γ.J) ∨ ∃ k, k < s.γ.j ∧ i = s.γ.J + k := by
 have := (Array.getElem?_eq_some_iff.1 hi).1
 rw [h.cr.size] at this
 by_cases h0 : i = 0
 ·exact .inl h0
 ·by_cases hJ : i < s.γ.J
  ·exact .inr (.inl ⟨by omega, hJ⟩)
  ·exact .inr (.inr ⟨i - s.γ.J, by omega, by omega⟩)
theorem MI.awake (h : MI P ty Wg st Base Post Shun p s) : ∀ g ∈ s.gs, awake g := by
 intro g hg
 obtain ⟨i, hi⟩ := Array.getElem?_of_mem hg
 have hl := h.books.live
 rcases h.idx hi with rfl | ⟨h0, hJ⟩ | ⟨k, hk, rfl⟩
 ·obtain ⟨g', h1, h2⟩ := h.zero
  rw [hi] at h1
  obtain rfl := Option.some.inj h1
  exact awake_of ((mst_status hl h2).imp id fun x => .inl x.1)
 ·exact awake_of ((h.cr.old i g h0 hJ hi).status.elim .inl fun x => .inr (.inr x))
 ·obtain ⟨g', h1, h2⟩ := h.wrk k hk
  rw [hi] at h1
  obtain rfl := Option.some.inj h1
  exact awake_of ((wst_status hl h2).imp id fun x => x.imp (·.1) (·.1))
/-- A counted worker behind a settled line runs. -/
theorem MI.settled_runs (h : MI P ty Wg st Base Post Shun p s) {k : Nat} (hk : k < s.γ.j) (hs : Settled s.γ k) : ∀ x l, s.S k ≠ .park x l := by
 intro x l e
 cases hc : s.cl k with
 | true => exact h.nopark k hk hc x l e
 | false =>
  obtain ⟨h1, h2⟩ := h.open_ k hk hc
  rw [e] at h2
  obtain ⟨g, _, hW⟩ := h.wrk k hk
  rw [e] at hW
  rcases hs with h3 | ⟨_, h4⟩
  ·rw [h3] at h2
   simp only [WS.says, List.cons.injEq] at h2
   rw [h2.1] at hW; exact hW.2.1
  ·rw [h1] at h4; cases h4
theorem MI.somebody (h : MI P ty Wg st Base Post Shun p s) : ∃ (i : Nat) (g : Goroutine), s.gs[i]? = some g ∧ g.status = .running := by
 have hl := h.books.live
 obtain ⟨g, h1, h2⟩ := h.zero
 -- a worker that is not parked and not gone
 have wk : ∀ k, k < s.γ.j → (∀ x l, s.S k ≠ .park x l) → (∀ q, s.S k ≠ .gone q) → ∃ (i : Nat) (g : Goroutine), s.gs[i]? = some g ∧ g.status = .running := by
  intro k hk hp hq
  obtain ⟨g', h3, h4⟩ := h.wrk k hk
  rcases wst_status hl h4 with h5 | ⟨_, x, l, h5⟩ | ⟨_, q, h5⟩
  ·exact ⟨_, g', h3, h5⟩
  ·exact absurd h5 (hp x l)
  ·exact absurd h5 (hq q)
 rcases mst_status hl h2 with h3 | ⟨_, ⟨n, k, e⟩ | e⟩
 ·exact ⟨0, g, h1, h3⟩
 ·obtain ⟨_, l, r, h4⟩ := h.meet n k e
  rw [e] at h2
  exact wk k h2.2.1 (fun x l => by rw [h4]; simp) (fun q => by rw [h4]; simp)
 ·have hw := h.waits (by rw [e]; rfl)
  cases h.books with
  | idle r _ _ => rw [e] at r; cases r
  | reg r ne c _ =>
   have hc : 0 < sumTo s.γ.j (fun k => if (s.S k).counted then 1 else 0) := by
    unfold Sit.cnt at c
    rw [hw.1, e] at c
    simpa [MS.added] using c
   obtain ⟨k, hk, h5⟩ := sumTo_pos hc
   refine wk k hk (h.settled_runs hk (hw.2 k hk)) fun q hq => ?_
   rw [hq] at h5
   simp [WS.counted] at h5
  | ld k r hk he _ _ _ =>
   refine wk k hk (fun x l hx => ?_) (fun q hx => ?_) <;> rcases he with ⟨m, hm⟩ | ⟨m, hm⟩ <;> (rw [hm] at hx; cases hx)
  | sem k r hk he _ _ _ =>
   obtain ⟨m, hm⟩ := he
   exact wk k hk (fun x l hx => by rw [hm] at hx; cases hx) (fun q hx => by rw [hm] at hx; cases hx)
  | post r b _ _ _ => exact absurd e b
end
end Go.Proofs.Ythmgpkcijolljaa
/-
  Who is let try again by another's step.
-/
namespace Go.Proofs.Ythmgpkcijolljaa
open Go.Conc
open Go.ConcN (upd upd_same upd_ne WgLive sumTo)
open Go.ConcR (KK WgAt stA smA rd wr DC0)
set_option linter.unusedSimpArgs false
set_option linter.unusedVariables false
section
variable {P : Program} {ty : TypeId} {Wg : Nat} {st : Bool} {Base : BsP} {Post : Value → World → Prop} {Shun : Loc → Prop} {p : Nat} {s : Sit}
theorem woken_parked {x : Say} {c : Nat} {z : Value} {sh : CommShape} {g g' g₂ : Goroutine} {w' : World} (h : ∃ a b tm, w'.heap[c]? = some (.chan 0 #[] false a b tm)) : woken P g g' w' (parked g₂ #[x.case c z] sh) = parked g₂ #[x.case c z] sh := by
 obtain ⟨a, b, tm, h⟩ := h
 cases x with
 | send y => exact woken_send_open g g' h
 | close => exact woken_recv_open g g' h
 | recv y => exact woken_recv_open g g' h
 | eof => exact woken_recv_open g g' h
 | look => exact woken_recv_open g g' h
 | put => exact woken_recv_open g g' h
/-- A worker stays as it is. -/
theorem woken_wst {ax : Ax} {c : Nat} {Dn : World → Prop} {d : Nat} {g g' gk : Goroutine} {v w w' : World} (hl : WgLive ty Wg w) {x : WS} (h : WSt P ty Wg st ax c Dn d gk v x) (hp : ∀ y l, x = .park y l → ∃ a b tm, w'.heap[c]? = some (.chan 0 #[] false a b tm)) :
  woken P g g' w' gk = gk := by
 rcases wst_status hl h with h1 | ⟨_, y, l, e⟩ | ⟨h1, _⟩
 ·exact woken_running h1
 ·subst e
  obtain ⟨_, _, _, g₂, z, sh, _, rfl, _⟩ := h
  exact woken_parked (hp y l rfl)
 ·unfold woken
  split
  ·exact again_running _ (.inr h1)
  ·rfl
theorem again_free {g : Goroutine} (ho : g.offers = none) (w : World) : ({ g with status := .blocked } : Goroutine).again w = { g with status := .running } ∨ ({ g with status := .blocked } : Goroutine).again w = { g with status := .blocked } := by
 simp [Goroutine.again, ho]
/-- Goroutine 0 stays as it is, or tries the semaphore again. -/
theorem woken_mst {γ : View} {d : Nat} {g g' g0 : Goroutine} {v w w' : World} (hl : WgLive ty Wg w) {x : MS} (h : MSt P ty Wg st Base Post γ d g0 v x) (hp : ∀ n k, x = .park n k → ∃ a b tm, w'.heap[γ.c k]? = some (.chan 0 #[] false a b tm)) :
  ∃ x', MSt P ty Wg st Base Post γ d (woken P g g' w' g0) v x' ∧ (x' = x ∨ (x = .wblk ∧ x' = .wsem 0)) := by
 rcases mst_status hl h with h1 | ⟨_, ⟨n, k, e⟩ | e⟩
 ·exact ⟨x, by rw [woken_running h1]; exact h, .inl rfl⟩
 ·subst e
  refine ⟨_, ?_, .inl rfl⟩
  have h' := h
  obtain ⟨_, _, y, l, z, sh, g₂, _, _, _, rfl, _⟩ := h
  rw [woken_parked (hp n k rfl)]
  exact h'
 ·subst e
  obtain ⟨hd, g₀, hS, rfl⟩ := h
  have hg := hS w hl
  by_cases hw : (mayWake P g && g'.status != .blocked && g'.status != .waiting) = true
  ·have ew : woken P g g' w' { g₀ with status := .blocked } = ({ g₀ with status := .blocked } : Goroutine).again w' := by simp only [woken, hw, if_true]
   rw [ew]
   rcases again_free hg.2.1 w' with e | e
   ·refine ⟨.wsem 0, ⟨hd, fun w₁ w₂ hw₂ => ?_⟩, .inr ⟨rfl, rfl⟩⟩
    rw [e, show ({ g₀ with status := .running } : Goroutine) = g₀ by rw [← hg.1]]
    exact hS w₂ hw₂
   ·exact ⟨.wblk, by rw [e]; exact ⟨hd, g₀, hS, rfl⟩, .inl rfl⟩
  ·have ew : woken P g g' w' { g₀ with status := .blocked } = { g₀ with status := .blocked } := by simp only [woken, hw]; rfl
   exact ⟨.wblk, by rw [ew]; exact ⟨hd, g₀, hS, rfl⟩, .inl rfl⟩
end
end Go.Proofs.Ythmgpkcijolljaa
/-
  A worker's own step, goroutine 0's own step: the invariant behind it.
-/
namespace Go.Proofs.Ythmgpkcijolljaa
open Go.Conc
open Go.ConcN (upd upd_same upd_ne WgLive sumTo)
open Go.ConcR (KK WgAt stA smA rd wr DC0)
set_option linter.unusedSimpArgs false
set_option linter.unusedVariables false
section
variable {P : Program} {ty : TypeId} {Wg : Nat} {st : Bool} {Base : BsP} {Post : Value → World → Prop} {Shun : Loc → Prop} {p : Nat} {s : Sit}
theorem park_open (h : MI P ty Wg st Base Post Shun p s) {k : Nat} (hk : k < s.γ.j) {x : Say} {l : List Say} (e : s.S k = .park x l) : s.cl k = false := by
 cases hc : s.cl k with
 | true => exact absurd e (h.nopark k hk hc x l)
 | false => rfl
theorem regd_wake {x x' : MS} (h : x' = x ∨ (x = .wblk ∧ x' = .wsem 0)) : x'.regd = x.regd ∧ x'.added = x.added ∧ x'.waits = x.waits ∧ x'.left = x.left ∧ (∀ m, x' = .wfin m → x = .wfin m) ∧
  ((∃ m, x' = .wld m ∨ x' = .wen m ∨ x' = .wacq m ∨ x' = .wfin m) → ∃ m, x = .wld m ∨ x = .wen m ∨ x = .wacq m ∨ x = .wfin m) ∧ (∀ n k, x' = .park n k → x = .park n k) := by
 rcases h with rfl | ⟨rfl, rfl⟩
 ·exact ⟨rfl, rfl, rfl, rfl, fun _ e => e, fun e => e, fun _ _ e => e⟩
 ·refine ⟨rfl, rfl, rfl, rfl, (fun m e => by cases e), ?_, fun n k e => by cases e⟩
  rintro ⟨m, e | e | e | e⟩ <;> cases e
/-- A worker's own step; the channels stand. -/
theorem MI.worker (h : MI P ty Wg st Base Post Shun p s) {k : Nat} (hk : k < s.γ.j) {g g' : Goroutine} (hg : s.gs[s.γ.J + k]? = some g) {es : Array Event} {w' : World} {v' : World} {x' : WS} {fn : FuncId} {pos : String} {ms' : MS}
  (hms : ∀ g0, s.gs[0]? = some g0 → MSt P ty Wg st Base Post s.γ (Deaf s.t 0) (woken P g g' w' g0) (s.V 0) ms') (hms' : ms' = s.ms ∨ (s.ms = .wblk ∧ ms' = .wsem 0))
  (cr : ∀ s' : Sit, s' = { s with gs := (s.gs.map (woken P g g' w')).setIfInBounds (s.γ.J + k) g', w := w', t := s.t ++ MemOp.ofEvents (s.γ.J + k) fn pos es, V := upd s.V (s.γ.J + k) v', S := upd s.S k x', ms := ms' } →
   Cr P Wg st Base Shun p s'.γ.J s'.γ.j s'.γ.c s'.relOf s'.gs s'.w s'.t s'.q s'.V ∧ Books ty Wg s' ∧ s'.cnt ≤ s.cnt ∧ ∀ m, s.ms = .wfin m → Past (fun l => Shun l ∨ OfB Wg l) s'.w.heap.size s'.t)
  (own : WSt P ty Wg st (axOf Base.X s.γ k) (s.γ.c k) (s.γ.dn k (pcell Base.X w' k)) (deafBehind (Deaf s.t (s.γ.J + k)) es) g' v' x')
  (hch : ∀ k', k' < s.γ.j → w'.heap[s.γ.c k']? = s.w.heap[s.γ.c k']?)
  (hpc : ∀ k', k' < s.γ.j → k' ≠ k → pcell Base.X w' k' = pcell Base.X s.w k')
  (says : (s.cl k = false → x'.says = (s.S k).says) ∧ (s.cl k = true → ∃ n, x'.says = (s.S k).says.drop n)) (npk : ∀ y l, x' = .park y l → s.cl k = false ∧ ∀ n, s.ms ≠ .park n k) (tk : ∀ n, s.ms = .park n k → ∃ l r, x' = .talk l r) :
  MI P ty Wg st Base Post Shun p { s with gs := (s.gs.map (woken P g g' w')).setIfInBounds (s.γ.J + k) g', w := w', t := s.t ++ MemOp.ofEvents (s.γ.J + k) fn pos es, V := upd s.V (s.γ.J + k) v', S := upd s.S k x', ms := ms' } := by
 obtain ⟨cr', bk, hcnt, hfin⟩ := cr _ rfl
 have hl := h.books.live
 have hJ := h.cr.gJ
 obtain ⟨r1, r2, r3, r4, r5, r6, r7⟩ := regd_wake hms'
 have hlt : s.γ.J + k < s.gs.size := (Array.getElem?_eq_some_iff.1 hg).1
 have hD : ∀ i, i ≠ s.γ.J + k → Deaf (s.t ++ MemOp.ofEvents (s.γ.J + k) fn pos es) i = Deaf s.t i := fun i hi => Deaf_other s.t (fun e => hi e.symm) _ ofEvents_g
 refine ⟨cr', fun k' hk' => ?_, h.dn, h.form, ?_, fun k' hk' => ?_, h.cinj, h.cwg, fun k' hk' hc => ?_, fun k' hk' hc => ?_, fun k' hk' hc y l => ?_, fun n k' e => ?_, fun e => h.waits (by rw [← r3]; exact e), h.small, bk, fun e => ?_, fun m e => hfin m (r5 m e)⟩
 ·by_cases hkk : k' = k
  ·subst hkk
   refine ⟨g', by simp [hlt], ?_⟩
   show WSt P ty Wg st _ _ (s.γ.dn k' (pcell Base.X w' k')) (Deaf (s.t ++ _) (s.γ.J + k')) g' (upd s.V (s.γ.J + k') v' (s.γ.J + k')) (upd s.S k' x' k')
   rw [Deaf_own, upd_same, upd_same]
   exact own
  ·obtain ⟨gk, h1, h2⟩ := h.wrk k' hk'
   have hne : s.γ.J + k ≠ s.γ.J + k' := by omega
   refine ⟨gk, ?_, ?_⟩
   ·show ((s.gs.map (woken P g g' w')).setIfInBounds (s.γ.J + k) g')[s.γ.J + k']? = some gk
    rw [Array.getElem?_setIfInBounds_ne hne, Array.getElem?_map, h1, Option.map_some]
    rw [woken_wst hl h2 fun y l e => ?_]
    obtain ⟨a, b, tm, h3⟩ := h.chan k' hk'
    rw [park_open h hk' e] at h3
    exact ⟨a, b, tm, by rw [hch k' hk']; exact h3⟩
   ·show WSt P ty Wg st _ _ (s.γ.dn k' (pcell Base.X w' k')) (Deaf (s.t ++ _) (s.γ.J + k')) gk (upd s.V (s.γ.J + k) v' (s.γ.J + k')) (upd s.S k x' k')
    rw [hpc k' hk' hkk, hD _ (fun e => hne e.symm), upd_ne _ _ (fun e => hne e.symm), upd_ne _ _ hkk]
    exact h2
 ·obtain ⟨g0, h1, _⟩ := h.zero
  refine ⟨woken P g g' w' g0, ?_, ?_⟩
  ·show ((s.gs.map (woken P g g' w')).setIfInBounds (s.γ.J + k) g')[0]? = _
   rw [Array.getElem?_setIfInBounds_ne (by omega), Array.getElem?_map, h1]; rfl
  ·show MSt P ty Wg st Base Post s.γ (Deaf (s.t ++ _) 0) _ (upd s.V (s.γ.J + k) v' 0) ms'
   rw [hD 0 (by omega), upd_ne _ _ (by omega)]
   exact hms g0 h1
 ·show ∃ a b tm, w'.heap[s.γ.c k']? = _
  rw [hch k' hk']; exact h.chan k' hk'
 ·show s.γ.shut k' = false ∧ (upd s.S k x' k').says = s.γ.σ k'
  by_cases hkk : k' = k
  ·subst hkk; rw [upd_same, says.1 hc]; exact h.open_ k' hk' hc
  ·rw [upd_ne _ _ hkk]; exact h.open_ k' hk' hc
 ·show (s.γ.σ k' = [.close] ∧ (upd s.S k x' k').says = []) ∨ (∃ tl, s.γ.σ k' = .eof :: tl ∧ s.γ.shut k' = true ∧ ∃ m, (upd s.S k x' k').says = (Say.eof :: tl).drop m)
  by_cases hkk : k' = k
  ·subst hkk
   rw [upd_same]
   obtain ⟨n, hn⟩ := says.2 hc
   rw [hn]
   rcases h.closed k' hk' hc with ⟨a, b⟩ | ⟨tl, a, b, m, c⟩
   ·exact .inl ⟨a, by rw [b]; simp⟩
   ·exact .inr ⟨tl, a, b, m + n, by rw [c, List.drop_drop]⟩
  ·rw [upd_ne _ _ hkk]; exact h.closed k' hk' hc
 ·show upd s.S k x' k' ≠ _
  by_cases hkk : k' = k
  ·subst hkk
   rw [upd_same]
   intro e
   have h1 := (npk y l e).1
   rw [show s.cl k' = true from hc] at h1
   cases h1
  ·rw [upd_ne _ _ hkk]; exact h.nopark k' hk' hc y l
 ·have e' := r7 n k' e
  obtain ⟨h1, h2⟩ := h.meet n k' e'
  refine ⟨h1, ?_⟩
  show ∃ l r, upd s.S k x' k' = _
  by_cases hkk : k' = k
  ·subst hkk; rw [upd_same]; exact tk n e'
  ·rw [upd_ne _ _ hkk]; exact h2
 ·have := h.late (r6 e)
  omega
end
end Go.Proofs.Ythmgpkcijolljaa
