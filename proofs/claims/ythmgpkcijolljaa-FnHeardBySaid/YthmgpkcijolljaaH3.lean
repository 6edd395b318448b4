/-
  The trace beside workers: who knows what, by the worlds that the goroutines see.
-/
import Derived.Test.YthmgpkcijolljaaHKWins
import Derived.Conc.CrowdTrace
namespace Go.Proofs.Ythmgpkcijolljaa
open Go.Conc
open Go.ConcN (PermW fork_knows upd upd_same upd_ne)
set_option linter.unusedSimpArgs false
set_option linter.unusedVariables false
/-- Places of block b. -/
def OfB (b : Nat) (l : Loc) : Prop := l.isMemory = true ∧ l.blockOf = b
/-- Nobody has touched it. -/
def Fresh (t : Trace) (l : Loc) : Prop := ∀ n a, touchAt t n = some a → a.loc ≠ l
structure Tr (t : Trace) (act : Nat → Prop) (V : Nat → World) (Wg : Nat) (Ch : Nat → Nat → Prop) : Prop where
 clean : ∀ said, ¬ Race said t
 own : ∀ i, act i → ∀ l, l.isMemory = true → Wr (V i) l → Perm t i l
 rd : ∀ i, act i → ∀ l, l.isMemory = true → Rd (V i) l → PermW t i l
 wg : ∀ n a, touchAt t n = some a → OfB Wg a.loc → a.kind = .atomic ∨ (a.kind = .said ∧ t.g? n = some 0) ∨ ∀ i, act i → Knows t i n
 ch : ∀ c i, Ch c i → ∀ n a, touchAt t n = some a → a.loc = .obj c → a.kind = .atomic ∨ Knows t i n
/-- What goroutine i may append. -/
def OkU (Ch : Nat → Nat → Prop) (Wg : Nat) (v' : World) (i : Nat) (u : Trace) : Prop :=
 ∀ op ∈ u, op.g = i ∧ ∀ b, op.act.touch? = some b → b.loc.isMemory = true → (Rd v' b.loc ∧ (b.write = true → Wr v' b.loc)) ∨ (OfB Wg b.loc ∧ (b.kind = .atomic ∨ (b.kind = .said ∧ i = 0))) ∨ ∃ c, Ch c i ∧ b = ⟨.obj c, false, .atomic⟩
theorem said_cell {x : MemAct} {b : Touch} (h : x.touch? = some b) (hs : b.kind = .said) : ∃ a, b.loc = .cell a := by
 cases x with
 | access e =>
  have h' : some (⟨e.loc, e.write, if e.sync then .atomic else .plain⟩ : Touch) = some b := h
  obtain rfl := Option.some.inj h'
  dsimp only at hs
  split at hs <;> cases hs
 | mark m =>
  cases m with
  | read a =>
   have h' : some (⟨.cell a, false, .said⟩ : Touch) = some b := h
   obtain rfl := Option.some.inj h'
   exact ⟨a, rfl⟩
  | write a =>
   have h' : some (⟨.cell a, true, .said⟩ : Touch) = some b := h
   obtain rfl := Option.some.inj h'
   exact ⟨a, rfl⟩
  | _ => cases h
 | _ => cases h
/-- i, that sees v', and the others do not meddle. -/
structure Apt (act : Nat → Prop) (V : Nat → World) (Wg : Nat) (i : Nat) (v' : World) : Prop where
 wr : ∀ k, act k → k ≠ i → ∀ l, l.isMemory = true → Wr v' l → ¬ Rd (V k) l
 rd : ∀ k, act k → k ≠ i → ∀ l, l.isMemory = true → Rd v' l → ¬ Wr (V k) l
 wg : ∀ l, OfB Wg l → ¬ Rd v' l
/-- What v' allows v allowed, or it is fresh. -/
structure Grow (t : Trace) (v v' : World) : Prop where
 wr : ∀ l, l.isMemory = true → Wr v' l → Wr v l ∨ Fresh t l
 rd : ∀ l, l.isMemory = true → Rd v' l → Rd v l ∨ Fresh t l
theorem Grow.refl (t : Trace) (v : World) : Grow t v v := ⟨fun _ _ h => .inl h, fun _ _ h => .inl h⟩
section
variable {t u : Trace} {act : Nat → Prop} {V : Nat → World} {Wg i : Nat} {v' : World} {Ch : Nat → Nat → Prop}
theorem g?_app_old {n g : Nat} (h : t.g? n = some g) : (t ++ u).g? n = some g := by
 have hn : n < t.size := by
  unfold Trace.g? at h
  obtain ⟨z, hz, _⟩ := Option.map_eq_some_iff.1 h
  exact lt_size_of_getElem? hz
 rw [g?_old hn]; exact h
theorem touch_app {n : Nat} {a : Touch} (h : touchAt (t ++ u) n = some a) : touchAt t n = some a ∨ ∃ op ∈ u, (t ++ u)[n]? = some op ∧ op.act.touch? = some a := by
 obtain ⟨x, hx, hxa⟩ := touch_of h
 rcases getElem?_append_cases hx with ⟨_, hx'⟩ | ⟨_, hxu⟩
 ·exact .inl (by rw [touchAt_of hx']; exact hxa)
 ·exact .inr ⟨x, hxu, hx, hxa⟩
theorem touch_app' {n : Nat} {a : Touch} (h : touchAt (t ++ u) n = some a) : touchAt t n = some a ∨ (t.size ≤ n ∧ ∃ op ∈ u, (t ++ u)[n]? = some op ∧ op.act.touch? = some a) := by
 obtain ⟨x, hx, hxa⟩ := touch_of h
 rcases getElem?_append_cases hx with ⟨_, hx'⟩ | ⟨h0, hxu⟩
 ·exact .inl (by rw [touchAt_of hx']; exact hxa)
 ·exact .inr ⟨h0, x, hxu, hx, hxa⟩
/-- Goroutine i takes a step. -/
theorem Tr.step (h : Tr t act V Wg Ch) (hi : act i) (hu : OkU Ch Wg v' i u) (hg : Grow t (V i) v') (hA : Apt act V Wg i v') (hw : ∀ k, act k → ∀ l, OfB Wg l → ¬ Rd (V k) l)
  (hc : ∀ c k, Ch c k → (∀ m, act m → ¬ Rd (V m) (.obj c)) ∧ ¬ Rd v' (.obj c)) :
  Tr (t ++ u) act (upd V i v') Wg Ch := by
 have know : ∀ n a, touchAt t n = some a → ∀ l, a.loc = l → l.isMemory = true → (Wr v' l → Knows t i n) ∧ (Rd v' l → a.write = true → Knows t i n) := by
  intro n a ha l hl hm
  refine ⟨fun hW => ?_, fun hR hwr => ?_⟩
  ·rcases hg.wr l hm hW with h1 | h1
   ·exact h.own i hi l hm h1 n a ha hl
   ·exact absurd hl (h1 n a ha)
  ·rcases hg.rd l hm hR with h1 | h1
   ·exact h.rd i hi l hm h1 n a ha hl hwr
   ·exact absurd hl (h1 n a ha)
 refine ⟨fun said => ?_, fun k hk l hm hW => ?_, fun k hk l hm hR => ?_, fun n a ha hb => ?_, fun c k hck n a ha hl => ?_⟩
 ·refine noRace_append (h.clean said) (fun op hop => (hu op hop).1) fun n a ha op hop b hb hc => ?_
  obtain ⟨hloc, hmem, hww, hkk⟩ := hc
  have hmb : b.loc.isMemory = true := hloc ▸ hmem
  rcases (hu op hop).2 b hb hmb with ⟨hR, hW⟩ | ⟨hof, hkind⟩ | ⟨c, hci, hbc⟩
  ·rcases hww with h1 | h1
   ·exact (know n a ha b.loc hloc hmb).2 hR h1
   ·exact (know n a ha b.loc hloc hmb).1 (hW h1)
  ·rcases h.wg n a ha (hloc ▸ hof) with h1 | ⟨h1, h2⟩ | h1
   ·exfalso
    rw [h1] at hkk
    rcases hkk with x | x | ⟨_, x, _⟩
    ·cases x
    ·rcases hkind with y | ⟨y, _⟩ <;> (rw [y] at x; cases x)
    ·cases x
   ·rcases hkind with y | ⟨y, hi0⟩
    ·exfalso
     rw [h1, y] at hkk
     rcases hkk with x | x | ⟨_, _, x⟩ <;> cases x
    ·subst hi0
     unfold Trace.g? at h2
     obtain ⟨z, hz, hzg⟩ := Option.map_eq_some_iff.1 h2
     have := knows_own hz
     rwa [hzg] at this
   ·exact h1 i hi
  ·subst hbc
   rcases h.ch c i hci n a ha hloc with h1 | h1
   ·exfalso
    rw [h1] at hkk
    rcases hkk with x | x | ⟨_, x, _⟩ <;> cases x
   ·exact h1
 ·by_cases hki : k = i
  ·subst hki
   rw [upd_same] at hW
   intro n a ha hl
   rcases touch_app ha with h1 | ⟨op, hop, hn, _⟩
   ·exact ((know n a h1 l hl hm).1 hW).app u
   ·have := knows_own hn
    rwa [(hu op hop).1] at this
  ·rw [upd_ne _ _ hki] at hW
   refine (h.own k hk l hm hW).app fun op hop b hb hl => ?_
   exfalso
   subst hl
   rcases (hu op hop).2 b hb hm with ⟨hR, _⟩ | ⟨hof, _⟩ | ⟨c, hci, rfl⟩
   ·exact hA.rd k hk hki _ hm hR hW
   ·exact hw k hk _ hof (wr_rd hW)
   ·exact (hc c i hci).1 k hk (wr_rd hW)
 ·by_cases hki : k = i
  ·subst hki
   rw [upd_same] at hR
   intro n a ha hl hwr
   rcases touch_app ha with h1 | ⟨op, hop, hn, _⟩
   ·exact ((know n a h1 l hl hm).2 hR hwr).app u
   ·have := knows_own hn
    rwa [(hu op hop).1] at this
  ·rw [upd_ne _ _ hki] at hR
   refine (h.rd k hk l hm hR).app fun op hop b hb hl hwr => ?_
   exfalso
   subst hl
   rcases (hu op hop).2 b hb hm with ⟨_, hW⟩ | ⟨hof, _⟩ | ⟨c, hci, rfl⟩
   ·exact hA.wr k hk hki _ hm (hW hwr) hR
   ·exact hw k hk _ hof hR
   ·exact (hc c i hci).1 k hk hR
 ·rcases touch_app ha with h1 | ⟨op, hop, hn, hx⟩
  ·rcases h.wg n a h1 hb with h2 | ⟨h2, h3⟩ | h2
   ·exact .inl h2
   ·exact .inr (.inl ⟨h2, g?_app_old h3⟩)
   ·exact .inr (.inr fun k hk => (h2 k hk).app u)
  ·rcases (hu op hop).2 a hx hb.1 with ⟨hR, _⟩ | ⟨_, h2 | ⟨h2, h3⟩⟩ | ⟨c, _, rfl⟩
   ·exact absurd hR (hA.wg _ hb)
   ·exact .inl h2
   ·refine .inr (.inl ⟨h2, ?_⟩)
    have hg := (hu op hop).1
    simp [Trace.g?, hn, hg, h3]
   ·exact .inl rfl
 ·rcases touch_app ha with h1 | ⟨op, hop, hn, hx⟩
  ·exact (h.ch c k hck n a h1 hl).imp id fun h2 => h2.app u
  ·have hm : a.loc.isMemory = true := by rw [hl]; rfl
   rcases (hu op hop).2 a hx hm with ⟨hR, _⟩ | ⟨_, h2 | ⟨h2, h3⟩⟩ | ⟨c', _, rfl⟩
   ·rw [hl] at hR; exact absurd hR (hc c k hck).2
   ·exact .inl h2
   ·obtain ⟨b, hb⟩ := said_cell hx h2
    rw [hl] at hb; cases hb
   ·exact .inl rfl
/-- Whoever sees less. -/
theorem Tr.less (h : Tr t act V Wg Ch) {V' : Nat → World} (hW : ∀ k, act k → ∀ l, l.isMemory = true → Wr (V' k) l → Wr (V k) l) (hR : ∀ k, act k → ∀ l, l.isMemory = true → Rd (V' k) l → Rd (V k) l) : Tr t act V' Wg Ch :=
 ⟨h.clean, fun k hk l hm x => h.own k hk l hm (hW k hk l hm x), fun k hk l hm x => h.rd k hk l hm (hR k hk l hm x), h.wg, h.ch⟩
/-- Operations that touch nothing. -/
theorem Tr.mute (h : Tr t act V Wg Ch) {g : Nat} (hu : ∀ op ∈ u, op.g = g) (hn : ∀ op ∈ u, op.act.touch? = none) : Tr (t ++ u) act V Wg Ch := by
 have old : ∀ {n : Nat} {a : Touch}, touchAt (t ++ u) n = some a → touchAt t n = some a := by
  intro n a ha
  rcases touch_app ha with h1 | ⟨op, hop, _, hx⟩
  ·exact h1
  ·rw [hn op hop] at hx; cases hx
 refine ⟨fun said => noRace_append (h.clean said) hu fun n a _ op hop b hb _ => (by rw [hn op hop] at hb; cases hb), fun k hk l hm hW n a ha hl => (h.own k hk l hm hW n a (old ha) hl).app u,
  fun k hk l hm hR n a ha hl hwr => (h.rd k hk l hm hR n a (old ha) hl hwr).app u, fun n a ha hb => ?_, fun c k hck n a ha hl => (h.ch c k hck n a (old ha) hl).imp id fun h2 => h2.app u⟩
 rcases h.wg n a (old ha) hb with h2 | ⟨h2, h3⟩ | h2
 ·exact .inl h2
 ·exact .inr (.inl ⟨h2, g?_app_old h3⟩)
 ·exact .inr (.inr fun k hk => (h2 k hk).app u)
/-- A go statement of goroutine 0's: k sees vc, 0 sees v0 from now on; neither sees more than 0 did. -/
theorem Tr.fork (h : Tr t act V Wg Ch) (h0 : act 0) {k : Nat} {x y : MemOp} (hx : x.g = 0 ∧ x.act = .go k) (hy : y.g = k ∧ y.act = .start) (d0 : Deaf t 0 = 0) (dk : Deaf t k = 0) {v0 vc : World}
  (w0 : ∀ l, l.isMemory = true → Wr v0 l → Wr (V 0) l) (r0 : ∀ l, l.isMemory = true → Rd v0 l → Rd (V 0) l) (wc : ∀ l, l.isMemory = true → Wr vc l → Wr (V 0) l) (rc : ∀ l, l.isMemory = true → Rd vc l → Rd (V 0) l) (hk0 : k ≠ 0) {cc : Nat} (hcc : Wr (V 0) (.obj cc)) :
  Tr (t ++ #[x, y]) (fun i => act i ∨ i = k) (upd (upd V 0 v0) k vc) Wg (fun b i => Ch b i ∨ (b = cc ∧ (i = 0 ∨ i = k))) := by
 have hnt : ∀ op ∈ #[x, y], op.act.touch? = none := by
  intro op hop
  simp only [List.mem_toArray, List.mem_cons, List.not_mem_nil, or_false] at hop
  rcases hop with rfl | rfl
  ·rw [hx.2]; rfl
  ·rw [hy.2]; rfl
 have old : ∀ {n : Nat} {a : Touch}, touchAt (t ++ #[x, y]) n = some a → touchAt t n = some a := by
  intro n a ha
  rcases touch_app ha with h1 | ⟨op, hop, _, hxx⟩
  ·exact h1
  ·rw [hnt op hop] at hxx; cases hxx
 refine ⟨fun said => ?_, fun i hi l hm hW n a ha hl => ?_, fun i hi l hm hR n a ha hl hwr => ?_, fun n a ha hb => ?_, fun b i hbi n a ha hl => ?_⟩
 ·have e : t ++ #[x, y] = (t ++ #[x]) ++ #[y] := by apply Array.ext'; simp
  rw [e]
  refine noRace_append (g := k) (noRace_append (g := 0) (h.clean said) (fun op hop => by simp at hop; rw [hop]; exact hx.1) (fun i a _ op hop b hb _ => ?_)) (fun op hop => by simp at hop; rw [hop]; exact hy.1) (fun i a _ op hop b hb _ => ?_)
  ·have := hnt op (by simp at hop ⊢; exact .inl hop)
   rw [this] at hb; cases hb
  ·have := hnt op (by simp at hop ⊢; exact .inr hop)
   rw [this] at hb; cases hb
 ·by_cases hik : i = k
  ·subst hik
   rw [upd_same] at hW
   exact fork_knows hx hy d0 dk (h.own 0 h0 l hm (wc l hm hW) n a (old ha) hl)
  ·rw [upd_ne _ _ hik] at hW
   have hai := hi.resolve_right hik
   by_cases hi0 : i = 0
   ·subst hi0
    rw [upd_same] at hW
    exact (h.own 0 h0 l hm (w0 l hm hW) n a (old ha) hl).app _
   ·rw [upd_ne _ _ hi0] at hW
    exact (h.own i hai l hm hW n a (old ha) hl).app _
 ·by_cases hik : i = k
  ·subst hik
   rw [upd_same] at hR
   exact fork_knows hx hy d0 dk (h.rd 0 h0 l hm (rc l hm hR) n a (old ha) hl hwr)
  ·rw [upd_ne _ _ hik] at hR
   have hai := hi.resolve_right hik
   by_cases hi0 : i = 0
   ·subst hi0
    rw [upd_same] at hR
    exact (h.rd 0 h0 l hm (r0 l hm hR) n a (old ha) hl hwr).app _
   ·rw [upd_ne _ _ hi0] at hR
    exact (h.rd i hai l hm hR n a (old ha) hl hwr).app _
 ·rcases h.wg n a (old ha) hb with h2 | ⟨h2, h3⟩ | h2
  ·exact .inl h2
  ·exact .inr (.inl ⟨h2, g?_app_old h3⟩)
  ·refine .inr (.inr fun i hi => ?_)
   by_cases hik : i = k
   ·subst hik; exact fork_knows hx hy d0 dk (h2 0 h0)
   ·exact (h2 i (hi.resolve_right hik)).app _
 ·rcases hbi with hbi | ⟨rfl, hbi⟩
  ·exact (h.ch b i hbi n a (old ha) hl).imp id fun h2 => h2.app _
  ·have hkn := h.own 0 h0 _ rfl hcc n a (old ha) hl
   rcases hbi with rfl | rfl
   ·exact .inr (hkn.app _)
   ·exact .inr (fork_knows hx hy d0 dk hkn)
/-- It begins where goroutine 0 is alone with leavers. -/
theorem Tr.start {Shun : Loc → Prop} {B : Nat} (h : Past Shun B t) {v : World} (hh : Hides v Shun) (hw : ∀ l, OfB Wg l → ¬ Shun l) : Tr t (fun i => i = 0) (fun _ => v) Wg (fun _ _ => False) := by
 have all : ∀ n a, touchAt t n = some a → a.loc.isMemory = true → Rd v a.loc → Knows t 0 n := by
  intro n a ha hm hR
  rcases h.known n a ha hm with h1 | ⟨h1, _⟩
  ·exact h1
  ·exact absurd hR (hid_rd (hh _ h1 hm) rfl hm)
 refine ⟨h.clean, fun i hi l hm hW n a ha hl => ?_, fun i hi l hm hR n a ha hl _ => ?_, fun n a ha hb => ?_, fun _ _ x => x.elim⟩
 ·subst hi; subst hl; exact all n a ha hm (wr_rd hW)
 ·subst hi; subst hl; exact all n a ha hm hR
 ·refine .inr (.inr fun i hi => ?_)
  subst hi
  rcases h.known n a ha hb.1 with h1 | ⟨h1, _⟩
  ·exact h1
  ·exact absurd h1 (hw _ hb)
end
end Go.Proofs.Ythmgpkcijolljaa
/-
  The trace beside workers: what is handed over in the end.
-/
namespace Go.Proofs.Ythmgpkcijolljaa
open Go.Conc
open Go.ConcN (PermW fork_knows upd upd_same upd_ne)
set_option linter.unusedSimpArgs false
set_option linter.unusedVariables false
section
variable {t u : Trace} {act : Nat → Prop} {V : Nat → World} {Wg i : Nat} {v' : World} {Ch : Nat → Nat → Prop}
/-- Operations that touch nothing, of whomever. -/
theorem Tr.quiet : ∀ (u : List MemOp) {t : Trace}, Tr t act V Wg Ch → (∀ op ∈ u, op.act.touch? = none) → Tr (t ++ u.toArray) act V Wg Ch
 | [], t, h, _ => by simpa using h
 | x :: l, t, h, hu => by
  have e : t ++ (x :: l).toArray = (t ++ #[x]) ++ l.toArray := by
   apply Array.ext'; simp
  rw [e]
  exact Tr.quiet l (h.mute (u := #[x]) (g := x.g) (fun op hop => by simp at hop; rw [hop]) fun op hop => by simp at hop; rw [hop]; exact hu x (by simp)) fun op hop => hu op (by simp [hop])
end
/-- Where worker k has said its release-and-merge. -/
structure RelAt (a : Addr) (Wg : Nat) (t : Trace) (k p r : Nat) : Prop where
 from_ : p ≤ r
 act : t.act? r = some (.mark (.releaseMerge a))
 g : t.g? r = some k
 heard : t.heard r
 after : ∀ n, r < n → t.g? n = some k → ∀ b, touchAt t n = some b → b.loc.isMemory = true → OfB Wg b.loc ∧ b.kind = .atomic ∧ ¬ t.heard n
/-- p: where it began; J: the first worker's number. -/
structure Hd (t : Trace) (Shun : Loc → Prop) (a : Addr) (Wg B p J : Nat) (rel : Nat → Prop) : Prop where
 past : ∀ n b, touchAt t n = some b → b.loc.isMemory = true → Knows t 0 n ∨ (Shun b.loc ∧ b.kind = .atomic) ∨ ∃ k, J ≤ k ∧ p ≤ n ∧ t.g? n = some k
 over : ∀ n g, t.g? n = some g → g ≠ 0 → (g < J ∨ n < p) → t.counts n → ∃ j, t.g? j = some 0 ∧ HappensBefore t n j
 relJ : ∀ k, rel k → J ≤ k
 rels : ∀ k, rel k → ∃ r, RelAt a Wg t k p r
 norel : ∀ n, p ≤ n → t.act? n ≠ some (.mark (.release a))
 low : ∀ op ∈ t, op.act.low B
 pos : p ≤ t.size
 jpos : 0 < J
section
variable {t u : Trace} {Shun : Loc → Prop} {a : Addr} {Wg B p J : Nat} {rel : Nat → Prop}
theorem act?_app {n : Nat} {x : MemAct} (h : (t ++ u).act? n = some x) : t.act? n = some x ∨ (t.size ≤ n ∧ ∃ op ∈ u, (t ++ u)[n]? = some op ∧ op.act = x) := by
 obtain ⟨op, ho, hx⟩ := Option.map_eq_some_iff.1 h
 rcases getElem?_append_cases ho with ⟨_, h1⟩ | ⟨h0, h1⟩
 ·exact .inl (by simp [Trace.act?, h1, hx])
 ·exact .inr ⟨h0, op, h1, ho, hx⟩
theorem g?_app {n g : Nat} (h : (t ++ u).g? n = some g) : t.g? n = some g ∨ (t.size ≤ n ∧ ∃ op ∈ u, (t ++ u)[n]? = some op ∧ op.g = g) := by
 obtain ⟨op, ho, hx⟩ := Option.map_eq_some_iff.1 h
 rcases getElem?_append_cases ho with ⟨_, h1⟩ | ⟨h0, h1⟩
 ·exact .inl (by simp [Trace.g?, h1, hx])
 ·exact .inr ⟨h0, op, h1, ho, hx⟩
theorem g?_lt {n g : Nat} (h : t.g? n = some g) : n < t.size := by
 obtain ⟨op, ho, _⟩ := Option.map_eq_some_iff.1 h
 exact lt_size_of_getElem? ho
theorem RelAt.app {k r : Nat} (h : RelAt a Wg t k p r) (hu : ∀ n, t.size ≤ n → (t ++ u).g? n = some k → ∀ b, touchAt (t ++ u) n = some b → b.loc.isMemory = true → OfB Wg b.loc ∧ b.kind = .atomic ∧ ¬ (t ++ u).heard n) : RelAt a Wg (t ++ u) k p r := by
 have hr : r < t.size := lt_of_act? h.act
 refine ⟨h.from_, by rw [act?_old hr]; exact h.act, by rw [g?_old hr]; exact h.g, (heard_old hr).2 h.heard, fun n hn hg b hb hm => ?_⟩
 rcases Nat.lt_or_ge n t.size with hlt | hge
 ·rw [touchAt_old hlt] at hb
  obtain ⟨h1, h2, h3⟩ := h.after n hn (by rw [← g?_old (u := u) hlt]; exact hg) b hb hm
  exact ⟨h1, h2, fun e => h3 ((heard_old hlt).1 e)⟩
 ·exact hu n hge hg b hb hm
/-- What may be appended: by goroutine 0; or nothing that touches; or by a worker that has not said its release; or a deaf one's atomic steps on the group. -/
def OkH (t : Trace) (Wg J : Nat) (rel : Nat → Prop) (u : Trace) : Prop :=
 (∀ op ∈ u, op.g = 0) ∨ (∀ op ∈ u, op.act.touch? = none) ∨ (∃ k, J ≤ k ∧ ¬ rel k ∧ ∀ op ∈ u, op.g = k) ∨
  (∃ k, J ≤ k ∧ (∀ op ∈ u, op.g = k ∧ ∀ b, op.act.touch? = some b → OfB Wg b.loc ∧ b.kind = .atomic) ∧ ∀ n, t.size ≤ n → ¬ (t ++ u).heard n)
theorem Hd.app (h : Hd t Shun a Wg B p J rel) {B' : Nat} (hB : B ≤ B') (hu : OkH t Wg J rel u) (hn : ∀ op ∈ u, op.act ≠ .mark (.release a)) (hl : ∀ op ∈ u, op.act.low B') : Hd (t ++ u) Shun a Wg B' p J rel := by
 refine ⟨fun n b hb hm => ?_, fun n g hg h0 hJ hc => ?_, h.relJ, fun k hk => ?_, fun n hp e => ?_, fun op hop => (Array.mem_append.1 hop).elim (fun x => MemAct.low_mono hB (h.low op x)) (hl op), by simp; have := h.pos; omega, h.jpos⟩
 ·rcases touch_app' hb with h1 | ⟨hge, op, hop, hn', hx⟩
  ·rcases h.past n b h1 hm with h2 | h2 | ⟨k, h2, h4, h3⟩
   ·exact .inl (h2.app u)
   ·exact .inr (.inl h2)
   ·exact .inr (.inr ⟨k, h2, h4, g?_app_old h3⟩)
  ·have hown := knows_own hn'
   have hpn : p ≤ n := Nat.le_trans h.pos hge
   rcases hu with h2 | h2 | ⟨k, hk, _, h2⟩ | ⟨k, hk, h2, _⟩
   ·rw [h2 op hop] at hown; exact .inl hown
   ·rw [h2 op hop] at hx; cases hx
   ·exact .inr (.inr ⟨k, hk, hpn, by simp [Trace.g?, hn', h2 op hop]⟩)
   ·exact .inr (.inr ⟨k, hk, hpn, by simp [Trace.g?, hn', (h2 op hop).1]⟩)
 ·have hJ0 := h.jpos
  rcases g?_app hg with h1 | ⟨hge, op, hop, hn', hx⟩
  ·have hlt := g?_lt h1
   obtain ⟨j, hj, hb⟩ := h.over n g h1 h0 hJ ((counts_old hlt).1 hc)
   exact ⟨j, g?_app_old hj, hb_app u hb⟩
  ·obtain ⟨x, hx', _⟩ := hc
   obtain ⟨op', hop', hx''⟩ := touch_of hx'
   rw [hn'] at hop'
   obtain rfl := Option.some.inj hop'
   rcases hu with h2 | h2 | ⟨k, hk, _, h2⟩ | ⟨k, hk, h2, _⟩
   ·exact absurd (hx.symm.trans (h2 op hop)) h0
   ·rw [h2 op hop] at hx''; cases hx''
   ·have := h2 op hop; have := h.pos; omega
   ·have := (h2 op hop).1; have := h.pos; omega
 ·obtain ⟨r, hr⟩ := h.rels k hk
  refine ⟨r, hr.app fun n hn' hg b hb hm => ?_⟩
  obtain ⟨op, hop, hx⟩ := touch_of hb
  rcases getElem?_append_cases hop with ⟨hlt, _⟩ | ⟨_, hopu⟩
  ·omega
  have hgk : op.g = k := by
   simp [Trace.g?, hop] at hg; exact hg
  rcases hu with h2 | h2 | ⟨k', hk', hr', h2⟩ | ⟨k', hk', h2, h3⟩
  ·have h5 := h2 op hopu
   have h6 := h.relJ k hk
   have h7 := h.jpos
   omega
  ·rw [h2 op hopu] at hx; cases hx
  ·exact absurd hk (by rw [← hgk, h2 op hopu]; exact hr')
  ·obtain ⟨h4, h5⟩ := (h2 op hopu).2 b hx
   exact ⟨h4, h5, h3 n hn'⟩
 ·rcases act?_app e with h1 | ⟨_, op, hop, _, hx⟩
  ·exact h.norel n hp h1
  ·exact hn op hop hx
/-- Worker k says its release-and-merge, heard. -/
theorem Hd.release (h : Hd t Shun a Wg B p J rel) {k : Nat} (hk : J ≤ k) (hr : ¬ rel k) {x : MemOp} (hx : x.g = k ∧ x.act = .mark (.releaseMerge a)) (hd : Deaf t k = 0) (ha : a.block < B) :
  Hd (t ++ #[x]) Shun a Wg B p J (fun i => rel i ∨ i = k) := by
 have h1 := h.app (u := #[x]) (Nat.le_refl B) (.inr (.inr (.inl ⟨k, hk, hr, fun op hop => by simp at hop; rw [hop]; exact hx.1⟩))) (fun op hop => by simp at hop; rw [hop, hx.2]; simp) (fun op hop => by simp at hop; rw [hop, hx.2]; exact ha)
 have hxp : (t ++ #[x])[t.size]? = some x := by rw [Array.getElem?_append_right (Nat.le_refl _)]; simp
 refine ⟨h1.past, h1.over, fun i hi => hi.elim (h.relJ i) (fun e => e ▸ hk), fun i hi => ?_, h1.norel, h1.low, h1.pos, h1.jpos⟩
 rcases hi with hi | rfl
 ·exact h1.rels i hi
 ·refine ⟨t.size, h.pos, by rw [act?_of hxp, hx.2], by simp [Trace.g?, hx.1], ⟨i, by simp [Trace.g?, hx.1], by rw [deaf_old (Nat.le_refl _)]; exact hd⟩, fun n hn hg => ?_⟩
  have := g?_lt hg
  simp at this
  omega
/-- Goroutine 0, hearing, says its acquire behind all workers' releases. -/
theorem Hd.done {x : MemOp} (h : Hd t Shun a Wg B p J rel) (hc : ∀ said, ¬ Race said (t ++ #[x])) (hx : x.g = 0 ∧ x.act = .mark (.acquire a)) (hd : Deaf t 0 = 0) (ha : a.block < B) (all : ∀ n k, p ≤ n → J ≤ k → t.g? n = some k → rel k) :
  Past (fun l => Shun l ∨ OfB Wg l) B (t ++ #[x]) := by
 have h1 := h.app (u := #[x]) (Nat.le_refl B) (.inl fun op hop => by simp at hop; rw [hop]; exact hx.1) (fun op hop => by simp at hop; rw [hop, hx.2]; simp) (fun op hop => by simp at hop; rw [hop, hx.2]; exact ha)
 have hxp : (t ++ #[x])[t.size]? = some x := by rw [Array.getElem?_append_right (Nat.le_refl _)]; simp
 have hh : (t ++ #[x]).heard t.size := ⟨0, by simp [Trace.g?, hx.1], by rw [deaf_old (Nat.le_refl _)]; exact hd⟩
 have edge : ∀ r k, RelAt a Wg (t ++ #[x]) k p r → r < t.size → HappensBefore (t ++ #[x]) r t.size := fun r k hr hlt =>
  .single (.inr ⟨.marked hlt (.inr hr.act) (by rw [act?_of hxp, hx.2]) (fun n h2 h3 => h1.norel n (Nat.le_trans hr.from_ (Nat.le_of_lt h2))), hr.heard, hh⟩)
 have allk : ∀ n k, p ≤ n → J ≤ k → (t ++ #[x]).g? n = some k → ∃ r, RelAt a Wg (t ++ #[x]) k p r ∧ r < t.size ∧ n < t.size := by
  intro n k hpn hk hg
  have hj := h.jpos
  rcases g?_app hg with h2 | ⟨_, op, hop, _, h3⟩
  ·obtain ⟨r, hr⟩ := h.rels k (all n k hpn hk h2)
   obtain ⟨r', hr'⟩ := h1.rels k (all n k hpn hk h2)
   refine ⟨r', hr', ?_, g?_lt h2⟩
   have h4 := hr'.act
   rcases act?_app h4 with h5 | ⟨_, op, hop, _, h6⟩
   ·exact lt_of_act? h5
   ·simp at hop; rw [hop, hx.2] at h6; cases h6
  ·simp at hop; rw [hop, hx.1] at h3; omega
 have upto : ∀ n k r, RelAt a Wg (t ++ #[x]) k p r → r < t.size → (t ++ #[x]).g? n = some k → n ≤ r → HappensBefore (t ++ #[x]) n t.size := by
  intro n k r hr hlt hg hle
  rcases Nat.lt_or_ge n r with h2 | h2
  ·exact .trans (.single (.inl ⟨h2, k, hg, hr.g⟩)) (edge r k hr hlt)
  ·obtain rfl : n = r := by omega
   exact edge n k hr hlt
 refine ⟨hc, fun n b hb hm => ?_, fun n g hg h0 hcn => ?_, ?_, h1.low⟩
 ·rcases h1.past n b hb hm with h2 | ⟨h2, h3⟩ | ⟨k, hk, hpn, hg⟩
  ·exact .inl h2
  ·exact .inr ⟨.inl h2, h3⟩
  ·obtain ⟨r, hr, hlt, _⟩ := allk n k hpn hk hg
   rcases Nat.lt_or_ge r n with h2 | h2
   ·obtain ⟨h3, h4, _⟩ := hr.after n h2 hg b hb hm
    exact .inr ⟨.inr h3, h4⟩
   ·exact .inl ⟨t.size, x, hxp, hx.1, .inr (upto n k r hr hlt hg h2)⟩
 ·by_cases hJ : g < J ∨ n < p
  ·exact h1.over n g hg h0 hJ hcn
  ·obtain ⟨r, hr, hlt, _⟩ := allk n g (by omega) (by omega) hg
   rcases Nat.lt_or_ge r n with h2 | h2
   ·exfalso
    obtain ⟨y, hy, hm, hk⟩ := hcn
    obtain ⟨_, h4, h5⟩ := hr.after n h2 hg y hy hm
    exact hk.elim (fun e => e h4) h5
   ·exact ⟨t.size, by simp [Trace.g?, hx.1], upto n g r hr hlt hg h2⟩
 ·rw [show t ++ #[x] = t ++ #[x] from rfl, Deaf_push]
  simp [deafStep, hx.2, hd]
/-- It begins where goroutine 0 is alone with leavers. -/
theorem Hd.start (h : Past Shun B t) (hJ : 0 < J) : Hd t Shun a Wg B t.size J (fun _ => False) :=
 ⟨fun n b hb hm => (h.known n b hb hm).imp id .inl, fun n g hg h0 _ hc => h.over n g hg h0 hc, fun _ h => h.elim, fun _ h => h.elim, fun n hn e => by have := lt_of_act? e; omega, h.seen, Nat.le_refl _, hJ⟩
end
end Go.Proofs.Ythmgpkcijolljaa
/-
  Seen worlds side by side: what one does leaves what the others see.
-/
namespace Go.Proofs.Ythmgpkcijolljaa
open Go.Conc
open Go.ConcN (PermW fork_knows upd upd_same upd_ne)
set_option linter.unusedSimpArgs false
set_option linter.unusedVariables false
theorem Blq.trans {a b c : Obj} (h : Blq a b) (k : Blq b c) : Blq a c := by
 cases h with
 | hid => exact .hid _
 | cells cs e f f' hf =>
  cases k with
  | cells _ _ _ f'' hf' => exact .cells _ _ _ _ ⟨fun i hi => hf.1 i (hf'.1 i hi), fun x => hf'.2 (hf.2 x)⟩
 | map => cases k; exact .map _ _
 | chan => cases k; exact .chan _ _ _ _ _ _
 | number => cases k; exact .number _ _
section
variable {P : Program}
theorem Veil.trans {u v w : World} (h : Veil P u v) (k : Veil P v w) : Veil P u w := by
 refine ⟨Nat.le_trans h.size k.size, fun b o e => ?_, h.flat⟩
 obtain ⟨o', e', hb⟩ := h.blk b o e
 obtain ⟨o'', e'', hb'⟩ := k.blk b o' e'
 exact ⟨o'', e'', hb.trans hb'⟩
theorem Veil.rd {v w : World} (h : Veil P v w) {l : Loc} (hr : Rd v l) : Rd w l := by
 cases l with
 | cell a =>
  obtain ⟨x, hx⟩ := Option.ne_none_iff_exists'.1 hr
  show w.cell? a ≠ none
  rw [h.cell hx]; simp
 | obj r =>
  obtain ⟨o, h1, h2⟩ := hr
  obtain ⟨o', h3, h4⟩ := h.blk _ _ h1
  refine ⟨o', h3, ?_⟩
  cases h4 <;> first | exact h2 | exact h2.elim
 | output => exact hr
 | goroutines => exact hr
 | mark m => exact hr
theorem Veil.wr {v w : World} (h : Veil P v w) {l : Loc} (hr : Wr v l) : Wr w l := by
 cases l with
 | cell a =>
  obtain ⟨x, hx⟩ := Option.ne_none_iff_exists'.1 hr.1
  refine ⟨?_, h.thaw hx hr.2⟩
  rw [h.cell hx]; simp
 | obj r => exact h.rd (l := .obj r) hr
 | output => exact hr
 | goroutines => exact hr
 | mark m => exact hr
theorem frozen_all {v : World} {b : Nat} {c : Array Value} {e : TypeId} {f : Nat × Nat} (h : v.heap[b]? = some (.cells c e f)) (hw : ∀ l, l.isMemory = true → l.blockOf = b → ¬ Wr v l) : ∀ i, i < c.size → inFr f i := by
 intro i hi
 apply Classical.byContradiction
 intro hn
 refine hw (.cell ⟨b, i, none⟩) rfl rfl ⟨?_, ?_⟩
 ·exact rd_cell_size.2 ⟨c, e, f, h, rfl, hi⟩
 ·have hn' : ¬ (f.1 ≤ i ∧ i < f.2) := hn
  simp only [World.frozen?, h, Bool.and_eq_false_iff, decide_eq_false_iff_not]
  omega
/-- What another sees at all nobody else can turn. -/
theorem shut_of_seen {vi vk w : World} (hi : Veil P vi w) (hk : Veil P vk w) {n : Nat} {b : Nat} {o : Obj} (ho : vk.heap[b]? = some o) (hh : o ≠ hid) (hn : b < n)
  (apt : ∀ l, l.isMemory = true → Wr vi l → ¬ Rd vk l) : Shut (vi.upto n) b := by
 by_cases hb : b < vi.heap.size
 ·have e : vi.heap[b]? = some vi.heap[b] := Array.getElem?_eq_getElem hb
  have eu : (vi.upto n).heap[b]? = some vi.heap[b] := by rw [upto_get hb]; exact e
  obtain ⟨o', h1, h2⟩ := hi.blk _ _ e
  obtain ⟨o'', h3, h4⟩ := hk.blk _ _ ho
  rw [h1] at h3
  obtain rfl := Option.some.inj h3
  generalize hx : vi.heap[b] = x at *
  cases h2 with
  | hid => exact .inl eu
  | cells cs ty f f' hf =>
   refine .inr ⟨cs, ty, f, eu, frozen_all e fun l hm hl hw => ?_⟩
   refine apt l hm hw ?_
   cases h4 with
   | hid => exact absurd rfl hh
   | cells _ _ g _ hg =>
    cases l with
    | cell a =>
     obtain ⟨c2, e2, f2, h5, h6, h7⟩ := rd_cell_size.1 hw.1
     have ha : a.block = b := hl
     rw [ha, e] at h5
     cases h5
     exact rd_cell_size.2 ⟨cs, ty, g, by rw [ha]; exact ho, h6, h7⟩
    | obj r =>
     obtain ⟨o2, h5, h6⟩ := hw
     have hr : r = b := hl
     rw [hr, e] at h5
     cases h5
     exact h6.elim
    | output => exact hw.elim
    | goroutines => exact hw.elim
    | mark m => exact hw.elim
  | map es j =>
   exfalso
   refine apt (.obj b) rfl ⟨_, e, trivial⟩ ?_
   cases h4 with
   | hid => exact absurd rfl hh
   | map => exact ⟨_, ho, trivial⟩
  | chan =>
   exfalso
   refine apt (.obj b) rfl ⟨_, e, trivial⟩ ?_
   cases h4 with
   | hid => exact absurd rfl hh
   | chan => exact ⟨_, ho, trivial⟩
  | number =>
   exfalso
   refine apt (.obj b) rfl ⟨_, e, trivial⟩ ?_
   cases h4 with
   | hid => exact absurd rfl hh
   | number => exact ⟨_, ho, trivial⟩
 ·exact .inl (upto_new (by omega) hn)
/-- k's seen world stands while i, with vi, takes a step. -/
theorem Veil.beside {vi vk w v' w' : World} {n : Nat} {t : Nat → Question → Nat} {d : Nat} (hi : Veil P vi w) (hk : Veil P vk w) (apt : ∀ l, l.isMemory = true → Wr vi l → ¬ Rd vk l) (hn : n = w.heap.size)
  (hf : Fol P ((vi.upto n).re t d) w v' w') : Veil P vk w' := by
 have hsz : vi.heap.size ≤ w.heap.size := hi.size
 have hgrow : w.heap.size ≤ w'.heap.size := by
  have h1 := hf.grow
  have h2 := hf.size
  have h3 : ((vi.upto n).re t d).heap.size = max n vi.heap.size := upto_size
  omega
 refine ⟨Nat.le_trans hk.size hgrow, fun b o ho => ?_, hk.flat⟩
 obtain ⟨o', h1, h2⟩ := hk.blk b o ho
 have hbw : b < w.heap.size := (Array.getElem?_eq_some_iff.1 h1).1
 by_cases hh : o = hid
 ·subst hh
  have hb' : b < w'.heap.size := Nat.lt_of_lt_of_le hbw hgrow
  exact ⟨w'.heap[b], Array.getElem?_eq_getElem hb', .hid _⟩
 ·have hs : Shut (vi.upto n) b := shut_of_seen hi hk ho hh (by omega) apt
  refine ⟨o', ?_, h2⟩
  rw [(hf.shut b hs).2]; exact h1
/-- It sees nothing of block b. -/
def Blind (v : World) (b : Nat) : Prop := ∀ o, v.heap[b]? = some o → o = hid
theorem Blind.rd {v : World} {b : Nat} (h : Blind v b) {l : Loc} (hl : OfB b l) : ¬ Rd v l := by
 intro hr
 have hb := rd_lt hr
 rw [hl.2] at hb
 have e : v.heap[b]? = some v.heap[b] := Array.getElem?_eq_getElem hb
 have e2 := h _ e
 rw [e2] at e
 exact hid_rd e hl.2 hl.1 hr
theorem Blind.of_hid {v : World} {b : Nat} (h : v.heap[b]? = some hid) : Blind v b := fun o e => by rw [h] at e; exact (Option.some.inj e).symm
theorem blk_of_hid {o : Obj} (h : Blq o hid) : o = hid := by
 generalize hx : (hid : Obj) = x at h
 cases h with
 | hid => exact hx
 | _ => cases hx
theorem Blind.less {P : Program} {u v : World} {b : Nat} (h : Blind v b) (hv : Veil P u v) : Blind u b := by
 intro o e
 obtain ⟨o', h1, h2⟩ := hv.blk _ _ e
 have := h _ h1
 subst this
 exact blk_of_hid h2
theorem Blind.hidUp {v : World} {b n : Nat} (h : Blind v b) (hb : b < n) : (v.upto n).heap[b]? = some hid := by
 by_cases hv : b < v.heap.size
 ·have e : v.heap[b]? = some v.heap[b] := Array.getElem?_eq_getElem hv
  have e2 := h _ e
  rw [upto_get hv, e, e2]
 ·exact upto_new (by omega) hb
/-- A block that is hidden to k turns. -/
theorem Veil.turn {P : Program} {v w w' : World} (h : Veil P v w) {c : Nat} (hc : Blind v c) (hs : w.heap.size ≤ w'.heap.size) (ho : ∀ b, b ≠ c → b < w.heap.size → w'.heap[b]? = w.heap[b]?) : Veil P v w' := by
 refine ⟨Nat.le_trans h.size hs, fun b o e => ?_, h.flat⟩
 obtain ⟨o', h1, h2⟩ := h.blk b o e
 have hbw : b < w.heap.size := (Array.getElem?_eq_some_iff.1 h1).1
 by_cases hb : b = c
 ·subst hb
  obtain rfl := hc _ e
  exact ⟨w'.heap[b]'(by omega), Array.getElem?_eq_getElem _, .hid _⟩
 ·exact ⟨o', by rw [ho b hb hbw]; exact h1, h2⟩
end
end Go.Proofs.Ythmgpkcijolljaa
