/-
  Goroutine 0 beside others that only leave: what it takes to bring the run to a good end.
-/
import Derived.Test.YthmgpkcijolljaaHKTh
namespace Go.Proofs.Ythmgpkcijolljaa
open Go.Conc
open Go.ConcN (sumTo upd sumTo_upd upd_ne upd_same)
set_option linter.unusedSimpArgs false
set_option linter.unusedVariables false
def Ends (P : Program) (Post : Value → World → Prop) (m : Machine) (t : Trace) : Prop :=
 ∃ N last o w' t', runNT P (N + 1) m t = (.ended o w', t') ∧ runN P N m = .next last ∧ step P last = .ended o w' ∧ Good P Post last o w' t'
section
variable {P : Program} {Post : Value → World → Prop}
theorem Ends.step {m m' : Machine} {t : Trace} {ops : Array MemOp} (h : stepT P m = (.next m', ops)) (he : Ends P Post m' (t ++ ops)) : Ends P Post m t := by
 obtain ⟨N, last, o, w', t', h1, h2, h3, h4⟩ := he
 exact ⟨N + 1, last, o, w', t', by rw [runNT_succ_next h]; exact h1, by rw [runN_succ_next h]; exact h2, h3, h4⟩
theorem Ends.mono {Post' : Value → World → Prop} {m : Machine} {t : Trace} (h : Ends P Post m t) (hp : ∀ x w, Post x w → Post' x w) : Ends P Post' m t := by
 obtain ⟨N, last, o, w', t', h1, h2, h3, h4⟩ := h
 exact ⟨N, last, o, w', t', h1, h2, h3, h4.elim fun v x => ⟨v, x.1, hp v _ x.2.1, x.2.2⟩⟩
/-- What nobody may write is as it was. -/
def Stay (v w w' : World) : Prop := w'.os = w.os ∧ w'.output = w.output ∧ ∀ b : Nat, Shut v b → w'.heap[b]? = w.heap[b]?
theorem Fol.stay {v w v' w' w'' : World} (h : Fol P v w v' w') (k : Stay v' w' w'') : Stay v w w'' :=
 ⟨k.1.trans h.os, k.2.1.trans h.output, fun b hb => (k.2.2 b (h.shut_of hb)).trans (h.shut b hb).2⟩
theorem Shut.of_get {v v' : World} {b : Nat} (h : Shut v b) (e : v'.heap[b]? = v.heap[b]?) : Shut v' b := by
 rcases h with h | ⟨c, t, f, h, hf⟩
 ·exact .inl (e.trans h)
 ·exact .inr ⟨c, t, f, e.trans h, hf⟩
theorem Shut.less {v v' : World} {b : Nat} (h : Shut v b) (hV : Veil P v' v) (hs : b < v'.heap.size) : Shut v' b := by
 obtain ⟨o, h1, h2⟩ := hV.blk b _ (Array.getElem?_eq_getElem hs)
 have h3 : v'.heap[b]? = some v'.heap[b] := Array.getElem?_eq_getElem hs
 revert h2 h3
 generalize v'.heap[b] = x
 intro h2 h3
 rcases h with h | ⟨c, t, f, h, hf⟩
 ·rw [h] at h1
  obtain rfl := Option.some.inj h1
  cases h2
  exact .inl h3
 ·rw [h] at h1
  obtain rfl := Option.some.inj h1
  cases h2 with
  | hid => exact .inl h3
  | cells _ _ f' _ hff => exact .inr ⟨c, t, f', h3, fun i hi => hff.1 i (hf i hi)⟩
/-- The blocks that are hidden to all; those that nobody may write; the world at the start. -/
structure Bs where
 hid : Nat → Prop
 shut : Nat → Prop
 w : World
instance : CoeFun Bs (fun _ => Nat → Prop) := ⟨Bs.hid⟩
def Bs.ok (B : Bs) (w : World) : Prop := w.os = B.w.os ∧ w.output = B.w.output ∧ ∀ b : Nat, B.shut b → w.heap[b]? = B.w.heap[b]?
def Bs.post (B : Bs) (Post : Value → World → Prop) (x : Value) (w : World) : Prop := Post x w ∧ B.ok w
/-- What is shunned lies in hidden blocks. -/
def Hides (v : World) (Shun : Loc → Prop) : Prop := ∀ l, Shun l → l.isMemory = true → v.heap[l.blockOf]? = some hid
/-- Between two calls that go. -/
structure Fr (P : Program) (gs : Array Goroutine) (w : World) (t : Trace) (q : Nat → Nat) (Shun : Loc → Prop) (a : Goroutine) (v : World) : Prop where
 h0 : gs[0]? = some a
 leavers : Leavers P t gs q
 past : Past Shun w.heap.size t
 veil : Veil P v w
 size : w.heap.size = v.heap.size
 hide : Hides v Shun
def Wins (P : Program) (Post : Value → World → Prop) (a : Goroutine) (v : World) : Prop :=
 ∀ (gs : Array Goroutine) (w : World) (sl : Option (Nat × Nat)) (t : Trace) (q : Nat → Nat) (Shun : Loc → Prop), Fr P gs w t q Shun a v → Ends P (fun x w' => Post x w' ∧ Stay v w w') (crowd gs w sl) t
theorem hid_rd {v : World} {b : Nat} (h : v.heap[b]? = some hid) {l : Loc} (hl : l.blockOf = b) (hm : l.isMemory = true) : ¬ Rd v l := by
 intro hr
 cases l with
 | cell a =>
  obtain ⟨c, e, f, h1, _⟩ := rd_cell_size.1 hr
  have hl' : a.block = b := hl
  rw [hl', h] at h1
  cases h1
 | obj r =>
  obtain ⟨o, h1, h2⟩ := hr
  have hl' : r = b := hl
  rw [hl', h] at h1
  cases h1
  exact h2
 | output => cases hm
 | goroutines => cases hm
 | mark m => cases hm
theorem wr_rd {v : World} {l : Loc} (h : Wr v l) : Rd v l := by cases l <;> first | exact h.1 | exact h
theorem evOk_touch {v : World} {e : Event} (h : EvOk v e) {x : Touch} (hx : (MemAct.ofEvent e).touch? = some x) : x.loc = e.loc ∧ x.loc.isMemory = true ∧ Rd v x.loc ∧ (x.write = true → Wr v x.loc) := by
 obtain ⟨loc, wr, sy⟩ := e
 cases loc with
 | cell a =>
  have : MemAct.ofEvent ⟨.cell a, wr, sy⟩ = .access ⟨.cell a, wr, sy⟩ := by cases wr <;> cases sy <;> rfl
  rw [this] at hx
  simp only [MemAct.touch?, Option.some.injEq] at hx
  subst hx
  exact ⟨rfl, rfl, h.1, h.2.1⟩
 | obj r =>
  cases hact : MemAct.ofEvent ⟨.obj r, wr, sy⟩ with
  | access e' =>
   have : e' = ⟨.obj r, wr, sy⟩ := by cases wr <;> cases sy <;> simp [MemAct.ofEvent] at hact <;> exact hact.symm
   subst this
   rw [hact] at hx
   simp only [MemAct.touch?, Option.some.injEq] at hx
   subst hx
   exact ⟨rfl, rfl, wr_rd (l := .obj r) h, fun _ => h⟩
  | close c => rw [hact] at hx; cases hx
  | _ => cases wr <;> cases sy <;> simp [MemAct.ofEvent] at hact
 | output => exact h.elim
 | goroutines => exact h.elim
 | mark m =>
  have hm : m = .noRoom := h
  subst hm
  have : MemAct.ofEvent ⟨.mark .noRoom, wr, sy⟩ = .mark .noRoom := by cases wr <;> cases sy <;> rfl
  rw [this] at hx
  cases hx
theorem evOk_low {v : World} {e : Event} (h : EvOk v e) : (MemAct.ofEvent e).low v.heap.size := by
 obtain ⟨loc, wr, sy⟩ := e
 cases loc with
 | cell a =>
  have : MemAct.ofEvent ⟨.cell a, wr, sy⟩ = .access ⟨.cell a, wr, sy⟩ := by cases wr <;> cases sy <;> rfl
  rw [this]
  exact rd_lt (l := .cell a) h.1
 | obj r =>
  have hr : r < v.heap.size := rd_lt (l := .obj r) (wr_rd (l := .obj r) h)
  cases wr <;> cases sy <;> exact hr
 | output => exact h.elim
 | goroutines => exact h.elim
 | mark m =>
  have hm : m = .noRoom := h
  subst hm
  have : MemAct.ofEvent ⟨.mark .noRoom, wr, sy⟩ = .mark .noRoom := by cases wr <;> cases sy <;> rfl
  rw [this]
  trivial
theorem evOk_mark {v : World} {e : Event} (h : EvOk v e) : e.loc ≠ .mark .disable ∧ e.loc ≠ .mark .enable ∧ ∀ a, e.loc ≠ .mark (.release a) := by
 obtain ⟨loc, wr, sy⟩ := e
 cases loc with
 | mark m =>
  have hm : m = .noRoom := h
  subst hm
  exact ⟨by simp, by simp, by simp⟩
 | _ => exact ⟨by simp, by simp, by simp⟩
theorem evOk_evL {v : World} {e : Event} (h : EvOk v e) {Shun : Loc → Prop} (hh : Hides v Shun) : EvL Shun v.heap.size e := by
 refine ⟨fun x hx hs => ?_, (evOk_mark h).1, (evOk_mark h).2.1, evOk_low h⟩
 obtain ⟨_, hm, hr, _⟩ := evOk_touch h hx
 exact absurd hr (hid_rd (hh _ hs hm) rfl hm)
theorem Veil.atW {v w : World} (h : Veil P v w) (d : Nat) : Veil P v (w.at d) := ⟨h.size, h.blk, h.flat⟩
theorem Fol.hides {v w v' w' : World} (h : Fol P v w v' w') {Shun : Loc → Prop} (hh : Hides v Shun) : Hides v' Shun := fun l hl hm => by
 rw [(h.shut l.blockOf (.inl (hh l hl hm))).1]
 exact hh l hl hm
theorem fr_step0 {gs : Array Goroutine} {w w' : World} {t : Trace} {q : Nat → Nat} {Shun : Loc → Prop} {a a' : Goroutine} {v v' : World} {es : Array Event} {d : Nat} (h : Fr P gs w t q Shun a v)
  (hf : Fol P ((v.upto (w.at d).heap.size).re (w.at d).tape (w.at d).drawn) (w.at d) v' w') (ho : ∀ e ∈ es, EvOk v' e) : Fr P ((gs.map (woken P a a' w')).setIfInBounds 0 a') w' (t ++ MemOp.ofEvents 0 a.frame.fn a.frame.place es) q Shun a' v' := by
 have hlt : 0 < gs.size := (Array.getElem?_eq_some_iff.1 h.h0).1
 have e : v.upto (w.at d).heap.size = v := upto_le (by show w.heap.size ≤ _; rw [h.size]; exact Nat.le_refl _)
 rw [e] at hf
 have hh : Hides v' Shun := hf.hides (v := v.re (w.at d).tape (w.at d).drawn) h.hide
 refine ⟨by simp [hlt], ⟨fun j x hj hx => ?_, fun j hj => ?_⟩, ?_, hf.veil, hf.size, hh⟩
 ·have hne : 0 ≠ j := by omega
  rw [Array.getElem?_setIfInBounds_ne hne, Array.getElem?_map] at hx
  obtain ⟨y, hy, rfl⟩ := Option.map_eq_some_iff.1 hx
  have hq := h.leavers.old j y hj hy
  rw [woken_quitsD hq, Deaf_other t (by omega) _ (fun op hop => by obtain ⟨e, _, rfl⟩ := Go.Conc.mem_ofEvents hop; rfl)]
  exact hq
 ·rw [Deaf_other t (g' := 0) (by simp at hj; omega) _ (fun op hop => by obtain ⟨e, _, rfl⟩ := Go.Conc.mem_ofEvents hop; rfl)]
  exact h.leavers.above j (by simpa using hj)
 ·have hgrow : w.heap.size ≤ w'.heap.size := by
   have h1 := hf.grow
   have h2 := hf.size
   have h3 : (v.re (w.at d).tape (w.at d).drawn).heap.size = v.heap.size := rfl
   have h4 := h.size
   omega
  refine (h.past.mono hgrow).own fun e he => ?_
  rw [hf.size]
  exact evOk_evL (ho e he) hh
/-- ████ BESIDE LEAVERS the lone way is the machine's. ████ -/
theorem wins_ok : KOk P true false false (fun _ => True) (Wins P Post) := by
 refine ⟨fun a v hrun hstep => ?_, fun a v t d h gs w sl tr q Shun hF => h gs w sl tr q Shun ⟨hF.h0, hF.leavers, hF.past, hF.veil.re t d, hF.size, hF.hide⟩, fun h => by cases h⟩
 have key : ∀ (M : Nat) (gs : Array Goroutine) (w : World) (sl : Option (Nat × Nat)) (t : Trace) (q : Nat → Nat) (Shun : Loc → Prop), sumTo gs.size q ≤ M → Fr P gs w t q Shun a v → Ends P (fun x w' => Post x w' ∧ Stay v w w') (crowd gs w sl) t := by
  intro M
  induction M with
  | zero =>
   intro gs w sl t q Shun hM hF
   have haw : ∀ g ∈ gs, awake g := by
    intro g hg
    obtain ⟨i, hi, rfl⟩ := Array.mem_iff_getElem.1 hg
    rcases Nat.eq_zero_or_pos i with rfl | hpos
    ·have : gs[0] = a := by simpa [Array.getElem?_eq_getElem hi] using hF.h0
     rw [this]; exact awake_of (.inl hrun)
    ·exact awake_of ((hF.leavers.old i _ hpos (Array.getElem?_eq_getElem hi)).status.elim .inl fun x => .inr (.inr x))
   obtain ⟨i, g, d, sl', hi, hg, hst⟩ := crowd_pick (P := P) (w := w) (sl := sl) haw ⟨0, a, hF.h0, hrun⟩
   rcases Nat.eq_zero_or_pos i with rfl | hpos
   ·obtain rfl : g = a := by have := hF.h0; rw [hi] at this; exact Option.some.inj this
    obtain ⟨a', v', w', es, h1, h2, h3, _, h4⟩ := hstep (w.at d) (hF.veil.atW d) (fun _ => hF.size) trivial
    have hr := runT_crowd_go (P := P) (sl := sl') (i := 0) hi (show stepG P (0 == 0) g (w.at d) = _ from h1)
    refine Ends.step (hst.trans hr) ((h4 _ _ _ _ q Shun (fr_step0 hF h2 h3)).mono fun x wf hx => ⟨hx.1, ?_⟩)
    have hs := h2.stay hx.2
    rw [upto_le (v := v) (by show w.heap.size ≤ _; rw [hF.size]; exact Nat.le_refl _)] at hs
    exact hs
   ·have hq := hF.leavers.old i g hpos hi
    have hqi : q i = 0 := by
     have := Go.ConcN.le_sumTo (f := q) (Array.getElem?_eq_some_iff.1 hi).1
     omega
    rw [hqi] at hq
    rw [hq.1] at hg; cases hg
  | succ M ih =>
   intro gs w sl t q Shun hM hF
   have haw : ∀ g ∈ gs, awake g := by
    intro g hg
    obtain ⟨i, hi, rfl⟩ := Array.mem_iff_getElem.1 hg
    rcases Nat.eq_zero_or_pos i with rfl | hpos
    ·have : gs[0] = a := by simpa [Array.getElem?_eq_getElem hi] using hF.h0
     rw [this]; exact awake_of (.inl hrun)
    ·exact awake_of ((hF.leavers.old i _ hpos (Array.getElem?_eq_getElem hi)).status.elim .inl fun x => .inr (.inr x))
   obtain ⟨i, g, d, sl', hi, hg, hst⟩ := crowd_pick (P := P) (w := w) (sl := sl) haw ⟨0, a, hF.h0, hrun⟩
   rcases Nat.eq_zero_or_pos i with rfl | hpos
   ·obtain rfl : g = a := by have := hF.h0; rw [hi] at this; exact Option.some.inj this
    obtain ⟨a', v', w', es, h1, h2, h3, _, h4⟩ := hstep (w.at d) (hF.veil.atW d) (fun _ => hF.size) trivial
    have hr := runT_crowd_go (P := P) (sl := sl') (i := 0) hi (show stepG P (0 == 0) g (w.at d) = _ from h1)
    refine Ends.step (hst.trans hr) ((h4 _ _ _ _ q Shun (fr_step0 hF h2 h3)).mono fun x wf hx => ⟨hx.1, ?_⟩)
    have hs := h2.stay hx.2
    rw [upto_le (v := v) (by show w.heap.size ≤ _; rw [hF.size]; exact Nat.le_refl _)] at hs
    exact hs
   ·-- a leaver slips
    have hq := hF.leavers.old i g hpos hi
    have hi0 : (i == 0) = false := by simp; omega
    have hlt : i < gs.size := (Array.getElem?_eq_some_iff.1 hi).1
    cases hqi : q i with
    | zero => rw [hqi] at hq; rw [hq.1] at hg; cases hg
    | succ k =>
     rw [hqi] at hq
     rcases hq with ⟨hf, _⟩ | ⟨_, g', es, hm, hstp, hq'⟩
     ·rw [hf] at hg; cases hg
     have hrunT := runT_crowd_go (P := P) (sl := sl') (i := i) hi (by rw [hi0]; exact hstp (w.at d))
     have hsz : ((gs.map (woken P g g' (w.at d))).setIfInBounds i g').size = gs.size := by simp
     have hsum : sumTo gs.size (upd q i k) + (k + 1) = sumTo gs.size q + k := by
      have := sumTo_upd q k id hlt
      simpa [hqi] using this
     refine Ends.step (hst.trans hrunT) (ih _ (w.at d) sl' _ (upd q i k) Shun (by rw [hsz]; omega) ⟨?_, ⟨fun j x hj hx => ?_, fun j hj => ?_⟩, ?_, hF.veil.atW d, hF.size, hF.hide⟩)
     ·have hne : i ≠ 0 := by omega
      rw [Array.getElem?_setIfInBounds_ne hne, Array.getElem?_map, hF.h0]
      simp [woken_run hrun]
     ·by_cases hji : i = j
      ·subst hji
       rw [Array.getElem?_setIfInBounds_self_of_lt (by simpa using hlt)] at hx
       obtain rfl := Option.some.inj hx
       rw [upd_same, Deaf_own]
       exact hq'
      ·rw [Array.getElem?_setIfInBounds_ne hji, Array.getElem?_map] at hx
       obtain ⟨y, hy, rfl⟩ := Option.map_eq_some_iff.1 hx
       have hqj := hF.leavers.old j y hj hy
       rw [woken_quitsD hqj, upd_ne q k (Ne.symm hji), Deaf_other t hji _ (fun op hop => by obtain ⟨e, _, rfl⟩ := Go.Conc.mem_ofEvents hop; rfl)]
       exact hqj
     ·rw [Deaf_other t (g' := i) (by simp at hj; omega) _ (fun op hop => by obtain ⟨e, _, rfl⟩ := Go.Conc.mem_ofEvents hop; rfl)]
      exact hF.leavers.above j (by simpa using hj)
     ·exact hF.past.mute (by omega) hm
 exact fun gs w sl t q Shun hF => key _ gs w sl t q Shun (Nat.le_refl _) hF
end
end Go.Proofs.Ythmgpkcijolljaa
