/-
  The lone walk, with traps laid below the piece of code: it is the iteration of a configuration's step; where that stands still the walk comes to no end that counts.
-/
import Derived.Test.YthmgpkcijolljaaHKLift2
namespace Go.Proofs.Ythmgpkcijolljaa
open Go.Conc
set_option linter.unusedSimpArgs false
set_option linter.unusedVariables false
/-- Whoever comes back to it ends the run. -/
def trapF : Frame := { (default : Frame) with mode := .panicking [], defers := [{ target := .nil, args := #[] }], kind := .normal }
def trapI : Item := .code (.refuse "")
def BV : Below_ := ⟨[], [trapI], .normal, [trapF]⟩
def ln (g : Goroutine) (w : World) : Machine := { world := w, gs := #[g], rest := { timers := #[], alone := none, slice := none } }
/-- An end that counts. -/
def Tg (M : Machine) : Prop := ∃ fr w, M = ln (G fr [trapF]) w ∧ (fr.mode = .run ∨ fr.mode = .returning)
def Doomed (P : Program) (m : Machine) : Prop := ∀ N M, runN P N m = .next M → ¬ Tg M
theorem step_go {P : Program} {fr fr' : Frame} {cs cs' : List Frame} {w w' : World} {es : Array Event} (h : stepG P true (G fr cs) w = .go (G fr' cs') w' es) : step P (ln (G fr cs) w) = .next (ln (G fr' cs') w') :=
  step_lone_go (by show (stepG P true (G fr cs) w).bare = _; rw [h]; rfl)
theorem step_ended {P : Program} {fr : Frame} {cs : List Frame} {w w' : World} {o : Outcome} {es : Array Event} (h : stepG P true (G fr cs) w = .ended o w' es) : step P (ln (G fr cs) w) = .ended o w' :=
  step_lone_ended (by show (stepG P true (G fr cs) w).bare = _; rw [h]; rfl)
section
variable {P : Program}
theorem Doomed.of_ended {m : Machine} {o : Outcome} {w : World} (h : step P m = .ended o w) (h0 : ¬ Tg m) : Doomed P m := by
  intro N M e
  cases N with
  | zero => simp only [runN, Stepped.next.injEq] at e; subst e; exact h0
  | succ N => simp only [runN, h] at e; cases e
theorem Doomed.of_next {m m' : Machine} (h : step P m = .next m') (h0 : ¬ Tg m) (hd : Doomed P m') : Doomed P m := by
  intro N M e
  cases N with
  | zero => simp only [runN, Stepped.next.injEq] at e; subst e; exact h0
  | succ N => simp only [runN, h] at e; exact hd N M e
theorem not_tg {fr : Frame} {cs : List Frame} {w : World} (h : cs ≠ [trapF] ∨ (fr.mode ≠ .run ∧ fr.mode ≠ .returning)) : ¬ Tg (ln (G fr cs) w) := by
  rintro ⟨fr', w', e, hm⟩
  simp only [ln, Machine.mk.injEq, Array.mk.injEq, List.cons.injEq, and_true, G, Goroutine.mk.injEq] at e
  obtain ⟨_, ⟨rfl, rfl, _⟩⟩ := e
  rcases h with h | h
  · exact h rfl
  · exact hm.elim h.1 h.2
/-- The trap has been come back to. -/
theorem trap_doom {fr : Frame} (hd : fr.defers = [{ target := .nil, args := #[] }]) {chain : List PanicEntry} (hm : fr.mode = .panicking chain) (w : World) : Doomed P (ln (G fr []) w) := by
  refine Doomed.of_ended (o := .unsupported (.noEntry "machine/Return: a deferred call of a nil function value, made while the frame is unwinding") (Frame.pos P { fr with defers := [] })) (w := w) (step_ended (es := #[]) ?_) (not_tg (.inl (by simp)))
  obtain ⟨fn, tmps, todo, defers, mode, kind, ro⟩ := fr
  dsimp only at hd hm
  subst hd hm
  simp [G, stepG, unwind, callDeferred]
theorem panic_doom : ∀ (L : List Frame), (∀ f ∈ L, f.defers = []) → ∀ (fr : Frame) (chain : List PanicEntry) (w : World), fr.defers = [] → fr.mode = .panicking chain → Doomed P (ln (G fr (L ++ [trapF])) w) := by
  intro L
  induction L with
  | nil =>
    intro _ fr chain w hd hm
    obtain ⟨fn, tmps, todo, defers, mode, kind, ro⟩ := fr
    dsimp only at hd hm
    subst hd hm
    by_cases hc : Frame.catches P ⟨fn, tmps, todo, [], .panicking chain, kind, ro⟩ = true
    · refine Doomed.of_ended (step_ended (es := #[]) (w' := w) (o := .unsupported (.noEntry "a panic or Goexit out of a method that fmt calls behind a cut's door") (Frame.pos P ⟨fn, tmps, todo, [], .panicking chain, kind, ro⟩)) ?_) (not_tg (.inr (by simp)))
      simp [G, stepG, unwind, hc]
    · refine Doomed.of_next (step_go (es := #[]) (w' := w) (fr' := trapF.raise chain) (cs' := []) ?_) (not_tg (.inr (by simp))) (trap_doom (chain := chain ++ []) rfl rfl w)
      simp [G, stepG, unwind, hc]
  | cons c L ih =>
    intro hL fr chain w hd hm
    have hc0 := hL c (List.mem_cons_self)
    obtain ⟨fn, tmps, todo, defers, mode, kind, ro⟩ := fr
    dsimp only at hd hm
    subst hd hm
    by_cases hc : Frame.catches P ⟨fn, tmps, todo, [], .panicking chain, kind, ro⟩ = true
    · refine Doomed.of_ended (step_ended (es := #[]) (w' := w) (o := .unsupported (.noEntry "a panic or Goexit out of a method that fmt calls behind a cut's door") (Frame.pos P ⟨fn, tmps, todo, [], .panicking chain, kind, ro⟩)) ?_) (not_tg (.inr (by simp)))
      simp [G, stepG, unwind, hc]
    · have hr : ∃ ch, (c.raise chain).mode = .panicking ch ∧ (c.raise chain).defers = [] := by
        unfold Frame.raise
        split
        · exact ⟨_, rfl, hc0⟩
        · exact ⟨_, rfl, hc0⟩
      obtain ⟨ch, h1, h2⟩ := hr
      refine Doomed.of_next (step_go (es := #[]) (w' := w) (fr' := c.raise chain) (cs' := L ++ [trapF]) ?_) (not_tg (.inr (by simp))) (ih (fun f hf => hL f (List.mem_cons_of_mem _ hf)) _ ch w h2 h1)
      simp [G, stepG, unwind, hc]
end
theorem exitTo_none (id : Nat) (k : List Item) : ∀ (l : List Item), exitTo id l = none → exitTo id (l ++ k) = exitTo id k
  | [], _ => rfl
  | x :: l, h => by
    cases x with
    | inBlock id' =>
      simp only [exitTo, List.cons_append] at h ⊢
      split at h
      · cases h
      · rename_i hh; rw [if_neg hh]; exact exitTo_none id k l h
    | _ => simp only [exitTo, List.cons_append] at h ⊢; exact exitTo_none id k l h
section
variable {P : Program} {S : List FuncId}
/-- An activation that stands still: what its true step is. -/
theorem bad_doom (hS : Bodies P S) {k : List Item} (hke : ∀ id, exitTo id k = none) {x : Fa} (hi : itemsOk P S x.items) {v : World} (hF : Flat P v) {L : List Frame} (hL : ∀ f ∈ L, f.defers = []) (h : act1 P x v = .bad) :
    ∀ m', step P (ln (G (frm [] k .normal x) (L ++ [trapF])) v) = .next m' → Doomed P m' := by
  obtain ⟨fn, tmps, items, run⟩ := x
  have no : ∀ {o : Outcome} {w' : World} {es : Array Event}, stepG P true (G (frm [] k .normal ⟨fn, tmps, items, run⟩) (L ++ [trapF])) v = .ended o w' es → ∀ m', step P (ln (G (frm [] k .normal ⟨fn, tmps, items, run⟩) (L ++ [trapF])) v) = .next m' → Doomed P m' := by
    intro o w' es e m' hm
    rw [step_ended e] at hm
    cases hm
  unfold act1 at h
  dsimp only at h
  split at h
  · cases h
  · rename_i hr
    have hrun : run = true := by simpa using hr
    subst hrun
    cases items with
    | nil => cases h
    | cons it l =>
      have h0 := hi _ (List.mem_cons_self)
      cases it with
      | code c =>
        cases c with
        | cond c a b =>
          dsimp only at h
          split at h
          · cases h
          · rename_i hnb
            have he' : (frm [] k .normal ⟨fn, tmps, .code (.cond c a b) :: l, true⟩).eval c = Fa.eval ⟨fn, tmps, .code (.cond c a b) :: l, true⟩ c := by rw [frm_eval]
            simp [frm] at he'
            refine no (o := .stuck "cond: bool expected" (Frame.pos P (frm [] k .normal ⟨fn, tmps, .code (.cond c a b) :: l, true⟩))) (w' := v) (es := #[]) ?_
            simp only [G, frm, stepG, stepG.exec, if_true, List.cons_append, he']
        | exit id =>
          dsimp only at h
          split at h
          · cases h
          · rename_i hno
            refine no (o := .stuck "exit, goto: no such block or label" (Frame.pos P (frm [] k .normal ⟨fn, tmps, .code (.exit id) :: l, true⟩))) (w' := v) (es := #[]) ?_
            have e1 : exitTo id (l ++ k) = none := (exitTo_none id k l hno).trans (hke id)
            simp [G, frm, stepG, stepG.exec, e1]
        | region id ops draw => dsimp only at h; split at h <;> cases h
        | ret => cases h
        | skip => cases h
        | label n => cases h
        | seq a b => cases h
        | block id c => cases h
        | loop c => cases h
        | scope c => cases h
        | goto n => cases h0
        | rangeFunc a b c d => cases h0
        | refuse w => cases h0
      | inRegion ops todo =>
        cases todo with
        | nil => cases h
        | cons i rest =>
          dsimp only at h
          split at h
          · rename_i hw
            split at h
            · rename_i ho; simp [ho] at hw
            · rename_i o ho
              have hw' : Region.wanted o (yielded ops tmps) = true := by simpa [ho] using hw
              have hok : opOk P S o = true := by
                simp only [itemOk, Array.all_eq_true_iff_forall_mem] at h0
                exact h0 o (Array.mem_of_getElem? ho)
              have hwt : Waits ⟨fn, tmps, .inRegion ops (i :: rest) :: l, true⟩ := ⟨rfl, _, _, _, _, rfl⟩
              have hsd := op_sound hS (Fa.eval ⟨fn, tmps, .inRegion ops (i :: rest) :: l, true⟩) (fun f => rfl) o hok
              cases he : (execOp (Fa.eval ⟨fn, tmps, .inRegion ops (i :: rest) :: l, true⟩) o).run P v with
              | ok n v₁ =>
                obtain ⟨hn, _⟩ := hsd.run v v n v₁ hF.self rfl rfl rfl he
                rw [he] at h
                cases n with
                | value val => obtain ⟨x', hx⟩ := fin_of_waits hwt val; simp only [hx] at h; cases h
                | skip => obtain ⟨x', hx⟩ := fin_of_waits hwt undef; simp only [hx] at h; cases h
                | enter f args => cases h
                | _ => exact hn.elim
              | halt hh v₁ =>
                obtain ⟨_, _, _, _, _, hres, _⟩ := loc_run _ hsd.loc v hF
                rw [he] at hres
                have hres' : okHalt hh := hres
                have hstep : stepG P true (G (frm [] k .normal ⟨fn, tmps, .inRegion ops (i :: rest) :: l, true⟩) (L ++ [trapF])) v = stepG.apply P true (frm [] k .normal ⟨fn, tmps, .inRegion ops (i :: rest) :: l, true⟩) (L ++ [trapF]) none (execOp (frm [] k .normal ⟨fn, tmps, .inRegion ops (i :: rest) :: l, true⟩).eval o) v := by
                  simp [G, stepG, stepG.exec, stepG.oper, Frame.oper?, frm, ho, hw']
                have e1 : (execOp (frm [] k .normal ⟨fn, tmps, .inRegion ops (i :: rest) :: l, true⟩).eval o).run P v = .halt hh v₁ := by rw [frm_eval, he]
                cases hh with
                | panic pv =>
                  intro m' hm
                  have hgo : ∃ es, stepG P true (G (frm [] k .normal ⟨fn, tmps, .inRegion ops (i :: rest) :: l, true⟩) (L ++ [trapF])) v = .go (G ((frm [] k .normal ⟨fn, tmps, .inRegion ops (i :: rest) :: l, true⟩).raise [{ v := pv, recovered := false }]) (L ++ [trapF])) v₁ es := by
                    rw [hstep]
                    simp only [stepG.apply, Sem.runT_eq, e1, GStep.after]
                    exact ⟨_, rfl⟩
                  obtain ⟨es, hgo⟩ := hgo
                  rw [step_go hgo] at hm
                  cases hm
                  exact panic_doom L hL _ [{ v := pv, recovered := false }] v₁ rfl rfl
                | stuck s =>
                  have hen : ∃ es, stepG P true (G (frm [] k .normal ⟨fn, tmps, .inRegion ops (i :: rest) :: l, true⟩) (L ++ [trapF])) v = .ended (.stuck s (Frame.pos P (frm [] k .normal ⟨fn, tmps, .inRegion ops (i :: rest) :: l, true⟩))) v₁ es := by
                    rw [hstep]
                    simp only [stepG.apply, Sem.runT_eq, e1, GStep.after]
                    exact ⟨_, rfl⟩
                  obtain ⟨es, hen⟩ := hen
                  exact no hen
                | unsupported u =>
                  have hen : ∃ es, stepG P true (G (frm [] k .normal ⟨fn, tmps, .inRegion ops (i :: rest) :: l, true⟩) (L ++ [trapF])) v = .ended (.unsupported u (Frame.pos P (frm [] k .normal ⟨fn, tmps, .inRegion ops (i :: rest) :: l, true⟩))) v₁ es := by
                    rw [hstep]
                    cases u <;> first
                      | exact hres'.elim
                      | (simp only [stepG.apply, Sem.runT_eq, e1, GStep.after]
                         exact ⟨_, rfl⟩)
                  obtain ⟨es, hen⟩ := hen
                  exact no hen
                | _ => exact hres'.elim
          · have hwt : Waits ⟨fn, tmps, .inRegion ops (i :: rest) :: l, true⟩ := ⟨rfl, _, _, _, _, rfl⟩
            obtain ⟨x', hx⟩ := fin_of_waits hwt undef
            simp only [hx] at h
            cases h
      | inBlock id => cases h
      | inScope c => cases h
      | inLoop c => cases h
      | _ => cases h0
end
end Go.Proofs.Ythmgpkcijolljaa
