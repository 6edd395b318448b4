/-
  What the lone walk arrives at is what the configuration comes to.
-/
import Derived.Test.YthmgpkcijolljaaHKLift3
namespace Go.Proofs.Ythmgpkcijolljaa
open Go.Conc
set_option linter.unusedSimpArgs false
set_option linter.unusedVariables false
section
variable {P : Program} {S : List FuncId}
theorem frms_defers (r : List Fa) : ∀ f ∈ r.map (frm [] [] .normal), f.defers = [] := fun f hf => by
  obtain ⟨x, _, rfl⟩ := List.mem_map.1 hf
  rfl
theorem ret_run {x : Fa} {v : World} (h : act1 P x v = .ret) : x.run = false := by
  unfold act1 at h
  split at h
  · assumption
  · split at h <;> first
      | cases h
      | (split at h <;> cases h)
      | (split at h
         · split at h
           · cases h
           · split at h <;> first | cases h | (split at h <;> cases h)
         · split at h <;> cases h)
theorem done_run {x : Fa} {v : World} (h : act1 P x v = .done) : x.run = true ∧ x.items = [] := by
  unfold act1 at h
  split at h
  · cases h
  · rename_i hr
    refine ⟨by simpa using hr, ?_⟩
    split at h <;> first
      | assumption
      | cases h
      | (split at h <;> cases h)
      | (split at h
         · split at h
           · cases h
           · split at h <;> first | cases h | (split at h <;> cases h)
         · split at h <;> cases h)
/-- Where a configuration stands still, its next step, if there is one, leads to no end that counts. -/
theorem none_doom (hC : Closed P S) {up : List Fa} {x : Fa} (hok : CfgOk P S up x) {v : World} (hF : Flat P v) (h : cstep P up x v = none) :
    ∀ m', step P (ln (conc BV up x) v) = .next m' → Doomed P m' := by
  cases up with
  | nil =>
    simp only [cstep] at h
    split at h
    · cases h
    · cases h
    · rename_i n1 n2
      cases ha : act1 P x v with
      | go x' v' => exact absurd ha (n1 _ _)
      | push f a v' => exact absurd ha (n2 _ _ _)
      | bad => exact bad_doom hC.bodies (k := [trapI]) (fun id => rfl) hok.base hF (L := []) (fun f hf => by simp at hf) ha
      | done =>
        obtain ⟨h1, h2⟩ := done_run ha
        intro m' hm
        obtain ⟨fn, tmps, items, run⟩ := x
        dsimp only at h1 h2
        subst h1 h2
        obtain ⟨o, e⟩ : ∃ o : Outcome, stepG P true (G (frm [] [trapI] .normal ⟨fn, tmps, [], true⟩) [trapF]) v = .ended o v #[] := ⟨_, rfl⟩
        have hm' : step P (ln (G (frm [] [trapI] .normal ⟨fn, tmps, [], true⟩) [trapF]) v) = .next m' := hm
        rw [step_ended e] at hm'
        cases hm'
      | ret =>
        have hr := ret_run ha
        obtain ⟨fn, tmps, items, run⟩ := x
        dsimp only at hr
        subst hr
        intro m' hm
        have hm' : step P (ln (G (frm [] [trapI] .normal ⟨fn, tmps, items, false⟩) [trapF]) v) = .next m' := hm
        have back : ∀ (val : Value) (v' : World), Doomed P (ln (G (trapF.finish val) []) v') := fun val v' => trap_doom (chain := []) rfl rfl v'
        cases hfn : P.funcs[fn]? with
        | none =>
          have e : stepG P true (G (frm [] [trapI] .normal ⟨fn, tmps, items, false⟩) [trapF]) v = .go (G (trapF.finish (tmps.getD 0 undef)) []) v #[] := by
            simp [G, frm, stepG, unwind, doReturn, hfn]
          rw [step_go e] at hm'
          cases hm'
          exact back _ _
        | some f =>
          obtain ⟨_, _, _, _, _, hres, _⟩ := loc_run _ (loc_of_tame _ (t_results P f tmps)) v hF
          cases he : (results f tmps).run P v with
          | ok val v' =>
            have e : ∃ es, stepG P true (G (frm [] [trapI] .normal ⟨fn, tmps, items, false⟩) [trapF]) v = .go (G (trapF.finish val) []) v' es := by
              simp only [G, frm, stepG, unwind, doReturn, hfn, Sem.runT_eq, he, GStep.after, Bool.false_eq_true, if_false]
              exact ⟨_, rfl⟩
            obtain ⟨es, e⟩ := e
            rw [step_go e] at hm'
            cases hm'
            exact back _ _
          | halt hh v' =>
            have e : ∃ o es, stepG P true (G (frm [] [trapI] .normal ⟨fn, tmps, items, false⟩) [trapF]) v = .ended o v' es := by
              simp only [G, frm, stepG, unwind, doReturn, hfn, Sem.runT_eq, he, Bool.false_eq_true, if_false]
              cases hh <;> exact ⟨_, _, rfl⟩
            obtain ⟨o, es, e⟩ := e
            rw [step_ended e] at hm'
            cases hm'
  | cons y r =>
    have hy := hok.ups y (List.mem_cons_self)
    have hwt : ∀ z ∈ r, Waits z := fun z hz => hok.wait z (by simpa using hz)
    have hwb := hok.bwait (by simp)
    have hcs : conc BV (y :: r) x = G (frm [] [] .normal y) ((r.map (frm [] [] .normal) ++ [frm [] [trapI] .normal x]) ++ [trapF]) := by simp [conc, BV]
    have hL : ∀ f ∈ r.map (frm [] [] .normal) ++ [frm [] [trapI] .normal x], f.defers = [] := fun f hf => by
      rcases List.mem_append.1 hf with hf | hf
      · exact frms_defers r f hf
      · rw [List.mem_singleton.1 hf]; rfl
    rw [hcs]
    simp only [cstep] at h
    split at h
    · cases h
    · cases h
    · cases h
    · rename_i ha
      have hr := ret_run ha
      obtain ⟨fn, c, h1, h2, _⟩ := hC.bodies y.fn hy.fn
      rw [h1] at h
      dsimp only at h
      obtain ⟨_, _, _, _, _, hres, _⟩ := loc_run _ (loc_of_tame _ (t_results P fn y.tmps)) v hF
      intro m' hm
      cases he : (results fn y.tmps).run P v with
      | ok val v' =>
        rw [he] at h
        dsimp only at h
        cases r with
        | nil =>
          obtain ⟨x', hx⟩ := fin_of_waits hwb val
          rw [hx] at h
          cases h
        | cons z r =>
          obtain ⟨z', hz⟩ := fin_of_waits (hwt z (List.mem_cons_self)) val
          dsimp only at h
          rw [hz] at h
          cases h
      | halt hh v' =>
        have e : ∃ o es, stepG P true (G (frm [] [] .normal y) ((r.map (frm [] [] .normal) ++ [frm [] [trapI] .normal x]) ++ [trapF])) v = .ended o v' es := by
          simp only [G, frm, hr, stepG, unwind, doReturn, h1, Sem.runT_eq, he, Bool.false_eq_true, if_false]
          cases hh <;> exact ⟨_, _, rfl⟩
        obtain ⟨o, es, e⟩ := e
        rw [step_ended e] at hm
        cases hm
    · rename_i ha
      exact bad_doom hC.bodies (k := []) (fun id => rfl) hy.items hF hL ha
def citer (P : Program) : Nat → List Fa → Fa → World → Option (List Fa × Fa × World)
  | 0, up, x, v => some (up, x, v)
  | n + 1, up, x, v => (cstep P up x v).bind fun r => citer P n r.1 r.2.1 r.2.2
/-- What the lone walk arrives at is what the configuration comes to. -/
theorem arrive (hC : Closed P S) : ∀ (N : Nat) (up : List Fa) (x : Fa) (v : World), CfgOk P S up x → Flat P v → ∀ (fr : Frame) (v' : World), runN P N (ln (conc BV up x) v) = .next (ln (G fr [trapF]) v') → (fr.mode = .run ∨ fr.mode = .returning) →
    ∃ n x', citer P n up x v = some ([], x', v') ∧ x'.fn = x.fn ∧ fr = frm [] [trapI] .normal x' := by
  intro N
  induction N with
  | zero =>
    intro up x v hok hF fr v' e hm
    simp only [runN, Stepped.next.injEq, ln, Machine.mk.injEq, Array.mk.injEq, List.cons.injEq, and_true] at e
    obtain ⟨rfl, e⟩ := e
    cases up with
    | nil =>
      simp only [conc, G, Goroutine.mk.injEq] at e
      exact ⟨0, x, rfl, rfl, e.1.symm⟩
    | cons y r =>
      simp only [conc, G, Goroutine.mk.injEq] at e
      have := congrArg List.length e.2.1
      simp [BV] at this
  | succ N ih =>
    intro up x v hok hF fr v' e hm
    simp only [runN] at e
    cases hc : cstep P up x v with
    | none =>
      cases hs : step P (ln (conc BV up x) v) with
      | ended o w => rw [hs] at e; cases e
      | next m' =>
        rw [hs] at e
        exact absurd ⟨fr, v', rfl, hm⟩ (none_doom hC hok hF hc m' hs N _ e)
    | some r =>
      obtain ⟨up', x', v₁⟩ := r
      obtain ⟨hok', hfn, w', es, f1, _, q1, hst⟩ := cstep_real (main := true) (B := BV) hC (by simp [BV]) hok hF.self rfl rfl rfl hc
      obtain rfl := q1 rfl
      have hs : step P (ln (conc BV up x) v) = .next (ln (conc BV up' x') w') := by
        have e1 : ∃ fr cs, conc BV up x = G fr cs := by cases up <;> exact ⟨_, _, rfl⟩
        have e2 : ∃ fr cs, conc BV up' x' = G fr cs := by cases up' <;> exact ⟨_, _, rfl⟩
        obtain ⟨fr1, cs1, e1⟩ := e1
        obtain ⟨fr2, cs2, e2⟩ := e2
        rw [e1, e2] at hst ⊢
        exact step_go hst
      rw [hs] at e
      obtain ⟨n, x₂, h1, h2, h3⟩ := ih up' x' w' hok' f1.veil.flat fr v' e hm
      exact ⟨n + 1, x₂, by simp only [citer, hc, Option.bind_some]; exact h1, h2.trans hfn, h3⟩
end
end Go.Proofs.Ythmgpkcijolljaa
