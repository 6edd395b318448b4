/-
  The lift where others may allot, of a piece of code that allots nothing.
-/
import Derived.Test.YthmgpkcijolljaaHKWins
namespace Go.Proofs.Ythmgpkcijolljaa
open Go.Conc
set_option linter.unusedSimpArgs false
set_option linter.unusedVariables false
section
variable {P : Program} {S : List FuncId} {main gr st : Bool} {Live : World → Prop} {K : Goroutine → World → Prop} {B : Below_}
def Res.upto (r : Res) (n : Nat) : Res :=
 match r with
 | .go x v => .go x (v.upto n)
 | .push f a v => .push f a (v.upto n)
 | r => r
theorem act1_still (hS : Bodies P S) {x : Fa} (hi : itemsOk P S x.items) {v : World} (hF : Flat P v) (n : Nat) (h : ∀ v', (act1 P x v).world? = some v' → v'.heap.size = v.heap.size) (hb : act1 P x v ≠ .bad) :
  act1 P x (v.upto n) = (act1 P x v).upto n := by
 obtain ⟨fn, tmps, items, run⟩ := x
 cases run with
 | false => rfl
 | true =>
  cases items with
  | nil => rfl
  | cons it l =>
   have h0 := hi _ (List.mem_cons_self)
   cases it with
   | code c =>
    cases c with
    | cond c a b =>
     cases he : Fa.eval ⟨fn, tmps, .code (.cond c a b) :: l, true⟩ c <;> simp [act1, he, Res.upto]
    | exit id => cases he : exitTo id l <;> simp [act1, he, Res.upto]
    | region id ops draw => cases draw <;> rfl
    | _ => rfl
   | inRegion ops todo =>
    cases todo with
    | nil => rfl
    | cons i rest =>
     have hwt : Waits ⟨fn, tmps, .inRegion ops (i :: rest) :: l, true⟩ := ⟨rfl, _, _, _, _, rfl⟩
     cases hw : ((ops[i]?).map (Region.wanted · (yielded ops tmps))).getD false with
     | false =>
      obtain ⟨x', hx⟩ := fin_of_waits hwt undef
      simp [act1, hw, hx, Res.upto]
     | true =>
      cases ho : ops[i]? with
      | none => simp [ho] at hw
      | some o =>
       have hok : opOk P S o = true := by
        simp only [itemOk, Array.all_eq_true_iff_forall_mem] at h0
        exact h0 o (Array.mem_of_getElem? ho)
       have hsd := op_sound hS (Fa.eval ⟨fn, tmps, .inRegion ops (i :: rest) :: l, true⟩) (fun f => rfl) o hok
       have ea : ∀ v : World, act1 P ⟨fn, tmps, .inRegion ops (i :: rest) :: l, true⟩ v = (match (execOp (Fa.eval ⟨fn, tmps, .inRegion ops (i :: rest) :: l, true⟩) o).run P v with
         | .ok (.value val) v' => match Fa.fin ⟨fn, tmps, .inRegion ops (i :: rest) :: l, true⟩ val with | some x' => .go x' v' | none => .bad
         | .ok .skip v' => match Fa.fin ⟨fn, tmps, .inRegion ops (i :: rest) :: l, true⟩ undef with | some x' => .go x' v' | none => .bad
         | .ok (.enter f args) v' => .push f args v'
         | _ => .bad) := by
        intro v
        simp only [act1, Bool.true_eq_false, if_false]
        rw [if_pos hw]
        simp only [ho]
        rfl
       rw [ea] at h hb
       rw [ea, ea]
       cases he : (execOp (Fa.eval ⟨fn, tmps, .inRegion ops (i :: rest) :: l, true⟩) o).run P v with
       | halt hh v₁ => rw [he] at hb; exact absurd rfl hb
       | ok nx v₁ =>
        rw [he] at h hb
        have hz : v₁.heap.size = v.heap.size := by
         cases nx with
         | value val => obtain ⟨x', hx⟩ := fin_of_waits hwt val; exact h _ (by simp only [hx]; rfl)
         | skip => obtain ⟨x', hx⟩ := fin_of_waits hwt undef; exact h _ (by simp only [hx]; rfl)
         | enter f args => exact h _ rfl
         | _ => exact absurd rfl hb
        rw [hsd.still v n nx v₁ hF he hz]
        cases nx with
        | value val => obtain ⟨x', hx⟩ := fin_of_waits hwt val; simp only [hx]; rfl
        | skip => obtain ⟨x', hx⟩ := fin_of_waits hwt undef; simp only [hx]; rfl
        | _ => rfl
   | _ => rfl
theorem cstep_still (hC : Closed P S) {up : List Fa} {x : Fa} (hok : CfgOk P S up x) {v : World} (hF : Flat P v) (n : Nat) {up' : List Fa} {x' : Fa} {v' : World} (h : cstep P up x v = some (up', x', v')) (hz : v'.heap.size = v.heap.size) :
  cstep P up x (v.upto n) = some (up', x', v'.upto n) := by
 cases up with
 | nil =>
  simp only [cstep] at h ⊢
  cases ha : act1 P x v with
  | go x₁ v₁ =>
   rw [ha] at h; cases h
   rw [act1_still hC.bodies hok.base hF n (by rw [ha]; intro v' e; cases e; exact hz) (by rw [ha]; simp), ha]
   rfl
  | push f a v₁ =>
   rw [ha] at h; cases h
   rw [act1_still hC.bodies hok.base hF n (by rw [ha]; intro v' e; cases e; exact hz) (by rw [ha]; simp), ha]
   rfl
  | _ => rw [ha] at h; cases h
 | cons y r =>
  have hy := hok.ups y (List.mem_cons_self)
  simp only [cstep] at h ⊢
  cases ha : act1 P y v with
  | go x₁ v₁ =>
   rw [ha] at h; cases h
   rw [act1_still hC.bodies hy.items hF n (by rw [ha]; intro v' e; cases e; exact hz) (by rw [ha]; simp), ha]
   rfl
  | push f a v₁ =>
   rw [ha] at h; cases h
   rw [act1_still hC.bodies hy.items hF n (by rw [ha]; intro v' e; cases e; exact hz) (by rw [ha]; simp), ha]
   rfl
  | done =>
   rw [ha] at h; cases h
   rw [act1_still hC.bodies hy.items hF n (by rw [ha]; intro v' e; cases e) (by rw [ha]; simp), ha]
   rfl
  | ret =>
   rw [ha] at h
   rw [act1_still hC.bodies hy.items hF n (by rw [ha]; intro v' e; cases e) (by rw [ha]; simp), ha]
   simp only [Res.upto] at h ⊢
   cases hfn : P.funcs[y.fn]? with
   | none => rw [hfn] at h; cases h
   | some fn =>
    rw [hfn] at h
    dsimp only at h ⊢
    cases hr : (results fn y.tmps).run P v with
    | halt hh v₁ => rw [hr] at h; cases h
    | ok val v₁ =>
     rw [hr] at h
     dsimp only at h
     have hv : v₁ = v' := by
      cases r with
      | nil => obtain ⟨_, _, e⟩ := Option.map_eq_some_iff.1 h; cases e; rfl
      | cons z r => obtain ⟨_, _, e⟩ := Option.map_eq_some_iff.1 h; cases e; rfl
     subst hv
     rw [still_run _ (t_results P fn y.tmps) v n val v₁ hF hr hz]
     cases r with
     | nil => obtain ⟨a, ha', e⟩ := Option.map_eq_some_iff.1 h; cases e; simp [ha']
     | cons z r => obtain ⟨a, ha', e⟩ := Option.map_eq_some_iff.1 h; cases e; simp [ha']
  | bad => rw [ha] at h; cases h
theorem ta_size (hC : Closed P S) {F : Fa → World → Prop} {s : Nat} (hF : ∀ x v, F x v → v.heap.size = s) {up : List Fa} {x : Fa} {v : World} (h : TA P F up x v) : CfgOk P S up x → Flat P v → v.heap.size ≤ s := by
 induction h with
 | fin t d h =>
  intro _ _
  have e := hF _ _ h
  exact Nat.le_of_eq e
 | @step up x v nx hs _ ih =>
  intro hok hfl
  obtain ⟨m, h1, _⟩ := cstep_loc hC hok (re_flat (t := v.tape) (d := v.drawn) hfl)
  obtain ⟨_, _, hf', hle⟩ := h1 _ (hs v.tape v.drawn)
  obtain ⟨hok', _⟩ := cstep_real (main := true) (B := BV) hC (by simp [BV]) hok (re_flat (t := v.tape) (d := v.drawn) hfl).self rfl rfl rfl (hs v.tape v.drawn)
  exact Nat.le_trans hle (ih v.tape v.drawn hok' hf')
theorem lift_tree_still (hC : Closed P S) (hK : KOk P main gr st Live K) (hg : gr = true) (hk : B.kd ≠ .early) {F : Fa → World → Prop} {s : Nat} (hF : ∀ x v, F x v → v.heap.size = s ∧ K (conc B [] x) v) {up : List Fa} {x : Fa} {v : World}
  (h : TA P F up x v) : CfgOk P S up x → Flat P v → v.heap.size = s → K (conc B up x) v := by
 induction h with
 | fin t d h => exact fun _ _ _ => hK.re _ _ t d (hF _ _ h).2
 | @step up x v nx hs hT ih =>
  intro hok hfl hsz
  refine hK.step _ _ (conc_running up x) fun w hV _ _ => ?_
  obtain ⟨m, h1, _⟩ := cstep_loc hC hok (re_flat (t := w.tape) (d := w.drawn) hfl)
  obtain ⟨_, _, hf', hle⟩ := h1 _ (hs w.tape w.drawn)
  obtain ⟨hok', _⟩ := cstep_real (main := main) (B := B) hC hk hok (re_flat (t := w.tape) (d := w.drawn) hfl).self rfl rfl rfl (hs w.tape w.drawn)
  have hle2 := ta_size hC (fun x v hx => (hF x v hx).1) (hT w.tape w.drawn) hok' hf'
  have hle' : v.heap.size ≤ (nx w.tape w.drawn).2.2.heap.size := hle
  have hst := cstep_still hC hok (re_flat (t := w.tape) (d := w.drawn) hfl) w.heap.size (hs w.tape w.drawn) (by show (nx w.tape w.drawn).2.2.heap.size = v.heap.size; omega)
  have hup : ((v.re w.tape w.drawn).upto w.heap.size) = (v.upto w.heap.size).re w.tape w.drawn := rfl
  rw [hup] at hst
  have hVu := (hV.upto (n := w.heap.size) (Nat.le_refl _)).re w.tape w.drawn
  have hzu : w.heap.size = ((v.upto w.heap.size).re w.tape w.drawn).heap.size := by
   show _ = (v.upto w.heap.size).heap.size
   rw [upto_size]; have := hV.size; omega
  obtain ⟨_, _, w', es, f1, o1, _, hgo⟩ := cstep_real (main := main) (B := B) hC hk hok hVu hzu rfl rfl hst
  have hnx : (nx w.tape w.drawn).2.2.heap.size = v.heap.size := by omega
  refine ⟨_, _, w', es, hgo, f1, o1, fun _ => ?_, hK.more hg _ _ _ hf' (ih w.tape w.drawn hok' hf' (by omega))⟩
  have h2 : w'.heap.size = max w.heap.size (nx w.tape w.drawn).2.2.heap.size := by rw [f1.size]; exact upto_size
  have := hV.size
  omega
end
end Go.Proofs.Ythmgpkcijolljaa
