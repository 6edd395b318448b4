/-
  Configurations of simple code: activations above a piece of code; one step of them in the true world, and what it hangs on.
-/
import Derived.Test.YthmgpkcijolljaaHKLift
namespace Go.Proofs.Ythmgpkcijolljaa
open Go.Conc
set_option linter.unusedSimpArgs false
set_option linter.unusedVariables false
/-- All functions of S are of simple code, and call none but S. -/
structure Closed (P : Program) (S : List FuncId) : Prop where
  bodies : Bodies P S
  ok : ∀ f ∈ S, ∀ fn, P.funcs[f]? = some fn → ∀ c, fn.body = some c → codeOk P S c = true
def enterA (P : Program) (f : FuncId) (args : Array Value) : Fa :=
  { fn := f, tmps := args ++ Array.replicate (((P.funcs[f]?).map (·.ntmps)).getD 0 - args.size) undef, items := [.code (((P.funcs[f]?).bind (·.body)).getD (.refuse "unsupported: a function without a Go body is entered"))], run := true }
theorem enter_frm (P : Program) (f : FuncId) (args : Array Value) : Frame.enter P f args .normal = frm [] [] .normal (enterA P f args) := by
  simp [Frame.enter, frm, enterA]
/-- What stands below the piece of code. -/
structure Below_ where
  d : List Deferred
  k : List Item
  kd : CallKind
  cs : List Frame
def conc (B : Below_) (up : List Fa) (x : Fa) : Goroutine :=
  match up with
  | [] => G (frm B.d B.k B.kd x) B.cs
  | y :: r => G (frm [] [] .normal y) (r.map (frm [] [] .normal) ++ frm B.d B.k B.kd x :: B.cs)
/-- One step of a configuration. -/
def cstep (P : Program) (up : List Fa) (x : Fa) (v : World) : Option (List Fa × Fa × World) :=
  match up with
  | [] => match act1 P x v with
    | .go x' v' => some ([], x', v')
    | .push f args v' => some ([enterA P f args], x, v')
    | _ => none
  | y :: r => match act1 P y v with
    | .go y' v' => some (y' :: r, x, v')
    | .push f args v' => some (enterA P f args :: y :: r, x, v')
    | .done => some ({ y with run := false } :: r, x, v)
    | .ret => match P.funcs[y.fn]? with
      | none => none
      | some fn => match (results fn y.tmps).run P v with
        | .ok val v' => match r with
          | [] => (x.fin val).map fun x' => ([], x', v')
          | z :: r' => (z.fin val).map fun z' => (z' :: r', x, v')
        | .halt _ _ => none
    | .bad => none
structure FaOk (P : Program) (S : List FuncId) (x : Fa) : Prop where
  fn : x.fn ∈ S
  items : itemsOk P S x.items
/-- The frame waits for a callee: an operation stands at its head. -/
def Waits (x : Fa) : Prop := x.run = true ∧ ∃ ops i rest k, x.items = .inRegion ops (i :: rest) :: k
structure CfgOk (P : Program) (S : List FuncId) (up : List Fa) (x : Fa) : Prop where
  ups : ∀ y ∈ up, FaOk P S y
  wait : ∀ y ∈ up.drop 1, Waits y
  base : itemsOk P S x.items
  bwait : up ≠ [] → Waits x
theorem t_results (P : Program) (fn : Func) (tmps : Array Value) : T P (results fn tmps) := by
  unfold results
  refine t_do (t_mapM _ (fun r => ?_) _) fun vs => ?_
  · cases r with
    | tmp t => exact t_pure _
    | cell a t => exact t_do (t_asAddr _) fun ad => t_loadVar _ _
  · exact t_pure _
section
variable {P : Program} {S : List FuncId} {main : Bool} {B : Below_}
theorem act_push (hS : Bodies P S) {d : List Deferred} {k : List Item} {kd : CallKind} {cs : List Frame} (hk : kd ≠ .early) {x : Fa} (hi : itemsOk P S x.items) {v w v' : World} {f : FuncId} {args : Array Value} (hV : Veil P v w) (hz : w.heap.size = v.heap.size) (ht : v.tape = w.tape) (hd : v.drawn = w.drawn)
    (h : act1 P x v = .push f args v') : f ∈ S ∧ Waits x ∧ ∃ w' es, Fol P v w v' w' ∧ (∀ e ∈ es, EvOk v' e) ∧ (w = v → w' = v') ∧ stepG P main (G (frm d k kd x) cs) w = .go (G (Frame.enter P f args .normal) (frm d k kd x :: cs)) w' es := by
  obtain ⟨fn, tmps, items, run⟩ := x
  unfold act1 at h
  dsimp only at h
  split at h
  · cases h
  · rename_i hr
    have hrun : run = true := by simpa using hr
    subst hrun
    cases items with
    | nil => cases h
    | cons it l =>
      cases it with
      | inRegion ops todo =>
        cases todo with
        | nil => cases h
        | cons i rest =>
          dsimp only at h
          split at h
          · rename_i hw
            split at h
            · cases h
            · rename_i o ho
              have hw' : Region.wanted o (yielded ops tmps) = true := by simpa [ho] using hw
              have hok : opOk P S o = true := by
                have := hi _ (List.mem_cons_self)
                simp only [itemOk, Array.all_eq_true_iff_forall_mem] at this
                exact this o (Array.mem_of_getElem? ho)
              split at h
              · split at h <;> cases h
              · split at h <;> cases h
              · rename_i f' args' v₁ he
                cases h
                obtain ⟨hn, w', es, f1, o1, q1, hst⟩ := op_step (main := main) (d := d) (k := k) (cs := cs) hS hk (x := ⟨fn, tmps, .inRegion ops (i :: rest) :: l, true⟩) rfl rfl ho hw' hok hV hz ht hd he
                exact ⟨hn, ⟨rfl, _, _, _, _, rfl⟩, w', es, f1, o1, q1, by rw [hst]; simp [GStep.after]⟩
              · cases h
          · split at h <;> cases h
      | code c =>
        cases c <;> dsimp only at h <;> first
          | cases h
          | (split at h <;> cases h)
      | _ => cases h
theorem fin_of_waits {x : Fa} (h : Waits x) (v : Value) : ∃ x', x.fin v = some x' := by
  obtain ⟨_, ops, i, rest, k, e⟩ := h
  unfold Fa.fin
  rw [e]
  exact ⟨_, rfl⟩
/-- A return. -/
theorem act_pop (hS : Bodies P S) {y : Fa} (hy : FaOk P S y) (hr : y.run = false) {c : Frame} {cs : List Frame} {v w v' : World} {val : Value} {fn : Func} (hf : P.funcs[y.fn]? = some fn)
    (hV : Veil P v w) (hz : w.heap.size = v.heap.size) (ht : v.tape = w.tape) (hd : v.drawn = w.drawn) (h : (results fn y.tmps).run P v = .ok val v') :
    ∃ w' es, Fol P v w v' w' ∧ (∀ e ∈ es, EvOk v' e) ∧ (w = v → w' = v') ∧ stepG P main (G (frm [] [] .normal y) (c :: cs)) w = .go (G (c.finish val) cs) w' es := by
  obtain ⟨_, w', f1, k1⟩ := tame_run _ (t_results P fn y.tmps) v w val v' hV hz ht hd h
  obtain ⟨es, r1, o1⟩ := k1 #[]
  refine ⟨w', seen P y.fn es, f1, fun e he => o1 e (seen_sub P _ _ e he), fun hwv => ?_, ?_⟩
  · subst hwv
    have := Sem.runT_fst P (results fn y.tmps) w #[]
    rw [r1, h] at this
    cases this
    rfl
  have r1' : (results fn y.tmps).runT P w #[] = (.ok val w', es) := by rw [r1]; simp
  simp only [Sem.runT_eq, Prod.mk.injEq] at r1'
  simp [G, frm, hr, stepG, unwind, doReturn, hf, r1'.1, r1'.2, GStep.after]
theorem exitTo_sub (id : Nat) : ∀ (l l' : List Item), exitTo id l = some l' → ∀ i ∈ l', i ∈ l
  | [], _, h => by cases h
  | x :: l, l', h => by
    cases x with
    | inBlock id' =>
      simp only [exitTo] at h
      split at h
      · cases h; exact fun i hi => List.mem_cons_of_mem _ hi
      · exact fun i hi => List.mem_cons_of_mem _ (exitTo_sub id l l' h i hi)
    | _ => simp only [exitTo] at h; exact fun i hi => List.mem_cons_of_mem _ (exitTo_sub id l l' h i hi)
theorem ok_cons {i : Item} {l : List Item} (h : itemOk P S i = true) (hl : itemsOk P S l) : itemsOk P S (i :: l) := fun j hj => by
  rcases List.mem_cons.1 hj with rfl | hj
  · exact h
  · exact hl j hj
theorem fin_ok {x x' : Fa} {v : Value} (h : x.fin v = some x') (hi : itemsOk P S x.items) : itemsOk P S x'.items := by
  obtain ⟨fn, tmps, items, run⟩ := x
  unfold Fa.fin at h
  dsimp only at h
  split at h
  · rename_i ops i rest k
    cases h
    have h0 : itemOk P S (.inRegion ops (i :: rest)) = true := hi _ (List.mem_cons_self)
    exact ok_cons h0 fun j hj => hi j (List.mem_cons_of_mem _ hj)
  · cases h
theorem go_ok {x x' : Fa} {v v' : World} (h : act1 P x v = .go x' v') (hi : itemsOk P S x.items) : itemsOk P S x'.items ∧ x'.fn = x.fn := by
  obtain ⟨fn, tmps, items, run⟩ := x
  unfold act1 at h
  dsimp only at h
  split at h
  · cases h
  · cases items with
    | nil => cases h
    | cons it l =>
      have h0 := hi _ (List.mem_cons_self)
      have hl : itemsOk P S l := fun j hj => hi j (List.mem_cons_of_mem _ hj)
      cases it with
      | code c =>
        cases c with
        | ret => cases h; exact ⟨hi, rfl⟩
        | skip => cases h; exact ⟨hl, rfl⟩
        | label n => cases h; exact ⟨hl, rfl⟩
        | seq a b =>
          cases h
          simp only [itemOk, codeOk, Bool.and_eq_true] at h0
          exact ⟨ok_cons h0.1 (ok_cons h0.2 hl), rfl⟩
        | cond c a b =>
          simp only [itemOk, codeOk, Bool.and_eq_true] at h0
          dsimp only at h
          split at h
          · rename_i t he
            cases h
            exact ⟨ok_cons (by cases t <;> simp [itemOk, h0]) hl, rfl⟩
          · cases h
        | block id c => cases h; exact ⟨ok_cons h0 (ok_cons rfl hl), rfl⟩
        | loop c => cases h; exact ⟨ok_cons h0 (ok_cons h0 hl), rfl⟩
        | scope c => cases h; exact ⟨ok_cons h0 (ok_cons h0 hl), rfl⟩
        | exit id =>
          dsimp only at h
          split at h
          · rename_i k' he
            cases h
            exact ⟨fun i hi' => hl i (exitTo_sub id l _ he i hi'), rfl⟩
          · cases h
        | region id ops draw =>
          dsimp only at h
          split at h <;> (cases h; exact ⟨ok_cons h0 hl, rfl⟩)
        | _ => cases h
      | inBlock id => cases h; exact ⟨hl, rfl⟩
      | inScope c => cases h; exact ⟨hl, rfl⟩
      | inLoop c => cases h; exact ⟨ok_cons h0 (ok_cons h0 hl), rfl⟩
      | inRegion ops todo =>
        cases todo with
        | nil => cases h; exact ⟨hl, rfl⟩
        | cons i rest =>
          dsimp only at h
          split at h
          · split at h
            · cases h
            · split at h
              · split at h
                · rename_i hf; cases h; exact ⟨fin_ok hf hi, (fin_run hf).2⟩
                · cases h
              · split at h
                · rename_i hf; cases h; exact ⟨fin_ok hf hi, (fin_run hf).2⟩
                · cases h
              · cases h
              · cases h
          · split at h
            · rename_i hf; cases h; exact ⟨fin_ok hf hi, (fin_run hf).2⟩
            · cases h
      | _ => cases h
theorem enterA_ok (hC : Closed P S) {f : FuncId} (hf : f ∈ S) (args : Array Value) : FaOk P S (enterA P f args) := by
  obtain ⟨fn, c, h1, h2, _⟩ := hC.bodies f hf
  have := hC.ok f hf fn h1 c h2
  refine ⟨hf, fun i hi => ?_⟩
  simp only [enterA, h1, h2, Option.bind_some, Option.getD_some, List.mem_singleton] at hi
  subst hi
  exact this
/-- ONE STEP OF A CONFIGURATION, IN THE TRUE WORLD. -/
theorem cstep_real (hC : Closed P S) (hk : B.kd ≠ .early) {up up' : List Fa} {x x' : Fa} (hok : CfgOk P S up x) {v w v' : World} (hV : Veil P v w) (hz : w.heap.size = v.heap.size) (ht : v.tape = w.tape) (hd : v.drawn = w.drawn)
    (h : cstep P up x v = some (up', x', v')) : CfgOk P S up' x' ∧ x'.fn = x.fn ∧ ∃ w' es, Fol P v w v' w' ∧ (∀ e ∈ es, EvOk v' e) ∧ (w = v → w' = v') ∧ stepG P main (conc B up x) w = .go (conc B up' x') w' es := by
  cases up with
  | nil =>
    simp only [cstep] at h
    split at h
    · rename_i x₁ v₁ ha
      cases h
      obtain ⟨h1, h2⟩ := go_ok ha hok.base
      exact ⟨⟨fun y hy => by simp at hy, fun y hy => by simp at hy, h1, fun hh => absurd rfl hh⟩, h2, act_go hC.bodies hk hok.base hV hz ht hd ha⟩
    · rename_i f args v₁ ha
      cases h
      obtain ⟨hf, hw, w', es, f1, o1, q1, hst⟩ := act_push (main := main) (d := B.d) (k := B.k) (cs := B.cs) hC.bodies hk hok.base hV hz ht hd ha
      refine ⟨⟨fun y hy => ?_, fun y hy => by simp at hy, hok.base, fun _ => hw⟩, rfl, w', es, f1, o1, q1, ?_⟩
      · rw [List.mem_singleton] at hy; subst hy; exact enterA_ok hC hf args
      · show stepG P main (G (frm B.d B.k B.kd x) B.cs) w = _
        rw [hst, enter_frm]
        rfl
    · cases h
  | cons y r =>
    have hy := hok.ups y (List.mem_cons_self)
    have hr' : ∀ z ∈ r, FaOk P S z := fun z hz => hok.ups z (List.mem_cons_of_mem _ hz)
    have hwt : ∀ z ∈ r, Waits z := fun z hz => hok.wait z (by simpa using hz)
    have hwb := hok.bwait (by simp)
    simp only [cstep] at h
    split at h
    · rename_i y₁ v₁ ha
      cases h
      obtain ⟨h1, h2⟩ := go_ok ha hy.items
      obtain ⟨w', es, f1, o1, q1, hst⟩ := act_go (main := main) (d := []) (k := []) (kd := .normal) (cs := r.map (frm [] [] .normal) ++ frm B.d B.k B.kd x :: B.cs) hC.bodies (by simp) hy.items hV hz ht hd ha
      refine ⟨⟨fun z hz => ?_, hok.wait, hok.base, fun _ => hwb⟩, rfl, w', es, f1, o1, q1, hst⟩
      rcases List.mem_cons.1 hz with rfl | hz
      · exact ⟨h2 ▸ hy.fn, h1⟩
      · exact hr' z hz
    · rename_i f args v₁ ha
      cases h
      obtain ⟨hf, hw, w', es, f1, o1, q1, hst⟩ := act_push (main := main) (d := []) (k := []) (kd := .normal) (cs := r.map (frm [] [] .normal) ++ frm B.d B.k B.kd x :: B.cs) hC.bodies (by simp) hy.items hV hz ht hd ha
      refine ⟨⟨fun z hz => ?_, fun z hz => ?_, hok.base, fun _ => hwb⟩, rfl, w', es, f1, o1, q1, ?_⟩
      · rcases List.mem_cons.1 hz with rfl | hz
        · exact enterA_ok hC hf args
        · exact hok.ups z hz
      · rw [List.drop_succ_cons, List.drop_zero] at hz
        rcases List.mem_cons.1 hz with rfl | hz
        · exact hw
        · exact hwt z hz
      · rw [enter_frm] at hst
        exact hst
    · rename_i ha
      cases h
      have hrun : y.run = true ∧ y.items = [] := by
        unfold act1 at ha
        split at ha
        · cases ha
        · rename_i hr
          refine ⟨by simpa using hr, ?_⟩
          split at ha <;> first
            | assumption
            | cases ha
            | (split at ha <;> cases ha)
            | (split at ha
               · split at ha
                 · cases ha
                 · split at ha <;> first | cases ha | (split at ha <;> cases ha)
               · split at ha <;> cases ha)
      refine ⟨⟨fun z hz => ?_, hok.wait, hok.base, fun _ => hwb⟩, rfl, w, #[], .refl hV hz ht hd, fun e he => by simp at he, id, ?_⟩
      · rcases List.mem_cons.1 hz with rfl | hz
        · exact ⟨hy.fn, hy.items⟩
        · exact hr' z hz
      · obtain ⟨fn, tmps, items, run⟩ := y
        obtain ⟨rfl, rfl⟩ := hrun
        simp [conc, G, frm, stepG, stepG.exec]
    · rename_i ha
      have hrun : y.run = false := by
        unfold act1 at ha
        split at ha
        · assumption
        · split at ha <;> first
            | cases ha
            | (split at ha <;> cases ha)
            | (split at ha
               · split at ha
                 · cases ha
                 · split at ha <;> first | cases ha | (split at ha <;> cases ha)
               · split at ha <;> cases ha)
      split at h
      · cases h
      · rename_i fn hfn
        split at h
        · rename_i val v₁ hres
          cases r with
          | nil =>
            obtain ⟨x₁, hx, he⟩ := Option.map_eq_some_iff.1 h
            cases he
            obtain ⟨w', es, f1, o1, q1, hst⟩ := act_pop (main := main) (c := frm B.d B.k B.kd x) (cs := B.cs) hC.bodies hy hrun hfn hV hz ht hd hres
            rw [fin_frm hx] at hst
            exact ⟨⟨fun y hy => by simp at hy, fun y hy => by simp at hy, fin_ok hx hok.base, fun hh => absurd rfl hh⟩, (fin_run hx).2, w', es, f1, o1, q1, hst⟩
          | cons z r =>
            obtain ⟨z₁, hz1, he⟩ := Option.map_eq_some_iff.1 h
            cases he
            obtain ⟨w', es, f1, o1, q1, hst⟩ := act_pop (main := main) (c := frm [] [] .normal z) (cs := r.map (frm [] [] .normal) ++ frm B.d B.k B.kd x :: B.cs) hC.bodies hy hrun hfn hV hz ht hd hres
            rw [fin_frm hz1] at hst
            refine ⟨⟨fun u hu => ?_, fun u hu => hwt u (List.mem_cons_of_mem _ (by simpa using hu)), hok.base, fun _ => hwb⟩, rfl, w', es, f1, o1, q1, hst⟩
            rcases List.mem_cons.1 hu with rfl | hu
            · have := hr' z (List.mem_cons_self)
              exact ⟨(fin_run hz1).2 ▸ this.fn, fin_ok hz1 this.items⟩
            · exact hr' u (List.mem_cons_of_mem _ hu)
        · cases h
    · cases h
end
end Go.Proofs.Ythmgpkcijolljaa
