/-
  A piece of simple code, walked alone: its configurations, apart from what stands below it; one step of them in the true world.
-/
import Derived.Test.YthmgpkcijolljaaH2
namespace Go.Proofs.Ythmgpkcijolljaa
open Go.Conc
set_option linter.unusedSimpArgs false
set_option linter.unusedVariables false
def codeOk (P : Program) (S : List FuncId) : Code → Bool
 | .skip | .label _ | .ret | .exit _ => true
 | .seq a b | .cond _ a b => codeOk P S a && codeOk P S b
 | .block _ c | .loop c | .scope c => codeOk P S c
 | .region _ ops _ => ops.all (opOk P S)
 | _ => false
def itemOk (P : Program) (S : List FuncId) : Item → Bool
 | .code c | .inLoop c | .inScope c => codeOk P S c
 | .inBlock _ => true
 | .inRegion ops _ => ops.all (opOk P S)
 | _ => false
/-- An activation. -/
structure Fa where
 fn : FuncId
 tmps : Array Value
 items : List Item
 run : Bool
def Fa.eval (x : Fa) : Operand → Value := (Act.mk x.tmps []).eval
def Fa.fin (x : Fa) (v : Value) : Option Fa :=
 match x.items with
 | .inRegion ops (i :: rest) :: k => some { x with tmps := (match (ops[i]?).bind (·.dst) with | some d => x.tmps.setIfInBounds d v | none => x.tmps), items := .inRegion ops rest :: k }
 | _ => none
inductive Res where
 | go (x : Fa) (v : World)
 | push (f : FuncId) (args : Array Value) (v : World)
 | done
 | ret
 | bad
/-- What an activation does next. -/
def act1 (P : Program) (x : Fa) (v : World) : Res :=
 if x.run = false then .ret else
 match x.items with
 | [] => .done
 | .code .ret :: _ => .go { x with run := false } v
 | .code .skip :: k | .code (.label _) :: k | .inBlock _ :: k | .inScope _ :: k => .go { x with items := k } v
 | .code (.seq a b) :: k => .go { x with items := .code a :: .code b :: k } v
 | .code (.cond c a b) :: k => match x.eval c with
  | .bool t => .go { x with items := .code (if t then a else b) :: k } v
  | _ => .bad
 | .code (.block id c) :: k => .go { x with items := .code c :: .inBlock id :: k } v
 | .code (.loop c) :: k | .inLoop c :: k => .go { x with items := .code c :: .inLoop c :: k } v
 | .code (.scope c) :: k => .go { x with items := .code c :: .inScope c :: k } v
 | .code (.exit id) :: k => match exitTo id k with
  | some k' => .go { x with items := k' } v
  | none => .bad
 | .code (.region id ops draw) :: k =>
  if draw = false then .go { x with items := .inRegion ops (List.range ops.size) :: k } v
  else .go { x with items := .inRegion ops (Region.schedule (P.follows .mixedOrders) ops (v.tape v.drawn (.order x.fn id))) :: k } { v with drawn := v.drawn + 1 }
 | .inRegion _ [] :: k => .go { x with items := k } v
 | .inRegion ops (i :: rest) :: k =>
  if ((ops[i]?).map (Region.wanted · (yielded ops x.tmps))).getD false = true then
   match ops[i]? with
   | none => .bad
   | some o => match (execOp x.eval o).run P v with
    | .ok (.value val) v' => match x.fin val with | some x' => .go x' v' | none => .bad
    | .ok .skip v' => match x.fin undef with | some x' => .go x' v' | none => .bad
    | .ok (.enter f args) v' => .push f args v'
    | _ => .bad
  else match x.fin undef with | some x' => .go x' v | none => .bad
 | _ => .bad
/-- The activation's frame, above what stands below it in it. -/
def frm (d : List Deferred) (k : List Item) (kd : CallKind) (x : Fa) : Frame :=
 { fn := x.fn, tmps := x.tmps, todo := x.items ++ k, defers := d, mode := if x.run = true then .run else .returning, kind := kd }
theorem exitTo_append (id : Nat) (k : List Item) : ∀ (l : List Item) (l' : List Item), exitTo id l = some l' → exitTo id (l ++ k) = some (l' ++ k)
 | [], _, h => by cases h
 | x :: l, l', h => by
  cases x with
  | inBlock id' =>
   simp only [exitTo, List.cons_append] at h ⊢
   split at h
   ·cases h; rename_i hh; simp [hh]
   ·rename_i hh; simp [hh]; exact exitTo_append id k l l' h
  | _ => simp only [exitTo, List.cons_append] at h ⊢; exact exitTo_append id k l l' h
theorem frm_eval (d : List Deferred) (k : List Item) (kd : CallKind) (x : Fa) : (frm d k kd x).eval = x.eval := by
 funext o; cases o <;> rfl
theorem fin_frm {d : List Deferred} {k : List Item} {kd : CallKind} {x x' : Fa} {v : Value} (h : x.fin v = some x') : (frm d k kd x).finish v = frm d k kd x' := by
 obtain ⟨fn, tmps, items, run⟩ := x
 unfold Fa.fin at h
 dsimp only at h
 split at h
 ·cases h
  simp only [frm, Frame.finish, List.cons_append]
  rfl
 ·cases h
theorem fin_run {x x' : Fa} {v : Value} (h : x.fin v = some x') : x'.run = x.run ∧ x'.fn = x.fn := by
 unfold Fa.fin at h
 split at h
 ·cases h; exact ⟨rfl, rfl⟩
 ·cases h
theorem seen_sub (P : Program) (fn : FuncId) (es : Array Event) : ∀ e ∈ seen P fn es, e ∈ es := by
 have key : ∀ (f : Bool × Array Event → Event → Bool × Array Event) (_ : ∀ x e, ∀ y ∈ (f x e).2, y ∈ x.2 ∨ y = e) (l : List Event) (x : Bool × Array Event), ∀ y ∈ (l.foldl f x).2, y ∈ x.2 ∨ y ∈ l := by
  intro f hf l
  induction l with
  | nil => intro x y hy; exact .inl hy
  | cons e l ih =>
   intro x y hy
   rcases ih (f x e) y hy with h | h
   ·rcases hf x e y h with h | h
    ·exact .inl h
    ·exact .inr (by simp [h])
   ·exact .inr (by simp [h])
 intro e he
 dsimp only [seen] at he
 rw [← Array.foldl_toList] at he
 rcases key _ (by
  rintro ⟨q, kept⟩ e y hy
  split at hy
  ·exact .inl hy
  ·simp only at hy
   split at hy
   ·exact .inl hy
   ·rcases Array.mem_push.1 hy with h | h
    ·exact .inl h
    ·exact .inr h) _ _ e he with h | h
 ·simp at h
 ·exact Array.mem_toList_iff.1 h
section
variable {P : Program} {S : List FuncId} {main : Bool} {d : List Deferred} {k : List Item} {kd : CallKind} {cs : List Frame}
/-- The entries that the trace keeps of an operation of simple make. -/
theorem op_step (hS : Bodies P S) (hk : kd ≠ .early) {x : Fa} {ops : Array Oper} {i : Nat} {rest : List Nat} {k' : List Item} {o : Oper} (hi : x.items = .inRegion ops (i :: rest) :: k') (hr : x.run = true) (ho : ops[i]? = some o)
  (hw : Region.wanted o (yielded ops x.tmps) = true) (hok : opOk P S o = true) {v w v' : World} {n : Next} (hV : Veil P v w) (hz : w.heap.size = v.heap.size) (ht : v.tape = w.tape) (hd : v.drawn = w.drawn)
  (he : (execOp x.eval o).run P v = .ok n v') : okNext S n ∧ ∃ w' es, Fol P v w v' w' ∧ (∀ e ∈ es, EvOk v' e) ∧ (w = v → w' = v') ∧
   stepG P main (G (frm d k kd x) cs) w = GStep.after es (match n with
    | .value val => .go (G ((frm d k kd x).finish val) cs) w'
    | .skip => .go (G ((frm d k kd x).finish undef) cs) w'
    | .enter f args => .go (G (Frame.enter P f args .normal) (frm d k kd x :: cs)) w'
    | _ => .ended (.stuck "" "") w') := by
 obtain ⟨hn, w', f1, k1⟩ := (op_sound hS x.eval (fun f => rfl) o hok).run v w n v' hV hz ht hd he
 obtain ⟨es, r1, o1⟩ := k1 #[]
 refine ⟨hn, w', seen P x.fn es, f1, fun e he => o1 e (seen_sub P _ _ e he), fun hwv => ?_, ?_⟩
 ·subst hwv
  have := Sem.runT_fst P (execOp x.eval o) w #[]
  rw [r1, he] at this
  cases this
  rfl
 have e1 : (execOp (frm d k kd x).eval o).runT P w #[] = (.ok n w', es) := by rw [frm_eval, r1]; simp
 have hk' : (kd == CallKind.early) = false := by simpa using hk
 have hstep : stepG P main (G (frm d k kd x) cs) w = stepG.apply P true (frm d k kd x) cs none (execOp (frm d k kd x).eval o) w := by
  simp [G, stepG, stepG.exec, stepG.oper, Frame.oper?, frm, hi, hr, ho, hw]
 rw [hstep]
 unfold stepG.apply
 simp only [e1, if_true]
 have hkk : ((frm d k kd x).kind == CallKind.early) = false := hk'
 cases n <;> first
  | exact hn.elim
  | (simp [frm, hk', G, hi])
def itemsOk (P : Program) (S : List FuncId) (l : List Item) : Prop := ∀ i ∈ l, itemOk P S i = true
/-- A step that stays in the activation. -/
theorem act_go (hS : Bodies P S) (hk : kd ≠ .early) {x x' : Fa} (hi : itemsOk P S x.items) {v w v' : World} (hV : Veil P v w) (hz : w.heap.size = v.heap.size) (ht : v.tape = w.tape) (hd : v.drawn = w.drawn)
  (h : act1 P x v = .go x' v') : ∃ w' es, Fol P v w v' w' ∧ (∀ e ∈ es, EvOk v' e) ∧ (w = v → w' = v') ∧ stepG P main (G (frm d k kd x) cs) w = .go (G (frm d k kd x') cs) w' es := by
 have still : ∀ {x' : Fa}, stepG P main (G (frm d k kd x) cs) w = .go (G (frm d k kd x') cs) w → ∃ w' es, Fol P v w v w' ∧ (∀ e ∈ es, EvOk v e) ∧ (w = v → w' = v) ∧ stepG P main (G (frm d k kd x) cs) w = .go (G (frm d k kd x') cs) w' es :=
  fun e => ⟨w, #[], .refl hV hz ht hd, fun e he => by simp at he, id, e⟩
 obtain ⟨fn, tmps, items, run⟩ := x
 unfold act1 at h
 dsimp only at h
 split at h
 ·cases h
 ·rename_i hr
  have hrun : run = true := by simpa using hr
  subst hrun
  cases items with
  | nil => cases h
  | cons it l =>
   cases it with
   | code c =>
    cases c with
    | ret => cases h; exact still (by simp [G, frm, stepG, stepG.exec])
    | skip => cases h; exact still (by simp [G, frm, stepG, stepG.exec])
    | label n => cases h; exact still (by simp [G, frm, stepG, stepG.exec])
    | seq a b => cases h; exact still (by simp [G, frm, stepG, stepG.exec])
    | cond c a b =>
     dsimp only at h
     split at h
     ·rename_i t he
      cases h
      refine still ?_
      have he' : (frm d k kd ⟨fn, tmps, .code (.cond c a b) :: l, true⟩).eval c = .bool t := by rw [frm_eval]; exact he
      simp [frm] at he'
      simp [G, frm, stepG, stepG.exec, he']
     ·cases h
    | block id c => cases h; exact still (by simp [G, frm, stepG, stepG.exec])
    | loop c => cases h; exact still (by simp [G, frm, stepG, stepG.exec])
    | scope c => cases h; exact still (by simp [G, frm, stepG, stepG.exec])
    | exit id =>
     dsimp only at h
     split at h
     ·rename_i k' he
      cases h
      exact still (by simp [G, frm, stepG, stepG.exec, exitTo_append id k l k' he])
     ·cases h
    | region id ops draw =>
     dsimp only at h
     split at h
     ·rename_i hdr
      cases h
      exact still (by simp [G, frm, stepG, stepG.exec, hdr])
     ·rename_i hdr
      have hdr' : draw = true := by simpa using hdr
      cases h
      refine ⟨_, #[], fol_draw hV hz ht hd, fun e he => by simp at he, fun hwv => by subst hwv; rfl, ?_⟩
      simp [G, frm, stepG, stepG.exec, hdr', choose, Sem.run, Question.forced, Question.cut, ht, hd]
    | _ => cases h
   | inBlock id => cases h; exact still (by simp [G, frm, stepG, stepG.exec])
   | inScope c => cases h; exact still (by simp [G, frm, stepG, stepG.exec])
   | inLoop c => cases h; exact still (by simp [G, frm, stepG, stepG.exec])
   | inRegion ops todo =>
    cases todo with
    | nil => cases h; exact still (by simp [G, frm, stepG, stepG.exec])
    | cons i rest =>
     dsimp only at h
     split at h
     ·rename_i hw
      split at h
      ·cases h
      ·rename_i o ho
       have hw' : Region.wanted o (yielded ops tmps) = true := by simpa [ho] using hw
       have hok : opOk P S o = true := by
        have := hi _ (List.mem_cons_self)
        simp only [itemOk, Array.all_eq_true_iff_forall_mem] at this
        exact this o (Array.mem_of_getElem? ho)
       split at h
       ·rename_i val v₁ he
        split at h
        ·rename_i x' hf
         cases h
         obtain ⟨_, w', es, f1, o1, q1, hst⟩ := op_step (main := main) (d := d) (k := k) (cs := cs) hS hk (x := ⟨fn, tmps, .inRegion ops (i :: rest) :: l, true⟩) rfl rfl ho hw' hok hV hz ht hd he
         exact ⟨w', es, f1, o1, q1, by rw [hst]; simp only [fin_frm hf, GStep.after]; simp⟩
        ·cases h
       ·rename_i v₁ he
        split at h
        ·rename_i x' hf
         cases h
         obtain ⟨_, w', es, f1, o1, q1, hst⟩ := op_step (main := main) (d := d) (k := k) (cs := cs) hS hk (x := ⟨fn, tmps, .inRegion ops (i :: rest) :: l, true⟩) rfl rfl ho hw' hok hV hz ht hd he
         exact ⟨w', es, f1, o1, q1, by rw [hst]; simp only [fin_frm hf, GStep.after]; simp⟩
        ·cases h
       ·cases h
       ·cases h
     ·rename_i hw
      split at h
      ·rename_i x' hf
       cases h
       refine still ?_
       have e := fin_frm (d := d) (k := k) (kd := kd) hf
       have hw' : ((ops[i]?).map (Region.wanted · (yielded ops tmps))).getD false = false := by simpa using hw
       rw [← e]
       simp [G, frm, stepG, stepG.exec, hw']
      ·cases h
   | _ => cases h
end
end Go.Proofs.Ythmgpkcijolljaa
