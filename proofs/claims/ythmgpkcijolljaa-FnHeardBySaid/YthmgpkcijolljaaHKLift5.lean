/-
  A configuration's step hangs on the tape by the answers drawn; the bar: from 'on every tape the lone walk arrives' to a tree over tapes.
-/
import Derived.Test.YthmgpkcijolljaaHKLift4
namespace Go.Proofs.Ythmgpkcijolljaa
open Go.Conc
set_option linter.unusedSimpArgs false
set_option linter.unusedVariables false
def Res.re (r : Res) (t : Nat → Question → Nat) (e : Nat) : Res :=
 match r with
 | .go x v => .go x (v.re t e)
 | .push f a v => .push f a (v.re t e)
 | r => r
def Res.world? : Res → Option World
 | .go _ v | .push _ _ v => some v
 | _ => none
/-- The world behind, as it hangs on the one before by m answers. -/
def Aft (P : Program) (v : World) (m : Nat) (v' : World) : Prop := v'.drawn = v.drawn + m ∧ v'.tape = v.tape ∧ Flat P v' ∧ v.heap.size ≤ v'.heap.size
section
variable {P : Program} {S : List FuncId}
theorem act1_loc (hS : Bodies P S) {x : Fa} (hi : itemsOk P S x.items) {v : World} (hF : Flat P v) :
  ∃ m, (∀ v', (act1 P x v).world? = some v' → Aft P v m v') ∧ ∀ t e, Agree v.tape v.drawn t e m → act1 P x (v.re t e) = (act1 P x v).re t (e + m) := by
 obtain ⟨fn, tmps, items, run⟩ := x
 have triv : ∀ {r : Res}, (∀ v : World, act1 P ⟨fn, tmps, items, run⟩ v = (match r with | .go x _ => .go x v | .push f a _ => .push f a v | r => r)) → ∃ m, (∀ v', (act1 P ⟨fn, tmps, items, run⟩ v).world? = some v' → Aft P v m v') ∧ ∀ t e, Agree v.tape v.drawn t e m → act1 P ⟨fn, tmps, items, run⟩ (v.re t e) = (act1 P ⟨fn, tmps, items, run⟩ v).re t (e + m) := by
  intro r hr
  refine ⟨0, fun v' e => ?_, fun t e _ => ?_⟩
  ·rw [hr] at e
   cases r <;> first | cases e | skip
   all_goals exact ⟨rfl, rfl, hF, Nat.le_refl _⟩
  ·rw [hr, hr]
   cases r <;> rfl
 cases run with
 | false => exact triv (r := .ret) fun v => rfl
 | true =>
  cases items with
  | nil => exact triv (r := .done) fun v => rfl
  | cons it l =>
   have h0 := hi _ (List.mem_cons_self)
   cases it with
   | code c =>
    cases c with
    | ret => exact triv (r := .go _ v) fun v => rfl
    | skip => exact triv (r := .go _ v) fun v => rfl
    | label n => exact triv (r := .go _ v) fun v => rfl
    | seq a b => exact triv (r := .go _ v) fun v => rfl
    | cond c a b =>
     cases he : Fa.eval ⟨fn, tmps, .code (.cond c a b) :: l, true⟩ c with
     | bool t => exact triv (r := .go ⟨fn, tmps, .code (if t then a else b) :: l, true⟩ v) fun v => by simp [act1, he]
     | _ => exact triv (r := .bad) fun v => by simp [act1, he]
    | block id c => exact triv (r := .go _ v) fun v => rfl
    | loop c => exact triv (r := .go _ v) fun v => rfl
    | scope c => exact triv (r := .go _ v) fun v => rfl
    | exit id =>
     cases he : exitTo id l with
     | some k => exact triv (r := .go ⟨fn, tmps, k, true⟩ v) fun v => by simp [act1, he]
     | none => exact triv (r := .bad) fun v => by simp [act1, he]
    | region id ops draw =>
     cases draw with
     | false => exact triv (r := .go _ v) fun v => rfl
     | true =>
      refine ⟨1, fun v' e => ?_, fun t e ha => ?_⟩
      ·cases e
       exact ⟨rfl, rfl, ⟨hF.room, hF.obj, hF.low⟩, Nat.le_refl _⟩
      ·have e0 : t e = v.tape v.drawn := by simpa using ha 0 (by omega)
       show Res.go _ _ = Res.go _ _
       show Res.go ⟨fn, tmps, .inRegion ops (Region.schedule (P.follows .mixedOrders) ops (t e (.order fn id))) :: l, true⟩ _ = Res.go ⟨fn, tmps, .inRegion ops (Region.schedule (P.follows .mixedOrders) ops (v.tape v.drawn (.order fn id))) :: l, true⟩ _
       rw [e0]
       rfl
    | _ => exact triv (r := .bad) fun v => rfl
   | inBlock id => exact triv (r := .go _ v) fun v => rfl
   | inScope c => exact triv (r := .go _ v) fun v => rfl
   | inLoop c => exact triv (r := .go _ v) fun v => rfl
   | inRegion ops todo =>
    cases todo with
    | nil => exact triv (r := .go _ v) fun v => rfl
    | cons i rest =>
     have hwt : Waits ⟨fn, tmps, .inRegion ops (i :: rest) :: l, true⟩ := ⟨rfl, _, _, _, _, rfl⟩
     cases hw : ((ops[i]?).map (Region.wanted · (yielded ops tmps))).getD false with
     | false =>
      obtain ⟨x', hx⟩ := fin_of_waits hwt undef
      exact triv (r := .go x' v) fun v => by simp [act1, hw, hx]
     | true =>
      cases ho : ops[i]? with
      | none => simp [ho] at hw
      | some o =>
       have hok : opOk P S o = true := by
        simp only [itemOk, Array.all_eq_true_iff_forall_mem] at h0
        exact h0 o (Array.mem_of_getElem? ho)
       have hsd := op_sound hS (Fa.eval ⟨fn, tmps, .inRegion ops (i :: rest) :: l, true⟩) (fun f => rfl) o hok
       obtain ⟨m, h1, h2, h3, h4, _, h6⟩ := loc_run _ hsd.loc v hF
       have ea : ∀ v : World, act1 P ⟨fn, tmps, .inRegion ops (i :: rest) :: l, true⟩ v = (match (execOp (Fa.eval ⟨fn, tmps, .inRegion ops (i :: rest) :: l, true⟩) o).run P v with
         | .ok (.value val) v' => match Fa.fin ⟨fn, tmps, .inRegion ops (i :: rest) :: l, true⟩ val with | some x' => .go x' v' | none => .bad
         | .ok .skip v' => match Fa.fin ⟨fn, tmps, .inRegion ops (i :: rest) :: l, true⟩ undef with | some x' => .go x' v' | none => .bad
         | .ok (.enter f args) v' => .push f args v'
         | _ => .bad) := by
        intro v
        simp only [act1, Bool.true_eq_false, if_false]
        rw [if_pos hw]
        simp only [ho]
        rfl
       refine ⟨m, fun v' e => ?_, fun t e ha => ?_⟩
       ·rw [ea] at e
        cases he : (execOp (Fa.eval ⟨fn, tmps, .inRegion ops (i :: rest) :: l, true⟩) o).run P v with
        | halt hh v₁ => rw [he] at e; cases e
        | ok n v₁ =>
         rw [he] at e h1 h2 h3 h4
         have hv : v' = v₁ := by
          cases n with
          | value val => obtain ⟨x', hx⟩ := fin_of_waits hwt val; simp only [hx] at e; exact (Option.some.inj e).symm
          | skip => obtain ⟨x', hx⟩ := fin_of_waits hwt undef; simp only [hx] at e; exact (Option.some.inj e).symm
          | enter f args => exact (Option.some.inj e).symm
          | _ => cases e
         subst hv
         exact ⟨h1, h2, h3, h4⟩
       ·rw [ea, ea, h6 t e ha]
        cases he : (execOp (Fa.eval ⟨fn, tmps, .inRegion ops (i :: rest) :: l, true⟩) o).run P v with
        | halt hh v₁ => rfl
        | ok n v₁ =>
         cases n with
         | value val => obtain ⟨x', hx⟩ := fin_of_waits hwt val; simp only [hx, Result.re]; rfl
         | skip => obtain ⟨x', hx⟩ := fin_of_waits hwt undef; simp only [hx, Result.re]; rfl
         | _ => rfl
   | _ => exact triv (r := .bad) fun v => rfl
def reC (r : List Fa × Fa × World) (t : Nat → Question → Nat) (e : Nat) : List Fa × Fa × World := (r.1, r.2.1, r.2.2.re t e)
theorem cstep_loc (hC : Closed P S) {up : List Fa} {x : Fa} (hok : CfgOk P S up x) {v : World} (hF : Flat P v) :
  ∃ m, (∀ r, cstep P up x v = some r → Aft P v m r.2.2) ∧ ∀ t e, Agree v.tape v.drawn t e m → cstep P up x (v.re t e) = (cstep P up x v).map (reC · t (e + m)) := by
 cases up with
 | nil =>
  obtain ⟨m, h1, h2⟩ := act1_loc hC.bodies hok.base hF
  refine ⟨m, fun r e => ?_, fun t e ha => ?_⟩
  ·simp only [cstep] at e
   split at e
   ·rename_i x' v' ha; cases e; exact h1 _ (by rw [ha]; rfl)
   ·rename_i f a v' ha; cases e; exact h1 _ (by rw [ha]; rfl)
   ·cases e
  ·simp only [cstep]
   rw [h2 t e ha]
   cases act1 P x v <;> rfl
 | cons y r =>
  have hy := hok.ups y (List.mem_cons_self)
  obtain ⟨m, h1, h2⟩ := act1_loc hC.bodies hy.items hF
  cases ha : act1 P y v with
  | go y' v' =>
   refine ⟨m, fun r e => ?_, fun t e hag => ?_⟩
   ·simp only [cstep, ha] at e; cases e; exact h1 _ (by rw [ha]; rfl)
   ·simp only [cstep]; rw [h2 t e hag, ha]; rfl
  | push f a v' =>
   refine ⟨m, fun r e => ?_, fun t e hag => ?_⟩
   ·simp only [cstep, ha] at e; cases e; exact h1 _ (by rw [ha]; rfl)
   ·simp only [cstep]; rw [h2 t e hag, ha]; rfl
  | bad =>
   refine ⟨m, fun r e => ?_, fun t e hag => ?_⟩
   ·simp only [cstep, ha] at e; cases e
   ·simp only [cstep]; rw [h2 t e hag, ha]; rfl
  | done =>
   obtain ⟨hr, hit⟩ := done_run ha
   have hall : ∀ v : World, act1 P y v = .done := fun v => by simp [act1, hr, hit]
   refine ⟨0, fun r e => ?_, fun t e _ => ?_⟩
   ·simp only [cstep, ha] at e; cases e; exact ⟨rfl, rfl, hF, Nat.le_refl _⟩
   ·simp only [cstep, hall]; rfl
  | ret =>
   have hr := ret_run ha
   have hall : ∀ v : World, act1 P y v = .ret := fun v => by simp [act1, hr]
   obtain ⟨fn, c, hfn, _, _⟩ := hC.bodies y.fn hy.fn
   obtain ⟨m', g1, g2, g3, g4, _, g6⟩ := loc_run _ (loc_of_tame _ (t_results P fn y.tmps)) v hF
   refine ⟨m', fun q e => ?_, fun t e hag => ?_⟩
   ·simp only [cstep, ha, hfn] at e
    cases he : (results fn y.tmps).run P v with
    | halt hh v₁ => rw [he] at e; cases e
    | ok val v₁ =>
     rw [he] at e g1 g2 g3 g4
     cases r with
     | nil => obtain ⟨_, _, rfl⟩ := Option.map_eq_some_iff.1 e; exact ⟨g1, g2, g3, g4⟩
     | cons z r => obtain ⟨_, _, rfl⟩ := Option.map_eq_some_iff.1 e; exact ⟨g1, g2, g3, g4⟩
   ·simp only [cstep, hall, hfn]
    rw [g6 t e hag]
    cases (results fn y.tmps).run P v with
    | halt hh v₁ => rfl
    | ok val v₁ =>
     cases r with
     | nil => cases hx : x.fin val <;> simp [Result.re, hx, reC]
     | cons z r => cases hx : z.fin val <;> simp [Result.re, hx, reC]
/-- THE TREE: on whatever tape the configuration comes to F. -/
inductive TA (P : Program) (F : Fa → World → Prop) : List Fa → Fa → World → Prop
 | fin {x : Fa} {v : World} (t : Nat → Question → Nat) (d : Nat) (h : F x (v.re t d)) : TA P F [] x v
 | step {up : List Fa} {x : Fa} {v : World} (nx : (Nat → Question → Nat) → Nat → List Fa × Fa × World) (h : ∀ t d, cstep P up x (v.re t d) = some (nx t d)) (k : ∀ t d, TA P F (nx t d).1 (nx t d).2.1 (nx t d).2.2) : TA P F up x v
theorem TA.mk {F : Fa → World → Prop} {up : List Fa} {x : Fa} {v : World} (h : ∀ t d, ∃ r, cstep P up x (v.re t d) = some r ∧ TA P F r.1 r.2.1 r.2.2) : TA P F up x v :=
 .step (fun t d => (h t d).choose) (fun t d => (h t d).choose_spec.1) (fun t d => (h t d).choose_spec.2)
/-- What is no tree has a tape on which its step is none, or leads to what is no tree. -/
theorem TA.not {F : Fa → World → Prop} {up : List Fa} {x : Fa} {v : World} (h : ¬ TA P F up x v) : ∃ t d, ∀ r, cstep P up x (v.re t d) = some r → ¬ TA P F r.1 r.2.1 r.2.2 := by
 refine Classical.byContradiction fun hn => h (TA.mk fun t d => ?_)
 refine Classical.byContradiction fun hn' => hn ⟨t, d, fun r hr hT => hn' ⟨r, hr, hT⟩⟩
/-! ### The bar -/
/-- A configuration that is no tree. -/
structure Bad (P : Program) (S : List FuncId) (F : Fa → World → Prop) where
 up : List Fa
 x : Fa
 v : World
 ok : CfgOk P S up x
 flat : Flat P v
 no : ¬ TA P F up x v
theorem bad_next (hC : Closed P S) {F : Fa → World → Prop} (b : Bad P S F) : ∃ (t : Nat → Question → Nat) (m : Nat) (b' : Bad P S F),
  (∀ s e, Agree t 0 s e m → (cstep P b.up b.x (b.v.re s e) = none ∨ cstep P b.up b.x (b.v.re s e) = some (b'.up, b'.x, b'.v.re s (e + m)))) := by
 obtain ⟨t, d, hno⟩ := TA.not b.no
 have hF : Flat P (b.v.re t d) := re_flat b.flat
 obtain ⟨m, h1, h2⟩ := cstep_loc hC b.ok hF
 have hag : ∀ s e, Agree (fun i => t (d + i)) 0 s e m → Agree (b.v.re t d).tape (b.v.re t d).drawn s e m := fun s e ha i hi => by
  have := ha i hi
  rw [this]
  show t (d + (0 + i)) = t (d + i)
  rw [Nat.zero_add]
 cases hc : cstep P b.up b.x (b.v.re t d) with
 | none =>
  refine ⟨fun i => t (d + i), m, b, fun s e ha => .inl ?_⟩
  have := h2 s e (hag s e ha)
  rw [hc] at this
  exact this
 | some r =>
  obtain ⟨up', x', v'⟩ := r
  obtain ⟨hok', _, w', es, f1, _, _, _⟩ := cstep_real (main := true) (B := BV) hC (by simp [BV]) b.ok hF.self rfl rfl rfl hc
  refine ⟨fun i => t (d + i), m, ⟨up', x', v', hok', f1.veil.flat, hno _ hc⟩, fun s e ha => .inr ?_⟩
  have := h2 s e (hag s e ha)
  rw [hc] at this
  exact this
section
variable (hC : Closed P S) {F : Fa → World → Prop} (b₀ : Bad P S F)
noncomputable def tapeOf (b : Bad P S F) : Nat → Question → Nat := (bad_next hC b).choose
noncomputable def drawsOf (b : Bad P S F) : Nat := (bad_next hC b).choose_spec.choose
noncomputable def nextOf (b : Bad P S F) : Bad P S F := (bad_next hC b).choose_spec.choose_spec.choose
theorem nextOf_spec (b : Bad P S F) : ∀ s e, Agree (tapeOf hC b) 0 s e (drawsOf hC b) → (cstep P b.up b.x (b.v.re s e) = none ∨ cstep P b.up b.x (b.v.re s e) = some ((nextOf hC b).up, (nextOf hC b).x, (nextOf hC b).v.re s (e + drawsOf hC b))) :=
 (bad_next hC b).choose_spec.choose_spec.choose_spec
noncomputable def seqB : Nat → Bad P S F
 | 0 => b₀
 | n + 1 => nextOf hC (seqB n)
noncomputable def seqK : Nat → Nat
 | 0 => 0
 | n + 1 => seqK n + drawsOf hC (seqB hC b₀ n)
open Classical in
/-- The tape that is bad all along. -/
noncomputable def badTape (i : Nat) : Question → Nat :=
 if h : ∃ n, seqK hC b₀ n ≤ i ∧ i < seqK hC b₀ (n + 1) then tapeOf hC (seqB hC b₀ h.choose) (i - seqK hC b₀ h.choose) else fun _ => 0
theorem seqK_mono {n m : Nat} (h : n ≤ m) : seqK hC b₀ n ≤ seqK hC b₀ m := by
 induction h with
 | refl => exact Nat.le_refl _
 | step _ ih => exact Nat.le_trans ih (Nat.le_add_right _ _)
theorem badTape_agree (n : Nat) : Agree (tapeOf hC (seqB hC b₀ n)) 0 (badTape hC b₀) (seqK hC b₀ n) (drawsOf hC (seqB hC b₀ n)) := by
 intro i hi
 have hex : ∃ m, seqK hC b₀ m ≤ seqK hC b₀ n + i ∧ seqK hC b₀ n + i < seqK hC b₀ (m + 1) := ⟨n, Nat.le_add_right _ _, by show _ < seqK hC b₀ n + drawsOf hC (seqB hC b₀ n); omega⟩
 have hm : hex.choose = n := by
  have h := hex.choose_spec
  have hn : seqK hC b₀ n + i < seqK hC b₀ (n + 1) := by show _ < seqK hC b₀ n + drawsOf hC (seqB hC b₀ n); omega
  rcases Nat.lt_trichotomy hex.choose n with hlt | heq | hgt
  ·have := seqK_mono hC b₀ (show hex.choose + 1 ≤ n by omega)
   omega
  ·exact heq
  ·have := seqK_mono hC b₀ (show n + 1 ≤ hex.choose by omega)
   omega
 unfold badTape
 rw [dif_pos hex, hm]
 congr 1
 omega
theorem bad_iter (n : Nat) : ∀ (j : Nat) (r : List Fa × Fa × World), citer P n (seqB hC b₀ j).up (seqB hC b₀ j).x ((seqB hC b₀ j).v.re (badTape hC b₀) (seqK hC b₀ j)) = some r →
  r = ((seqB hC b₀ (j + n)).up, (seqB hC b₀ (j + n)).x, (seqB hC b₀ (j + n)).v.re (badTape hC b₀) (seqK hC b₀ (j + n))) := by
 induction n with
 | zero => intro j r h; cases h; rfl
 | succ n ih =>
  intro j r h
  rcases nextOf_spec hC (seqB hC b₀ j) (badTape hC b₀) (seqK hC b₀ j) (badTape_agree hC b₀ j) with hn | hn
  ·simp only [citer, hn] at h; cases h
  ·simp only [citer, hn, Option.bind_some] at h
   have := ih (j + 1) r h
   rw [this]
   rw [show j + (n + 1) = j + 1 + n by omega]
end
/-- ████ FROM 'ON EVERY TAPE' TO THE TREE. ████ -/
theorem bar (hC : Closed P S) {F : Fa → World → Prop} {up : List Fa} {x : Fa} {v : World} (hok : CfgOk P S up x) (hF : Flat P v)
  (h : ∀ t, ∃ n x' v', citer P n up x (v.re t 0) = some ([], x', v') ∧ F x' v') : TA P F up x v := by
 refine Classical.byContradiction fun hno => ?_
 let b₀ : Bad P S F := ⟨up, x, v, hok, hF, hno⟩
 obtain ⟨n, x', v', h1, h2⟩ := h (badTape hC b₀)
 have := bad_iter hC b₀ n 0 _ h1
 have hb := (seqB hC b₀ (0 + n)).no
 rw [Prod.mk.injEq, Prod.mk.injEq] at this
 obtain ⟨e1, e2, e3⟩ := this
 refine hb ?_
 rw [← e1, ← e2]
 refine TA.fin (badTape hC b₀) (seqK hC b₀ (0 + n)) ?_
 rw [← e3]
 exact h2
end
end Go.Proofs.Ythmgpkcijolljaa
